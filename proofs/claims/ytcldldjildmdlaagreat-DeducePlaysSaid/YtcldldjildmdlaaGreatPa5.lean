import Derived.Test.YtcldldjildmdlaaGreatPa4
import Derived.Test.YtcldldjildmdlaaGreatProg
import Derived.KernelRfl
import Derived.Test.YtcldldjildmdlaaGreatPa2
section
open Go Go.SE
namespace Go.Proofs
attribute [local irreducible] Calls
theorem c_says (k p c1 c2 c3 c4 c5 : Addr) (ma mb : Nat) {L : Sp.Pool} {G : List Int} {S : List Sp.Way} {F FP : NP} (hW : Sp.Wf L) (hk : Sp.KnowOk L G S) : ∀ (n : Nat) (t : Int) (w0 : World) (sl : Sl) (l : List Sp.Step) (B : List Int), Sp.rank S t < n →
  SaysAt w0 k p c1 c2 c3 c4 c5 ma mb L G S F FP sl l B → Sp.PrfOk L G (fun x => x ∈ Sp.wkeys S) l B →
  Calls Tryz.prog 92 #[.int .i64 t, .pointer (some c1), .pointer (some c2), .pointer (some c3), .pointer (some c4), .pointer (some c5)] w0 (fun e w' => ∃ r : Int, ∃ ok : Bool, e = .returned (.tuple #[.int .i64 r, .bool ok]) ∧ ∃ sl' M B', SaysRet w0 k p c1 c2 c3 c4 c5 ma mb L G S F FP sl l t r ok w' sl' M B') := by
 intro n
 induction n with
 | zero => intro t w0 sl l B h; omega
 | succ n ih =>
 intro t w0 sl l B hrk h0 hp0
 suffices key : ∀ K : Int → Bool → WP, (∀ r ok w' sl' M B', SaysRet w0 k p c1 c2 c3 c4 c5 ma mb L G S F FP sl l t r ok w' sl' M B' → K r ok w') → m_P t c1 c2 c3 c4 c5 w0 K from
  w_P _ _ _ _ _ _ w0 _ (key _ (fun r ok w' sl' M B' h => ⟨sl', M, B', h⟩))
 intro K hK
 have hKs : ∀ r u t, u ∈ Sp.wkeys S → Sp.Arises L r u t → t ∈ Sp.wkeys S := fun r u t hu ha => hk.closed u hu r t ha
 unfold m_P
 rcases h0.prf.am.get (P := Tryz.prog) (T := 152) Tryz.underlying152 Tryz.underlying30 (Tryz.zeroValue3 _) t true with ⟨hl, hrun⟩ | ⟨v, hl, hrun⟩
 case inr =>
  obtain ⟨i, hi, rfl, hit⟩ := Sp.amap_look hl
  refine ⟨_, h0.prf.a1, _, true, hrun, Br.t rfl (hK _ _ w0 sl [] B ⟨by simpa using h0, by simpa using hp0, by simp, fun _ => ⟨i, rfl, by simpa using hi, by simpa using hit⟩, ⟨fun _ => hit ▸ hp0.drv _ (List.getElem_mem hi), fun _ => rfl⟩, Ext.refl _, fun b hb => .inl hb, fun _ => .inl rfl, by simp, by simp⟩)⟩
 case inl =>
 have htl : t ∉ l.map Sp.Step.t := Sp.amap_none.1 hl
 refine ⟨_, h0.prf.a1, _, false, hrun, Br.f rfl ?_⟩
 intro H1 w2 hs2
 have old : ∀ {H : NP} {w : World}, Hst w0 H w H w → ∀ b, b < w0.heap.size → ¬ H b := fun hs b hb hh => by have := hs.old b hh; omega
 have C0 : SaysCur w0 None w0 k p c1 c2 c3 c4 c5 ma mb L G S F FP sl l t sl [] B := ⟨by simpa using h0, by simpa using hp0, by simp, Ext.refl _, fun b hb => .inl hb, fun b _ h => h, Hst.start w0, by simp, by simp⟩
 have C2 := C0.hst h0 hs2
 have c5h : ∀ {H : NP} {w : World} {sl1 : Sl} {M B1 : _}, SaysCur w0 H w k p c1 c2 c3 c4 c5 ma mb L G S F FP sl l t sl1 M B1 → ¬ H c5.block := fun C => C.nh h0 _ (.inr (.inr (.inl rfl)))
 have J1f : ∀ (r a b : Int) (H : NP) (w : World) (sl1 : Sl) (M : List Sp.Step) (B1 : List Int), SaysCur w0 H w k p c1 c2 c3 c4 c5 ma mb L G S F FP sl l t sl1 M B1 → ¬ Sp.Drv L (fun x => x ∈ Sp.wkeys S) t → m_P_j1 t c1 c2 c5 false r a b t H w K := by
  intro r a b H w sl1 M B1 C hnd
  unfold m_P_j1
  refine Br.t rfl ?_
  obtain ⟨w5, hr5, ⟨B', hB', P5⟩, E5⟩ := C.st.prf.bar t
  have hmb := C.nh h0 mb (.inr (.inl rfl))
  have hpb : Sp.PrfOk L G (fun x => x ∈ Sp.wkeys S) (l ++ M) B' := by
   rcases hB' with rfl | rfl
   ·exact C.prf
   ·exact C.prf.bars hnd
  refine ⟨_, C.st.prf.a2, w5, hr5, E5.kept (fun b hb e => hmb (e ▸ hb)), hK 0 false w5 sl1 M B' ⟨⟨P5, C.st.know.ext E5 (fun b hb e => C.st.dF b hb (.inr (.inl e))), C.st.pool.ext E5 (fun b hb e => C.st.dP b hb (.inr (.inl e))), C.st.dF, C.st.dP⟩, hpb, fun s hs => ⟨Nat.le_of_lt (C.new s hs).1, (C.new s hs).2⟩, (fun h => by cases h), ⟨(fun h => by cases h), fun h => absurd h hnd⟩, C.ext.trans' E5 (fun i hi e => .inr (.inl e)), C.own, (fun h => by cases h), C.dp, C.cl⟩⟩
 have J1t : ∀ (r a b : Int) (H : NP) (w : World) (sl1 : Sl) (M : List Sp.Step) (B1 : List Int), SaysCur w0 H w k p c1 c2 c3 c4 c5 ma mb L G S F FP sl l t sl1 M B1 → Sp.fol L G (l ++ M) ⟨r, a, b, t⟩ = true → Sp.Drv L (fun x => x ∈ Sp.wkeys S) t → (∀ y, Sp.Dep L S t y → y ∈ (l ++ M).map Sp.Step.t) → m_P_j1 t c1 c2 c5 true r a b t H w K := by
  intro r a b H w sl1 M B1 C hfol hdt hdp
  unfold m_P_j1
  refine Br.f rfl ?_
  have hsl : sl1.len = (l ++ M).length := by rw [C.st.prf.ls.len]; simp
  have hfew := C.prf.few
  have hL6 := hW.ok.few
  have htn : t ∉ (l ++ M).map Sp.Step.t := by
   rw [List.map_append, List.mem_append]
   rintro (h | h)
   ·exact htl h
   ·obtain ⟨s, hs, e⟩ := List.mem_map.1 h
    have := (C.new s hs).1
    rw [e] at this; omega
  have hlk := Sp.amap_none.2 htn
  obtain ⟨w5, hr5, I5, E5⟩ := C.st.prf.am.put (P := Tryz.prog) (T := 152) Tryz.underlying152 Tryz.underlying30 hlk ((l ++ M).length : Int)
  have hma := C.nh h0 ma (.inl rfl)
  have da := C.st.prf.d ma (.inl rfl)
  have b5 : Box w5 c5 [sl1.v] 101 := C.st.prf.a5.ext E5 (fun e => C.st.prf.n2 e.symm)
  refine ⟨_, C.st.prf.a1, sl1, C.st.prf.a5.cell0, w5, by rw [hsl]; exact hr5, E5.kept (fun b hb e => hma (e ▸ hb)), sl1, b5.cell0, ?_⟩
  intro p3 w7 h7
  have E7 : Pure w5 w7 := Ext.new h7
  have ls7 := (C.st.prf.ls.ext E5 (fun b hb e => C.st.prf.n4 (e ▸ hb))).pure E7
  obtain ⟨s1, w8, hr8, R8, X8, f8⟩ := ls7.append (P := Tryz.prog) (ty := 101) (c := 1) slT_step (r := strow ⟨r, a, b, t⟩) (Box.of_new h7).row rfl rfl (by simp at hfew ⊢; omega) (by simp [maxLen] at hfew ⊢; omega)
  have b8 : Box w8 c5 [sl1.v] 101 := (b5.pure E7).ext X8 C.st.prf.n6
  refine ⟨s1, w8, hr8, X8.kept (fun b hb hx => C.vis b hx hb), b8.canW0 (by simp), c5h C, ?_⟩
  rintro _ rfl
  have E9 := Ext.setCell (w := w8) c5 s1.v
  have z5 : w.heap.size ≤ w7.heap.size := by have := E5.size; have := E7.size; omega
  have f8' : ∀ b, s1.blk b → sl1.blk b ∨ w.heap.size ≤ b := fun b hb => (f8 b hb).imp_right (fun h => by omega)
  have X : Ext (PW ma mb c5 sl1) w (w8.setCell c5 s1.v) := (((E5.mono (fun b _ e => .inl e)).trans (E7.pure (F := PW ma mb c5 sl1))).trans (X8.mono (fun b _ h => .inr (.inr (.inr h))))).trans (E9.mono (fun b _ e => .inr (.inr (.inl e))))
  have nx : ∀ {b}, (b = c1.block ∨ b = c2.block ∨ b = c3.block ∨ b = c4.block) → ¬ PW ma mb c5 sl1 b := fun hb hx => by
   obtain ⟨d1, d2, d3, d4⟩ := C.st.prf.d _ hx
   rcases hb with h | h | h | h
   ·exact d1 h
   ·exact d2 h
   ·exact d3 h
   ·exact d4 h
  have lt1 : ∀ {b}, PW ma mb c5 sl1 b → b < w.heap.size := fun hb => C.st.prf.lt hb
  have I9 : IMap ikey (w8.setCell c5 s1.v) ma (Sp.amap ((l ++ M) ++ [⟨r, a, b, t⟩])) := by
   rw [Sp.amap_snoc]
   exact ((I5.pure E7).ext X8 C.st.prf.n4).ext E9 C.st.prf.n2
  have P9 : PrfAt (w8.setCell c5 s1.v) k c1 c2 c3 c4 c5 ma mb s1 ((l ++ M) ++ [⟨r, a, b, t⟩]) B1 := by
   refine ⟨X.cell C.st.prf.a1 (nx (.inl rfl)), X.cell C.st.prf.a2 (nx (.inr (.inl rfl))), X.cell C.st.prf.a3 (nx (.inr (.inr (.inl rfl)))), X.cell C.st.prf.a4 (nx (.inr (.inr (.inr rfl)))), b8.set0, I9, ?_, ?_, ?_, C.st.prf.n1, C.st.prf.n2, C.st.prf.n3, ?_, ?_, ?_⟩
   ·have := ((C.st.prf.bm.ext E5 (fun e => C.st.prf.n1 e.symm)).pure E7).ext X8 C.st.prf.n5
    exact this.ext E9 C.st.prf.n3
   ·have hne : ∀ b, s1.blk b → b ≠ c5.block := fun b hb e => by
     rcases f8' b hb with h | h
     ·exact C.st.prf.n6 (e ▸ h)
     ·have := lt1 (.inr (.inr (.inl rfl))); omega
    have := R8.ext E9 hne
    simpa using this
   ·rintro b (hb | hb | hb | hb)
    ·exact C.st.prf.d b (.inl hb)
    ·exact C.st.prf.d b (.inr (.inl hb))
    ·exact C.st.prf.d b (.inr (.inr (.inl hb)))
    ·rcases f8' b hb with h | h
     ·exact C.st.prf.d b (.inr (.inr (.inr h)))
     ·have := C.st.zc; omega
   ·intro hb; rcases f8' _ hb with h | h
    ·exact C.st.prf.n4 h
    ·have := lt1 (.inl rfl); omega
   ·intro hb; rcases f8' _ hb with h | h
    ·exact C.st.prf.n5 h
    ·have := lt1 (.inr (.inl rfl)); omega
   ·intro hb; rcases f8' _ hb with h | h
    ·exact C.st.prf.n6 h
    ·have := lt1 (.inr (.inr (.inl rfl))); omega
  have hlk9 : SE.look (Sp.amap ((l ++ M) ++ [⟨r, a, b, t⟩])) t = some ((l ++ M).length : Int) := by
   rw [Sp.amap_snoc, look_snoc (by rw [Sp.amap_keys]; exact htn), if_pos rfl]
  rcases I9.get (P := Tryz.prog) (T := 152) Tryz.underlying152 Tryz.underlying30 (Tryz.zeroValue3 _) t false with ⟨hx, _⟩ | ⟨v, hv, hrun9⟩
  ·rw [hx] at hlk9; cases hlk9
  ·rw [hv] at hlk9; cases hlk9
   have dg : ∀ {Z : NP}, (∀ b, Z b → b < w.heap.size) → (∀ b, Z b → ¬ PW ma mb c5 sl1 b) → ∀ b, Z b → ¬ PW ma mb c5 s1 b := fun hz h b hb hx => by
    rcases hx with hx | hx | hx | hx
    ·exact h b hb (.inl hx)
    ·exact h b hb (.inr (.inl hx))
    ·exact h b hb (.inr (.inr (.inl hx)))
    ·rcases f8' b hx with h' | h'
     ·exact h b hb (.inr (.inr (.inr h')))
     ·have := hz b hb; omega
   refine ⟨_, P9.a1, _, hrun9, hK _ true _ s1 (M ++ [⟨r, a, b, t⟩]) B1 ⟨⟨by rw [← List.append_assoc]; exact P9, C.st.know.ext X (fun b hb => C.st.dF b hb), C.st.pool.ext X (fun b hb => C.st.dP b hb), dg (fun b hb => C.st.know.lt hb) C.st.dF, dg (fun b hb => C.st.pool.lt hb) C.st.dP⟩, by rw [← List.append_assoc]; exact C.prf.snoc hfol htn hdt, fun s hs => ?_, fun _ => ⟨(l ++ M).length, rfl, by simp, by simp⟩, ⟨fun _ => hdt, fun _ => rfl⟩, C.ext.trans' X (fun i hi hb => PW.old h0 C.own i hb hi), fun b hb => ?_, fun _ => .inr ?_, fun s hs => ?_, fun s hs y hy => ?_⟩⟩
   ·rcases List.mem_append.1 hs with hs | hs
    ·exact ⟨Nat.le_of_lt (C.new s hs).1, (C.new s hs).2⟩
    ·simp at hs; subst hs; exact ⟨Nat.le_refl _, .inl (.refl t)⟩
   ·rcases f8' b hb with h | h
    ·exact C.own b h
    ·right; have := C.ext.size; omega
   ·rw [← List.append_assoc]
    have e : ((((l ++ M) ++ [(⟨r, a, b, t⟩ : Sp.Step)]).length : Int) - 1) = ((l ++ M).length : Int) := by simp; omega
    rw [e, Sp.tAt_of (by simp)]
    simp
   ·rcases List.mem_append.1 hs with hs | hs
    ·exact C.dp s hs
    ·simp at hs; subst hs; exact .refl t
   ·rw [← List.append_assoc, List.map_append]
    refine List.mem_append_left _ ?_
    rcases List.mem_append.1 hs with hs | hs
    ·exact C.cl s hs y hy
    ·simp at hs; subst hs; exact hdp y hy
 have hcall : ∀ (u : Int) (H : NP) (w : World) (sl1 : Sl) (M : List Sp.Step) (B1 : List Int), SaysCur w0 H w k p c1 c2 c3 c4 c5 ma mb L G S F FP sl l t sl1 M B1 → Sp.rank S u < Sp.rank S t → (Sp.Sub L t u ∨ u ∈ Sp.wkeys S) → Sp.Dep L S t u → ∀ (Q : Int → Bool → WP),
   (∀ (r : Int) (ok : Bool) (w' : World) (sl2 : Sl) (M2 : List Sp.Step) (B2 : List Int), SaysCur w0 H w' k p c1 c2 c3 c4 c5 ma mb L G S F FP sl l t sl2 (M ++ M2) B2 → (ok = true ↔ Sp.Drv L (fun x => x ∈ Sp.wkeys S) u) → (ok = true → ∃ i, r = ((i : Nat) : Int) ∧ ∃ hi : i < (l ++ (M ++ M2)).length, (l ++ (M ++ M2))[i].t = u) → Kept H w w' → Q r ok w') →
   ∃ v13 : Value, w.cell? c4 = some v13 ∧ ∃ (f1 : FuncId) (fs1 cs1 : Array Value), v13 = .func (.func f1) fs1 cs1 ∧ (∀ args w, (callFunc f1 args).run Tryz.prog w = .ok (.enter f1 args) w) ∧ Calls Tryz.prog f1 (fs1 ++ #[(.int .i64 u)] ++ cs1) w (fun e w' => ∃ r1 : Int, ∃ r2 : Bool, e = .returned (.tuple #[(.int .i64 r1), (.bool r2)]) ∧ Kept H w w' ∧ Q r1 r2 w') := by
  intro u H w sl1 M B1 C hu hsub hdep Q hQ
  refine ⟨_, C.st.prf.a4, 92, #[], _, rfl, Tryz.call92, ?_⟩
  refine (ih u w sl1 (l ++ M) B1 (by omega) C.st C.prf).mono ?_
  rintro _ w' ⟨r, ok, rfl, sl2, M2, B2, hret⟩
  obtain ⟨hkp, C2⟩ := C.step h0 hret hu hsub (fun x hu hx => rank_seen_le hu hx) hdep
  refine ⟨r, ok, rfl, hkp, hQ r ok w' sl2 M2 B2 C2 hret.drv (fun h => ?_) hkp⟩
  obtain ⟨i, e, hi, hit⟩ := hret.idx h
  refine ⟨i, e, by rw [← List.append_assoc]; exact hi, ?_⟩
  simpa [List.append_assoc] using hit
 obtain ⟨sg, m, sk, k2, hF2⟩ := C2.st.know
 obtain ⟨vr, vf, hlook, hway⟩ := k2.look t
 refine ⟨_, C2.st.prf.a2, _, C2.st.prf.barred t, _, C2.st.prf.a3, k, rfl, _, k2.box.cell rfl, vr, vf, _, hlook, fun hc => ?_, fun hc => ?_⟩
 ·-- it is seen
  have hts : t ∈ Sp.wkeys S := by simpa using hc
  have hdt : Sp.Drv L (fun x => x ∈ Sp.wkeys S) t := .seen hts
  have hnB : decide (t ∈ B) = false := decide_eq_false (fun hb => hp0.bar t hb hdt)
  have hin := hk.inp t hts
  have hin' : ¬ Sp.inP L t = false := by simp [hin]
  rw [hnB]
  rcases Sp.way_of hk.toWaysOk (look_mem (hway hts)) with ⟨rfl, rfl, hg⟩ | ⟨hne, hari, hfs, hrf⟩
  ·refine ⟨fun h => by simp at h, fun _ => ?_⟩
   intro H2 w10 hs10
   have C10 := C2.hst h0 hs10
   refine J1t 0 0 0 H2 w10 sl [] B C10 ?_ hdt (fun y hy => absurd rfl ((Sp.Dep.way hk.nodup (hway hts)).1 hy).1)
   unfold Sp.fol; rw [if_neg hin', if_pos rfl]; simp [hg]
  ·refine ⟨fun _ => ?_, fun h => absurd (by simpa using h) hne⟩
   intro H2 w10 hs10
   have C10 := C2.hst h0 hs10
   refine hcall vf H2 w10 sl [] B C10 hrf (.inr hfs) ((Sp.Dep.way hk.nodup (hway hts)).2 ⟨hne, rfl⟩) _ ?_
   intro r1 ok w11 sl2 M2 B2 C11 hd11 hi11 _ w12 hs12
   have C12 := C11.hst h0 hs12
   obtain ⟨i, rfl, hi, hit⟩ := hi11 (hd11.2 (.seen hfs))
   refine J1t vr i 0 H2 w12 sl2 _ B2 C12 ?_ hdt (fun y hy => by rw [((Sp.Dep.way hk.nodup (hway hts)).1 hy).2]; exact List.mem_map.2 ⟨_, List.getElem_mem hi, hit⟩)
   have hr := hari.rule
   unfold Sp.fol
   rw [if_neg hin', if_neg hne, if_pos hr]
   have h1 := Sp.ahead_of hi
   have h2 := Sp.tAt_of hi
   rw [hit] at h2
   simp only [h1, h2, Bool.true_and, Bool.and_eq_true, beq_iff_eq, true_and]
   exact (Sp.arisesB_iff hr).2 hari
 ·-- it is not
  have hts : t ∉ Sp.wkeys S := by simpa using hc
  refine ⟨fun hb => ?_, fun hb => ?_⟩
  ·intro H2 w4 hs4
   have C4 := C2.hst h0 hs4
   refine ⟨_, C4.st.prf.a3, ?_⟩
   refine (c_ded_made k p t w4 C4.st.know C4.st.pool hW).mono ?_
   rintro _ w13 ⟨r3, r4, r5, r6, rfl, hmade, E13⟩
   refine ⟨r3, r4, r5, r6, rfl, E13.keptP, ?_⟩
   have C13 : SaysCur w0 H2 w13 k p c1 c2 c3 c4 c5 ma mb L G S F FP sl l t sl [] B := ⟨C4.st.pure E13, C4.prf, C4.new, C4.ext.thenPure E13, C4.own, C4.vis, C4.hs.again E13.keptP, C4.dp, C4.cl⟩
   have J2 : ∀ (H : NP) (w : World) (sl1 : Sl) (M : List Sp.Step) (B1 : List Int) (ok4 : Bool) (rl a : Int), SaysCur w0 H w k p c1 c2 c3 c4 c5 ma mb L G S F FP sl l t sl1 M B1 →
     (ok4 = false → ¬ Sp.Drv L (fun x => x ∈ Sp.wkeys S) t) →
     (ok4 = true → r4 ≤ 0 → Sp.fol L G (l ++ M) ⟨rl, a, 0, t⟩ = true ∧ Sp.Drv L (fun x => x ∈ Sp.wkeys S) t) →
     (ok4 = true → 0 < r4 → Sp.rank S r4 < Sp.rank S t ∧ (Sp.Sub L t r4 ∨ r4 ∈ Sp.wkeys S) ∧ (Sp.Drv L (fun x => x ∈ Sp.wkeys S) r4 → Sp.Drv L (fun x => x ∈ Sp.wkeys S) t) ∧ (Sp.Drv L (fun x => x ∈ Sp.wkeys S) t → Sp.Drv L (fun x => x ∈ Sp.wkeys S) r4) ∧
      ∀ M2 (i : Nat) (hi : i < (l ++ (M ++ M2)).length), (l ++ (M ++ M2))[i].t = r4 → Sp.fol L G (l ++ (M ++ M2)) ⟨rl, a, i, t⟩ = true) →
     (ok4 = true → 0 < r3 → r3 ∈ (l ++ M).map Sp.Step.t) →
     m_P_j2 t c1 c2 c4 c5 r4 ok4 rl a 0 t w0 H w K := by
    intro H w sl1 M B1 ok4 rl a C h1 h2 h3 h4
    unfold m_P_j2
    refine ⟨fun hc => ?_, fun hc => ?_⟩
    ·rw [Bool.and_eq_true] at hc
     obtain ⟨hok, hpos⟩ := hc
     have hpos := of_decide_eq_true hpos
     obtain ⟨g1, g2, g3, g4, g5⟩ := h3 hok hpos
     intro H5 w19 hs19
     have C19 := C.hst h0 hs19
     refine hcall r4 H5 w19 sl1 M B1 C19 g1 g2 ((Sp.Dep.made hmade.symm hts).2 ⟨hpos, .inr rfl⟩) _ ?_
     intro r7 r8 w20 sl2 M2 B2 C20 hd20 hi20 _ w21 hs21
     have C21 := C20.hst h0 hs21
     cases r8 with
     | false => exact J1f _ _ _ H5 w21 sl2 _ B2 C21 (fun hd => by have := hd20.2 (g4 hd); cases this)
     | true =>
      obtain ⟨i, rfl, hi, hit⟩ := hi20 rfl
      refine J1t _ _ _ H5 w21 sl2 _ B2 C21 (g5 M2 i hi hit) (g3 (hd20.1 rfl)) (fun y hy => ?_)
      rcases (Sp.Dep.made hmade.symm hts).1 hy with ⟨hy0, e | e⟩
      ·subst e
       rw [← List.append_assoc, List.map_append]
       exact List.mem_append_left _ (h4 hok hy0)
      ·subst e
       exact List.mem_map.2 ⟨_, List.getElem_mem hi, hit⟩
    ·intro H5 w19 hs19
     have C19 := C.hst h0 hs19
     cases ok4 with
     | false => exact J1f _ _ _ H5 w19 sl1 M B1 C19 (h1 rfl)
     | true =>
      have hle : r4 ≤ 0 := by simpa using hc
      obtain ⟨q1, q2⟩ := h2 rfl hle
      refine J1t _ _ _ H5 w19 sl1 M B1 C19 q1 q2 (fun y hy => ?_)
      rcases (Sp.Dep.made hmade.symm hts).1 hy with ⟨hy0, e | e⟩
      ·subst e; exact h4 rfl hy0
      ·omega
   cases hin : Sp.inP L t with
   | false =>
    have hm : Sp.madeS L S t = (0, 0, false, false) := by unfold Sp.madeS; rw [if_pos hin]
    rw [hm] at hmade; cases hmade
    have hnd : ¬ Sp.Drv L (fun x => x ∈ Sp.wkeys S) t := fun hd => by
     have hnode : Sp.nodeOf L t = Sp.noNode := by unfold Sp.nodeOf; rw [Sp.get_none hin]; rfl
     rcases hd.inv with h | h | ⟨h, _⟩ | ⟨h, _⟩ | ⟨h, _⟩
     ·exact hts h
     all_goals (rw [hnode] at h; exact absurd h (by decide))
    refine ⟨fun h => by simp at h, fun _ => ?_⟩
    intro H4 w18 hs18
    exact J2 H4 w18 sl [] B false _ _ (C13.hst h0 hs18) (fun _ => hnd) (fun h => by cases h) (fun h => by cases h) (fun h => by cases h)
   | true =>
   have hin' : ¬ Sp.inP L t = false := by simp [hin]
   have ht1 := (Sp.inP_iff.1 hin).1
   generalize hn : Sp.nodeOf L t = n at *
   have hm := hmade
   unfold Sp.madeS at hm
   rw [if_neg hin', hn] at hm
   have kx : ∀ x ∈ Sp.kidsOf n, Sp.inP L x = true ∧ x < t := by have := (hW.node hin).2.2.2.2.1; rw [hn] at this; exact this
   rcases Sp.kind_cases hW hin with hk1 | hk4 | hk5 | hk6 | hk7
   ·rw [hn] at hk1
    rw [if_pos hk1] at hm; cases hm
    refine ⟨fun h => by simp at h, fun _ => ?_⟩
    intro H4 w18 hs18
    have hd : Sp.Drv L (fun x => x ∈ Sp.wkeys S) t := .free (by rw [hn]; exact hk1)
    refine J2 H4 w18 sl [] B true _ _ (C13.hst h0 hs18) (fun h => by cases h) (fun _ _ => ⟨?_, hd⟩) (fun _ h => by omega) (fun _ h => by omega)
    unfold Sp.fol; rw [if_neg hin', hn]; simp [hk1]
   ·rw [hn] at hk4
    rw [if_neg (by rw [hk4]; decide), if_pos hk4] at hm; cases hm
    have ha := kx n.a (Sp.kids_a (.inl hk4))
    have hb' := kx n.b (Sp.kids_b hk4)
    have ha1 := (Sp.inP_iff.1 ha.1).1
    have hb1 := (Sp.inP_iff.1 hb'.1).1
    have sa : Sp.Sub L t n.a := .kid (.refl t) (by rw [hn]; exact Sp.kids_a (.inl hk4))
    have sb : Sp.Sub L t n.b := .kid (.refl t) (by rw [hn]; exact Sp.kids_b hk4)
    have inv : Sp.Drv L (fun x => x ∈ Sp.wkeys S) t → Sp.Drv L (fun x => x ∈ Sp.wkeys S) n.a ∧ Sp.Drv L (fun x => x ∈ Sp.wkeys S) n.b := fun hd => by
     rcases hd.inv with h | h | ⟨_, h1, h2⟩ | ⟨h, _⟩ | ⟨h, _⟩
     ·exact absurd h hts
     ·rw [hn, hk4] at h; exact absurd h (by decide)
     ·rw [hn] at h1 h2; exact ⟨h1, h2⟩
     ·rw [hn, hk4] at h; cases h
     ·rw [hn, hk4] at h; exact absurd h (by decide)
    refine ⟨fun _ => ?_, fun h => by simp at h; omega⟩
    intro H4 w18 hs18
    refine hcall n.a H4 w18 sl [] B (C13.hst h0 hs18) (Sp.rank_kid hts ha1 ha.2) (.inl sa) ((Sp.Dep.made hmade.symm hts).2 ⟨by omega, .inl rfl⟩) _ ?_
    intro r9 r10 w22 sl2 M2 B2 C22 hd22 hi22 _ w23 hs23
    have C23 := C22.hst h0 hs23
    refine J2 H4 w23 sl2 _ B2 r10 _ _ C23 (fun h hd => by have := hd22.2 (inv hd).1; rw [h] at this; cases this) (fun _ h => by omega) (fun h _ => ⟨Sp.rank_kid hts hb1 hb'.2, .inl sb, fun hd => .pair (by rw [hn]; exact hk4) (by rw [hn]; exact hd22.1 h) (by rw [hn]; exact hd), fun hd => (inv hd).2, ?_⟩) (fun h _ => by obtain ⟨i1, _, hi1, hit1⟩ := hi22 h; exact List.mem_map.2 ⟨_, List.getElem_mem hi1, hit1⟩)
    intro M3 i hi hit
    obtain ⟨i1, rfl, hi1, hit1⟩ := hi22 h
    have hi1' : i1 < (l ++ (([] ++ M2) ++ M3)).length := by simp at hi1 ⊢; omega
    have e1 : Sp.tAt (l ++ (([] ++ M2) ++ M3)) (i1 : Int) = n.a := by
     rw [← List.append_assoc, Sp.tAt_app hi1]; exact hit1
    have e2 := Sp.tAt_of hi
    rw [hit] at e2
    clear hit
    generalize l ++ (([] ++ M2) ++ M3) = l' at *
    unfold Sp.fol; rw [if_neg hin', hn]
    simp [hk4, Sp.ahead_of hi, Sp.ahead_of hi1', e1, e2]
   ·rw [hn] at hk5
    rw [if_neg (by rw [hk5]; decide), if_neg (by rw [hk5]; decide), if_pos hk5] at hm; cases hm
    have ha := kx n.a (Sp.kids_a (.inr (.inl hk5)))
    have ha1 := (Sp.inP_iff.1 ha.1).1
    have sa : Sp.Sub L t n.a := .kid (.refl t) (by rw [hn]; exact Sp.kids_a (.inr (.inl hk5)))
    have inv : Sp.Drv L (fun x => x ∈ Sp.wkeys S) t → Sp.Drv L (fun x => x ∈ Sp.wkeys S) n.a := fun hd => by
     rcases hd.inv with h | h | ⟨h, _⟩ | ⟨_, h⟩ | ⟨h, _⟩
     ·exact absurd h hts
     ·rw [hn, hk5] at h; exact absurd h (by decide)
     ·rw [hn, hk5] at h; cases h
     ·rw [hn] at h; exact h
     ·rw [hn, hk5] at h; exact absurd h (by decide)
    refine ⟨fun _ => ?_, fun h => by simp at h; omega⟩
    intro H4 w18 hs18
    refine hcall n.a H4 w18 sl [] B (C13.hst h0 hs18) (Sp.rank_kid hts ha1 ha.2) (.inl sa) ((Sp.Dep.made hmade.symm hts).2 ⟨by omega, .inl rfl⟩) _ ?_
    intro r9 r10 w22 sl2 M2 B2 C22 hd22 hi22 _ w23 hs23
    have C23 := C22.hst h0 hs23
    refine J2 H4 w23 sl2 _ B2 r10 _ _ C23 (fun h hd => by have := hd22.2 (inv hd); rw [h] at this; cases this) (fun h _ => ⟨?_, .hash (by rw [hn]; exact hk5) (by rw [hn]; exact hd22.1 h)⟩) (fun _ h => by omega) (fun h _ => by obtain ⟨i1, _, hi1, hit1⟩ := hi22 h; exact List.mem_map.2 ⟨_, List.getElem_mem hi1, hit1⟩)
    obtain ⟨i1, rfl, hi1, hit1⟩ := hi22 h
    have e1 := Sp.tAt_of hi1
    rw [hit1] at e1
    clear hit1
    have q1 := Sp.ahead_of hi1
    generalize l ++ ([] ++ M2) = l' at *
    unfold Sp.fol; rw [if_neg hin', hn]
    simp [hk5, q1, e1]
   ·rw [hn] at hk6
    rw [if_neg (by rw [hk6]; decide), if_neg (by rw [hk6]; decide), if_neg (by rw [hk6]; decide), if_pos hk6] at hm; cases hm
    have hnd : ¬ Sp.Drv L (fun x => x ∈ Sp.wkeys S) t := fun hd => by
     rcases hd.inv with h | h | ⟨h, _⟩ | ⟨h, _⟩ | ⟨h, _⟩
     ·exact hts h
     all_goals (rw [hn, hk6] at h; exact absurd h (by decide))
    refine ⟨fun h => by simp at h, fun _ => ?_⟩
    intro H4 w18 hs18
    exact J2 H4 w18 sl [] B false _ _ (C13.hst h0 hs18) (fun _ => hnd) (fun h => by cases h) (fun h => by cases h) (fun h => by cases h)
   ·rw [hn] at hk7
    obtain ⟨x4, x5, x6, xf⟩ := Sp.shows_ne hk7
    rw [if_neg (by rw [xf]; decide), if_neg x4, if_neg x5, if_neg x6] at hm
    generalize hko : Sp.keyOf L (Sp.whoOf n) = ko at *
    obtain ⟨key, kok⟩ := ko
    simp only [Prod.mk.injEq] at hm
    obtain ⟨rfl, rfl, rfl, rfl⟩ := hm
    have ha := kx n.a (Sp.kids_a (.inr (.inr hk7)))
    have ha1 := (Sp.inP_iff.1 ha.1).1
    have sa : Sp.Sub L t n.a := .kid (.refl t) (by rw [hn]; exact Sp.kids_a (.inr (.inr hk7)))
    have inv : Sp.Drv L (fun x => x ∈ Sp.wkeys S) t → Sp.Drv L (fun x => x ∈ Sp.wkeys S) n.a ∧ kok = true ∧ r4 ∈ Sp.wkeys S := fun hd => by
     rcases hd.inv with h | h | ⟨h, _⟩ | ⟨h, _⟩ | ⟨_, h1, h2, h3⟩
     ·exact absurd h hts
     ·rw [hn, xf] at h; cases h
     ·rw [hn] at h; exact absurd h x4
     ·rw [hn] at h; exact absurd h x5
     ·rw [hn] at h1 h2 h3; rw [hko] at h2 h3; exact ⟨h1, h2, h3⟩
    refine ⟨fun hc => ?_, fun hc => ?_⟩
    ·rw [Bool.and_eq_true, Bool.and_eq_true] at hc
     obtain ⟨⟨hkok, hkey⟩, _⟩ := hc
     have hkey := of_decide_eq_true hkey
     have hkn := Sp.keyOf_ok (L := L) (n := Sp.whoOf n) (by rw [hko]; exact hkok)
     rw [hko] at hkn
     have hk1 := (Sp.inP_iff.1 hkn.1).1
     intro H4 w18 hs18
     refine hcall n.a H4 w18 sl [] B (C13.hst h0 hs18) (Sp.rank_kid hts ha1 ha.2) (.inl sa) ((Sp.Dep.made hmade.symm hts).2 ⟨by omega, .inl rfl⟩) _ ?_
     intro r9 r10 w22 sl2 M2 B2 C22 hd22 hi22 _ w23 hs23
     have C23 := C22.hst h0 hs23
     refine J2 H4 w23 sl2 _ B2 r10 _ _ C23 (fun h hd => by have := hd22.2 (inv hd).1; rw [h] at this; cases this) (fun _ h => by simp only at hk1; omega) (fun h _ => ⟨Sp.rank_key hts ht1 hkey, .inr hkey, fun _ => .signed (by rw [hn]; exact hk7) (by rw [hn]; exact hd22.1 h) (by rw [hn, hko]; exact hkok) (by rw [hn, hko]; exact hkey), fun _ => .seen hkey, ?_⟩) (fun h _ => by obtain ⟨i1, _, hi1, hit1⟩ := hi22 h; exact List.mem_map.2 ⟨_, List.getElem_mem hi1, hit1⟩)
     intro M3 i hi hit
     obtain ⟨i1, rfl, hi1, hit1⟩ := hi22 h
     have hi1' : i1 < (l ++ (([] ++ M2) ++ M3)).length := by simp at hi1 ⊢; omega
     have e1 : Sp.tAt (l ++ (([] ++ M2) ++ M3)) (i1 : Int) = n.a := by
      rw [← List.append_assoc, Sp.tAt_app hi1]; exact hit1
     have e2 : Sp.tAt (l ++ (([] ++ M2) ++ M3)) (i : Int) = r4 := by rw [Sp.tAt_of hi]; exact hit
     clear hit
     generalize l ++ (([] ++ M2) ++ M3) = l' at *
     unfold Sp.fol; rw [if_neg hin', hn]
     have hkey2 := hkn.2.1
     simp only at hkey2
     simp [hk7, x4, x5, Sp.ahead_of hi, Sp.ahead_of hi1', e1, e2, hkey2, Sp.keyNode]
    ·intro H4 w18 hs18
     have hnk : (kok && decide (r4 ∈ Sp.wkeys S)) = false := by
      have : decide (n.a > 0) = true := by simp; omega
      rw [this] at hc; simpa using hc
     refine J2 H4 w18 sl [] B _ _ _ (C13.hst h0 hs18) (fun _ hd => ?_) (fun h => by rw [hnk] at h; cases h) (fun h => by rw [hnk] at h; cases h) (fun h => by rw [hnk] at h; cases h)
     obtain ⟨_, i2, i3⟩ := inv hd
     rw [i2, decide_eq_true i3] at hnk; cases hnk
  ·have htB : t ∈ B := by simpa using hb
   intro H2 w4 hs4
   have C4 := C2.hst h0 hs4
   have hnB : (!decide (t ∈ B)) = false := by simp [htB]
   rw [hnB]
   exact J1f 0 0 0 H2 w4 sl [] B C4 (hp0.bar t htB)
theorem c_ded_ProofD (k p : Addr) (t : Int) (w0 : World) {L : Sp.Pool} {G : List Int} {S : List Sp.Way} {F FP : NP} (hW : Sp.Wf L) (hk : Sp.KnowOk L G S) (h : KnowAt w0 k p G S F) (hP : PoolAt w0 p L FP) :
  Calls Tryz.prog 51 #[.pointer (some k), .int .i64 t] w0 (fun e w' => ∃ r : Sl, ∃ ok : Bool, e = .returned (.tuple #[r.v, .bool ok]) ∧ ∃ l : List Sp.Step, RetO w0 157 4 (l.map strow) r w' ∧ (ok = true ↔ Sp.Drv L (fun x => x ∈ Sp.wkeys S) t) ∧ (ok = false → l = []) ∧ (ok = true → l ≠ [] ∧ (∀ i (hi : i < l.length), Sp.fol L G (l.take i) l[i] = true) ∧ (l.map Sp.Step.t).Nodup ∧ Sp.tAt l ((l.length : Int) - 1) = t ∧ ∀ s ∈ l, Sp.Sub L t s.t ∨ s.t ∈ Sp.wkeys S) ∧ (ok = true → ∀ x, x ∈ l.map Sp.Step.t ↔ Sp.Dp L S t x)) := by
 suffices key : ∀ K : Sl → Bool → WP, (∀ r ok w' l, RetO w0 157 4 (l.map strow) r w' → (ok = true ↔ Sp.Drv L (fun x => x ∈ Sp.wkeys S) t) → (ok = false → l = []) → (ok = true → l ≠ [] ∧ (∀ i (hi : i < l.length), Sp.fol L G (l.take i) l[i] = true) ∧ (l.map Sp.Step.t).Nodup ∧ Sp.tAt l ((l.length : Int) - 1) = t ∧ ∀ s ∈ l, Sp.Sub L t s.t ∨ s.t ∈ Sp.wkeys S) → (ok = true → ∀ x, x ∈ l.map Sp.Step.t ↔ Sp.Dp L S t x) → K r ok w') → m_X1 (some k) t w0 K from
  w_X1 _ _ w0 _ (key _ (fun r ok w' l a b c d e => ⟨l, a, b, c, d, e⟩))
 intro K hK
 unfold m_X1
 intro p1 w1 h1
 have B1 := Box.of_new h1
 refine ⟨_, B1.cell0, Br.f rfl ?_⟩
 intro p2 w2 h2 p3 w3 h3 p4 w4 h4
 have B4 := Box.of_new h4
 refine ⟨B4.canW0 (by simp), ?_⟩
 rintro _ rfl
 have X4 := Ext.setCell (w := w4) p4 (.map (some p3.block))
 have B4' := B4.set0 (v := .map (some p3.block))
 have s1 := h1.at_size; have s2 := h2.at_size; have s3 := h3.at_size; have s4 := h4.at_size
 have E1 : Pure w0 w1 := Ext.new h1
 have E2 : Pure w1 w2 := Ext.new h2
 have E3 : Pure w2 w3 := Ext.new h3
 have E4 : Pure w3 w4 := Ext.new h4
 have l1 := B1.lt
 have l2 := (Box.of_new h2).lt
 have l3 := (IMap.of_new (f := ikey) h3).lt
 have l4 := B4.lt
 have z4 := X4.size
 generalize hw5 : w4.setCell p4 (.map (some p3.block)) = w5 at *
 intro p5 w6 h6 p6 w7 h7
 have B7 := Box.of_new h7
 refine ⟨B7.canW0 (by simp), ?_⟩
 rintro _ rfl
 have X7 := Ext.setCell (w := w7) p6 (.map (some p5.block))
 have B7' := B7.set0 (v := .map (some p5.block))
 have s6 := h6.at_size; have s7 := h7.at_size
 have E6 : Pure w5 w6 := Ext.new h6
 have E7 : Pure w6 w7 := Ext.new h7
 have l6 := (IMap.of_new (f := tru) h6).lt
 have l7 := B7.lt
 have z7 := X7.size
 generalize hw8 : w7.setCell p6 (.map (some p5.block)) = w8 at *
 intro p7 w9 h9
 have B9 := Box.of_new h9
 refine ⟨B9.canW0 (by simp), ?_⟩
 rintro _ rfl
 have X9 := Ext.setCell (w := w9) p7 (.func (.func 92) #[] #[.pointer (some p4), .pointer (some p6), .pointer (some p1), .pointer (some p7), .pointer (some p2)])
 have B9' := B9.set0 (v := .func (.func 92) #[] #[.pointer (some p4), .pointer (some p6), .pointer (some p1), .pointer (some p7), .pointer (some p2)])
 have s9 := h9.at_size
 have E9 : Pure w8 w9 := Ext.new h9
 have l9 := B9.lt
 have z9 := X9.size
 have g1 := E1.size; have g2 := E2.size; have g3 := E3.size; have g4 := E4.size; have g6 := E6.size; have g7 := E7.size; have g9 := E9.size
 generalize hw10 : w9.setCell p7 (.func (.func 92) #[] #[.pointer (some p4), .pointer (some p6), .pointer (some p1), .pointer (some p7), .pointer (some p2)]) = w10 at *
 have hnil : ∀ b, ¬ Sl.nil.blk b := fun b hb => by obtain ⟨a, h, _⟩ := hb; cases h
 have T5 : Pure w0 w5 := (((E1.trans E2).trans E3).trans E4).trans' X4 (fun i hi e => by omega)
 have T8 : Pure w5 w8 := (E6.trans E7).trans' X7 (fun i hi e => by omega)
 have T10 : Pure w8 w10 := E9.trans' X9 (fun i hi e => by omega)
 have T : Pure w0 w10 := (T5.trans T8).trans T10
 have T2 : Pure w2 w5 := (E3.trans E4).trans' X4 (fun i hi e => by omega)
 have T1 : Pure w1 w5 := E2.trans T2
 have T3 : Pure w3 w5 := E4.trans' X4 (fun i hi e => by omega)
 have T6 : Pure w6 w8 := E7.trans' X7 (fun i hi e => by omega)
 have T5' : Pure w5 w10 := T8.trans T10
 have h0 : SaysAt w10 k p p4 p6 p1 p7 p2 p3.block p5.block L G S F FP Sl.nil [] [] := by
  refine ⟨⟨(B4'.pure T5').cell0, (B7'.pure T10).cell0, (B1.pure (T1.trans T5')).cell0, B9'.cell0, (Box.of_new h2).pure (T2.trans T5'), (IMap.of_new h3).pure (T3.trans T5'), (IMap.of_new h6).pure (T6.trans T10), Rws.nil _ _ _, ?_, by omega, by omega, by omega, hnil _, hnil _, hnil _⟩, h.pure T, hP.pure T, ?_, ?_⟩
  ·rintro b (rfl | rfl | rfl | hb)
   ·omega
   ·omega
   ·omega
   ·exact (hnil b hb).elim
  ·rintro b hb (rfl | rfl | rfl | hx)
   ·have := h.lt hb; omega
   ·have := h.lt hb; omega
   ·have := h.lt hb; omega
   ·exact hnil b hx
  ·rintro b hb (rfl | rfl | rfl | hx)
   ·have := hP.lt hb; omega
   ·have := hP.lt hb; omega
   ·have := hP.lt hb; omega
   ·exact hnil b hx
 refine ⟨_, h0.prf.a4, 92, #[], _, rfl, Tryz.call92, ?_⟩
 refine (c_says k p p4 p6 p1 p7 p2 p3.block p5.block hW hk _ t w10 Sl.nil [] [] (Nat.lt_succ_self _) h0 (Sp.PrfOk.nil _ _ _)).mono ?_
 rintro _ w11 ⟨r1, ok, rfl, sl', M, B', hret⟩
 refine ⟨r1, ok, rfl, fun hc => ?_, fun hc => ?_⟩
 ·have hf : ok = false := by simpa using hc
  subst hf
  refine hK Sl.nil false w11 [] ⟨Rws.nil _ _ _, fun b hb => (hnil b hb).elim, T.trans' hret.ext (fun i hi hx => ?_)⟩ hret.drv (fun _ => rfl) (fun h => by cases h) (fun h => by cases h)
  rcases hx with rfl | rfl | rfl | hx
  ·omega
  ·omega
  ·omega
  ·exact (hnil _ hx).elim
 ·have ht : ok = true := by simpa using hc
  subst ht
  have hst := hret.st
  have hpf := hret.prf
  have hidx := hret.idx rfl
  simp only [List.nil_append] at hst hpf hidx
  obtain ⟨i, _, hi, hit⟩ := hidx
  refine ⟨sl', hst.prf.a5.cell0, ?_⟩
  refine hK sl' true w11 M ⟨hst.prf.ls, fun b hb => ?_, T.trans' hret.ext (fun i hi hx => ?_)⟩ hret.drv (fun h => by cases h) (fun _ => ⟨?_, hpf.fol, hpf.nd, ?_, fun s hs => (hret.new s hs).2⟩) (fun _ x => ⟨fun hx => ?_, fun hx => ?_⟩)
  ·rcases hret.own b hb with h | h
   ·exact (hnil b h).elim
   ·have := T.size; omega
  ·rcases hx with rfl | rfl | rfl | hx
   ·omega
   ·omega
   ·omega
   ·exact (hnil _ hx).elim
  ·intro e; subst e; simp at hi
  ·have := hret.last rfl
   simp only [List.nil_append] at this
   rcases this with rfl | h
   ·simp at hi
   ·exact h
  ·obtain ⟨s, hs, rfl⟩ := List.mem_map.1 hx
   exact hret.dp s hs
  ·have hcl := hret.cl
   simp only [List.nil_append] at hcl
   exact Sp.Dp.all hcl (List.mem_map.2 ⟨_, List.getElem_mem hi, hit⟩) hx
theorem c_ded_Proof (k p : Addr) (t : Int) (w0 : World) {L : Sp.Pool} {G : List Int} {S : List Sp.Way} {F FP : NP} (hW : Sp.Wf L) (hk : Sp.KnowOk L G S) (h : KnowAt w0 k p G S F) (hP : PoolAt w0 p L FP) :
  Calls Tryz.prog 51 #[.pointer (some k), .int .i64 t] w0 (fun e w' => ∃ r : Sl, ∃ ok : Bool, e = .returned (.tuple #[r.v, .bool ok]) ∧ ∃ l : List Sp.Step, RetO w0 157 4 (l.map strow) r w' ∧ (ok = true ↔ Sp.Drv L (fun x => x ∈ Sp.wkeys S) t) ∧ (ok = false → l = []) ∧ (ok = true → l ≠ [] ∧ (∀ i (hi : i < l.length), Sp.fol L G (l.take i) l[i] = true) ∧ (l.map Sp.Step.t).Nodup ∧ Sp.tAt l ((l.length : Int) - 1) = t ∧ ∀ s ∈ l, Sp.Sub L t s.t ∨ s.t ∈ Sp.wkeys S)) := by
 refine (c_ded_ProofD k p t w0 hW hk h hP).mono ?_
 rintro _ w' ⟨r, ok, rfl, l, a, b, c, d, _⟩
 exact ⟨r, ok, rfl, l, a, b, c, d⟩
theorem c_ded_Derives (k p : Addr) (t : Int) (w0 : World) {L : Sp.Pool} {G : List Int} {S : List Sp.Way} {F FP : NP} (hW : Sp.Wf L) (hk : Sp.KnowOk L G S) (h : KnowAt w0 k p G S F) (hP : PoolAt w0 p L FP) :
  Calls Tryz.prog 53 #[.pointer (some k), .int .i64 t] w0 (fun e w' => ∃ r : Bool, e = .returned (.bool r) ∧ ((r = true ↔ Sp.Drv L (fun x => x ∈ Sp.wkeys S) t) ∧ Pure w0 w')) := by
 refine w_I2 _ _ w0 (fun r w' => (r = true ↔ Sp.Drv L (fun x => x ∈ Sp.wkeys S) t) ∧ Pure w0 w') ?_
 unfold m_I2
 refine (c_ded_Proof k p t w0 hW hk h hP).mono ?_
 rintro _ w1 ⟨r, ok, rfl, l, hr, hd, _, _⟩
 exact ⟨r, ok, rfl, hd, hr.pure⟩
end Go.Proofs
end
section
open Go Go.SE
namespace Go.Proofs
attribute [local irreducible] Calls
theorem named_see (k : Int) {r : Int} (h : r = 1 ∨ r = 2 ∨ r = 3) : s_B k r = (true, false) := by
 rcases h with rfl | rfl | rfl <;> simp [s_B]
theorem named_make (k : Int) : s_B k 5 = (true, k != 5) := by simp [s_B]
theorem named_none (k : Int) {r : Int} (h : ¬ (r = 1 ∨ r = 2 ∨ r = 3)) (h5 : r ≠ 5) : s_B k r = (false, false) := by
 have h1 : r ≠ 1 := fun e => h (.inl e)
 have h2 : r ≠ 2 := fun e => h (.inr (.inl e))
 have h3 : r ≠ 3 := fun e => h (.inr (.inr e))
 have e1 : (r == 1) = false := by simpa using h1
 have e2 : (r == 2) = false := by simpa using h2
 have e3 : (r == 3) = false := by simpa using h3
 have e5 : (r == 5) = false := by simpa using h5
 simp [s_B, e1, e2, e3, e5]
theorem st_nth {S : NP} {w : World} {s : Sl} {l : List Sp.Step} (h : Lst S w 4 s (l.map strow)) {v : Int} (h0 : 0 ≤ v) (hv : v.toNat < l.length) : ∃ a, At s v 4 a ∧ S a.block ∧ Row w a (strow l[v.toNat]) := by
 obtain ⟨a, h1, h2, h3⟩ := h.at_ v.toNat (by simpa using hv)
 refine ⟨a, ?_, h2, by simpa using h3⟩
 obtain ⟨q1, q2, b, q3, q4⟩ := h1
 rw [Int.toNat_natCast] at q4
 exact ⟨h0, by rw [h.len]; simp; omega, b, q3, q4⟩
theorem ahead_iff {n : Nat} {v : Int} : Sp.ahead n v = true ↔ 0 ≤ v ∧ v < n := by simp [Sp.ahead]
theorem tAt_take {l : List Sp.Step} {i : Nat} {v : Int} (h0 : 0 ≤ v) (hv : v < i) (hi : i ≤ l.length) : Sp.tAt (l.take i) v = (l[v.toNat]'(by omega)).t := by
 have : v.toNat < i := by omega
 simp [Sp.tAt, List.getElem?_take, this, show v.toNat < l.length by omega]
theorem c_ded_follows {Sg Ss : NP} (p : Addr) (sg sl : Sl) (G : List Int) (l : List Sp.Step) (i : Nat) (w0 : World) {L : Sp.Pool} {FP : NP} (hi : i < l.length) (hP : PoolAt w0 p L FP) (hok : Sp.Ok L) (hg : Lst Sg w0 1 sg (tmr G)) (hs : Lst Ss w0 4 sl (l.map strow)) (hG : G.length ≤ 1000000) :
  Calls Tryz.prog 94 #[.pointer (some p), sg.v, sl.v, .int .i64 i] w0 (fun e w' => ∃ r : Bool, e = .returned (.bool r) ∧ (r = Sp.fol L G (l.take i) l[i] ∧ Pure w0 w')) := by
 suffices key : ∀ K : Bool → WP, (∀ w', Pure w0 w' → K (Sp.fol L G (l.take i) l[i]) w') → m_L (some p) sg sl i w0 K from
  w_L _ _ _ _ w0 _ (key _ (fun _ h => ⟨rfl, h⟩))
 intro K hK
 unfold m_L
 obtain ⟨a1, at1, _, row1⟩ := st_nth hs (v := (i : Int)) (by omega) (by simpa using hi)
 have hti : ((i : Int).toNat) = i := by simp
 simp only [hti] at row1
 generalize hsi : l[i] = s at *
 obtain ⟨ru, va, vb, vt⟩ := s
 refine ⟨a1, at1, ru, va, vb, vt, row1, ?_⟩
 intro H1 w2 hs2
 have E2 := hs2.first
 refine (c_Node p vt w2 (hP.pure E2) hok).mono ?_
 rintro _ w3 ⟨nk, nf, nt, nu, nx, na, nb, ok, rfl, ⟨hn, rfl⟩, E3⟩
 have E03 := E2.trans E3
 refine ⟨_, _, _, _, _, _, _, _, rfl, E3.keptP, fun hc => ?_, fun hc => ?_⟩
 ·intro H2 w5 hs5
  have hin : Sp.inP L vt = false := by simpa using hc
  have := hK w5 (E03.hst hs5)
  unfold Sp.fol at this; rw [if_pos hin] at this; exact this
 have hin : ¬ Sp.inP L vt = false := by simpa using hc
 have hk1 : (Sp.nodeOf L vt).kind = nk := by rw [← hn]
 have hfr : (Sp.nodeOf L vt).frm = nf := by rw [← hn]
 have hto : (Sp.nodeOf L vt).to = nt := by rw [← hn]
 have ha : (Sp.nodeOf L vt).a = na := by rw [← hn]
 have hb : (Sp.nodeOf L vt).b = nb := by rw [← hn]
 have hlen : (l.take i).length = i := by rw [List.length_take]; omega
 have hfol : Sp.fol L G (l.take i) ⟨ru, va, vb, vt⟩ = (if ru = 0 then va == 0 && vb == 0 && decide (vt ∈ G)
   else if ru = 1 ∨ ru = 2 ∨ ru = 3 then Sp.ahead i va && vb == 0 && Sp.arisesB L ru (Sp.tAt (l.take i) va) vt
   else if ru = 4 then va == 0 && vb == 0 && Sp.freeK nk
   else if ru = 5 then
    if nk = 4 then Sp.ahead i va && Sp.ahead i vb && Sp.tAt (l.take i) va == na && Sp.tAt (l.take i) vb == nb
    else if nk = 5 then Sp.ahead i va && vb == 0 && Sp.tAt (l.take i) va == na
    else if Sp.showsK nk = true then Sp.ahead i va && Sp.ahead i vb && Sp.tAt (l.take i) va == na && (Sp.nodeOf L (Sp.tAt (l.take i) vb)).kind == 6 && (Sp.nodeOf L (Sp.tAt (l.take i) vb)).frm == Sp.whoOf (Sp.nodeOf L vt)
    else false
   else false) := by
  unfold Sp.fol; simp only; rw [if_neg hin, hlen, hk1, ha, hb]
 rw [hfol] at hK
 clear hfol
 have hfree : ((((nk : Int) == 1) || ((nk : Int) == 2)) || ((nk : Int) == 3)) = Sp.freeK nk := rfl
 have getS : ∀ (v : Int), 0 ≤ v → v < i → ∃ a, At sl v 4 a ∧ ∃ x, Sp.tAt (l.take i) v = x ∧ ∀ w, Pure w0 w → w.cell? (a.add 3) = some (.int .i64 x) := by
  intro v h0 hv
  obtain ⟨a, hat, _, hrow⟩ := st_nth hs h0 (by omega)
  refine ⟨a, hat, _, rfl, fun w E => ?_⟩
  have := (E.row hrow (fun h => h)) 3 (by simp [strow])
  rw [this, tAt_take h0 hv (by omega)]; rfl
 rintro y1 rfl
 by_cases hr : ru = 1 ∨ ru = 2 ∨ ru = 3
 ·-- it is seen
  have hr0 : ru ≠ 0 := by omega
  rw [if_neg hr0, if_pos hr] at hK
  rw [named_see nk hr]
  refine ⟨fun hy => ?_, fun hy => Br.t rfl ?_⟩
  ·intro H17 w21 hs21
   have hz : (Sp.ahead i va && vb == 0) = false := by
    simp at hy
    rcases hy with h | h
    ·simp [Sp.ahead]; omega
    ·simp [h]
   have := hK w21 (E03.hst hs21)
   rw [hz] at this; exact this
  ·have hab : (0 ≤ va ∧ va < i) ∧ vb = 0 := by simp at hy; omega
   obtain ⟨a7, at7, x, hx, c7⟩ := getS va hab.1.1 hab.1.2
   refine ⟨a7, at7, ?_⟩
   intro H33 w37 hs37
   have E37 := E03.hst hs37
   refine ⟨x, c7 w37 E37, ?_⟩
   refine (c_Node p x w37 (hP.pure E37) hok).mono ?_
   rintro _ w63 ⟨xk, xf, xt, xu, xx, xa, xb, _, rfl, ⟨hxn, _⟩, E63⟩
   refine ⟨_, _, _, _, _, _, _, _, rfl, E63.keptP, ?_⟩
   intro w64 hs64
   have E64 := (E37.trans E63).hst hs64
   unfold m_L_j1
   rw [named_see nk hr]
   refine Br.f rfl ?_
   have hxk : (Sp.nodeOf L x).kind = xk := by rw [← hxn]
   have hxa : (Sp.nodeOf L x).a = xa := by rw [← hxn]
   have hxb : (Sp.nodeOf L x).b = xb := by rw [← hxn]
   have hahd : Sp.ahead i va = true := ahead_iff.2 hab.1
   rw [hahd, hab.2, hx] at hK
   unfold m_L_j2
   unfold Sp.arisesB at hK
   simp only [hxk, hxa, hxb] at hK
   refine Br.f (by simpa using hr0) ⟨fun h => ?_, fun h => ⟨fun h2 => ?_, fun h2 => ⟨fun h3 => ?_, fun h3 => ?_⟩⟩⟩
   ·intro H35 w40 hs40
    have h : ru = 1 := by simpa using h
    subst h
    simpa using hK w40 (E64.hst hs40)
   ·intro H35 w40 hs40
    have h2 : ru = 2 := by simpa using h2
    subst h2
    simpa using hK w40 (E64.hst hs40)
   ·intro H35 w40 hs40
    have h3 : ru = 3 := by simpa using h3
    subst h3
    simpa [Sp.showsK] using hK w40 (E64.hst hs40)
   ·simp at h h2 h3; omega
 rw [if_neg hr] at hK
 by_cases h5 : ru = 5
 ·-- it is made
  subst h5
  rw [if_neg (by decide), if_neg (by decide), if_pos rfl] at hK
  rw [named_make nk]
  have hbad : ∀ w, Pure w0 w → (Sp.ahead i va = false ∨ (nk ≠ 5 ∧ Sp.ahead i vb = false) ∨ (nk = 5 ∧ vb ≠ 0)) → K false w := by
   intro w E hh
   have hKw := hK w E
   by_cases k4 : nk = 4
   ·rw [if_pos k4] at hKw
    rcases hh with h | ⟨_, h⟩ | ⟨h, _⟩
    ·simpa [h] using hKw
    ·simpa [h] using hKw
    ·omega
   ·rw [if_neg k4] at hKw
    by_cases k5 : nk = 5
    ·rw [if_pos k5] at hKw
     rcases hh with h | ⟨h, _⟩ | ⟨_, h⟩
     ·simpa [h] using hKw
     ·exact absurd k5 h
     ·have : (vb == 0) = false := by simpa using h
      simpa [this] using hKw
    ·rw [if_neg k5] at hKw
     split at hKw
     ·rcases hh with h | ⟨_, h⟩ | ⟨h, _⟩
      ·simpa [h] using hKw
      ·simpa [h] using hKw
      ·exact absurd h k5
     ·exact hKw
  refine ⟨fun hy => ?_, fun hy => Br.t rfl ?_⟩
  ·intro H17 w21 hs21
   refine hbad w21 (E03.hst hs21) ?_
   simp only [Bool.true_and, Bool.not_true, Bool.false_and, Bool.or_false, Bool.or_eq_true, Bool.and_eq_true, decide_eq_true_eq, bne_iff_ne, ne_eq, Bool.not_eq_true', bne_eq_false_iff_eq] at hy
   rcases hy with (h | ⟨h1, h2⟩) | ⟨h1, h2⟩
   ·left; simp [Sp.ahead]; omega
   ·right; left; exact ⟨h1, by simp [Sp.ahead]; omega⟩
   ·right; right; exact ⟨h1, h2⟩
  ·simp only [Bool.true_and, Bool.not_true, Bool.false_and, Bool.or_false, Bool.or_eq_false_iff, Bool.and_eq_false_imp, decide_eq_false_iff_not, bne_iff_ne, ne_eq, bne_eq_false_iff_eq, Bool.not_eq_true'] at hy
   obtain ⟨⟨⟨q1, q2⟩, q3⟩, q4⟩ := hy
   have hA : 0 ≤ va ∧ va < i := by omega
   have hahd : Sp.ahead i va = true := ahead_iff.2 hA
   rw [hahd] at hK
   simp only [Bool.true_and] at hK
   obtain ⟨a7, at7, x, hx, c7⟩ := getS va hA.1 hA.2
   rw [hx] at hK
   refine ⟨a7, at7, ?_⟩
   intro H33 w37 hs37
   have E37 := E03.hst hs37
   refine ⟨x, c7 w37 E37, ?_⟩
   refine (c_Node p x w37 (hP.pure E37) hok).mono ?_
   rintro _ w63 ⟨xk, xf, xt, xu, xx, xa, xb, _, rfl, ⟨hxn, _⟩, E63⟩
   refine ⟨_, _, _, _, _, _, _, _, rfl, E63.keptP, ?_⟩
   intro w64 hs64
   have E64 := (E37.trans E63).hst hs64
   unfold m_L_j1
   rw [named_make nk]
   have J2 : ∀ (H : NP) (w : World) (yk yf yt yu : Int) (yx : ByteArray) (ya yb : Int), Pure w0 w → Hst w0 H w H w → (nk ≠ 5 → 0 ≤ vb ∧ vb < i ∧ (⟨yk, yf, yt, yu, yx, ya, yb⟩ : Sp.Node) = Sp.nodeOf L (Sp.tAt (l.take i) vb)) → (nk = 5 → vb = 0) →
     m_L_j2 sg sl 5 va vb vt nk nf nt na nb xk xa xb yk yf yt yu yx ya yb w0 H w K := by
    intro H w yk yf yt yu yx ya yb E hsw hy1 hy2
    unfold m_L_j2
    refine Br.f rfl (Br.f rfl (Br.f rfl (Br.f rfl (Br.f rfl (Br.t rfl ⟨fun k4 => ?_, fun k4 => ⟨fun k5 => ?_, fun k5 => ?_⟩⟩)))))
    ·have k4 : nk = 4 := by simpa using k4
     obtain ⟨b0, bi, _⟩ := hy1 (by omega)
     obtain ⟨a4, at4, z, hz, c4⟩ := getS vb b0 bi
     rw [if_pos k4, ahead_iff.2 ⟨b0, bi⟩, hz] at hK
     refine ⟨a7, at7, ?_⟩
     intro w58 hs58
     have E58 := E.hst hs58
     refine ⟨x, c7 w58 E58, fun h => ⟨a4, at4, z, c4 w58 E58, ?_⟩, fun h => ?_⟩
     ·have h : (x == na) = true := h
      simpa [h] using hK w58 E58
     ·have h : (x == na) = false := h
      simpa [h] using hK w58 E58
    ·have k4 : ¬ nk = 4 := by simpa using k4
     have k5 : nk = 5 := by simpa using k5
     rw [if_neg k4, if_pos k5, hy2 k5] at hK
     refine ⟨a7, at7, ?_⟩
     intro w59 hs59
     have E59 := E.hst hs59
     refine ⟨x, c7 w59 E59, ?_⟩
     simpa using hK w59 E59
    ·have k4 : ¬ nk = 4 := by simpa using k4
     have k5 : ¬ nk = 5 := by simpa using k5
     obtain ⟨b0, bi, hyn⟩ := hy1 k5
     rw [if_neg k4, if_neg k5, ahead_iff.2 ⟨b0, bi⟩, ← hyn] at hK
     have J3 : ∀ (who : Int) (H : NP) (w : World), Pure w0 w → Hst w0 H w H w → Sp.showsK nk = true → who = Sp.whoOf (Sp.nodeOf L vt) → m_L_j3 sl va na yk yf who w0 H w K := by
      intro who H w E hsw h7 hw
      rw [if_pos h7, ← hw] at hK
      unfold m_L_j3
      refine ⟨a7, at7, ?_⟩
      intro w57 hs57
      have E57 := E.hst hs57
      refine ⟨x, c7 w57 E57, fun h => ⟨fun h6 => ?_, fun h6 => ?_⟩, fun h => ?_⟩
      ·have h : (x == na) = true := h
       have h6 : (yk == 6) = true := h6
       simpa [h, h6] using hK w57 E57
      ·have h : (x == na) = true := h
       have h6 : (yk == 6) = false := h6
       simpa [h, h6] using hK w57 E57
      ·have h : (x == na) = false := h
       simpa [h] using hK w57 E57
     refine ⟨fun k9 => ?_, fun k9 => ⟨fun k7 => ?_, fun k7 => ?_⟩⟩
     ·have k9 : nk = 9 := by simpa using k9
      exact J3 nt H w E hsw (by rw [k9]; rfl) (by unfold Sp.whoOf; rw [hk1, if_pos k9, hto])
     ·have k9 : ¬ nk = 9 := by simpa using k9
      have k7 : Sp.showsK nk = true := by
       unfold Sp.showsK; cases h7 : (nk == 7) <;> cases h8 : (nk == 8) <;> simp_all
      intro H52 w60 hs60
      exact J3 nf H52 w60 (E.hst hs60) hs60.here k7 (by unfold Sp.whoOf; rw [hk1, if_neg k9, hfr])
     ·have k9 : ¬ nk = 9 := by simpa using k9
      have k7 : Sp.showsK nk = false := by
       unfold Sp.showsK; cases h7 : (nk == 7) <;> cases h8 : (nk == 8) <;> simp_all
      intro H52 w60 hs60
      rw [if_neg (by simp [k7])] at hK
      exact hK w60 (E.hst hs60)
   have hs64' := hs64.here
   refine ⟨fun h => ?_, fun h => ?_⟩
   ·have k5 : nk ≠ 5 := by simpa using h
    have hB : 0 ≤ vb ∧ vb < i := by have := q3 k5; omega
    obtain ⟨a6, at6, z, hz, c6⟩ := getS vb hB.1 hB.2
    refine ⟨a6, at6, z, c6 w64 E64, ?_⟩
    refine (c_Node p z w64 (hP.pure E64) hok).mono ?_
    rintro _ w61 ⟨yk, yf, yt, yu, yx, ya, yb, _, rfl, ⟨hyn, _⟩, E61⟩
    refine ⟨_, _, _, _, _, _, _, _, rfl, E61.keptP, ?_⟩
    intro w62 hs62
    exact J2 _ w62 _ _ _ _ _ _ _ ((E64.trans E61).hst hs62) hs62.here (fun _ => ⟨hB.1, hB.2, by rw [hz]; exact hyn⟩) (fun h => absurd h k5)
   ·have k5 : nk = 5 := by simpa using h
    exact J2 _ w64 _ _ _ _ _ _ _ E64 hs64' (fun h => absurd k5 h) (fun _ => q4 k5)
 rw [if_neg h5] at hK
 rw [named_none nk hr h5]
 refine ⟨fun hy => ?_, fun hy => Br.f rfl ?_⟩
 ·intro H17 w21 hs21
  have hz : (va == 0 && vb == 0) = false := by
   cases h1 : (va == 0) <;> cases h2 : (vb == 0) <;> simp_all
  have := hK w21 (E03.hst hs21)
  rw [hz] at this
  simpa using this
 ·have hz : va = 0 ∧ vb = 0 := by simp at hy; omega
  rw [hz.1, hz.2] at hK
  intro H33 w37 hs37
  have E37 := E03.hst hs37
  unfold m_L_j1
  rw [named_none nk hr h5]
  refine Br.f rfl ?_
  unfold m_L_j2
  refine ⟨fun h0 => ?_, fun h0 => Br.f (by simpa using fun e => hr (.inl e)) (Br.f (by simpa using fun e => hr (.inr (.inl e))) (Br.f (by simpa using fun e => hr (.inr (.inr e))) ⟨fun h4 => ?_, fun h4 => Br.f (by simpa using h5) ?_⟩))⟩
  ·have h0 : ru = 0 := by simpa using h0
   rw [if_pos h0] at hK
   refine (c_slContains sg G vt w37 (hg.pure E37) hG).mono ?_
   rintro _ w38 ⟨r2, rfl, rfl, rfl⟩
   exact ⟨_, rfl, Kept.refl _, by simpa using hK w38 E37⟩
  ·have h0 : ¬ ru = 0 := by simpa using h0
   have h4 : ru = 4 := by simpa using h4
   rw [if_neg h0, if_pos h4] at hK
   intro H49 w54 hs54
   simpa [Sp.freeK] using hK w54 (E37.hst hs54)
  ·have h0 : ¬ ru = 0 := by simpa using h0
   have h4 : ¬ ru = 4 := by simpa using h4
   rw [if_neg h0, if_neg h4] at hK
   exact hK w37 E37
theorem bad_step {L : Sp.Pool} {G : List Int} {l : List Sp.Step} {j n : Nat} (hj : j < l.length) : Sp.badAt L G l (n + 1) j = if Sp.fol L G (l.take j) l[j] = true then Sp.badAt L G l n (j + 1) else some j := by
 rw [Sp.badAt, List.getElem?_eq_getElem hj]
theorem bad_end {L : Sp.Pool} {G : List Int} {l : List Sp.Step} {j n : Nat} (hj : l.length ≤ j) : Sp.badAt L G l n j = none := by
 cases n with
 | zero => rfl
 | succ n => rw [Sp.badAt, List.getElem?_eq_none hj]
theorem c_ded_Check {Sg Ss : NP} (p : Addr) (sg sl : Sl) (G : List Int) (l : List Sp.Step) (goal : Int) (w0 : World) {L : Sp.Pool} {FP : NP} (hP : PoolAt w0 p L FP) (hok : Sp.Ok L) (hg : Lst Sg w0 1 sg (tmr G)) (hs : Lst Ss w0 4 sl (l.map strow)) (hG : G.length ≤ 1000000) (hl : l.length ≤ 1000000) :
  Calls Tryz.prog 52 #[.pointer (some p), sg.v, sl.v, .int .i64 goal] w0 (fun e w' => ∃ r1 : Int, ∃ r2 : Int, e = .returned (.tuple #[.int .i64 r1, .int .i64 r2]) ∧ ((r1, r2) = Sp.check8 L G l goal ∧ Pure w0 w')) := by
 suffices key : ∀ K : Int → Int → WP, (∀ r1 r2 w', (r1, r2) = Sp.check8 L G l goal → Pure w0 w' → K r1 r2 w') → m_B1 (some p) sg sl goal w0 K from
  w_B1 _ _ _ _ w0 _ (key _ (fun r1 r2 w' h E => ⟨h, E⟩))
 intro K hK
 unfold m_B1
 have hsl : sl.len = l.length := by rw [hs.len]; simp
 refine Br.f rfl ⟨fun i w => ∃ j : Nat, i = j ∧ j ≤ l.length ∧ Pure w0 w ∧ Sp.badAt L G l l.length 0 = Sp.badAt L G l (l.length - j) j, fun i _ => ((l.length : Int) - i).toNat, ⟨0, rfl, Nat.zero_le _, Ext.refl _, by simp⟩, ?_⟩
 rintro _ wl ⟨j, rfl, hj, E, hb⟩
 unfold m_B1_l1
 refine ⟨fun h => ?_, fun h => ?_⟩
 ·have hlt := lt_of_dec hsl h
  refine (c_ded_follows p sg sl G l j wl hlt (hP.pure E) hok (hg.pure E) (hs.pure E) hG).mono ?_
  rintro _ w1 ⟨r, rfl, rfl, E1⟩
  have hn : l.length - j = (l.length - (j + 1)) + 1 := by omega
  rw [hn, bad_step hlt] at hb
  refine ⟨_, rfl, fun hc => ?_, fun hc => ?_⟩
  ·have hf : Sp.fol L G (l.take j) l[j] = false := by simpa using hc
   rw [if_neg (by simp [hf])] at hb
   exact hK _ _ _ (by unfold Sp.check8; rw [hb]) (E.trans E1)
  ·have hf : Sp.fol L G (l.take j) l[j] = true := by simpa using hc
   rw [if_pos hf] at hb
   rw [wrap_succ hlt (by omega)]
   exact ⟨⟨j + 1, rfl, hlt, E.trans E1, hb⟩, lt_dec hlt⟩
 ·have hge := eq_of_dec hsl hj h
  subst hge
  rw [bad_end (Nat.le_refl _)] at hb
  have hch : Sp.check8 L G l goal = if l.length = 0 ∨ Sp.tAt l ((l.length : Int) - 1) ≠ goal then (81, (l.length : Int)) else (0, 0) := by unfold Sp.check8; rw [hb]
  rw [hsl]
  refine ⟨fun h0 => ?_, fun h0 => ?_⟩
  ·have h0 : l.length = 0 := by simpa using h0
   exact hK _ _ _ (by rw [hch, if_pos (.inl h0)]) E
  ·have h0 : l.length ≠ 0 := by simpa using h0
   rw [IntWalk.i64_in _ (by omega)]
   obtain ⟨a, hat, _, hrow⟩ := st_nth hs (v := (l.length : Int) - 1) (by omega) (by omega)
   have e : ((l.length : Int) - 1) = ((l.length - 1 : Nat) : Int) := by omega
   have ht : Sp.tAt l ((l.length : Int) - 1) = (l[((l.length : Int) - 1).toNat]'(by omega)).t := by
    simp only [e, Int.toNat_natCast]
    exact Sp.tAt_of (by omega)
   refine ⟨a, hat, _, ((E.row hrow (fun h => h)) 3 (by simp [strow])).trans rfl, fun h => ?_, fun h => ?_⟩
   ·have h : Sp.tAt l ((l.length : Int) - 1) ≠ goal := by rw [ht]; simpa using h
    exact hK _ _ _ (by rw [hch, if_pos (.inr h)]) E
   ·have h : Sp.tAt l ((l.length : Int) - 1) = goal := by rw [ht]; simpa using h
    exact hK _ _ _ (by rw [hch, if_neg (by simp [h0, h])]) E
end Go.Proofs
end
section
open Go Go.SE
open Go.IntKind renaming i64 → q6
namespace Go.Proofs
set_option maxRecDepth 100000
set_option maxHeartbeats 4000000
attribute [local irreducible] wpL wpX opE wpE Calls
def m_C3 (p1 : Option Addr) (t1 : Int) (w0 : World) (K : Bool → WP) : Prop :=
 Br (decide (t1 ≥ 1))
  (∃ a1 : Addr, p1 = some a1 ∧
  ∃ v1 : Sl, w0.cell? a1 = some v1.v ∧
  K (decide (t1 ≤ (v1.len : Int))) w0)
  (K false w0)
theorem w_C3 (p1 : Option Addr) (t1 : Int) (w0 : World) (K : Bool → WP) (h : m_C3 p1 t1 w0 K) :
  Calls Tryz.prog 60 #[(vp p1), (vi t1)] w0 (fun e w' => ∃ r1 : Bool, e = .returned (vb r1) ∧ K r1 w') := by
 unfold m_C3 at h
 refine cw (args := [(vp p1), (vi t1)]) Tryz.func60 Tryz.ntmps60 (wpE_seq (rg (q0 (vb false) (wpL_nil (th_n (wpE_seq (rg (q0 (vi t1) (q0 (vb (decide (t1 ≥ 1))) (q0 (vb (decide (t1 ≥ 1))) ?_))))))))))
 rcases Bool.eq_false_or_eq_true (decide (t1 ≥ 1)) with hg1 | hg1
 ·have h := h.1 hg1
  refine q1 (vi t1) (want1 rfl (yD 7 hg1)) (q1 (vp p1) (want1 rfl (yD 7 hg1)) ?_)
  obtain ⟨a1, hp1, h⟩ := h
  refine stp (v := (vp (some a1))) (want1 rfl (yD 7 hg1)) (x_nilCheck (p := p1) (by kernel_rfl) hp1) (q1 (vp (some a1)) (want1 rfl (yD 7 hg1)) ?_)
  obtain ⟨v1, hv1, h⟩ := h
  refine stp (v := v1.v) (want1 rfl (yD 7 hg1)) (xl (Tryz.isAgg42 _) hv1) (q1 (vi (v1.len : Int)) (want1 rfl (yD 7 hg1)) (q1 (vb (decide (t1 ≤ (v1.len : Int)))) (want1 rfl (yD 7 hg1)) (q2 (vb (decide (t1 ≤ (v1.len : Int)))) (xT hg1) (q0 (vb (decide (t1 ≤ (v1.len : Int)))) (wpL_nil (th_n (wpE_ret (rs1 Tryz.results60 (v := (vb (decide (t1 ≤ (v1.len : Int))))) ?_))))))))
  exact ⟨(decide (t1 ≤ (v1.len : Int))), rfl, h⟩
 ·have h := h.2 hg1
  refine sk (yD 7 hg1) (sk (yD 7 hg1) (sk (yD 7 hg1) (sk (yD 7 hg1) (sk (yD 7 hg1) (sk (yD 7 hg1) (sk (yD 7 hg1) (q2 (vb false) (xF hg1) (q0 (vb false) (wpL_nil (th_n (wpE_ret ?_)))))))))))
  refine rs1 Tryz.results60 (v := (vb false)) ?_
  exact ⟨false, rfl, h⟩
def m_D3 (p1 : Option Addr) (t1 : Int) (w0 : World) (K : Int → Int → Int → Int → ByteArray → Int → Int → Bool → WP) : Prop :=
 ∀ (H1 : NP) (w1 : World), Hst w0 None w0 H1 w1 →
 Calls Tryz.prog 60 #[(vp p1), (vi t1)] w1 (fun e w2 => ∃ r1 : Bool, e = .returned (vb r1) ∧ 
  Kept H1 w1 w2 ∧
  Br (!r1)
   (∀ (w3 : World), Hst w0 H1 w2 H1 w3 →
   K 0 0 0 0 ⟨#[]⟩ 0 0 false w3)
   (∃ a1 : Addr, p1 = some a1 ∧
   ∃ v1 : Sl, w2.cell? a1 = some v1.v ∧
   ∃ a2 : Addr, At v1 (q6.wrap (t1 - 1)) 7 a2 ∧
   ∃ aN aO : Int, ∃ aP aQ : Int, ∃ aR : ByteArray, ∃ bG bH : Int, Row w2 a2 [(vi aN), (vi aO), (vi aP), (vu aQ), (vs aR), (vi bG), (vi bH)] ∧
   ∀ (w4 : World), Hst w0 H1 w2 H1 w4 →
   K aN aO aP aQ aR bG bH true w4))
theorem w_D3 (p1 : Option Addr) (t1 : Int) (w0 : World) (K : Int → Int → Int → Int → ByteArray → Int → Int → Bool → WP) (h : m_D3 p1 t1 w0 K) :
  Calls Tryz.prog 45 #[(vp p1), (vi t1)] w0 (fun e w' => ∃ bN bO : Int, ∃ bP bQ : Int, ∃ bR : ByteArray, ∃ bZ cA : Int, ∃ r2 : Bool, e = .returned (.tuple #[(.agg #[(vi bN), (vi bO), (vi bP), (vu bQ), (vs bR), (vi bZ), (vi cA)]), (vb r2)]) ∧ K bN bO bP bQ bR bZ cA r2 w') := by
 unfold m_D3 at h
 refine cw (args := [(vp p1), (vi t1)]) Tryz.func45 Tryz.ntmps45 ?_
 have hs := Hst.start w0
 have hb := HB.nil None w0
 refine wpE_seq (rg (sn (O := (.cells #[(vi 0), (vi 0), (vi 0), (vu 0), (vs ⟨#[]⟩), (vi 0), (vi 0)] 86)) (x_alloc (Tryz.zeroValue86 _) rfl) ?_))
 intro p2 w1 hn1
 obtain ⟨H1, hs, hb⟩ := hs.alloc hb hn1
 refine q0 (vb false) (wpL_nil (th_n (wpE_seq (wpE_seq (rg (q0 (vp p1) (q0 (vi t1) ?_)))))))
 have h := h H1 w1 hs
 have hs := hs.here
 refine sc Tryz.call60 (h.mono ?_)
 rintro e w2 ⟨r1, rfl, hk, h⟩
 refine ⟨_, rfl, ?_⟩
 obtain ⟨hs, hb⟩ := hk.hh hs hb
 refine q0 (vb (!r1)) (wpL_nil (th_n ?_))
 refine wpE_cond (t := (!r1)) (by kernel_rfl) (fun hc1 => ?_) (fun hc1 => ?_)
 ·have h := h.1 hc1
  refine wpE_seq (rg (q0 (.agg #[(vi 0), (vi 0), (vi 0), (vu 0), (vs ⟨#[]⟩), (vi 0), (vi 0)]) (st_set (want0 rfl) (x_storeA (a := p2) (vs := [(vi 0), (vi 0), (vi 0), (vu 0), (vs ⟨#[]⟩), (vi 0), (vi 0)]) (by kernel_rfl) (by kernel_rfl) rfl (Tryz.sizeOf86 _) rfl (hb.canWs0 0 7 gZ (by kernel_rfl))) ?_)))
  intro w3 hn2
  have hsb : Hst w0 H1 w2 H1 w3 ∧ HB H1 w3 [(p2, [(vi 0), (vi 0), (vi 0), (vu 0), (vs ⟨#[]⟩), (vi 0), (vi 0)], 86)] := by
   rw [hn2]
   exact hb.store0 (i := 0) (vs := [(vi 0), (vi 0), (vi 0), (vu 0), (vs ⟨#[]⟩), (vi 0), (vi 0)]) hs gZ (by kernel_rfl) (by kernel_rfl)
  obtain ⟨hs, hb⟩ := hsb
  refine q0 (vb false) (wpL_nil (th_n (wpE_ret (th_r ?_))))
  have h := h w3 hs
  have hs := hs.here
  refine resG (.inl rfl) (vs := [(.agg #[(vi 0), (vi 0), (vi 0), (vu 0), (vs ⟨#[]⟩), (vi 0), (vi 0)]), (vb false)]) (v := (.tuple #[(.agg #[(vi 0), (vi 0), (vi 0), (vu 0), (vs ⟨#[]⟩), (vi 0), (vi 0)]), (vb false)])) Tryz.results45 ⟨(RV.cellA (by kernel_rfl) (Tryz.isAgg86 _) (Tryz.sizeOf86 _) rfl (hb.row0 0 7 gZ (by kernel_rfl))), (rvT (by kernel_rfl)), trivial⟩ (by kernel_rfl) ?_
  exact ⟨0, 0, 0, 0, ⟨#[]⟩, 0, 0, false, rfl, h⟩
 ·have h := h.2 hc1
  refine wpE_skip (th_n (wpE_seq (rg (q0 (vp p1) ?_))))
  obtain ⟨a1, hp1, h⟩ := h
  refine q2 (vp (some a1)) (x_nilCheck (p := p1) (by kernel_rfl) hp1) (q0 (vp (some a1)) ?_)
  obtain ⟨v1, hv3, h⟩ := h
  refine q2 v1.v (xl (Tryz.isAgg42 _) hv3) (q0 (vi t1) (q0 (vi (q6.wrap (t1 - 1))) ?_))
  obtain ⟨a2, hv2, h⟩ := h
  refine q2 (vp (some a2)) (xi (Tryz.runUnderlying42 _) (Tryz.sizeOf86 _) hv2) ?_
  obtain ⟨aN, aO, aP, aQ, aR, bG, bH, hv1, h⟩ := h
  refine q2 (.agg #[(vi aN), (vi aO), (vi aP), (vu aQ), (vs aR), (vi bG), (vi bH)]) (x_loadA (a := a2) (vs := [(vi aN), (vi aO), (vi aP), (vu aQ), (vs aR), (vi bG), (vi bH)]) (by kernel_rfl) (Tryz.isAgg86 _) (Tryz.sizeOf86 _) rfl hv1) (st_set (want0 rfl) (x_storeA (a := p2) (vs := [(vi aN), (vi aO), (vi aP), (vu aQ), (vs aR), (vi bG), (vi bH)]) (by kernel_rfl) (by kernel_rfl) rfl (Tryz.sizeOf86 _) rfl (hb.canWs0 0 7 gZ (by kernel_rfl))) ?_)
  intro w4 hn3
  have hsb : Hst w0 H1 w2 H1 w4 ∧ HB H1 w4 [(p2, [(vi aN), (vi aO), (vi aP), (vu aQ), (vs aR), (vi bG), (vi bH)], 86)] := by
   rw [hn3]
   exact hb.store0 (i := 0) (vs := [(vi aN), (vi aO), (vi aP), (vu aQ), (vs aR), (vi bG), (vi bH)]) hs gZ (by kernel_rfl) (by kernel_rfl)
  obtain ⟨hs, hb⟩ := hsb
  refine q0 (vb true) (wpL_nil (th_n (wpE_ret ?_)))
  have h := h w4 hs
  have hs := hs.here
  refine resG (.inl rfl) (vs := [(.agg #[(vi aN), (vi aO), (vi aP), (vu aQ), (vs aR), (vi bG), (vi bH)]), (vb true)]) (v := (.tuple #[(.agg #[(vi aN), (vi aO), (vi aP), (vu aQ), (vs aR), (vi bG), (vi bH)]), (vb true)])) Tryz.results45 ⟨(RV.cellA (by kernel_rfl) (Tryz.isAgg86 _) (Tryz.sizeOf86 _) rfl (hb.row0 0 7 gZ (by kernel_rfl))), (rvT (by kernel_rfl)), trivial⟩ (by kernel_rfl) ?_
  exact ⟨aN, aO, aP, aQ, aR, bG, bH, true, rfl, h⟩
def s_C (kind1 : Int) : Int :=
 (cond (kind1 == 4) 2 (cond (cond (kind1 == 5) (kind1 == 5) (cond (kind1 == 7) (kind1 == 7) (cond (kind1 == 8) (kind1 == 8) (kind1 == 9)))) 1 0))
theorem pw_C (kind1 : Int) (w0 : World) :
  Calls Tryz.prog 46 #[(vi kind1)] w0 (fun e w' => ∃ b'0 b'1 : Bool, ((kind1 == 4) = b'0 ∧ (cond (kind1 == 5) (kind1 == 5) (cond (kind1 == 7) (kind1 == 7) (cond (kind1 == 8) (kind1 == 8) (kind1 == 9)))) = b'1) ∧ (e = .returned (vi (cond b'0 2 (cond b'1 1 0)))) ∧ Pure w0 w') := by
 refine cw (args := [(vi kind1)]) Tryz.func46 Tryz.ntmps46 (wpE_seq (rg (q0 (vi 0) (wpL_nil (th_n (wpE_seq (wpE_seq (rg (q0 (vi kind1) (wpL_nil (th_n ?_)))))))))))
 refine wpE_block (wpE_seq (rg (q0 (vb (kind1 == 4)) (q0 (vb (kind1 == 4)) (wpL_nil (th_n ?_))))))
 refine wpE_cond (t := (kind1 == 4)) (by kernel_rfl) (fun hc1 => ?_) (fun hc1 => ?_)
 ·refine wpE_seq (rg (q0 (vi 2) (wpL_nil (th_n (wpE_ret (bl_r (th_r (rs1 Tryz.results46 (v := (vi 2)) ?_))))))))
  exact ⟨true, _, ⟨hc1, rfl⟩, by kernel_rfl, Ext.refl _⟩
 ·refine wpE_seq (wpE_seq (rg (q0 (vb (kind1 == 5)) (q0 (vb (kind1 == 5)) (wpL_nil (th_n ?_))))))
  refine wpE_via (fun ρ wJ => ∃ b1'0 b1'1 b1'2 : Bool, ((kind1 == 5) = b1'0) ∧ ((kind1 == 7) = b1'1) ∧ ((kind1 == 8) = b1'2) ∧ w0 = wJ ∧ Has ρ [(6, (vb (cond b1'0 (kind1 == 5) (cond b1'1 (kind1 == 7) (cond b1'2 (kind1 == 8) (kind1 == 9))))))]) ?_ ?_
  ·refine wpE_cond (t := (kind1 == 5)) (by kernel_rfl) (fun hc5 => ?_) (fun hc5 => ?_)
   ·refine wpE_skip (th_n ?_)
    exact ⟨true, _, _, hc5, rfl, rfl, rfl, hm⟩
   ·refine wpE_seq (rg (q0 (vb (kind1 == 7)) (q0 (vb (kind1 == 7)) (wpL_nil (th_n ?_)))))
    refine wpE_cond (t := (kind1 == 7)) (by kernel_rfl) (fun hc6 => ?_) (fun hc6 => ?_)
    ·refine wpE_skip (th_n ?_)
     exact ⟨false, true, _, hc5, hc6, rfl, rfl, hm⟩
    ·refine wpE_seq (rg (q0 (vb (kind1 == 8)) (q0 (vb (kind1 == 8)) (wpL_nil (th_n ?_)))))
     refine wpE_cond (t := (kind1 == 8)) (by kernel_rfl) (fun hc7 => ?_) (fun hc7 => ?_)
     ·refine wpE_skip (th_n ?_)
      exact ⟨false, false, true, hc5, hc6, hc7, rfl, hm⟩
     ·refine rg (q0 (vb (kind1 == 9)) (q0 (vb (kind1 == 9)) (wpL_nil (th_n ?_))))
      exact ⟨false, false, false, hc5, hc6, hc7, rfl, hm⟩
  ·rintro ρ w1 ⟨b1'0, b1'1, b1'2, he0, he1, he2, hw, hH⟩
   subst he0
   subst he1
   subst he2
   subst hw
   refine norm_has hH ?_
   refine th_n ?_
   refine wpE_cond (t := (cond (kind1 == 5) (kind1 == 5) (cond (kind1 == 7) (kind1 == 7) (cond (kind1 == 8) (kind1 == 8) (kind1 == 9))))) (by kernel_rfl) (fun hc8 => ?_) (fun hc8 => ?_)
   ·refine wpE_seq (rg (q0 (vi 1) (wpL_nil (th_n (wpE_ret (bl_r (th_r (rs1 Tryz.results46 (v := (vi 1)) ?_))))))))
    exact ⟨false, true, ⟨hc1, hc8⟩, by kernel_rfl, Ext.refl _⟩
   ·refine wpE_skip (bl_n (th_n (wpE_seq (rg (q0 (vi 0) (wpL_nil (th_n (wpE_ret (rs1 Tryz.results46 (v := (vi 0)) ?_)))))))))
    exact ⟨false, false, ⟨hc1, hc8⟩, by kernel_rfl, Ext.refl _⟩
theorem p_C (kind1 : Int) (w0 : World) : Calls Tryz.prog 46 #[(.int .i64 kind1)] w0 (fun e w' => e = .returned (.int .i64 (s_C kind1)) ∧ Pure w0 w') := by
 refine (pw_C kind1 w0).mono ?_
 rintro e w' ⟨b'0, b'1, ⟨e0, e1⟩, h, E⟩
 subst e0
 subst e1
 exact ⟨h, E⟩
def m_G1_l1 (aE : Sl) (most1 n1 i1 : Int) (w0 : World) (Hl1 : NP) (wl1 : World) (Kc1 : Int → Int → NP → WP) (K : Int → WP) : Prop :=
 Br ((decide (i1 < (aE.len : Int))) && (decide (n1 ≤ most1)))
  (∃ a1 : Addr, At aE i1 6 a1 ∧
  ∀ (H2 : NP) (w2 : World), Hst w0 Hl1 wl1 H2 w2 →
  ∃ aN aO : Int, ∃ aP aQ : Int, ∃ aR : ByteArray, ∃ aX : Sl, Row w2 a1 [(vi aN), (vi aO), (vi aP), (vu aQ), (vs aR), aX.v] ∧
  Calls Tryz.prog 26 #[(.agg #[(vi aN), (vi aO), (vi aP), (vu aQ), (vs aR), aX.v]), (vi (q6.wrap (most1 - n1)))] w2 (fun e w3 => ∃ r1 : Int, e = .returned (vi r1) ∧ 
   Kept H2 w2 w3 ∧
   Kc1 (q6.wrap (n1 + r1)) (q6.wrap (i1 + 1)) H2 w3))
  (∀ (H2 : NP) (w2 : World), Hst w0 Hl1 wl1 H2 w2 →
  K n1 w2)
def m_G1 (aD aG : Int) (aH aI : Int) (aJ : ByteArray) (aE : Sl) (most1 : Int) (w0 : World) (K : Int → WP) : Prop :=
 ∀ (H1 : NP) (w1 : World), Hst w0 None w0 H1 w1 →
 ∃ (I1 : Int → Int → NP → WP) (mu1 : Int → Int → World → Nat), I1 1 0 H1 w1 ∧
  ∀ (n1 i1 : Int) (Hl1 : NP) (wl1 : World), Hst w0 Hl1 wl1 Hl1 wl1 → I1 n1 i1 Hl1 wl1 → m_G1_l1 aE most1 n1 i1 w0 Hl1 wl1 (fun y'0 y'1 H' w' => I1 y'0 y'1 H' w' ∧ mu1 y'0 y'1 w' < mu1 n1 i1 wl1) K
theorem w_G1 (aD aG : Int) (aH aI : Int) (aJ : ByteArray) (aE : Sl) (most1 : Int) (w0 : World) (K : Int → WP) (h : m_G1 aD aG aH aI aJ aE most1 w0 K) :
  Calls Tryz.prog 26 #[(.agg #[(vi aD), (vi aG), (vi aH), (vu aI), (vs aJ), aE.v]), (vi most1)] w0 (fun e w' => ∃ r2 : Int, e = .returned (vi r2) ∧ K r2 w') := by
 unfold m_G1 at h
 refine cw (args := [(.agg #[(vi aD), (vi aG), (vi aH), (vu aI), (vs aJ), aE.v]), (vi most1)]) Tryz.func26 Tryz.ntmps26 ?_
 have hs := Hst.start w0
 have hb := HB.nil None w0
 refine wpE_seq (rg (sn (O := (.cells #[(vi aD), (vi aG), (vi aH), (vu aI), (vs aJ), aE.v] 49)) xb ?_))
 intro p1 w1 hn1
 obtain ⟨H1, hs, hb⟩ := hs.alloc hb hn1
 refine q0 (vi 0) (wpL_nil (th_n (wpE_seq (rg (q0 (vi 1) (wpL_nil (th_n (wpE_seq (wpE_seq (rg (q0 (vi 0) ?_)))))))))))
 refine wpL_nil (th_n (wpE_block ?_))
 have h := h H1 w1 hs
 have hs := hs.here
 obtain ⟨I1, mu1, h0, hr⟩ := h
 refine wpE_loop (σ := Int × Int × NP × World) (fun s ρ w => w = s.2.2.2 ∧ Has ρ [(1, (vi most1)), (2, (vp (some p1))), (5, (vi s.1)), (6, (vi s.2.1))] ∧ Hst w0 s.2.2.1 w s.2.2.1 w ∧ HB s.2.2.1 w [(p1, [(vi aD), (vi aG), (vi aH), (vu aI), (vs aJ), aE.v], 49)] ∧ I1 s.1 s.2.1 s.2.2.1 s.2.2.2) (fun s => mu1 s.1 s.2.1 s.2.2.2) (1, 0, H1, w1) ⟨rfl, hm, hs, hb, h0⟩ ?_
 rintro ⟨n1, i1, Hl1, wl1⟩ ρ w ⟨hw, hH, hs, hb, hI⟩
 obtain rfl : wl1 = w := (show w = wl1 from hw).symm
 have hH : Has ρ [(1, (vi most1)), (2, (vp (some p1))), (5, (vi n1)), (6, (vi i1))] := hH
 have hs : Hst w0 Hl1 wl1 Hl1 wl1 := hs
 have hb : HB Hl1 wl1 [(p1, [(vi aD), (vi aG), (vi aH), (vu aI), (vs aJ), aE.v], 49)] := hb
 have h := hr n1 i1 Hl1 wl1 hs hI
 unfold m_G1_l1 at h
 refine wpE_has hH ?_
 refine wpE_seq (wpE_seq ?_)
 refine wpE_via (fun ρ wJ => ∃ b1'0 : Bool, ∃ HJ : NP, ((decide (i1 < (aE.len : Int))) = b1'0) ∧ Hst w0 Hl1 wl1 HJ wJ ∧ HB HJ wJ [(p1, [(vi aD), (vi aG), (vi aH), (vu aI), (vs aJ), aE.v], 49)] ∧ Has ρ [(1, (vi most1)), (2, (vp (some p1))), (5, (vi n1)), (6, (vi i1)), (16, (vb (b1'0 && (decide (n1 ≤ most1)))))]) ?_ ?_
 ·refine rg (q0 (vi i1) (q0 (vp (some (p1.add 5))) (q2 aE.v (xl (Tryz.isAgg22 _) (hb.c 0 5 gZ)) (q0 (vi (aE.len : Int)) (q0 (vb (decide (i1 < (aE.len : Int)))) (q0 (vb (decide (i1 < (aE.len : Int)))) ?_))))))
  rcases Bool.eq_false_or_eq_true (decide (i1 < (aE.len : Int))) with hg2 | hg2
  ·refine q1 (vi n1) (want1 rfl (yD 12 hg2)) (q1 (vi most1) (want1 rfl (yD 12 hg2)) (q1 (vb (decide (n1 ≤ most1))) (want1 rfl (yD 12 hg2)) (q2 (vb (decide (n1 ≤ most1))) (xT hg2) (wpL_nil (th_n ?_)))))
   exact ⟨true, _, hg2, hs, hb, hm⟩
  ·refine sk (yD 12 hg2) (sk (yD 12 hg2) (sk (yD 12 hg2) (q2 (vb false) (xF hg2) (wpL_nil (th_n ?_)))))
   exact ⟨false, _, hg2, hs, hb, hm⟩
 ·rintro ρ w2 ⟨b1'0, H2, he0, hs, hb, hH⟩
  subst he0
  refine norm_has hH ?_
  refine th_n ?_
  refine wpE_cond (t := ((decide (i1 < (aE.len : Int))) && (decide (n1 ≤ most1)))) (by kernel_rfl) (fun hc1 => ?_) (fun hc1 => ?_)
  ·have h := h.1 hc1
   refine wpE_skip (th_n (wpE_seq (wpE_block (rg (q0 (vi n1) (q0 (vp (some (p1.add 5))) (q2 aE.v (xl (Tryz.isAgg22 _) (hb.c 0 5 gZ)) (q0 (vi i1) ?_))))))))
   obtain ⟨a1, hv2, h⟩ := h
   refine q2 (vp (some a1)) (xi (Tryz.runUnderlying22 _) (Tryz.sizeOf49 _) hv2) ?_
   have h := h H2 w2 hs
   have hs := hs.here
   obtain ⟨aN, aO, aP, aQ, aR, aX, hv1, h⟩ := h
   refine q2 (.agg #[(vi aN), (vi aO), (vi aP), (vu aQ), (vs aR), aX.v]) (x_loadA (a := a1) (vs := [(vi aN), (vi aO), (vi aP), (vu aQ), (vs aR), aX.v]) (by kernel_rfl) (Tryz.isAgg49 _) (Tryz.sizeOf49 _) rfl hv1) (q0 (vi most1) (q0 (vi n1) (q0 (vi (q6.wrap (most1 - n1))) ?_)))
   refine sc Tryz.call26 (h.mono ?_)
   rintro e w3 ⟨r1, rfl, hk, h⟩
   refine ⟨_, rfl, ?_⟩
   obtain ⟨hs, hb⟩ := hk.hh hs hb
   refine q0 (vi (q6.wrap (n1 + r1))) (q0 (vi (q6.wrap (n1 + r1))) (wpL_nil (bl_n (th_n (rg (q0 (vi i1) (q0 (vi (q6.wrap (i1 + 1))) (q0 (vi (q6.wrap (i1 + 1))) (wpL_nil (th_n ?_))))))))))
   exact ⟨((q6.wrap (n1 + r1)), (q6.wrap (i1 + 1)), H2, w3), ⟨rfl, hm, hs, hb, h.1⟩, h.2⟩
  ·have h := h.2 hc1
   refine wpE_exit (th_x (th_x (bl_eq (th_n (wpE_seq (rg (q0 (vi n1) (q0 (vi n1) (wpL_nil (th_n (wpE_ret ?_)))))))))))
   have h := h H2 w2 hs
   have hs := hs.here
   refine rs1 Tryz.results26 (v := (vi n1)) ?_
   exact ⟨n1, rfl, h⟩
def m_E3  (w0 : World) (K : (Option Addr) → WP) : Prop :=
 ∀ (p1 : Addr) (w1 : World), New w0 (.cells #[Sl.nil.v, Sl.nil.v, Sl.nil.v] 45) p1 w1 →
 K (some p1) w1
theorem w_E3  (w0 : World) (K : (Option Addr) → WP) (h : m_E3  w0 K) :
  Calls Tryz.prog 31 #[] w0 (fun e w' => ∃ r1 : Option Addr, e = .returned (vp r1) ∧ K r1 w') := by
 unfold m_E3 at h
 refine cw (args := []) Tryz.func31 Tryz.ntmps31 (wpE_seq (rg (q0 (vp none) (wpL_nil (th_n (wpE_seq (rg (q0 (.agg #[Sl.nil.v, Sl.nil.v, Sl.nil.v]) (sn (O := (.cells #[Sl.nil.v, Sl.nil.v, Sl.nil.v] 45)) xb ?_)))))))))
 intro p1 w1 hn1
 have h := h p1 w1 hn1
 refine q0 (vp (some p1)) (wpL_nil (th_n (wpE_ret (rs1 Tryz.results31 (v := (vp (some p1))) ?_))))
 exact ⟨(some p1), rfl, h⟩
def s_Z (aD aG : Int) (aH aI : Int) (aJ : ByteArray) (aE : Sl) : Int × Int × Int × Int × ByteArray × Int × Int :=
 (aD, aG, aH, aI, aJ, 0, 0)
theorem pw_Z (aD aG : Int) (aH aI : Int) (aJ : ByteArray) (aE : Sl) (w0 : World) :
  Calls Tryz.prog 107 #[(.agg #[(vi aD), (vi aG), (vi aH), (vu aI), (vs aJ), aE.v])] w0 (fun e w' => (e = .returned (.agg #[(vi aD), (vi aG), (vi aH), (vu aI), (vs aJ), (vi 0), (vi 0)])) ∧ Pure w0 w') := by
 refine cw (args := [(.agg #[(vi aD), (vi aG), (vi aH), (vu aI), (vs aJ), aE.v])]) Tryz.func107 Tryz.ntmps107 ?_
 have hs := Hst.start w0
 have hb := HB.nil None w0
 refine wpE_seq (rg (sn (O := (.cells #[(vi aD), (vi aG), (vi aH), (vu aI), (vs aJ), aE.v] 49)) xb ?_))
 intro p1 w1 hn1
 obtain ⟨H1, hs, hb⟩ := hs.alloc hb hn1
 refine sn (O := (.cells #[(vi 0), (vi 0), (vi 0), (vu 0), (vs ⟨#[]⟩), (vi 0), (vi 0)] 86)) (x_alloc (Tryz.zeroValue86 _) rfl) ?_
 intro p2 w2 hn2
 obtain ⟨H2, hs, hb⟩ := hs.alloc hb hn2
 refine wpL_nil (th_n (wpE_seq (rg (q0 (vp (some p1)) (q2 (vi aD) (xl (Tryz.isAgg3 _) (hb.c0 1 (gS gZ))) (q0 (vp (some (p1.add 1))) (q2 (vi aG) (xl (Tryz.isAgg3 _) (hb.c 1 1 (gS gZ))) (q0 (vp (some (p1.add 2))) (q2 (vi aH) (xl (Tryz.isAgg3 _) (hb.c 1 2 (gS gZ))) (q0 (vp (some (p1.add 3))) (q2 (vu aI) (xl (Tryz.isAgg47 _) (hb.c 1 3 (gS gZ))) ?_)))))))))))
 refine q0 (vp (some (p1.add 4))) (q2 (vs aJ) (xl (Tryz.isAgg9 _) (hb.c 1 4 (gS gZ))) (q0 (.agg #[(vi aD), (vi aG), (vi aH), (vu aI), (vs aJ), (vi 0), (vi 0)]) (st_set (want0 rfl) (x_storeA (a := p2) (vs := [(vi aD), (vi aG), (vi aH), (vu aI), (vs aJ), (vi 0), (vi 0)]) (by kernel_rfl) (by kernel_rfl) rfl (Tryz.sizeOf86 _) rfl (hb.canWs0 0 7 gZ (by kernel_rfl))) ?_)))
 intro w3 hn3
 have hsb : Hst w0 None w0 H2 w3 ∧ HB H2 w3 [(p2, [(vi aD), (vi aG), (vi aH), (vu aI), (vs aJ), (vi 0), (vi 0)], 86), (p1, [(vi aD), (vi aG), (vi aH), (vu aI), (vs aJ), aE.v], 49)] := by
  rw [hn3]
  exact hb.store0 (i := 0) (vs := [(vi aD), (vi aG), (vi aH), (vu aI), (vs aJ), (vi 0), (vi 0)]) hs gZ (by kernel_rfl) (by kernel_rfl)
 obtain ⟨hs, hb⟩ := hsb
 refine wpL_nil (th_n (wpE_ret (resG (.inl rfl) (vs := [(.agg #[(vi aD), (vi aG), (vi aH), (vu aI), (vs aJ), (vi 0), (vi 0)])]) (v := (.agg #[(vi aD), (vi aG), (vi aH), (vu aI), (vs aJ), (vi 0), (vi 0)])) Tryz.results107 ⟨(RV.cellA (by kernel_rfl) (Tryz.isAgg86 _) (Tryz.sizeOf86 _) rfl (hb.row0 0 7 gZ (by kernel_rfl))), trivial⟩ (by kernel_rfl) ?_)))
 exact ⟨by kernel_rfl, (Ext.refl (F := None) _).hst hs⟩
theorem p_Z (aD aG : Int) (aH aI : Int) (aJ : ByteArray) (aE : Sl) (w0 : World) : Calls Tryz.prog 107 #[(.agg #[(.int .i64 aD), (.int .i64 aG), (.int .i64 aH), (.int .u64 aI), (.string aJ), aE.v])] w0 (fun e w' => e = .returned (.agg #[(.int .i64 (s_Z aD aG aH aI aJ aE).1), (.int .i64 (s_Z aD aG aH aI aJ aE).2.1), (.int .i64 (s_Z aD aG aH aI aJ aE).2.2.1), (.int .u64 (s_Z aD aG aH aI aJ aE).2.2.2.1), (.string (s_Z aD aG aH aI aJ aE).2.2.2.2.1), (.int .i64 (s_Z aD aG aH aI aJ aE).2.2.2.2.2.1), (.int .i64 (s_Z aD aG aH aI aJ aE).2.2.2.2.2.2)]) ∧ Pure w0 w') := pw_Z aD aG aH aI aJ aE w0
def s_V1 (kind1 : Int) : Bool :=
 ((kind1 == 8) || (kind1 == 9))
theorem pw_V1 (kind1 : Int) (w0 : World) :
  Calls Tryz.prog 136 #[(vi kind1)] w0 (fun e w' => (e = .returned (vb ((kind1 == 8) || (kind1 == 9)))) ∧ Pure w0 w') := by
 refine cw (args := [(vi kind1)]) Tryz.func136 Tryz.ntmps136 (wpE_seq (rg (q0 (vb false) (wpL_nil (th_n (wpE_seq ?_))))))
 refine wpE_via (fun ρ wJ => w0 = wJ ∧ Has ρ [(2, (vb ((kind1 == 8) || (kind1 == 9))))]) ?_ ?_
 ·refine rg (q0 (vi kind1) (q0 (vb (kind1 == 8)) (q0 (vb (kind1 == 8)) ?_)))
  refine wpL_join 3 (fun ρ wJ => ∃ b3'0 : Bool, ((kind1 == 8) = b3'0) ∧ w0 = wJ ∧ Has ρ [(8, (vb (b3'0 || (kind1 == 9))))]) ?_ ?_
  ·rintro ρ w3 ⟨b3'0, he0, hw, hH⟩
   subst he0
   subst hw
   refine wpL_has hH ?_
   refine q0 (vb ((kind1 == 8) || (kind1 == 9))) (wpL_nil (th_n ?_))
   exact ⟨rfl, hm⟩
  ·rcases Bool.eq_false_or_eq_true (kind1 == 8) with hg4 | hg4
   ·refine sk (yD 5 hg4) (sk (yD 5 hg4) (q2 (vb true) (xT hg4) (wpL_nil ?_)))
    exact ⟨true, hg4, rfl, hm⟩
   ·refine q1 (vi kind1) (want1 rfl (yD 5 hg4)) (q1 (vb (kind1 == 9)) (want1 rfl (yD 5 hg4)) (q2 (vb (kind1 == 9)) (xF hg4) (wpL_nil ?_)))
    exact ⟨false, hg4, rfl, hm⟩
 ·rintro ρ w2 ⟨hw, hH⟩
  subst hw
  refine norm_has hH ?_
  refine th_n (wpE_ret (rs1 Tryz.results136 (v := (vb ((kind1 == 8) || (kind1 == 9)))) ?_))
  exact ⟨by kernel_rfl, Ext.refl _⟩
theorem p_V1 (kind1 : Int) (w0 : World) : Calls Tryz.prog 136 #[(.int .i64 kind1)] w0 (fun e w' => e = .returned (.bool (s_V1 kind1)) ∧ Pure w0 w') := pw_V1 kind1 w0
def s_E (kind1 : Int) : Bool :=
 ((((kind1 == 1) || (kind1 == 6)) || (kind1 == 7)) || ((kind1 == 8) || (kind1 == 9)))
theorem pw_E (kind1 : Int) (w0 : World) :
  Calls Tryz.prog 134 #[(vi kind1)] w0 (fun e w' => (e = .returned (vb ((((kind1 == 1) || (kind1 == 6)) || (kind1 == 7)) || ((kind1 == 8) || (kind1 == 9))))) ∧ Pure w0 w') := by
 refine cw (args := [(vi kind1)]) Tryz.func134 Tryz.ntmps134 ?_
 have hs := Hst.start w0
 have hb := HB.nil None w0
 refine wpE_seq (rg (q0 (vb false) (wpL_nil (th_n (wpE_seq ?_)))))
 refine wpE_via (fun ρ wJ => ∃ HJ : NP, Hst w0 None w0 HJ wJ ∧ HB HJ wJ [] ∧ Has ρ [(2, (vb ((((kind1 == 1) || (kind1 == 6)) || (kind1 == 7)) || ((kind1 == 8) || (kind1 == 9)))))]) ?_ ?_
 ·refine rg (q0 (vi kind1) (q0 (vb (kind1 == 1)) (q0 (vb (kind1 == 1)) ?_)))
  refine wpL_join 3 (fun ρ wJ => ∃ b5'0 : Bool, ∃ HJ : NP, ((kind1 == 1) = b5'0) ∧ Hst w0 None w0 HJ wJ ∧ HB HJ wJ [] ∧ Has ρ [(0, (vi kind1)), (8, (vb (b5'0 || (kind1 == 6))))]) ?_ ?_
  ·rintro ρ w7 ⟨b5'0, H5, he0, hs, hb, hH⟩
   subst he0
   refine wpL_has hH ?_
   refine q0 (vb ((kind1 == 1) || (kind1 == 6))) ?_
   refine wpL_join 3 (fun ρ wJ => ∃ b6'0 : Bool, ∃ HJ : NP, (((kind1 == 1) || (kind1 == 6)) = b6'0) ∧ Hst w0 None w0 HJ wJ ∧ HB HJ wJ [] ∧ Has ρ [(0, (vi kind1)), (12, (vb (b6'0 || (kind1 == 7))))]) ?_ ?_
   ·rintro ρ w8 ⟨b6'0, H6, he0, hs, hb, hH⟩
    subst he0
    refine wpL_has hH ?_
    refine q0 (vb (((kind1 == 1) || (kind1 == 6)) || (kind1 == 7))) ?_
    refine wpL_join 3 (fun ρ wJ => ∃ b7'0 : Bool, ∃ HJ : NP, ((((kind1 == 1) || (kind1 == 6)) || (kind1 == 7)) = b7'0) ∧ Hst w0 None w0 HJ wJ ∧ HB HJ wJ [] ∧ Has ρ [(16, (vb (b7'0 || ((kind1 == 8) || (kind1 == 9)))))]) ?_ ?_
    ·rintro ρ w10 ⟨b7'0, H7, he0, hs, hb, hH⟩
     subst he0
     refine wpL_has hH ?_
     refine q0 (vb ((((kind1 == 1) || (kind1 == 6)) || (kind1 == 7)) || ((kind1 == 8) || (kind1 == 9)))) (wpL_nil (th_n ?_))
     exact ⟨_, hs, hb, hm⟩
    ·rcases Bool.eq_false_or_eq_true (((kind1 == 1) || (kind1 == 6)) || (kind1 == 7)) with hg12 | hg12
     ·refine sk (yD 13 hg12) (sk (yD 13 hg12) (q2 (vb true) (xT hg12) (wpL_nil ?_)))
      exact ⟨true, _, hg12, hs, hb, hm⟩
     ·refine q1 (vi kind1) (want1 rfl (yD 13 hg12)) ?_
      refine st_call (want1 rfl (yD 13 hg12)) (xc Tryz.call136) ((p_V1 kind1 w8).mono ?_)
      rintro e w11 ⟨he, hE⟩
      refine ⟨(vb ((kind1 == 8) || (kind1 == 9))), he.trans (by kernel_rfl), ?_⟩
      have hs := hs.pure hE
      have hb := hb.pure hE
      refine q2 (vb ((kind1 == 8) || (kind1 == 9))) (xF hg12) (wpL_nil ?_)
      exact ⟨false, _, hg12, hs, hb, hm⟩
   ·rcases Bool.eq_false_or_eq_true ((kind1 == 1) || (kind1 == 6)) with hg10 | hg10
    ·refine sk (yD 9 hg10) (sk (yD 9 hg10) (q2 (vb true) (xT hg10) (wpL_nil ?_)))
     exact ⟨true, _, hg10, hs, hb, hm⟩
    ·refine q1 (vi kind1) (want1 rfl (yD 9 hg10)) (q1 (vb (kind1 == 7)) (want1 rfl (yD 9 hg10)) (q2 (vb (kind1 == 7)) (xF hg10) (wpL_nil ?_)))
     exact ⟨false, _, hg10, hs, hb, hm⟩
  ·rcases Bool.eq_false_or_eq_true (kind1 == 1) with hg8 | hg8
   ·refine sk (yD 5 hg8) (sk (yD 5 hg8) (q2 (vb true) (xT hg8) (wpL_nil ?_)))
    exact ⟨true, _, hg8, hs, hb, hm⟩
   ·refine q1 (vi kind1) (want1 rfl (yD 5 hg8)) (q1 (vb (kind1 == 6)) (want1 rfl (yD 5 hg8)) (q2 (vb (kind1 == 6)) (xF hg8) (wpL_nil ?_)))
    exact ⟨false, _, hg8, hs, hb, hm⟩
 ·rintro ρ w6 ⟨H4, hs, hb, hH⟩
  refine norm_has hH ?_
  refine th_n (wpE_ret (rs1 Tryz.results134 (v := (vb ((((kind1 == 1) || (kind1 == 6)) || (kind1 == 7)) || ((kind1 == 8) || (kind1 == 9))))) ?_))
  exact ⟨by kernel_rfl, (Ext.refl (F := None) _).hst hs⟩
theorem p_E (kind1 : Int) (w0 : World) : Calls Tryz.prog 134 #[(.int .i64 kind1)] w0 (fun e w' => e = .returned (.bool (s_E kind1)) ∧ Pure w0 w') := pw_E kind1 w0
def s_A1 (aA aB : Int) (aC aK : Int) (aF : ByteArray) (aL aM : Int) : Bool :=
 (!((decide (aA < 1)) || (decide (aA > 9))) && (((((((s_E aA) || (aB == 0)) && (((aA == 8) || (aA == 9)) || (aC == 0))) && ((aA == 2) || (aK == 0))) && ((aA == 3) || (decide (aF = ⟨#[]⟩)))) && ((decide ((s_C aA) ≥ 1)) || (aL == 0))) && ((((s_C aA) : Int) == 2) || (aM == 0))))
theorem pw_A1 (aA aB : Int) (aC aK : Int) (aF : ByteArray) (aL aM : Int) (w0 : World) :
  Calls Tryz.prog 133 #[(.agg #[(vi aA), (vi aB), (vi aC), (vu aK), (vs aF), (vi aL), (vi aM)])] w0 (fun e w' => ∃ b'0 : Bool, (((decide (aA < 1)) || (decide (aA > 9))) = b'0) ∧ (e = .returned (vb (!b'0 && (((((((s_E aA) || (aB == 0)) && (((aA == 8) || (aA == 9)) || (aC == 0))) && ((aA == 2) || (aK == 0))) && ((aA == 3) || (decide (aF = ⟨#[]⟩)))) && ((decide ((s_C aA) ≥ 1)) || (aL == 0))) && ((((s_C aA) : Int) == 2) || (aM == 0)))))) ∧ Pure w0 w') := by
 refine cw (args := [(.agg #[(vi aA), (vi aB), (vi aC), (vu aK), (vs aF), (vi aL), (vi aM)])]) Tryz.func133 Tryz.ntmps133 ?_
 have hs := Hst.start w0
 have hb := HB.nil None w0
 refine wpE_seq (rg (sn (O := (.cells #[(vi aA), (vi aB), (vi aC), (vu aK), (vs aF), (vi aL), (vi aM)] 86)) xb ?_))
 intro p1 w1 hn1
 obtain ⟨H1, hs, hb⟩ := hs.alloc hb hn1
 refine q0 (vb false) (wpL_nil (th_n (wpE_seq (wpE_seq ?_))))
 refine wpE_via (fun ρ wJ => ∃ b1'0 : Bool, ∃ HJ : NP, ((decide (aA < 1)) = b1'0) ∧ Hst w0 None w0 HJ wJ ∧ HB HJ wJ [(p1, [(vi aA), (vi aB), (vi aC), (vu aK), (vs aF), (vi aL), (vi aM)], 86)] ∧ Has ρ [(1, (vp (some p1))), (10, (vb (b1'0 || (decide (aA > 9)))))]) ?_ ?_
 ·refine rg (q0 (vp (some p1)) (q2 (vi aA) (xl (Tryz.isAgg3 _) (hb.c0 0 gZ)) (q0 (vb (decide (aA < 1))) (q0 (vb (decide (aA < 1))) ?_))))
  rcases Bool.eq_false_or_eq_true (decide (aA < 1)) with hg2 | hg2
  ·refine sk (yD 6 hg2) (sk (yD 6 hg2) (sk (yD 6 hg2) (q2 (vb true) (xT hg2) (wpL_nil (th_n ?_)))))
   exact ⟨true, _, hg2, hs, hb, hm⟩
  ·refine q1 (vp (some p1)) (want1 rfl (yD 6 hg2)) (stp (v := (vi aA)) (want1 rfl (yD 6 hg2)) (xl (Tryz.isAgg3 _) (hb.c0 0 gZ)) (q1 (vb (decide (aA > 9))) (want1 rfl (yD 6 hg2)) (q2 (vb (decide (aA > 9))) (xF hg2) (wpL_nil (th_n ?_)))))
   exact ⟨false, _, hg2, hs, hb, hm⟩
 ·rintro ρ w2 ⟨b1'0, H2, he0, hs, hb, hH⟩
  subst he0
  refine norm_has hH ?_
  refine th_n ?_
  refine wpE_cond (t := ((decide (aA < 1)) || (decide (aA > 9)))) (by kernel_rfl) (fun hc1 => ?_) (fun hc1 => ?_)
  ·refine wpE_seq (rg (q0 (vb false) (wpL_nil (th_n (wpE_ret (th_r (rs1 Tryz.results133 (v := (vb false)) ?_)))))))
   exact ⟨true, hc1, by kernel_rfl, (Ext.refl (F := None) _).hst hs⟩
  ·refine wpE_skip (th_n (wpE_seq ?_))
   refine wpE_via (fun ρ wJ => ∃ HJ : NP, Hst w0 None w0 HJ wJ ∧ HB HJ wJ [(p1, [(vi aA), (vi aB), (vi aC), (vu aK), (vs aF), (vi aL), (vi aM)], 86)] ∧ Has ρ [(2, (vb (((((((s_E aA) || (aB == 0)) && (((aA == 8) || (aA == 9)) || (aC == 0))) && ((aA == 2) || (aK == 0))) && ((aA == 3) || (decide (aF = ⟨#[]⟩)))) && ((decide ((s_C aA) ≥ 1)) || (aL == 0))) && ((((s_C aA) : Int) == 2) || (aM == 0)))))]) ?_ ?_
   ·refine rg (q0 (vp (some p1)) (q2 (vi aA) (xl (Tryz.isAgg3 _) (hb.c0 0 gZ)) ?_))
    refine sc Tryz.call134 ((p_E aA w2).mono ?_)
    rintro e w27 ⟨he, hE⟩
    refine ⟨(vb (s_E aA)), he.trans (by kernel_rfl), ?_⟩
    have hs := hs.pure hE
    have hb := hb.pure hE
    refine q0 (vb (s_E aA)) ?_
    refine wpL_join 4 (fun ρ wJ => ∃ b19'0 : Bool, ∃ HJ : NP, ((s_E aA) = b19'0) ∧ Hst w0 None w0 HJ wJ ∧ HB HJ wJ [(p1, [(vi aA), (vi aB), (vi aC), (vu aK), (vs aF), (vi aL), (vi aM)], 86)] ∧ Has ρ [(1, (vp (some p1))), (18, (vb (b19'0 || (aB == 0))))]) ?_ ?_
    ·rintro ρ w28 ⟨b19'0, H20, he0, hs, hb, hH⟩
     subst he0
     refine wpL_has hH ?_
     refine q0 (vb ((s_E aA) || (aB == 0))) ?_
     refine wpL_join 9 (fun ρ wJ => ∃ b21'0 : Bool, ∃ HJ : NP, (((s_E aA) || (aB == 0)) = b21'0) ∧ Hst w0 None w0 HJ wJ ∧ HB HJ wJ [(p1, [(vi aA), (vi aB), (vi aC), (vu aK), (vs aF), (vi aL), (vi aM)], 86)] ∧ Has ρ [(1, (vp (some p1))), (28, (vb (b21'0 && (((aA == 8) || (aA == 9)) || (aC == 0)))))]) ?_ ?_
     ·rintro ρ w31 ⟨b21'0, H22, he0, hs, hb, hH⟩
      subst he0
      refine wpL_has hH ?_
      refine q0 (vb (((s_E aA) || (aB == 0)) && (((aA == 8) || (aA == 9)) || (aC == 0)))) ?_
      refine wpL_join 9 (fun ρ wJ => ∃ b24'0 : Bool, ∃ HJ : NP, ((((s_E aA) || (aB == 0)) && (((aA == 8) || (aA == 9)) || (aC == 0))) = b24'0) ∧ Hst w0 None w0 HJ wJ ∧ HB HJ wJ [(p1, [(vi aA), (vi aB), (vi aC), (vu aK), (vs aF), (vi aL), (vi aM)], 86)] ∧ Has ρ [(1, (vp (some p1))), (38, (vb (b24'0 && ((aA == 2) || (aK == 0)))))]) ?_ ?_
      ·rintro ρ w35 ⟨b24'0, H25, he0, hs, hb, hH⟩
       subst he0
       refine wpL_has hH ?_
       refine q0 (vb ((((s_E aA) || (aB == 0)) && (((aA == 8) || (aA == 9)) || (aC == 0))) && ((aA == 2) || (aK == 0)))) ?_
       refine wpL_join 9 (fun ρ wJ => ∃ b27'0 : Bool, ∃ HJ : NP, (((((s_E aA) || (aB == 0)) && (((aA == 8) || (aA == 9)) || (aC == 0))) && ((aA == 2) || (aK == 0))) = b27'0) ∧ Hst w0 None w0 HJ wJ ∧ HB HJ wJ [(p1, [(vi aA), (vi aB), (vi aC), (vu aK), (vs aF), (vi aL), (vi aM)], 86)] ∧ Has ρ [(1, (vp (some p1))), (48, (vb (b27'0 && ((aA == 3) || (decide (aF = ⟨#[]⟩))))))]) ?_ ?_
       ·rintro ρ w38 ⟨b27'0, H28, he0, hs, hb, hH⟩
        subst he0
        refine wpL_has hH ?_
        refine q0 (vb (((((s_E aA) || (aB == 0)) && (((aA == 8) || (aA == 9)) || (aC == 0))) && ((aA == 2) || (aK == 0))) && ((aA == 3) || (decide (aF = ⟨#[]⟩))))) ?_
        refine wpL_join 10 (fun ρ wJ => ∃ b30'0 : Bool, ∃ HJ : NP, ((((((s_E aA) || (aB == 0)) && (((aA == 8) || (aA == 9)) || (aC == 0))) && ((aA == 2) || (aK == 0))) && ((aA == 3) || (decide (aF = ⟨#[]⟩)))) = b30'0) ∧ Hst w0 None w0 HJ wJ ∧ HB HJ wJ [(p1, [(vi aA), (vi aB), (vi aC), (vu aK), (vs aF), (vi aL), (vi aM)], 86)] ∧ Has ρ [(1, (vp (some p1))), (59, (vb (b30'0 && ((decide ((s_C aA) ≥ 1)) || (aL == 0)))))]) ?_ ?_
        ·rintro ρ w42 ⟨b30'0, H31, he0, hs, hb, hH⟩
         subst he0
         refine wpL_has hH ?_
         refine q0 (vb ((((((s_E aA) || (aB == 0)) && (((aA == 8) || (aA == 9)) || (aC == 0))) && ((aA == 2) || (aK == 0))) && ((aA == 3) || (decide (aF = ⟨#[]⟩)))) && ((decide ((s_C aA) ≥ 1)) || (aL == 0)))) ?_
         refine wpL_join 10 (fun ρ wJ => ∃ b33'0 : Bool, ∃ HJ : NP, (((((((s_E aA) || (aB == 0)) && (((aA == 8) || (aA == 9)) || (aC == 0))) && ((aA == 2) || (aK == 0))) && ((aA == 3) || (decide (aF = ⟨#[]⟩)))) && ((decide ((s_C aA) ≥ 1)) || (aL == 0))) = b33'0) ∧ Hst w0 None w0 HJ wJ ∧ HB HJ wJ [(p1, [(vi aA), (vi aB), (vi aC), (vu aK), (vs aF), (vi aL), (vi aM)], 86)] ∧ Has ρ [(70, (vb (b33'0 && ((((s_C aA) : Int) == 2) || (aM == 0)))))]) ?_ ?_
         ·rintro ρ w47 ⟨b33'0, H34, he0, hs, hb, hH⟩
          subst he0
          refine wpL_has hH ?_
          refine q0 (vb (((((((s_E aA) || (aB == 0)) && (((aA == 8) || (aA == 9)) || (aC == 0))) && ((aA == 2) || (aK == 0))) && ((aA == 3) || (decide (aF = ⟨#[]⟩)))) && ((decide ((s_C aA) ≥ 1)) || (aL == 0))) && ((((s_C aA) : Int) == 2) || (aM == 0)))) (wpL_nil (th_n ?_))
          exact ⟨_, hs, hb, hm⟩
         ·rcases Bool.eq_false_or_eq_true ((((((s_E aA) || (aB == 0)) && (((aA == 8) || (aA == 9)) || (aC == 0))) && ((aA == 2) || (aK == 0))) && ((aA == 3) || (decide (aF = ⟨#[]⟩)))) && ((decide ((s_C aA) ≥ 1)) || (aL == 0))) with hg64 | hg64
          ·refine q1 (vp (some p1)) (want1 rfl (yD 60 hg64)) (stp (v := (vi aA)) (want1 rfl (yD 60 hg64)) (xl (Tryz.isAgg3 _) (hb.c0 0 gZ)) ?_)
           refine st_call (want1 rfl (yD 60 hg64)) (xc Tryz.call46) ((p_C aA w42).mono ?_)
           rintro e w48 ⟨he, hE⟩
           refine ⟨(vi (s_C aA)), he.trans (by kernel_rfl), ?_⟩
           have hs := hs.pure hE
           have hb := hb.pure hE
           refine q1 (vb (((s_C aA) : Int) == 2)) (want1 rfl (yD 60 hg64)) (q1 (vb (((s_C aA) : Int) == 2)) (want1 rfl (yD 60 hg64)) ?_)
           refine wpL_join 4 (fun ρ wJ => ∃ b34'0 : Bool, ∃ HJ : NP, ((((s_C aA) : Int) == 2) = b34'0) ∧ Hst w0 None w0 HJ wJ ∧ HB HJ wJ [(p1, [(vi aA), (vi aB), (vi aC), (vu aK), (vs aF), (vi aL), (vi aM)], 86)] ∧ Has ρ [(60, (vb ((((((s_E aA) || (aB == 0)) && (((aA == 8) || (aA == 9)) || (aC == 0))) && ((aA == 2) || (aK == 0))) && ((aA == 3) || (decide (aF = ⟨#[]⟩)))) && ((decide ((s_C aA) ≥ 1)) || (aL == 0))))), (69, (vb (b34'0 || (aM == 0))))]) ?_ ?_
           ·rintro ρ w49 ⟨b34'0, H35, he0, hs, hb, hH⟩
            subst he0
            refine wpL_has hH ?_
            refine q2 (vb ((((s_C aA) : Int) == 2) || (aM == 0))) (xT hg64) (wpL_nil ?_)
            exact ⟨true, _, hg64, hs, hb, hm⟩
           ·rcases Bool.eq_false_or_eq_true (((s_C aA) : Int) == 2) with hg66 | hg66
            ·refine sk (yD 65 hg66) (sk (yD 65 hg66) (sk (yD 65 hg66) (stp (v := (vb true)) (want1 rfl (yD 60 hg64)) (xT hg66) (wpL_nil ?_))))
             exact ⟨true, _, hg66, hs, hb, hm⟩
            ·refine q1 (vp (some (p1.add 6))) (want1 rfl (yD 65 hg66)) (stp (v := (vi aM)) (want1 rfl (yD 65 hg66)) (xl (Tryz.isAgg30 _) (hb.c 0 6 gZ)) (q1 (vb (aM == 0)) (want1 rfl (yD 65 hg66)) (stp (v := (vb (aM == 0))) (want1 rfl (yD 60 hg64)) (xF hg66) (wpL_nil ?_))))
             exact ⟨false, _, hg66, hs, hb, hm⟩
          ·refine sk (yD 60 hg64) (sk (yD 60 hg64) (sk (yD 60 hg64) (sk (yD 60 hg64) (sk (yD 60 hg64) (sm (sm (sm (sk (yD 60 hg64) (q2 (vb false) (xF hg64) (wpL_nil ?_))))))))))
           exact ⟨false, _, hg64, hs, hb, hm⟩
        ·rcases Bool.eq_false_or_eq_true (((((s_E aA) || (aB == 0)) && (((aA == 8) || (aA == 9)) || (aC == 0))) && ((aA == 2) || (aK == 0))) && ((aA == 3) || (decide (aF = ⟨#[]⟩)))) with hg58 | hg58
         ·refine q1 (vp (some p1)) (want1 rfl (yD 49 hg58)) (stp (v := (vi aA)) (want1 rfl (yD 49 hg58)) (xl (Tryz.isAgg3 _) (hb.c0 0 gZ)) ?_)
          refine st_call (want1 rfl (yD 49 hg58)) (xc Tryz.call46) ((p_C aA w38).mono ?_)
          rintro e w43 ⟨he, hE⟩
          refine ⟨(vi (s_C aA)), he.trans (by kernel_rfl), ?_⟩
          have hs := hs.pure hE
          have hb := hb.pure hE
          refine q1 (vb (decide ((s_C aA) ≥ 1))) (want1 rfl (yD 49 hg58)) (q1 (vb (decide ((s_C aA) ≥ 1))) (want1 rfl (yD 49 hg58)) ?_)
          refine wpL_join 4 (fun ρ wJ => ∃ b31'0 : Bool, ∃ HJ : NP, ((decide ((s_C aA) ≥ 1)) = b31'0) ∧ Hst w0 None w0 HJ wJ ∧ HB HJ wJ [(p1, [(vi aA), (vi aB), (vi aC), (vu aK), (vs aF), (vi aL), (vi aM)], 86)] ∧ Has ρ [(1, (vp (some p1))), (49, (vb (((((s_E aA) || (aB == 0)) && (((aA == 8) || (aA == 9)) || (aC == 0))) && ((aA == 2) || (aK == 0))) && ((aA == 3) || (decide (aF = ⟨#[]⟩)))))), (58, (vb (b31'0 || (aL == 0))))]) ?_ ?_
          ·rintro ρ w44 ⟨b31'0, H32, he0, hs, hb, hH⟩
           subst he0
           refine wpL_has hH ?_
           refine q2 (vb ((decide ((s_C aA) ≥ 1)) || (aL == 0))) (xT hg58) (wpL_nil ?_)
           exact ⟨true, _, hg58, hs, hb, hm⟩
          ·rcases Bool.eq_false_or_eq_true (decide ((s_C aA) ≥ 1)) with hg60 | hg60
           ·refine sk (yD 54 hg60) (sk (yD 54 hg60) (sk (yD 54 hg60) (stp (v := (vb true)) (want1 rfl (yD 49 hg58)) (xT hg60) (wpL_nil ?_))))
            exact ⟨true, _, hg60, hs, hb, hm⟩
           ·refine q1 (vp (some (p1.add 5))) (want1 rfl (yD 54 hg60)) (stp (v := (vi aL)) (want1 rfl (yD 54 hg60)) (xl (Tryz.isAgg30 _) (hb.c 0 5 gZ)) (q1 (vb (aL == 0)) (want1 rfl (yD 54 hg60)) (stp (v := (vb (aL == 0))) (want1 rfl (yD 49 hg58)) (xF hg60) (wpL_nil ?_))))
            exact ⟨false, _, hg60, hs, hb, hm⟩
         ·refine sk (yD 49 hg58) (sk (yD 49 hg58) (sk (yD 49 hg58) (sk (yD 49 hg58) (sk (yD 49 hg58) (sm (sm (sm (sk (yD 49 hg58) (q2 (vb false) (xF hg58) (wpL_nil ?_))))))))))
          exact ⟨false, _, hg58, hs, hb, hm⟩
       ·rcases Bool.eq_false_or_eq_true ((((s_E aA) || (aB == 0)) && (((aA == 8) || (aA == 9)) || (aC == 0))) && ((aA == 2) || (aK == 0))) with hg52 | hg52
        ·refine q1 (vp (some p1)) (want1 rfl (yD 39 hg52)) (stp (v := (vi aA)) (want1 rfl (yD 39 hg52)) (xl (Tryz.isAgg3 _) (hb.c0 0 gZ)) (q1 (vb (aA == 3)) (want1 rfl (yD 39 hg52)) (q1 (vb (aA == 3)) (want1 rfl (yD 39 hg52)) ?_)))
         refine wpL_join 4 (fun ρ wJ => ∃ b28'0 : Bool, ∃ HJ : NP, ((aA == 3) = b28'0) ∧ Hst w0 None w0 HJ wJ ∧ HB HJ wJ [(p1, [(vi aA), (vi aB), (vi aC), (vu aK), (vs aF), (vi aL), (vi aM)], 86)] ∧ Has ρ [(1, (vp (some p1))), (39, (vb ((((s_E aA) || (aB == 0)) && (((aA == 8) || (aA == 9)) || (aC == 0))) && ((aA == 2) || (aK == 0))))), (47, (vb (b28'0 || (decide (aF = ⟨#[]⟩)))))]) ?_ ?_
         ·rintro ρ w39 ⟨b28'0, H29, he0, hs, hb, hH⟩
          subst he0
          refine wpL_has hH ?_
          refine q2 (vb ((aA == 3) || (decide (aF = ⟨#[]⟩)))) (xT hg52) (wpL_nil ?_)
          exact ⟨true, _, hg52, hs, hb, hm⟩
         ·rcases Bool.eq_false_or_eq_true (aA == 3) with hg54 | hg54
          ·refine sk (yD 43 hg54) (sk (yD 43 hg54) (sk (yD 43 hg54) (stp (v := (vb true)) (want1 rfl (yD 39 hg52)) (xT hg54) (wpL_nil ?_))))
           exact ⟨true, _, hg54, hs, hb, hm⟩
          ·refine q1 (vp (some (p1.add 4))) (want1 rfl (yD 43 hg54)) (stp (v := (vs aF)) (want1 rfl (yD 43 hg54)) (xl (Tryz.isAgg9 _) (hb.c 0 4 gZ)) (stp (v := (vb (decide (aF = ⟨#[]⟩)))) (want1 rfl (yD 43 hg54)) (x_streq (by kernel_rfl) (by kernel_rfl)) (stp (v := (vb (decide (aF = ⟨#[]⟩)))) (want1 rfl (yD 39 hg52)) (xF hg54) (wpL_nil ?_))))
           exact ⟨false, _, hg54, hs, hb, hm⟩
        ·refine sk (yD 39 hg52) (sk (yD 39 hg52) (sk (yD 39 hg52) (sk (yD 39 hg52) (sm (sm (sm (sk (yD 39 hg52) (q2 (vb false) (xF hg52) (wpL_nil ?_)))))))))
         exact ⟨false, _, hg52, hs, hb, hm⟩
      ·rcases Bool.eq_false_or_eq_true (((s_E aA) || (aB == 0)) && (((aA == 8) || (aA == 9)) || (aC == 0))) with hg46 | hg46
       ·refine q1 (vp (some p1)) (want1 rfl (yD 29 hg46)) (stp (v := (vi aA)) (want1 rfl (yD 29 hg46)) (xl (Tryz.isAgg3 _) (hb.c0 0 gZ)) (q1 (vb (aA == 2)) (want1 rfl (yD 29 hg46)) (q1 (vb (aA == 2)) (want1 rfl (yD 29 hg46)) ?_)))
        refine wpL_join 4 (fun ρ wJ => ∃ b25'0 : Bool, ∃ HJ : NP, ((aA == 2) = b25'0) ∧ Hst w0 None w0 HJ wJ ∧ HB HJ wJ [(p1, [(vi aA), (vi aB), (vi aC), (vu aK), (vs aF), (vi aL), (vi aM)], 86)] ∧ Has ρ [(1, (vp (some p1))), (29, (vb (((s_E aA) || (aB == 0)) && (((aA == 8) || (aA == 9)) || (aC == 0))))), (37, (vb (b25'0 || (aK == 0))))]) ?_ ?_
        ·rintro ρ w36 ⟨b25'0, H26, he0, hs, hb, hH⟩
         subst he0
         refine wpL_has hH ?_
         refine q2 (vb ((aA == 2) || (aK == 0))) (xT hg46) (wpL_nil ?_)
         exact ⟨true, _, hg46, hs, hb, hm⟩
        ·rcases Bool.eq_false_or_eq_true (aA == 2) with hg48 | hg48
         ·refine sk (yD 33 hg48) (sk (yD 33 hg48) (sk (yD 33 hg48) (stp (v := (vb true)) (want1 rfl (yD 29 hg46)) (xT hg48) (wpL_nil ?_))))
          exact ⟨true, _, hg48, hs, hb, hm⟩
         ·refine q1 (vp (some (p1.add 3))) (want1 rfl (yD 33 hg48)) (stp (v := (vu aK)) (want1 rfl (yD 33 hg48)) (xl (Tryz.isAgg47 _) (hb.c 0 3 gZ)) (q1 (vb (aK == 0)) (want1 rfl (yD 33 hg48)) (stp (v := (vb (aK == 0))) (want1 rfl (yD 29 hg46)) (xF hg48) (wpL_nil ?_))))
          exact ⟨false, _, hg48, hs, hb, hm⟩
       ·refine sk (yD 29 hg46) (sk (yD 29 hg46) (sk (yD 29 hg46) (sk (yD 29 hg46) (sm (sm (sm (sk (yD 29 hg46) (q2 (vb false) (xF hg46) (wpL_nil ?_)))))))))
        exact ⟨false, _, hg46, hs, hb, hm⟩
     ·rcases Bool.eq_false_or_eq_true ((s_E aA) || (aB == 0)) with hg40 | hg40
      ·refine q1 (vp (some p1)) (want1 rfl (yD 19 hg40)) (stp (v := (vi aA)) (want1 rfl (yD 19 hg40)) (xl (Tryz.isAgg3 _) (hb.c0 0 gZ)) ?_)
       refine st_call (want1 rfl (yD 19 hg40)) (xc Tryz.call136) ((p_V1 aA w28).mono ?_)
       rintro e w32 ⟨he, hE⟩
       refine ⟨(vb ((aA == 8) || (aA == 9))), he.trans (by kernel_rfl), ?_⟩
       have hs := hs.pure hE
       have hb := hb.pure hE
       refine q1 (vb ((aA == 8) || (aA == 9))) (want1 rfl (yD 19 hg40)) ?_
       refine wpL_join 4 (fun ρ wJ => ∃ b22'0 : Bool, ∃ HJ : NP, (((aA == 8) || (aA == 9)) = b22'0) ∧ Hst w0 None w0 HJ wJ ∧ HB HJ wJ [(p1, [(vi aA), (vi aB), (vi aC), (vu aK), (vs aF), (vi aL), (vi aM)], 86)] ∧ Has ρ [(1, (vp (some p1))), (19, (vb ((s_E aA) || (aB == 0)))), (27, (vb (b22'0 || (aC == 0))))]) ?_ ?_
       ·rintro ρ w33 ⟨b22'0, H23, he0, hs, hb, hH⟩
        subst he0
        refine wpL_has hH ?_
        refine q2 (vb (((aA == 8) || (aA == 9)) || (aC == 0))) (xT hg40) (wpL_nil ?_)
        exact ⟨true, _, hg40, hs, hb, hm⟩
       ·rcases Bool.eq_false_or_eq_true ((aA == 8) || (aA == 9)) with hg42 | hg42
        ·refine sk (yD 23 hg42) (sk (yD 23 hg42) (sk (yD 23 hg42) (stp (v := (vb true)) (want1 rfl (yD 19 hg40)) (xT hg42) (wpL_nil ?_))))
         exact ⟨true, _, hg42, hs, hb, hm⟩
        ·refine q1 (vp (some (p1.add 2))) (want1 rfl (yD 23 hg42)) (stp (v := (vi aC)) (want1 rfl (yD 23 hg42)) (xl (Tryz.isAgg3 _) (hb.c 0 2 gZ)) (q1 (vb (aC == 0)) (want1 rfl (yD 23 hg42)) (stp (v := (vb (aC == 0))) (want1 rfl (yD 19 hg40)) (xF hg42) (wpL_nil ?_))))
         exact ⟨false, _, hg42, hs, hb, hm⟩
      ·refine sk (yD 19 hg40) (sk (yD 19 hg40) (sk (yD 19 hg40) (sk (yD 19 hg40) (sm (sm (sm (sk (yD 19 hg40) (q2 (vb false) (xF hg40) (wpL_nil ?_)))))))))
       exact ⟨false, _, hg40, hs, hb, hm⟩
    ·rcases Bool.eq_false_or_eq_true (s_E aA) with hg36 | hg36
     ·refine sk (yD 14 hg36) (sk (yD 14 hg36) (sk (yD 14 hg36) (q2 (vb true) (xT hg36) (wpL_nil ?_))))
      exact ⟨true, _, hg36, hs, hb, hm⟩
     ·refine q1 (vp (some (p1.add 1))) (want1 rfl (yD 14 hg36)) (stp (v := (vi aB)) (want1 rfl (yD 14 hg36)) (xl (Tryz.isAgg3 _) (hb.c 0 1 gZ)) (q1 (vb (aB == 0)) (want1 rfl (yD 14 hg36)) (q2 (vb (aB == 0)) (xF hg36) (wpL_nil ?_))))
      exact ⟨false, _, hg36, hs, hb, hm⟩
   ·rintro ρ w26 ⟨H19, hs, hb, hH⟩
    refine norm_has hH ?_
    refine th_n (wpE_ret (rs1 Tryz.results133 (v := (vb (((((((s_E aA) || (aB == 0)) && (((aA == 8) || (aA == 9)) || (aC == 0))) && ((aA == 2) || (aK == 0))) && ((aA == 3) || (decide (aF = ⟨#[]⟩)))) && ((decide ((s_C aA) ≥ 1)) || (aL == 0))) && ((((s_C aA) : Int) == 2) || (aM == 0))))) ?_))
    exact ⟨false, hc1, by kernel_rfl, (Ext.refl (F := None) _).hst hs⟩
theorem p_A1 (aA aB : Int) (aC aK : Int) (aF : ByteArray) (aL aM : Int) (w0 : World) : Calls Tryz.prog 133 #[(.agg #[(.int .i64 aA), (.int .i64 aB), (.int .i64 aC), (.int .u64 aK), (.string aF), (.int .i64 aL), (.int .i64 aM)])] w0 (fun e w' => e = .returned (.bool (s_A1 aA aB aC aK aF aL aM)) ∧ Pure w0 w') := by
 refine (pw_A1 aA aB aC aK aF aL aM w0).mono ?_
 rintro e w' ⟨b'0, e0, h, E⟩
 subst e0
 exact ⟨h, E⟩
def s_A2 (n1 : Int) : Bool :=
 ((decide (n1 ≥ 0)) && (decide (n1 < 16)))
theorem pw_A2 (n1 : Int) (w0 : World) :
  Calls Tryz.prog 135 #[(vi n1)] w0 (fun e w' => (e = .returned (vb ((decide (n1 ≥ 0)) && (decide (n1 < 16))))) ∧ Pure w0 w') := by
 refine cw (args := [(vi n1)]) Tryz.func135 Tryz.ntmps135 (wpE_seq (rg (q0 (vb false) (wpL_nil (th_n (wpE_seq ?_))))))
 refine wpE_via (fun ρ wJ => w0 = wJ ∧ Has ρ [(2, (vb ((decide (n1 ≥ 0)) && (decide (n1 < 16)))))]) ?_ ?_
 ·refine rg (q0 (vi n1) (q0 (vb (decide (n1 ≥ 0))) (q0 (vb (decide (n1 ≥ 0))) ?_)))
  refine wpL_join 3 (fun ρ wJ => ∃ b3'0 : Bool, ((decide (n1 ≥ 0)) = b3'0) ∧ w0 = wJ ∧ Has ρ [(8, (vb (b3'0 && (decide (n1 < 16)))))]) ?_ ?_
  ·rintro ρ w3 ⟨b3'0, he0, hw, hH⟩
   subst he0
   subst hw
   refine wpL_has hH ?_
   refine q0 (vb ((decide (n1 ≥ 0)) && (decide (n1 < 16)))) (wpL_nil (th_n ?_))
   exact ⟨rfl, hm⟩
  ·rcases Bool.eq_false_or_eq_true (decide (n1 ≥ 0)) with hg4 | hg4
   ·refine q1 (vi n1) (want1 rfl (yD 5 hg4)) (q1 (vb (decide (n1 < 16))) (want1 rfl (yD 5 hg4)) (q2 (vb (decide (n1 < 16))) (xT hg4) (wpL_nil ?_)))
    exact ⟨true, hg4, rfl, hm⟩
   ·refine sk (yD 5 hg4) (sk (yD 5 hg4) (q2 (vb false) (xF hg4) (wpL_nil ?_)))
    exact ⟨false, hg4, rfl, hm⟩
 ·rintro ρ w2 ⟨hw, hH⟩
  subst hw
  refine norm_has hH ?_
  refine th_n (wpE_ret (rs1 Tryz.results135 (v := (vb ((decide (n1 ≥ 0)) && (decide (n1 < 16))))) ?_))
  exact ⟨by kernel_rfl, Ext.refl _⟩
theorem p_A2 (n1 : Int) (w0 : World) : Calls Tryz.prog 135 #[(.int .i64 n1)] w0 (fun e w' => e = .returned (.bool (s_A2 n1)) ∧ Pure w0 w') := pw_A2 n1 w0
def s_J (aA aB : Int) (aC aK : Int) (aF : ByteArray) (aL aM : Int) : Int :=
 (cond (!(s_A1 aA aB aC aK aF aL aM)) 53 (cond (((s_E aA) && (!((decide (aB ≥ 0)) && (decide (aB < 16))))) || (((aA == 8) || (aA == 9)) && ((!((decide (aC ≥ 0)) && (decide (aC < 16)))) || (aB == aC)))) 50 (cond (decide ((aF.size : Int) > 64)) 1 0)))
theorem pw_J (aA aB : Int) (aC aK : Int) (aF : ByteArray) (aL aM : Int) (w0 : World) :
  Calls Tryz.prog 86 #[(.agg #[(vi aA), (vi aB), (vi aC), (vu aK), (vs aF), (vi aL), (vi aM)])] w0 (fun e w' => ∃ b'0 b'1 b'2 : Bool, ((!(s_A1 aA aB aC aK aF aL aM)) = b'0 ∧ (((s_E aA) && (!((decide (aB ≥ 0)) && (decide (aB < 16))))) || (((aA == 8) || (aA == 9)) && ((!((decide (aC ≥ 0)) && (decide (aC < 16)))) || (aB == aC)))) = b'1 ∧ (decide ((aF.size : Int) > 64)) = b'2) ∧ (e = .returned (vi (cond b'0 53 (cond b'1 50 (cond b'2 1 0))))) ∧ Pure w0 w') := by
 refine cw (args := [(.agg #[(vi aA), (vi aB), (vi aC), (vu aK), (vs aF), (vi aL), (vi aM)])]) Tryz.func86 Tryz.ntmps86 ?_
 have hs := Hst.start w0
 have hb := HB.nil None w0
 refine wpE_seq (rg (sn (O := (.cells #[(vi aA), (vi aB), (vi aC), (vu aK), (vs aF), (vi aL), (vi aM)] 86)) xb ?_))
 intro p1 w1 hn1
 obtain ⟨H1, hs, hb⟩ := hs.alloc hb hn1
 refine q0 (vi 0) (wpL_nil (th_n (wpE_seq (wpE_seq (rg (q2 (.agg #[(vi aA), (vi aB), (vi aC), (vu aK), (vs aF), (vi aL), (vi aM)]) (x_loadA (a := p1) (vs := [(vi aA), (vi aB), (vi aC), (vu aK), (vs aF), (vi aL), (vi aM)]) (by kernel_rfl) (Tryz.isAgg86 _) (Tryz.sizeOf86 _) rfl (hb.row0 0 7 gZ (by kernel_rfl))) ?_))))))
 refine sc Tryz.call133 ((p_A1 aA aB aC aK aF aL aM w1).mono ?_)
 rintro e w2 ⟨he, hE⟩
 refine ⟨(vb (s_A1 aA aB aC aK aF aL aM)), he.trans (by kernel_rfl), ?_⟩
 have hs := hs.pure hE
 have hb := hb.pure hE
 refine q0 (vb (!(s_A1 aA aB aC aK aF aL aM))) (wpL_nil (th_n ?_))
 refine wpE_cond (t := (!(s_A1 aA aB aC aK aF aL aM))) (by kernel_rfl) (fun hc1 => ?_) (fun hc1 => ?_)
 ·refine wpE_seq (rg (q0 (vi 53) (wpL_nil (th_n (wpE_ret (th_r (rs1 Tryz.results86 (v := (vi 53)) ?_)))))))
  exact ⟨true, _, _, ⟨hc1, rfl, rfl⟩, by kernel_rfl, (Ext.refl (F := None) _).hst hs⟩
 ·refine wpE_skip (th_n (wpE_seq (wpE_seq ?_)))
  refine wpE_via (fun ρ wJ => ∃ b5'0 : Bool, ∃ HJ : NP, (((s_E aA) && (!((decide (aB ≥ 0)) && (decide (aB < 16))))) = b5'0) ∧ Hst w0 None w0 HJ wJ ∧ HB HJ wJ [(p1, [(vi aA), (vi aB), (vi aC), (vu aK), (vs aF), (vi aL), (vi aM)], 86)] ∧ Has ρ [(1, (vp (some p1))), (32, (vb (b5'0 || (((aA == 8) || (aA == 9)) && ((!((decide (aC ≥ 0)) && (decide (aC < 16)))) || (aB == aC))))))]) ?_ ?_
  ·refine rg (q0 (vp (some p1)) (q2 (vi aA) (xl (Tryz.isAgg3 _) (hb.c0 0 gZ)) ?_))
   refine sc Tryz.call134 ((p_E aA w2).mono ?_)
   rintro e w14 ⟨he, hE⟩
   refine ⟨(vb (s_E aA)), he.trans (by kernel_rfl), ?_⟩
   have hs := hs.pure hE
   have hb := hb.pure hE
   refine q0 (vb (s_E aA)) ?_
   refine wpL_join 5 (fun ρ wJ => ∃ b6'0 : Bool, ∃ HJ : NP, ((s_E aA) = b6'0) ∧ Hst w0 None w0 HJ wJ ∧ HB HJ wJ [(p1, [(vi aA), (vi aB), (vi aC), (vu aK), (vs aF), (vi aL), (vi aM)], 86)] ∧ Has ρ [(1, (vp (some p1))), (14, (vb (b6'0 && (!((decide (aB ≥ 0)) && (decide (aB < 16)))))))]) ?_ ?_
   ·rintro ρ w16 ⟨b6'0, H7, he0, hs, hb, hH⟩
    subst he0
    refine wpL_has hH ?_
    refine q0 (vb ((s_E aA) && (!((decide (aB ≥ 0)) && (decide (aB < 16)))))) ?_
    rcases Bool.eq_false_or_eq_true ((s_E aA) && (!((decide (aB ≥ 0)) && (decide (aB < 16))))) with hg12 | hg12
    ·refine sk (yD 15 hg12) (sk (yD 15 hg12) (sk (yD 15 hg12) (sk (yD 15 hg12) (sm (sm (sm (sm (sm (sm (sm (sm ?_)))))))))))
     refine sm (sm (sm (sk (yD 15 hg12) (q2 (vb true) (xT hg12) (wpL_nil (th_n ?_))))))
     exact ⟨true, _, hg12, hs, hb, hm⟩
    ·refine q1 (vp (some p1)) (want1 rfl (yD 15 hg12)) (stp (v := (vi aA)) (want1 rfl (yD 15 hg12)) (xl (Tryz.isAgg3 _) (hb.c0 0 gZ)) ?_)
     refine st_call (want1 rfl (yD 15 hg12)) (xc Tryz.call136) ((p_V1 aA w16).mono ?_)
     rintro e w18 ⟨he, hE⟩
     refine ⟨(vb ((aA == 8) || (aA == 9))), he.trans (by kernel_rfl), ?_⟩
     have hs := hs.pure hE
     have hb := hb.pure hE
     refine q1 (vb ((aA == 8) || (aA == 9))) (want1 rfl (yD 15 hg12)) ?_
     refine wpL_join 12 (fun ρ wJ => ∃ b8'0 : Bool, ∃ HJ : NP, (((aA == 8) || (aA == 9)) = b8'0) ∧ Hst w0 None w0 HJ wJ ∧ HB HJ wJ [(p1, [(vi aA), (vi aB), (vi aC), (vu aK), (vs aF), (vi aL), (vi aM)], 86)] ∧ Has ρ [(1, (vp (some p1))), (15, (vb ((s_E aA) && (!((decide (aB ≥ 0)) && (decide (aB < 16))))))), (31, (vb (b8'0 && ((!((decide (aC ≥ 0)) && (decide (aC < 16)))) || (aB == aC)))))]) ?_ ?_
     ·rintro ρ w21 ⟨b8'0, H9, he0, hs, hb, hH⟩
      subst he0
      refine wpL_has hH ?_
      refine q2 (vb (((aA == 8) || (aA == 9)) && ((!((decide (aC ≥ 0)) && (decide (aC < 16)))) || (aB == aC)))) (xF hg12) (wpL_nil (th_n ?_))
      exact ⟨false, _, hg12, hs, hb, hm⟩
     ·rcases Bool.eq_false_or_eq_true ((aA == 8) || (aA == 9)) with hg16 | hg16
      ·refine q1 (vp (some (p1.add 2))) (want1 rfl (yD 19 hg16)) (stp (v := (vi aC)) (want1 rfl (yD 19 hg16)) (xl (Tryz.isAgg3 _) (hb.c 0 2 gZ)) ?_)
       refine st_call (want1 rfl (yD 19 hg16)) (xc Tryz.call135) ((p_A2 aC w18).mono ?_)
       rintro e w22 ⟨he, hE⟩
       refine ⟨(vb ((decide (aC ≥ 0)) && (decide (aC < 16)))), he.trans (by kernel_rfl), ?_⟩
       have hs := hs.pure hE
       have hb := hb.pure hE
       refine q1 (vb (!((decide (aC ≥ 0)) && (decide (aC < 16))))) (want1 rfl (yD 19 hg16)) (q1 (vb (!((decide (aC ≥ 0)) && (decide (aC < 16))))) (want1 rfl (yD 19 hg16)) ?_)
       refine wpL_join 6 (fun ρ wJ => ∃ b9'0 : Bool, ∃ HJ : NP, ((!((decide (aC ≥ 0)) && (decide (aC < 16)))) = b9'0) ∧ Hst w0 None w0 HJ wJ ∧ HB HJ wJ [(p1, [(vi aA), (vi aB), (vi aC), (vu aK), (vs aF), (vi aL), (vi aM)], 86)] ∧ Has ρ [(1, (vp (some p1))), (15, (vb ((s_E aA) && (!((decide (aB ≥ 0)) && (decide (aB < 16))))))), (19, (vb ((aA == 8) || (aA == 9)))), (30, (vb (b9'0 || (aB == aC))))]) ?_ ?_
       ·rintro ρ w23 ⟨b9'0, H10, he0, hs, hb, hH⟩
        subst he0
        refine wpL_has hH ?_
        refine stp (v := (vb ((!((decide (aC ≥ 0)) && (decide (aC < 16)))) || (aB == aC)))) (want1 rfl (yD 15 hg12)) (xT hg16) (wpL_nil ?_)
        exact ⟨true, _, hg16, hs, hb, hm⟩
       ·rcases Bool.eq_false_or_eq_true (!((decide (aC ≥ 0)) && (decide (aC < 16)))) with hg18 | hg18
        ·refine sk (yD 24 hg18) (sk (yD 24 hg18) (sk (yD 24 hg18) (sk (yD 24 hg18) (sk (yD 24 hg18) (stp (v := (vb true)) (want1 rfl (yD 19 hg16)) (xT hg18) (wpL_nil ?_))))))
         exact ⟨true, _, hg18, hs, hb, hm⟩
        ·refine q1 (vp (some (p1.add 1))) (want1 rfl (yD 24 hg18)) (stp (v := (vi aB)) (want1 rfl (yD 24 hg18)) (xl (Tryz.isAgg3 _) (hb.c 0 1 gZ)) (q1 (vp (some (p1.add 2))) (want1 rfl (yD 24 hg18)) (stp (v := (vi aC)) (want1 rfl (yD 24 hg18)) (xl (Tryz.isAgg3 _) (hb.c 0 2 gZ)) (q1 (vb (aB == aC)) (want1 rfl (yD 24 hg18)) (stp (v := (vb (aB == aC))) (want1 rfl (yD 19 hg16)) (xF hg18) (wpL_nil ?_))))))
         exact ⟨false, _, hg18, hs, hb, hm⟩
      ·refine sk (yD 19 hg16) (sk (yD 19 hg16) (sk (yD 19 hg16) (sk (yD 19 hg16) (sk (yD 19 hg16) (sm (sm (sm (sm (sm (sk (yD 19 hg16) (stp (v := (vb false)) (want1 rfl (yD 15 hg12)) (xF hg16) ?_)))))))))))
       refine wpL_nil ?_
       exact ⟨false, _, hg16, hs, hb, hm⟩
   ·rcases Bool.eq_false_or_eq_true (s_E aA) with hg11 | hg11
    ·refine q1 (vp (some (p1.add 1))) (want1 rfl (yD 9 hg11)) (stp (v := (vi aB)) (want1 rfl (yD 9 hg11)) (xl (Tryz.isAgg3 _) (hb.c 0 1 gZ)) ?_)
     refine st_call (want1 rfl (yD 9 hg11)) (xc Tryz.call135) ((p_A2 aB w14).mono ?_)
     rintro e w17 ⟨he, hE⟩
     refine ⟨(vb ((decide (aB ≥ 0)) && (decide (aB < 16)))), he.trans (by kernel_rfl), ?_⟩
     have hs := hs.pure hE
     have hb := hb.pure hE
     refine q1 (vb (!((decide (aB ≥ 0)) && (decide (aB < 16))))) (want1 rfl (yD 9 hg11)) (q2 (vb (!((decide (aB ≥ 0)) && (decide (aB < 16))))) (xT hg11) (wpL_nil ?_))
     exact ⟨true, _, hg11, hs, hb, hm⟩
    ·refine sk (yD 9 hg11) (sk (yD 9 hg11) (sk (yD 9 hg11) (sk (yD 9 hg11) (q2 (vb false) (xF hg11) (wpL_nil ?_)))))
     exact ⟨false, _, hg11, hs, hb, hm⟩
  ·rintro ρ w13 ⟨b5'0, H6, he0, hs, hb, hH⟩
   subst he0
   refine norm_has hH ?_
   refine th_n ?_
   refine wpE_cond (t := (((s_E aA) && (!((decide (aB ≥ 0)) && (decide (aB < 16))))) || (((aA == 8) || (aA == 9)) && ((!((decide (aC ≥ 0)) && (decide (aC < 16)))) || (aB == aC))))) (by kernel_rfl) (fun hc2 => ?_) (fun hc2 => ?_)
   ·refine wpE_seq (rg (q0 (vi 50) (wpL_nil (th_n (wpE_ret (th_r (rs1 Tryz.results86 (v := (vi 50)) ?_)))))))
    exact ⟨false, true, _, ⟨hc1, hc2, rfl⟩, by kernel_rfl, (Ext.refl (F := None) _).hst hs⟩
   ·refine wpE_skip (th_n (wpE_seq (wpE_seq (rg (q0 (vp (some (p1.add 4))) (q2 (vs aF) (xl (Tryz.isAgg9 _) (hb.c 0 4 gZ)) (q0 (vi (aF.size : Int)) (q0 (vb (decide ((aF.size : Int) > 64))) (wpL_nil (th_n ?_))))))))))
    refine wpE_cond (t := (decide ((aF.size : Int) > 64))) (by kernel_rfl) (fun hc3 => ?_) (fun hc3 => ?_)
    ·refine wpE_seq (rg (q0 (vi 1) (wpL_nil (th_n (wpE_ret (th_r (rs1 Tryz.results86 (v := (vi 1)) ?_)))))))
     exact ⟨false, false, true, ⟨hc1, hc2, hc3⟩, by kernel_rfl, (Ext.refl (F := None) _).hst hs⟩
    ·refine wpE_skip (th_n (wpE_seq (rg (q0 (vi 0) (wpL_nil (th_n (wpE_ret (rs1 Tryz.results86 (v := (vi 0)) ?_))))))))
     exact ⟨false, false, false, ⟨hc1, hc2, hc3⟩, by kernel_rfl, (Ext.refl (F := None) _).hst hs⟩
theorem p_J (aA aB : Int) (aC aK : Int) (aF : ByteArray) (aL aM : Int) (w0 : World) : Calls Tryz.prog 86 #[(.agg #[(.int .i64 aA), (.int .i64 aB), (.int .i64 aC), (.int .u64 aK), (.string aF), (.int .i64 aL), (.int .i64 aM)])] w0 (fun e w' => e = .returned (.int .i64 (s_J aA aB aC aK aF aL aM)) ∧ Pure w0 w') := by
 refine (pw_J aA aB aC aK aF aL aM w0).mono ?_
 rintro e w' ⟨b'0, b'1, b'2, ⟨e0, e1, e2⟩, h, E⟩
 subst e0
 subst e1
 subst e2
 exact ⟨h, E⟩
def m_T_l2 (aE : Sl) (deep1 : Int) (seen1 : Option Addr) (e1 i1 : Int) (w0 : World) (Hl1 : NP) (wl1 : World) (Kc2 : Int → Int → NP → WP) (K : Int → WP) : Prop :=
 Br ((e1 == 0) && (decide (i1 < (aE.len : Int))))
  (∃ a3 : Addr, At aE i1 6 a3 ∧
  ∀ (H4 : NP) (w11 : World), Hst w0 Hl1 wl1 H4 w11 →
  ∃ aN aO : Int, ∃ aP aQ : Int, ∃ aR : ByteArray, ∃ aX : Sl, Row w11 a3 [(vi aN), (vi aO), (vi aP), (vu aQ), (vs aR), aX.v] ∧
  Calls Tryz.prog 106 #[(.agg #[(vi aN), (vi aO), (vi aP), (vu aQ), (vs aR), aX.v]), (vi (q6.wrap (deep1 + 1))), (vp seen1)] w11 (fun e w12 => ∃ r1 : Int, e = .returned (vi r1) ∧ 
   Kept H4 w11 w12 ∧
   Kc2 r1 (q6.wrap (i1 + 1)) H4 w12))
  (∀ (H4 : NP) (w11 : World), Hst w0 Hl1 wl1 H4 w11 →
  K e1 w11)
def m_T_j1 (aD aG : Int) (aH aI : Int) (aJ : ByteArray) (aE : Sl) (deep1 : Int) (seen1 : Option Addr) (x1 : Bool) (w0 : World) (H : NP) (w : World) (K : Int → WP) : Prop :=
 Br x1
  (K 52 w)
  (∃ a1 : Addr, seen1 = some a1 ∧
  ∃ v1 : Int, w.cell? a1 = some (vi v1) ∧
  ∃ a2 : Addr, seen1 = some a2 ∧
  CanW w a2 ∧ ¬ H a2.block ∧ ∀ w2 : World, w2 = w.setCell a2 (vi (q6.wrap (v1 + 1))) →
  ∀ y1 : Bool, y1 = ((((s_J aD aG aH aI aJ 0 0) : Int) != 53) && (((aE.len : Int) : Int) != (s_C aD))) →
  ∀ (H3 : NP) (w10 : World), Hst w0 H w2 H3 w10 →
  ∃ (I1 : Int → Int → NP → WP) (mu1 : Int → Int → World → Nat), I1 (cond y1 53 (s_J aD aG aH aI aJ 0 0)) 0 H3 w10 ∧
   ∀ (e1 i1 : Int) (Hl1 : NP) (wl1 : World), Hst w0 Hl1 wl1 Hl1 wl1 → I1 e1 i1 Hl1 wl1 → m_T_l2 aE deep1 seen1 e1 i1 w0 Hl1 wl1 (fun y'0 y'1 H' w' => I1 y'0 y'1 H' w' ∧ mu1 y'0 y'1 w' < mu1 e1 i1 wl1) K)
def m_T (aD aG : Int) (aH aI : Int) (aJ : ByteArray) (aE : Sl) (deep1 : Int) (seen1 : Option Addr) (w0 : World) (K : Int → WP) : Prop :=
 ∃ a4 : Addr, seen1 = some a4 ∧
 ∀ (H1 : NP) (w1 : World), Hst w0 None w0 H1 w1 →
 ∃ v2 : Int, w1.cell? a4 = some (vi v2) ∧
 ∀ (H5 : NP) (w13 : World), Hst w0 H1 w1 H5 w13 →
 m_T_j1 aD aG aH aI aJ aE deep1 seen1 ((decide (v2 ≥ 4096)) || (decide (deep1 ≥ 64))) w0 H5 w13 K
theorem w_T (aD aG : Int) (aH aI : Int) (aJ : ByteArray) (aE : Sl) (deep1 : Int) (seen1 : Option Addr) (w0 : World) (K : Int → WP) (h : m_T aD aG aH aI aJ aE deep1 seen1 w0 K) :
  Calls Tryz.prog 106 #[(.agg #[(vi aD), (vi aG), (vi aH), (vu aI), (vs aJ), aE.v]), (vi deep1), (vp seen1)] w0 (fun e w' => ∃ r2 : Int, e = .returned (vi r2) ∧ K r2 w') := by
 unfold m_T at h
 refine cw (args := [(.agg #[(vi aD), (vi aG), (vi aH), (vu aI), (vs aJ), aE.v]), (vi deep1), (vp seen1)]) Tryz.func106 Tryz.ntmps106 ?_
 have hs := Hst.start w0
 have hb := HB.nil None w0
 refine wpE_seq (rg (sn (O := (.cells #[(vi aD), (vi aG), (vi aH), (vu aI), (vs aJ), aE.v] 49)) xb ?_))
 intro p1 w1 hn1
 obtain ⟨H1, hs, hb⟩ := hs.alloc hb hn1
 refine q0 (vi 0) (wpL_nil (th_n (wpE_seq (wpE_seq ?_))))
 refine wpE_joinT (fun ρ w => ∃ x1 : Bool, ∃ H : NP, Has ρ [(1, (vi deep1)), (2, (vp seen1)), (3, (vp (some p1))), (16, (vb x1))] ∧ Hst w0 H w H w ∧ HB H w [(p1, [(vi aD), (vi aG), (vi aH), (vu aI), (vs aJ), aE.v], 49)] ∧ m_T_j1 aD aG aH aI aJ aE deep1 seen1 x1 w0 H w K) ?_ ?_
 ·rintro ρ w ⟨x1, H, hH, hs, hb, h⟩
  unfold m_T_j1 at h
  refine wpE_has hH ?_
  refine wpE_cond (t := x1) (by kernel_rfl) (fun hc1 => ?_) (fun hc1 => ?_)
  ·have h := h.1 hc1
   refine wpE_seq (rg (q0 (vi 52) (wpL_nil (th_n (wpE_ret (th_r (rs1 Tryz.results106 (v := (vi 52)) ?_)))))))
   exact ⟨52, rfl, h⟩
  ·have h := h.2 hc1
   refine wpE_skip (th_n (wpE_seq (rg (q0 (vp seen1) (q0 (vp seen1) ?_)))))
   obtain ⟨a1, hp1, h⟩ := h
   refine q2 (vp (some a1)) (x_nilCheck (p := seen1) (by kernel_rfl) hp1) ?_
   obtain ⟨v1, hv3, h⟩ := h
   refine q2 (vi v1) (xl (Tryz.isAgg3 _) hv3) (q0 (vi (q6.wrap (v1 + 1))) ?_)
   obtain ⟨a2, hp2, h⟩ := h
   refine q2 (vp (some a2)) (x_nilCheck (p := seen1) (by kernel_rfl) hp2) ?_
   obtain ⟨hp3, hnh, h⟩ := h
   refine st_set (want0 rfl) (x_store (a := a2) (v := (vi (q6.wrap (v1 + 1)))) (by kernel_rfl) (by kernel_rfl) rfl (Tryz.sizeOf3 _) hp3) ?_
   intro w2 hn2
   have h := h w2 hn2
   have hk := Kept.sc hnh hn2
   obtain ⟨hs, hb⟩ := hk.hh hs hb
   refine wpL_nil (th_n (wpE_seq (rg (q2 (.agg #[(vi aD), (vi aG), (vi aH), (vu aI), (vs aJ), aE.v]) (x_loadA (a := p1) (vs := [(vi aD), (vi aG), (vi aH), (vu aI), (vs aJ), aE.v]) (by kernel_rfl) (Tryz.isAgg49 _) (Tryz.sizeOf49 _) rfl (hb.row0 0 6 gZ (by kernel_rfl))) ?_))))
   refine sc Tryz.call107 ((p_Z aD aG aH aI aJ aE w2).mono ?_)
   rintro e w3 ⟨he, hE⟩
   refine ⟨(.agg #[(vi aD), (vi aG), (vi aH), (vu aI), (vs aJ), (vi 0), (vi 0)]), he.trans (by kernel_rfl), ?_⟩
   have hs := hs.pure hE
   have hb := hb.pure hE
   refine sc Tryz.call86 ((p_J aD aG aH aI aJ 0 0 w3).mono ?_)
   rintro e w4 ⟨he, hE⟩
   refine ⟨(vi (s_J aD aG aH aI aJ 0 0)), he.trans (by kernel_rfl), ?_⟩
   have hs := hs.pure hE
   have hb := hb.pure hE
   refine q0 (vi (s_J aD aG aH aI aJ 0 0)) (wpL_nil (th_n (wpE_seq (wpE_seq ?_))))
   refine wpE_via (fun ρ wJ => ∃ b1'0 y1 : Bool, ∃ HJ : NP, ((((s_J aD aG aH aI aJ 0 0) : Int) != 53) = b1'0) ∧ (y1 = (b1'0 && (((aE.len : Int) : Int) != (s_C aD)))) ∧ Hst w0 H w2 HJ wJ ∧ HB HJ wJ [(p1, [(vi aD), (vi aG), (vi aH), (vu aI), (vs aJ), aE.v], 49)] ∧ Has ρ [(1, (vi deep1)), (2, (vp seen1)), (3, (vp (some p1))), (7, (vi (s_J aD aG aH aI aJ 0 0))), (36, (vb y1))]) ?_ ?_
   ·refine wpE_drawnC (fun x => ∃ H', Hst w0 H w2 H' x ∧ HB H' x [(p1, [(vi aD), (vi aG), (vi aH), (vu aI), (vs aJ), aE.v], 49)]) [8] [] (by kernel_rfl) (by kernel_rfl) (by kernel_rfl) (by kernel_rfl) ⟨_, hs.drew, hb.drew⟩ ?_
    intro w8 hw8
    have hs : Hst w0 H w2 H w8 := by rw [hw8]; exact hs.drew
    have hb : HB H w8 [(p1, [(vi aD), (vi aG), (vi aH), (vu aI), (vs aJ), aE.v], 49)] := by rw [hw8]; exact hb.drew
    refine qx 0 (vi (s_J aD aG aH aI aJ 0 0)) Kp0 (qx 1 (vb (((s_J aD aG aH aI aJ 0 0) : Int) != 53)) Kp1 (qx 2 (vb (((s_J aD aG aH aI aJ 0 0) : Int) != 53)) Kp2 (qg 3 ?_)))
    rcases Bool.eq_false_or_eq_true (((s_J aD aG aH aI aJ 0 0) : Int) != 53) with hg2 | hg2
    ·refine sz (v := (vp (some (p1.add 5)))) Kp3 (want1 rfl (yD 28 hg2)) (fun _ _ => (by kernel_rfl)) (qg 4 (sz (v := aE.v) Kp4 (want1 rfl (yD 28 hg2)) (fun w' hw' => (by obtain ⟨H', hs', hb'⟩ := hw'; exact (xl (Tryz.isAgg22 _) (hb'.cell 0 5 gZ (by kernel_rfl))))) (qw 5 (vi (aE.len : Int)) Kp5 (want1 rfl (yD 28 hg2)) (qw 6 (vp (some p1)) Kp6 (want1 rfl (yD 28 hg2)) (qg 7 (sz (v := (vi aD)) Kp7 (want1 rfl (yD 28 hg2)) (fun w' hw' => (by obtain ⟨H', hs', hb'⟩ := hw'; exact (xl (Tryz.isAgg3 _) (hb'.cell0 0 gZ (by kernel_rfl))))) (lg 8 ?_)))))))
     refine sl_call Kp8 (want1 rfl (yD 28 hg2)) (by kernel_rfl) (xc Tryz.call46) ((p_C aD w8).mono ?_)
     rintro e w9 ⟨he, hE⟩
     have hs := hs.pure hE
     have hb := hb.pure hE
     refine ⟨(vi (s_C aD)), he.trans (by kernel_rfl), .inr ⟨_, hs, hb⟩, ?_⟩
     refine qw 9 (vb (((aE.len : Int) : Int) != (s_C aD))) Kp9 (want1 rfl (yD 28 hg2)) (qz 10 (vb (((aE.len : Int) : Int) != (s_C aD))) (pickA (S8 (pickS (pickS pickZ)))) (fun _ _ => (xT hg2)) (wn (th_n ?_)))
     exact ⟨true, _, _, hg2, rfl, hs, hb, hm⟩
    ·refine sx_not Kp3 (unwant rfl (yD 28 hg2) rfl) (qn 4 Kp4 (unwant rfl (yD 28 hg2) rfl) (qn 5 Kp5 (unwant rfl (yD 28 hg2) rfl) (qn 6 Kp6 (unwant rfl (yD 28 hg2) rfl) (qn 7 Kp7 (unwant rfl (yD 28 hg2) rfl) (lg 8 (sx_not Kp8 (unwant rfl (yD 28 hg2) rfl) (qn 9 Kp9 (unwant rfl (yD 28 hg2) rfl) (qz 10 (vb false) (pickA (S8 (pickS (pickS pickZ)))) (fun _ _ => (xF hg2)) (wn (th_n ?_))))))))))
     exact ⟨false, _, _, hg2, rfl, hs, hb, hm⟩
   ·rintro ρ w7 ⟨b1'0, y1, H2, he0, hy1, hs, hb, hH⟩
    subst he0
    have h := h y1 hy1
    refine norm_has hH ?_
    refine th_n ?_
    refine wpE_via (fun ρ wJ => ∃ b2'0 : Bool, ∃ HJ : NP, (y1 = b2'0) ∧ Hst w0 H w2 HJ wJ ∧ HB HJ wJ [(p1, [(vi aD), (vi aG), (vi aH), (vu aI), (vs aJ), aE.v], 49)] ∧ Has ρ [(1, (vi deep1)), (2, (vp seen1)), (3, (vp (some p1))), (7, (vi (cond b2'0 53 (s_J aD aG aH aI aJ 0 0))))]) ?_ ?_
    ·refine wpE_cond (t := y1) (by kernel_rfl) (fun hc3 => ?_) (fun hc3 => ?_)
     ·refine rg (q0 (vi 53) (wpL_nil (th_n ?_)))
      exact ⟨true, _, hc3, hs, hb, hm⟩
     ·refine wpE_skip (th_n ?_)
      exact ⟨false, _, hc3, hs, hb, hm⟩
    ·rintro ρ w10 ⟨b2'0, H3, he0, hs, hb, hH⟩
     subst he0
     refine norm_has hH ?_
     refine th_n (wpE_seq (wpE_seq (rg (q0 (vi 0) (wpL_nil (th_n (wpE_block ?_)))))))
     have h := h H3 w10 hs
     have hs := hs.here
     obtain ⟨I1, mu1, h0, hr⟩ := h
     refine wpE_loop (σ := Int × Int × NP × World) (fun s ρ w => w = s.2.2.2 ∧ Has ρ [(1, (vi deep1)), (2, (vp seen1)), (3, (vp (some p1))), (7, (vi s.1)), (8, (vi s.2.1))] ∧ Hst w0 s.2.2.1 w s.2.2.1 w ∧ HB s.2.2.1 w [(p1, [(vi aD), (vi aG), (vi aH), (vu aI), (vs aJ), aE.v], 49)] ∧ I1 s.1 s.2.1 s.2.2.1 s.2.2.2) (fun s => mu1 s.1 s.2.1 s.2.2.2) ((cond y1 53 (s_J aD aG aH aI aJ 0 0)), 0, H3, w10) ⟨rfl, hm, hs, hb, h0⟩ ?_
     rintro ⟨e1, i1, Hl1, wl1⟩ ρ w ⟨hw, hH, hs, hb, hI⟩
     obtain rfl : wl1 = w := (show w = wl1 from hw).symm
     have hH : Has ρ [(1, (vi deep1)), (2, (vp seen1)), (3, (vp (some p1))), (7, (vi e1)), (8, (vi i1))] := hH
     have hs : Hst w0 Hl1 wl1 Hl1 wl1 := hs
     have hb : HB Hl1 wl1 [(p1, [(vi aD), (vi aG), (vi aH), (vu aI), (vs aJ), aE.v], 49)] := hb
     have h := hr e1 i1 Hl1 wl1 hs hI
     unfold m_T_l2 at h
     refine wpE_has hH ?_
     refine wpE_seq (wpE_seq ?_)
     refine wpE_via (fun ρ wJ => ∃ b3'0 : Bool, ∃ HJ : NP, ((e1 == 0) = b3'0) ∧ Hst w0 Hl1 wl1 HJ wJ ∧ HB HJ wJ [(p1, [(vi aD), (vi aG), (vi aH), (vu aI), (vs aJ), aE.v], 49)] ∧ Has ρ [(1, (vi deep1)), (2, (vp seen1)), (3, (vp (some p1))), (7, (vi e1)), (8, (vi i1)), (45, (vb (b3'0 && (decide (i1 < (aE.len : Int))))))]) ?_ ?_
     ·refine rg (q0 (vi e1) (q0 (vb (e1 == 0)) (q0 (vb (e1 == 0)) ?_)))
      rcases Bool.eq_false_or_eq_true (e1 == 0) with hg4 | hg4
      ·refine q1 (vi i1) (want1 rfl (yD 39 hg4)) (q1 (vp (some (p1.add 5))) (want1 rfl (yD 39 hg4)) (stp (v := aE.v) (want1 rfl (yD 39 hg4)) (xl (Tryz.isAgg22 _) (hb.c 0 5 gZ)) (q1 (vi (aE.len : Int)) (want1 rfl (yD 39 hg4)) (q1 (vb (decide (i1 < (aE.len : Int)))) (want1 rfl (yD 39 hg4)) (q2 (vb (decide (i1 < (aE.len : Int)))) (xT hg4) (wpL_nil (th_n ?_)))))))
       exact ⟨true, _, hg4, hs, hb, hm⟩
      ·refine sk (yD 39 hg4) (sk (yD 39 hg4) (sk (yD 39 hg4) (sk (yD 39 hg4) (sk (yD 39 hg4) (q2 (vb false) (xF hg4) (wpL_nil (th_n ?_)))))))
       exact ⟨false, _, hg4, hs, hb, hm⟩
     ·rintro ρ w11 ⟨b3'0, H4, he0, hs, hb, hH⟩
      subst he0
      refine norm_has hH ?_
      refine th_n ?_
      refine wpE_cond (t := ((e1 == 0) && (decide (i1 < (aE.len : Int))))) (by kernel_rfl) (fun hc4 => ?_) (fun hc4 => ?_)
      ·have h := h.1 hc4
       refine wpE_skip (th_n (wpE_seq (wpE_block (rg (q0 (vp (some (p1.add 5))) (q2 aE.v (xl (Tryz.isAgg22 _) (hb.c 0 5 gZ)) (q0 (vi i1) ?_)))))))
       obtain ⟨a3, hv2, h⟩ := h
       refine q2 (vp (some a3)) (xi (Tryz.runUnderlying22 _) (Tryz.sizeOf49 _) hv2) ?_
       have h := h H4 w11 hs
       have hs := hs.here
       obtain ⟨aN, aO, aP, aQ, aR, aX, hv1, h⟩ := h
       refine q2 (.agg #[(vi aN), (vi aO), (vi aP), (vu aQ), (vs aR), aX.v]) (x_loadA (a := a3) (vs := [(vi aN), (vi aO), (vi aP), (vu aQ), (vs aR), aX.v]) (by kernel_rfl) (Tryz.isAgg49 _) (Tryz.sizeOf49 _) rfl hv1) (q0 (vi deep1) (q0 (vi (q6.wrap (deep1 + 1))) (q0 (vp seen1) ?_)))
       refine sc Tryz.call106 (h.mono ?_)
       rintro e w12 ⟨r1, rfl, hk, h⟩
       refine ⟨_, rfl, ?_⟩
       obtain ⟨hs, hb⟩ := hk.hh hs hb
       refine q0 (vi r1) (wpL_nil (bl_n (th_n (rg (q0 (vi i1) (q0 (vi (q6.wrap (i1 + 1))) (q0 (vi (q6.wrap (i1 + 1))) (wpL_nil (th_n ?_)))))))))
       exact ⟨(r1, (q6.wrap (i1 + 1)), H4, w12), ⟨rfl, hm, hs, hb, h.1⟩, h.2⟩
      ·have h := h.2 hc4
       refine wpE_exit (th_x (th_x (bl_eq (th_n (wpE_seq (rg (q0 (vi e1) (q0 (vi e1) (wpL_nil (th_n (wpE_ret ?_)))))))))))
       have h := h H4 w11 hs
       have hs := hs.here
       refine rs1 Tryz.results106 (v := (vi e1)) ?_
       exact ⟨e1, rfl, h⟩
 ·refine rg (q0 (vp seen1) ?_)
  obtain ⟨a4, hp4, h⟩ := h
  refine q2 (vp (some a4)) (x_nilCheck (p := seen1) (by kernel_rfl) hp4) ?_
  have h := h H1 w1 hs
  have hs := hs.here
  obtain ⟨v2, hv4, h⟩ := h
  refine q2 (vi v2) (xl (Tryz.isAgg3 _) hv4) (q0 (vb (decide (v2 ≥ 4096))) (q0 (vb (decide (v2 ≥ 4096))) ?_))
  refine wpL_join 3 (fun ρ wJ => ∃ b4'0 : Bool, ∃ HJ : NP, ((decide (v2 ≥ 4096)) = b4'0) ∧ Hst w0 H1 w1 HJ wJ ∧ HB HJ wJ [(p1, [(vi aD), (vi aG), (vi aH), (vu aI), (vs aJ), aE.v], 49)] ∧ Has ρ [(1, (vi deep1)), (2, (vp seen1)), (3, (vp (some p1))), (16, (vb (b4'0 || (decide (deep1 ≥ 64)))))]) ?_ ?_
  ·rintro ρ w13 ⟨b4'0, H5, he0, hs, hb, hH⟩
   subst he0
   refine wpL_has hH ?_
   refine wpL_nil ?_
   have h := h H5 w13 hs
   have hs := hs.here
   refine th_n ?_
   exact ⟨((decide (v2 ≥ 4096)) || (decide (deep1 ≥ 64))), H5, hm, hs, hb, h⟩
  ·rcases Bool.eq_false_or_eq_true (decide (v2 ≥ 4096)) with hg6 | hg6
   ·refine sk (yD 13 hg6) (sk (yD 13 hg6) (q2 (vb true) (xT hg6) (wpL_nil ?_)))
    exact ⟨true, _, hg6, hs, hb, hm⟩
   ·refine q1 (vi deep1) (want1 rfl (yD 13 hg6)) (q1 (vb (decide (deep1 ≥ 64))) (want1 rfl (yD 13 hg6)) (q2 (vb (decide (deep1 ≥ 64))) (xF hg6) (wpL_nil ?_)))
    exact ⟨false, _, hg6, hs, hb, hm⟩
def m_F3 (aD aG : Int) (aH aI : Int) (aJ : ByteArray) (aE : Sl) (w0 : World) (K : Int → WP) : Prop :=
 ∀ (H1 : NP) (w1 : World), Hst w0 None w0 H1 w1 →
 ∀ (p2 : Addr) (w2 : World), New w1 (.cells #[(vi 0)] 3) p2 w2 →
 CanW w2 p2 ∧ ¬ H1 p2.block ∧ ∀ w3 : World, w3 = w2.setCell p2 (vi 0) →
 Calls Tryz.prog 106 #[(.agg #[(vi aD), (vi aG), (vi aH), (vu aI), (vs aJ), aE.v]), (vi 0), (vp (some p2))] w3 (fun e w4 => ∃ r1 : Int, e = .returned (vi r1) ∧ 
  Kept H1 w3 w4 ∧
  K r1 w4)
theorem w_F3 (aD aG : Int) (aH aI : Int) (aJ : ByteArray) (aE : Sl) (w0 : World) (K : Int → WP) (h : m_F3 aD aG aH aI aJ aE w0 K) :
  Calls Tryz.prog 71 #[(.agg #[(vi aD), (vi aG), (vi aH), (vu aI), (vs aJ), aE.v])] w0 (fun e w' => ∃ r2 : Int, e = .returned (vi r2) ∧ K r2 w') := by
 unfold m_F3 at h
 refine cw (args := [(.agg #[(vi aD), (vi aG), (vi aH), (vu aI), (vs aJ), aE.v])]) Tryz.func71 Tryz.ntmps71 ?_
 have hs := Hst.start w0
 have hb := HB.nil None w0
 refine wpE_seq (rg (sn (O := (.cells #[(vi aD), (vi aG), (vi aH), (vu aI), (vs aJ), aE.v] 49)) xb ?_))
 intro p1 w1 hn1
 obtain ⟨H1, hs, hb⟩ := hs.alloc hb hn1
 refine q0 (vi 0) (wpL_nil (th_n (wpE_seq (rg ?_))))
 have h := h H1 w1 hs
 have hs := hs.here
 refine sn (O := (.cells #[(vi 0)] 3)) (x_alloc (Tryz.zeroValue3 _) rfl) ?_
 intro p2 w2 hn3
 have h := h p2 w2 hn3
 have hs := hs.again (Ext.new (F := None) hn3).keptP
 have hb := hb.kept (Ext.new (F := None) hn3).keptP
 obtain ⟨hp1, hnh, h⟩ := h
 refine st_set (want0 rfl) (x_store (a := p2) (v := (vi 0)) (by kernel_rfl) (by kernel_rfl) rfl (Tryz.sizeOf3 _) hp1) ?_
 intro w3 hn2
 have h := h w3 hn2
 have hk := Kept.sc hnh hn2
 obtain ⟨hs, hb⟩ := hk.hh hs hb
 refine wpL_nil (th_n (wpE_seq (rg (q2 (.agg #[(vi aD), (vi aG), (vi aH), (vu aI), (vs aJ), aE.v]) (x_loadA (a := p1) (vs := [(vi aD), (vi aG), (vi aH), (vu aI), (vs aJ), aE.v]) (by kernel_rfl) (Tryz.isAgg49 _) (Tryz.sizeOf49 _) rfl (hb.row0 0 6 gZ (by kernel_rfl))) ?_))))
 refine sc Tryz.call106 (h.mono ?_)
 rintro e w4 ⟨r1, rfl, hk, h⟩
 refine ⟨_, rfl, ?_⟩
 obtain ⟨hs, hb⟩ := hk.hh hs hb
 refine q0 (vi r1) (wpL_nil (th_n (wpE_ret (rs1 Tryz.results71 (v := (vi r1)) ?_))))
 exact ⟨r1, rfl, h⟩
def m_G3 (p1 : Option Addr) (t1 : Int) (w0 : World) (K : Int → WP) : Prop :=
 Calls Tryz.prog 60 #[(vp p1), (vi t1)] w0 (fun e w1 => ∃ r1 : Bool, e = .returned (vb r1) ∧ 
  Br (!r1)
   (K 0 w1)
   (∃ a1 : Addr, p1 = some a1 ∧
   ∃ v1 : Sl, w1.cell? (a1.add 1) = some v1.v ∧
   ∃ a2 : Addr, At v1 (q6.wrap (t1 - 1)) 1 a2 ∧
   ∃ v2 : Int, w1.cell? a2 = some (vi v2) ∧
   K v2 w1))
theorem w_G3 (p1 : Option Addr) (t1 : Int) (w0 : World) (K : Int → WP) (h : m_G3 p1 t1 w0 K) :
  Calls Tryz.prog 87 #[(vp p1), (vi t1)] w0 (fun e w' => ∃ r2 : Int, e = .returned (vi r2) ∧ K r2 w') := by
 unfold m_G3 at h
 refine cw (args := [(vp p1), (vi t1)]) Tryz.func87 Tryz.ntmps87 (wpE_seq (rg (q0 (vi 0) (wpL_nil (th_n (wpE_seq (wpE_seq (rg (q0 (vp p1) (q0 (vi t1) ?_))))))))))
 refine sc Tryz.call60 (h.mono ?_)
 rintro e w1 ⟨r1, rfl, h⟩
 refine ⟨_, rfl, ?_⟩
 refine q0 (vb (!r1)) (wpL_nil (th_n ?_))
 refine wpE_cond (t := (!r1)) (by kernel_rfl) (fun hc1 => ?_) (fun hc1 => ?_)
 ·have h := h.1 hc1
  refine wpE_seq (rg (q0 (vi 0) (wpL_nil (th_n (wpE_ret (th_r (rs1 Tryz.results87 (v := (vi 0)) ?_)))))))
  exact ⟨0, rfl, h⟩
 ·have h := h.2 hc1
  refine wpE_skip (th_n (wpE_seq (rg (q0 (vp p1) ?_))))
  obtain ⟨a1, hp1, h⟩ := h
  refine q2 (vp (some a1)) (x_nilCheck (p := p1) (by kernel_rfl) hp1) (q0 (vp (some (a1.add 1))) ?_)
  obtain ⟨v1, hv3, h⟩ := h
  refine q2 v1.v (xl (Tryz.isAgg43 _) hv3) (q0 (vi t1) (q0 (vi (q6.wrap (t1 - 1))) ?_))
  obtain ⟨a2, hv2, h⟩ := h
  refine q2 (vp (some a2)) (xi (Tryz.runUnderlying43 _) (Tryz.sizeOf3 _) hv2) ?_
  obtain ⟨v2, hv1, h⟩ := h
  refine q2 (vi v2) (xl (Tryz.isAgg3 _) hv1) (q0 (vi v2) (wpL_nil (th_n (wpE_ret (rs1 Tryz.results87 (v := (vi v2)) ?_)))))
  exact ⟨v2, rfl, h⟩
def m_H3 (p1 : Option Addr) (t1 : Int) (w0 : World) (K : Int → WP) : Prop :=
 Calls Tryz.prog 60 #[(vp p1), (vi t1)] w0 (fun e w1 => ∃ r1 : Bool, e = .returned (vb r1) ∧ 
  Br (!r1)
   (K 0 w1)
   (∃ a1 : Addr, p1 = some a1 ∧
   ∃ v1 : Sl, w1.cell? (a1.add 2) = some v1.v ∧
   ∃ a2 : Addr, At v1 (q6.wrap (t1 - 1)) 1 a2 ∧
   ∃ v2 : Int, w1.cell? a2 = some (vi v2) ∧
   K v2 w1))
theorem w_H3 (p1 : Option Addr) (t1 : Int) (w0 : World) (K : Int → WP) (h : m_H3 p1 t1 w0 K) :
  Calls Tryz.prog 88 #[(vp p1), (vi t1)] w0 (fun e w' => ∃ r2 : Int, e = .returned (vi r2) ∧ K r2 w') := by
 unfold m_H3 at h
 refine cw (args := [(vp p1), (vi t1)]) Tryz.func88 Tryz.ntmps88 (wpE_seq (rg (q0 (vi 0) (wpL_nil (th_n (wpE_seq (wpE_seq (rg (q0 (vp p1) (q0 (vi t1) ?_))))))))))
 refine sc Tryz.call60 (h.mono ?_)
 rintro e w1 ⟨r1, rfl, h⟩
 refine ⟨_, rfl, ?_⟩
 refine q0 (vb (!r1)) (wpL_nil (th_n ?_))
 refine wpE_cond (t := (!r1)) (by kernel_rfl) (fun hc1 => ?_) (fun hc1 => ?_)
 ·have h := h.1 hc1
  refine wpE_seq (rg (q0 (vi 0) (wpL_nil (th_n (wpE_ret (th_r (rs1 Tryz.results88 (v := (vi 0)) ?_)))))))
  exact ⟨0, rfl, h⟩
 ·have h := h.2 hc1
  refine wpE_skip (th_n (wpE_seq (rg (q0 (vp p1) ?_))))
  obtain ⟨a1, hp1, h⟩ := h
  refine q2 (vp (some a1)) (x_nilCheck (p := p1) (by kernel_rfl) hp1) (q0 (vp (some (a1.add 2))) ?_)
  obtain ⟨v1, hv3, h⟩ := h
  refine q2 v1.v (xl (Tryz.isAgg43 _) hv3) (q0 (vi t1) (q0 (vi (q6.wrap (t1 - 1))) ?_))
  obtain ⟨a2, hv2, h⟩ := h
  refine q2 (vp (some a2)) (xi (Tryz.runUnderlying43 _) (Tryz.sizeOf3 _) hv2) ?_
  obtain ⟨v2, hv1, h⟩ := h
  refine q2 (vi v2) (xl (Tryz.isAgg3 _) hv1) (q0 (vi v2) (wpL_nil (th_n (wpE_ret (rs1 Tryz.results88 (v := (vi v2)) ?_)))))
  exact ⟨v2, rfl, h⟩
theorem eqt_ref05_Pool_Has_eql_86 (a0 a1 : Int) (a2 a3 : Int) (a4 : ByteArray) (a5 a6 : Int) (b0 b1 : Int) (b2 b3 : Int) (b4 : ByteArray) (b5 b6 : Int) (w : World) : (Go.binOp .eql 86 (.agg #[(.int .i64 a0), (.int .i64 a1), (.int .i64 a2), (.int .u64 a3), (.string a4), (.int .i64 a5), (.int .i64 a6)]) (.agg #[(.int .i64 b0), (.int .i64 b1), (.int .i64 b2), (.int .u64 b3), (.string b4), (.int .i64 b5), (.int .i64 b6)])).run Tryz.prog w = .ok (.bool ((a0 == b0) && ((a1 == b1) && ((a2 == b2) && ((a3 == b3) && ((decide (a4 = b4)) && ((a5 == b5) && (a6 == b6)))))))) w := by
 simp [Go.binOp, Op.equal, Op.maxDepth, go_sem, streq, bne]
 repeat' split
 all_goals simp_all
def m_H1_l1 (p1 : Option Addr) (aA aB : Int) (aC aK : Int) (aF : ByteArray) (aL aM i1 : Int) (w0 : World) (Hl1 : NP) (wl1 : World) (Kc1 : Int → NP → WP) (K : Int → Bool → WP) : Prop :=
 ∃ a1 : Addr, p1 = some a1 ∧
 ∃ v1 : Sl, wl1.cell? a1 = some v1.v ∧
 Br (decide (i1 < (v1.len : Int)))
  (∃ a2 : Addr, p1 = some a2 ∧
  ∀ (w2 : World), Hst w0 Hl1 wl1 Hl1 w2 →
  ∃ v2 : Sl, w2.cell? a2 = some v2.v ∧
  ∃ a3 : Addr, At v2 i1 7 a3 ∧
  ∃ aN aO : Int, ∃ aP aQ : Int, ∃ aR : ByteArray, ∃ bG bH : Int, Row w2 a3 [(vi aN), (vi aO), (vi aP), (vu aQ), (vs aR), (vi bG), (vi bH)] ∧
  Br ((aN == aA) && ((aO == aB) && ((aP == aC) && ((aQ == aK) && ((decide (aR = aF)) && ((bG == aL) && (bH == aM)))))))
   (K (q6.wrap (i1 + 1)) true w2)
   (Kc1 (q6.wrap (i1 + 1)) Hl1 w2))
  (K 0 false wl1)
def m_H1 (p1 : Option Addr) (aA aB : Int) (aC aK : Int) (aF : ByteArray) (aL aM : Int) (w0 : World) (K : Int → Bool → WP) : Prop :=
 ∀ (H1 : NP) (w1 : World), Hst w0 None w0 H1 w1 →
 ∃ (I1 : Int → NP → WP) (mu1 : Int → World → Nat), I1 0 H1 w1 ∧
  ∀ (i1 : Int) (Hl1 : NP) (wl1 : World), Hst w0 Hl1 wl1 Hl1 wl1 → I1 i1 Hl1 wl1 → m_H1_l1 p1 aA aB aC aK aF aL aM i1 w0 Hl1 wl1 (fun y'0 H' w' => I1 y'0 H' w' ∧ mu1 y'0 w' < mu1 i1 wl1) K
theorem w_H1 (p1 : Option Addr) (aA aB : Int) (aC aK : Int) (aF : ByteArray) (aL aM : Int) (w0 : World) (K : Int → Bool → WP) (h : m_H1 p1 aA aB aC aK aF aL aM w0 K) :
  Calls Tryz.prog 89 #[(vp p1), (.agg #[(vi aA), (vi aB), (vi aC), (vu aK), (vs aF), (vi aL), (vi aM)])] w0 (fun e w' => ∃ r1 : Int, ∃ r2 : Bool, e = .returned (.tuple #[(vi r1), (vb r2)]) ∧ K r1 r2 w') := by
 unfold m_H1 at h
 refine cw (args := [(vp p1), (.agg #[(vi aA), (vi aB), (vi aC), (vu aK), (vs aF), (vi aL), (vi aM)])]) Tryz.func89 Tryz.ntmps89 ?_
 have hs := Hst.start w0
 have hb := HB.nil None w0
 refine wpE_seq (rg (sn (O := (.cells #[(vi aA), (vi aB), (vi aC), (vu aK), (vs aF), (vi aL), (vi aM)] 86)) xb ?_))
 intro p2 w1 hn1
 obtain ⟨H1, hs, hb⟩ := hs.alloc hb hn1
 refine q0 (vi 0) (q0 (vb false) (wpL_nil (th_n (wpE_seq (wpE_seq (rg (q0 (vi 0) (wpL_nil (th_n (wpE_block ?_))))))))))
 have h := h H1 w1 hs
 have hs := hs.here
 obtain ⟨I1, mu1, h0, hr⟩ := h
 refine wpE_loop (σ := Int × NP × World) (fun s ρ w => w = s.2.2 ∧ Has ρ [(0, (vp p1)), (3, (vp (some p2))), (6, (vi s.1))] ∧ Hst w0 s.2.1 w s.2.1 w ∧ HB s.2.1 w [(p2, [(vi aA), (vi aB), (vi aC), (vu aK), (vs aF), (vi aL), (vi aM)], 86)] ∧ I1 s.1 s.2.1 s.2.2) (fun s => mu1 s.1 s.2.2) (0, H1, w1) ⟨rfl, hm, hs, hb, h0⟩ ?_
 rintro ⟨i1, Hl1, wl1⟩ ρ w ⟨hw, hH, hs, hb, hI⟩
 obtain rfl : wl1 = w := (show w = wl1 from hw).symm
 have hH : Has ρ [(0, (vp p1)), (3, (vp (some p2))), (6, (vi i1))] := hH
 have hs : Hst w0 Hl1 wl1 Hl1 wl1 := hs
 have hb : HB Hl1 wl1 [(p2, [(vi aA), (vi aB), (vi aC), (vu aK), (vs aF), (vi aL), (vi aM)], 86)] := hb
 have h := hr i1 Hl1 wl1 hs hI
 unfold m_H1_l1 at h
 refine wpE_has hH ?_
 refine wpE_seq (wpE_seq (rg (q0 (vi i1) (q0 (vp p1) ?_))))
 obtain ⟨a1, hp1, h⟩ := h
 refine q2 (vp (some a1)) (x_nilCheck (p := p1) (by kernel_rfl) hp1) (q0 (vp (some a1)) ?_)
 obtain ⟨v1, hv4, h⟩ := h
 refine q2 v1.v (xl (Tryz.isAgg42 _) hv4) (q0 (vi (v1.len : Int)) (q0 (vb (decide (i1 < (v1.len : Int)))) (wpL_nil (th_n ?_))))
 refine wpE_cond (t := (decide (i1 < (v1.len : Int)))) (by kernel_rfl) (fun hc1 => ?_) (fun hc1 => ?_)
 ·have h := h.1 hc1
  refine wpE_skip (th_n (wpE_seq (wpE_block (wpE_seq (wpE_drawnQ (by kernel_rfl) (by kernel_rfl) (by kernel_rfl) (by kernel_rfl) ?_)))))
  intro w2 hw2
  have hs : Hst w0 Hl1 wl1 Hl1 w2 := by rw [hw2]; exact hs.drew
  have hb : HB Hl1 w2 [(p2, [(vi aA), (vi aB), (vi aC), (vu aK), (vs aF), (vi aL), (vi aM)], 86)] := by rw [hw2]; exact hb.drew
  refine qq 0 (vp p1) Kp0 (qg 1 ?_)
  obtain ⟨a2, hp2, h⟩ := h
  refine sxQ (v := (vp (some a2))) Kp1 (want0 rfl) rfl (x_nilCheck (p := p1) (by kernel_rfl) hp2) (qq 2 (vp (some a2)) Kp2 (qg 3 ?_))
  have h := h w2 hs
  have hs := hs.here
  obtain ⟨v2, hv3, h⟩ := h
  refine sxQ (v := v2.v) Kp3 (want0 rfl) rfl (xl (Tryz.isAgg42 _) hv3) (qq 4 (vi i1) Kp4 (qg 5 ?_))
  obtain ⟨a3, hv2, h⟩ := h
  refine sxQ (v := (vp (some a3))) Kp5 (want0 rfl) rfl (xi (Tryz.runUnderlying42 _) (Tryz.sizeOf86 _) hv2) (qg 6 ?_)
  obtain ⟨aN, aO, aP, aQ, aR, bG, bH, hv1, h⟩ := h
  refine sxQ (v := (.agg #[(vi aN), (vi aO), (vi aP), (vu aQ), (vs aR), (vi bG), (vi bH)])) Kp6 (want0 rfl) rfl (x_loadA (a := a3) (vs := [(vi aN), (vi aO), (vi aP), (vu aQ), (vs aR), (vi bG), (vi bH)]) (by kernel_rfl) (Tryz.isAgg86 _) (Tryz.sizeOf86 _) rfl hv1) (qr 7 (.agg #[(vi aA), (vi aB), (vi aC), (vu aK), (vs aF), (vi aL), (vi aM)]) Kp7 (x_loadA (a := p2) (vs := [(vi aA), (vi aB), (vi aC), (vu aK), (vs aF), (vi aL), (vi aM)]) (by kernel_rfl) (Tryz.isAgg86 _) (Tryz.sizeOf86 _) rfl (hb.row0 0 7 gZ (by kernel_rfl))) (qr 8 (vb ((aN == aA) && ((aO == aB) && ((aP == aC) && ((aQ == aK) && ((decide (aR = aF)) && ((bG == aL) && (bH == aM)))))))) Kp8 (x_aggeq (by kernel_rfl) (by kernel_rfl) (by kernel_rfl) (eqt_ref05_Pool_Has_eql_86 aN aO aP aQ aR bG bH aA aB aC aK aF aL aM _)) (wn (th_n ?_))))
  refine wpE_cond (t := ((aN == aA) && ((aO == aB) && ((aP == aC) && ((aQ == aK) && ((decide (aR = aF)) && ((bG == aL) && (bH == aM)))))))) (by kernel_rfl) (fun hc2 => ?_) (fun hc2 => ?_)
  ·have h := h.1 hc2
   refine wpE_seq (rg (q0 (vi i1) (q0 (vi (q6.wrap (i1 + 1))) (q0 (vi (q6.wrap (i1 + 1))) (q0 (vb true) (wpL_nil (th_n (wpE_ret (bl_r (th_r (th_r ?_)))))))))))
   refine bl_r (th_r (res2 (.inl rfl) Tryz.results89 (v := (vi (q6.wrap (i1 + 1)))) (by kernel_rfl) (v' := (vb true)) (by kernel_rfl) ?_))
   exact ⟨(q6.wrap (i1 + 1)), true, rfl, h⟩
  ·have h := h.2 hc2
   refine wpE_skip (bl_n (th_n (rg (q0 (vi i1) (q0 (vi (q6.wrap (i1 + 1))) (q0 (vi (q6.wrap (i1 + 1))) (wpL_nil (th_n ?_))))))))
   exact ⟨((q6.wrap (i1 + 1)), Hl1, w2), ⟨rfl, hm, hs, hb, h.1⟩, h.2⟩
 ·have h := h.2 hc1
  refine wpE_exit (th_x (th_x (bl_eq (th_n (wpE_seq (rg (q0 (vi 0) (q0 (vb false) (wpL_nil (th_n (wpE_ret ?_)))))))))))
  refine res2 (.inl rfl) Tryz.results89 (v := (vi 0)) (by kernel_rfl) (v' := (vb false)) (by kernel_rfl) ?_
  exact ⟨0, false, rfl, h⟩
def m_Q_j1 (p1 : Option Addr) (aA aB : Int) (aC aK : Int) (aF : ByteArray) (aL aM : Int) (x1 : Bool) (w0 : World) (H : NP) (w : World) (K : Int → Int → WP) : Prop :=
 Br x1
  (K 0 51 w)
  (∃ C1 : WP, C1 w.drew ∧ ∀ w4, w4 = w.drew →
  Calls Tryz.prog 87 #[(vp p1), (vi aL)] w4 (fun e w5 => ∃ r1 : Int, e = .returned (vi r1) ∧ C1 w5 ∧ 
   Kept H w4 w5 ∧
   Calls Tryz.prog 87 #[(vp p1), (vi aM)] w5 (fun e w6 => ∃ r2 : Int, e = .returned (vi r2) ∧ C1 w6 ∧ 
    Kept H w5 w6 ∧
    ∃ C2 : WP, C2 w6.drew ∧ ∀ w7, w7 = w6.drew →
    Calls Tryz.prog 88 #[(vp p1), (vi aL)] w7 (fun e w8 => ∃ r3 : Int, e = .returned (vi r3) ∧ C2 w8 ∧ 
     Kept H w7 w8 ∧
     Calls Tryz.prog 88 #[(vp p1), (vi aM)] w8 (fun e w9 => ∃ r4 : Int, e = .returned (vi r4) ∧ C2 w9 ∧ 
      Kept H w8 w9 ∧
      ∃ z1 : Int, (∀ w', C2 w' → (Builtin.max_ #[3, 3] 3 #[(vi r3), (vi r4)]).run Tryz.prog w' = .ok (vi z1) w') ∧
      ∀ y1 : Bool, y1 = ((decide ((q6.wrap ((q6.wrap (1 + r1)) + r2)) > 4096)) || (decide ((q6.wrap (1 + z1)) > 64))) →
      Br y1
       (∀ (H2 : NP) (w10 : World), Hst w0 H w9 H2 w10 →
       K 0 52 w10)
       (∀ (H2 : NP) (w10 : World), Hst w0 H w9 H2 w10 →
       Calls Tryz.prog 89 #[(vp p1), (.agg #[(vi aA), (vi aB), (vi aC), (vu aK), (vs aF), (vi aL), (vi aM)])] w10 (fun e w11 => ∃ r5 : Int, ∃ r6 : Bool, e = .returned (.tuple #[(vi r5), (vb r6)]) ∧ 
        Kept H2 w10 w11 ∧
        Br r6
         (K r5 0 w11)
         (∃ a1 : Addr, p1 = some a1 ∧
         ∃ v1 : Sl, w11.cell? a1 = some v1.v ∧
         Br (decide ((v1.len : Int) ≥ 65536))
          (K 0 6 w11)
          (∃ C3 : WP, C3 w11.drew ∧ ∀ w12, w12 = w11.drew →
          ∃ a2 : Addr, p1 = some a2 ∧
          ∃ v2 : Sl, (∀ w', C3 w' → w'.cell? a2 = some v2.v) ∧
          ∀ (p3 : Addr) (w13 : World), New w12 (.cells #[(vi aA), (vi aB), (vi aC), (vu aK), (vs aF), (vi aL), (vi aM)] 86) p3 w13 → C3 w13 ∧
          ∃ s1 : Sl, ∃ w14 : World, (Builtin.append_ #[42, 42] 42 #[v2.v, (Sl.mk (some p3) 1 1).v]).run Tryz.prog w13 = .ok s1.v w14 ∧ C3 w14 ∧
          Kept H2 w13 w14 ∧
          ∃ a3 : Addr, p1 = some a3 ∧
          CanW w14 a3 ∧ ¬ H2 a3.block ∧ ∀ w15 : World, w15 = w14.setCell a3 s1.v →
          ∃ a4 : Addr, p1 = some a4 ∧
          ∃ v3 : Sl, w15.cell? (a4.add 1) = some v3.v ∧
          ∀ (p4 : Addr) (w16 : World), New w15 (.cells #[(vi (q6.wrap ((q6.wrap (1 + r1)) + r2)))] 3) p4 w16 →
          ∃ s2 : Sl, ∃ w17 : World, (Builtin.append_ #[43, 43] 43 #[v3.v, (Sl.mk (some p4) 1 1).v]).run Tryz.prog w16 = .ok s2.v w17 ∧
          Kept H2 w16 w17 ∧
          ∃ a5 : Addr, p1 = some a5 ∧
          CanW w17 (a5.add 1) ∧ ¬ H2 (a5.add 1).block ∧ ∀ w18 : World, w18 = w17.setCell (a5.add 1) s2.v →
          ∃ a6 : Addr, p1 = some a6 ∧
          ∃ v4 : Sl, w18.cell? (a6.add 2) = some v4.v ∧
          ∀ (p5 : Addr) (w19 : World), New w18 (.cells #[(vi (q6.wrap (1 + z1)))] 3) p5 w19 →
          ∃ s3 : Sl, ∃ w20 : World, (Builtin.append_ #[43, 43] 43 #[v4.v, (Sl.mk (some p5) 1 1).v]).run Tryz.prog w19 = .ok s3.v w20 ∧
          Kept H2 w19 w20 ∧
          ∃ a7 : Addr, p1 = some a7 ∧
          CanW w20 (a7.add 2) ∧ ¬ H2 (a7.add 2).block ∧ ∀ w21 : World, w21 = w20.setCell (a7.add 2) s3.v →
          ∃ a8 : Addr, p1 = some a8 ∧
          ∃ v5 : Sl, w21.cell? a8 = some v5.v ∧
          K (v5.len : Int) 0 w21)))))))))
def m_Q_j2 (p1 : Option Addr) (aA aB : Int) (aC aK : Int) (aF : ByteArray) (aL aM : Int) (x2 : Bool) (w0 : World) (H : NP) (w : World) (K : Int → Int → WP) : Prop :=
 Br x2
  (m_Q_j1 p1 aA aB aC aK aF aL aM true w0 H w K)
  (Br (((s_C aA) : Int) == 2)
   (Calls Tryz.prog 60 #[(vp p1), (vi aM)] w (fun e w22 => ∃ r7 : Bool, e = .returned (vb r7) ∧ 
    Kept H w w22 ∧
    m_Q_j1 p1 aA aB aC aK aF aL aM (!r7) w0 H w22 K))
   (m_Q_j1 p1 aA aB aC aK aF aL aM false w0 H w K))
def m_Q (p1 : Option Addr) (aA aB : Int) (aC aK : Int) (aF : ByteArray) (aL aM : Int) (w0 : World) (K : Int → Int → WP) : Prop :=
 Br (((s_J aA aB aC aK aF aL aM) : Int) != 0)
  (∀ (H1 : NP) (w2 : World), Hst w0 None w0 H1 w2 →
  K 0 (s_J aA aB aC aK aF aL aM) w2)
  (Br (decide ((s_C aA) ≥ 1))
   (∀ (H1 : NP) (w3 : World), Hst w0 None w0 H1 w3 →
   Calls Tryz.prog 60 #[(vp p1), (vi aL)] w3 (fun e w23 => ∃ r8 : Bool, e = .returned (vb r8) ∧ 
    Kept H1 w3 w23 ∧
    m_Q_j2 p1 aA aB aC aK aF aL aM (!r8) w0 H1 w23 K))
   (∀ (H1 : NP) (w3 : World), Hst w0 None w0 H1 w3 →
   m_Q_j2 p1 aA aB aC aK aF aL aM false w0 H1 w3 K))
theorem w_Q (p1 : Option Addr) (aA aB : Int) (aC aK : Int) (aF : ByteArray) (aL aM : Int) (w0 : World) (K : Int → Int → WP) (h : m_Q p1 aA aB aC aK aF aL aM w0 K) :
  Calls Tryz.prog 41 #[(vp p1), (.agg #[(vi aA), (vi aB), (vi aC), (vu aK), (vs aF), (vi aL), (vi aM)])] w0 (fun e w' => ∃ r9 r10 : Int, e = .returned (.tuple #[(vi r9), (vi r10)]) ∧ K r9 r10 w') := by
 unfold m_Q at h
 refine cw (args := [(vp p1), (.agg #[(vi aA), (vi aB), (vi aC), (vu aK), (vs aF), (vi aL), (vi aM)])]) Tryz.func41 Tryz.ntmps41 ?_
 have hs := Hst.start w0
 have hb := HB.nil None w0
 refine wpE_seq (rg (sn (O := (.cells #[(vi aA), (vi aB), (vi aC), (vu aK), (vs aF), (vi aL), (vi aM)] 86)) xb ?_))
 intro p2 w1 hn1
 obtain ⟨H1, hs, hb⟩ := hs.alloc hb hn1
 refine q0 (vi 0) (q0 (vi 0) (wpL_nil (th_n (wpE_seq (rg (q2 (.agg #[(vi aA), (vi aB), (vi aC), (vu aK), (vs aF), (vi aL), (vi aM)]) (x_loadA (a := p2) (vs := [(vi aA), (vi aB), (vi aC), (vu aK), (vs aF), (vi aL), (vi aM)]) (by kernel_rfl) (Tryz.isAgg86 _) (Tryz.sizeOf86 _) rfl (hb.row0 0 7 gZ (by kernel_rfl))) ?_))))))
 refine sc Tryz.call86 ((p_J aA aB aC aK aF aL aM w1).mono ?_)
 rintro e w2 ⟨he, hE⟩
 refine ⟨(vi (s_J aA aB aC aK aF aL aM)), he.trans (by kernel_rfl), ?_⟩
 have hs := hs.pure hE
 have hb := hb.pure hE
 refine q0 (vi (s_J aA aB aC aK aF aL aM)) (wpL_nil (th_n (wpE_seq (wpE_seq (rg (q0 (vi (s_J aA aB aC aK aF aL aM)) (q0 (vb (((s_J aA aB aC aK aF aL aM) : Int) != 0)) (wpL_nil (th_n ?_)))))))))
 refine wpE_cond (t := (((s_J aA aB aC aK aF aL aM) : Int) != 0)) (by kernel_rfl) (fun hc1 => ?_) (fun hc1 => ?_)
 ·have h := h.1 hc1
  refine wpE_seq (rg (q0 (vi (s_J aA aB aC aK aF aL aM)) (q0 (vi 0) (q0 (vi (s_J aA aB aC aK aF aL aM)) (wpL_nil (th_n (wpE_ret (th_r ?_))))))))
  have h := h H1 w2 hs
  have hs := hs.here
  refine res2 (.inl rfl) Tryz.results41 (v := (vi 0)) (by kernel_rfl) (v' := (vi (s_J aA aB aC aK aF aL aM))) (by kernel_rfl) ?_
  exact ⟨0, (s_J aA aB aC aK aF aL aM), rfl, h⟩
 ·have h := h.2 hc1
  refine wpE_skip (th_n (wpE_seq (rg (q0 (vp (some p2)) (q2 (vi aA) (xl (Tryz.isAgg3 _) (hb.c0 0 gZ)) ?_)))))
  refine sc Tryz.call46 ((p_C aA w2).mono ?_)
  rintro e w3 ⟨he, hE⟩
  refine ⟨(vi (s_C aA)), he.trans (by kernel_rfl), ?_⟩
  have hs := hs.pure hE
  have hb := hb.pure hE
  refine q0 (vi (s_C aA)) (wpL_nil (th_n (wpE_seq (wpE_seq ?_))))
  refine wpE_joinT (fun ρ w => ∃ x1 : Bool, ∃ H : NP, Has ρ [(0, (vp p1)), (3, (vp (some p2))), (39, (vb x1))] ∧ Hst w0 H w H w ∧ HB H w [(p2, [(vi aA), (vi aB), (vi aC), (vu aK), (vs aF), (vi aL), (vi aM)], 86)] ∧ m_Q_j1 p1 aA aB aC aK aF aL aM x1 w0 H w K) ?_ ?_
  ·rintro ρ w ⟨x1, H, hH, hs, hb, h⟩
   unfold m_Q_j1 at h
   refine wpE_has hH ?_
   refine wpE_cond (t := x1) (by kernel_rfl) (fun hc2 => ?_) (fun hc2 => ?_)
   ·have h := h.1 hc2
    refine wpE_seq (rg (q0 (vi 0) (q0 (vi 51) (wpL_nil (th_n (wpE_ret (th_r (res2 (.inl rfl) Tryz.results41 (v := (vi 0)) (by kernel_rfl) (v' := (vi 51)) (by kernel_rfl) ?_))))))))
    exact ⟨0, 51, rfl, h⟩
   ·have h := h.2 hc2
    refine wpE_skip (th_n (wpE_seq ?_))
    obtain ⟨C1, hC, h⟩ := h
    refine wpE_drawnC (fun x => C1 x ∧ HB H x [(p2, [(vi aA), (vi aB), (vi aC), (vu aK), (vs aF), (vi aL), (vi aM)], 86)]) [3, 8] [] (by kernel_rfl) (by kernel_rfl) (by kernel_rfl) (by kernel_rfl) ⟨hC, hb.drew⟩ ?_
    intro w4 hw4
    have h := h w4 hw4
    have hs : Hst w0 H w H w4 := by rw [hw4]; exact hs.drew
    have hb : HB H w4 [(p2, [(vi aA), (vi aB), (vi aC), (vu aK), (vs aF), (vi aL), (vi aM)], 86)] := by rw [hw4]; exact hb.drew
    have hs := hs.here
    refine qx 0 (vp p1) Kp0 (qx 1 (vp (some (p2.add 5))) Kp1 (qz 2 (vi aL) Kp2 (fun w' hw' => (xl (Tryz.isAgg30 _) (hw'.2.cell 0 5 gZ (by kernel_rfl)))) (qx 5 (vp p1) Kp5 (qx 6 (vp (some (p2.add 6))) Kp6 (qz 7 (vi aM) Kp7 (fun w' hw' => (xl (Tryz.isAgg30 _) (hw'.2.cell 0 6 gZ (by kernel_rfl)))) (lg 3 ?_))))))
    refine sl_call Kp3 (want0 rfl) (by kernel_rfl) (xc Tryz.call87) (h.mono ?_)
    rintro e w5 ⟨r1, rfl, hC, hk, h⟩
    refine ⟨_, rfl, .inr ⟨hC, hb.kept hk⟩, ?_⟩
    obtain ⟨hs, hb⟩ := hk.hh hs hb
    refine qx 4 (vi (q6.wrap (1 + r1))) Kp4 (lg 8 ?_)
    refine sl_call Kp8 (want0 rfl) (by kernel_rfl) (xc Tryz.call87) (h.mono ?_)
    rintro e w6 ⟨r2, rfl, hC, hk, h⟩
    refine ⟨_, rfl, .inr ⟨hC, hb.kept hk⟩, ?_⟩
    obtain ⟨hs, hb⟩ := hk.hh hs hb
    refine qx 9 (vi (q6.wrap ((q6.wrap (1 + r1)) + r2))) Kp9 (qx 10 (vi (q6.wrap ((q6.wrap (1 + r1)) + r2))) (pickA (S8 (pickS (pickS pickZ)))) (wn (th_n (wpE_seq ?_))))
    obtain ⟨C2, hC, h⟩ := h
    refine wpE_drawnC (fun x => C2 x ∧ HB H x [(p2, [(vi aA), (vi aB), (vi aC), (vu aK), (vs aF), (vi aL), (vi aM)], 86)]) [3, 7] [] (by kernel_rfl) (by kernel_rfl) (by kernel_rfl) (by kernel_rfl) ⟨hC, hb.drew⟩ ?_
    intro w7 hw7
    have h := h w7 hw7
    have hs : Hst w0 H w6 H w7 := by rw [hw7]; exact hs.drew
    have hb : HB H w7 [(p2, [(vi aA), (vi aB), (vi aC), (vu aK), (vs aF), (vi aL), (vi aM)], 86)] := by rw [hw7]; exact hb.drew
    have hs := hs.here
    refine qx 0 (vp p1) Kp0 (qx 1 (vp (some (p2.add 5))) Kp1 (qz 2 (vi aL) Kp2 (fun w' hw' => (xl (Tryz.isAgg30 _) (hw'.2.cell 0 5 gZ (by kernel_rfl)))) (qx 4 (vp p1) Kp4 (qx 5 (vp (some (p2.add 6))) Kp5 (qz 6 (vi aM) Kp6 (fun w' hw' => (xl (Tryz.isAgg30 _) (hw'.2.cell 0 6 gZ (by kernel_rfl)))) (lg 3 ?_))))))
    refine sl_call Kp3 (want0 rfl) (by kernel_rfl) (xc Tryz.call88) (h.mono ?_)
    rintro e w8 ⟨r3, rfl, hC, hk, h⟩
    refine ⟨_, rfl, .inr ⟨hC, hb.kept hk⟩, ?_⟩
    obtain ⟨hs, hb⟩ := hk.hh hs hb
    refine lg 7 ?_
    refine sl_call Kp7 (want0 rfl) (by kernel_rfl) (xc Tryz.call88) (h.mono ?_)
    rintro e w9 ⟨r4, rfl, hC, hk, h⟩
    refine ⟨_, rfl, .inr ⟨hC, hb.kept hk⟩, ?_⟩
    obtain ⟨hs, hb⟩ := hk.hh hs hb
    refine qg 8 ?_
    obtain ⟨z1, hv9, h⟩ := h
    refine sy (v := (vi z1)) Kp8 (fun w' hw' => (x_builtin (args := #[(vi r3), (vi r4)]) (by kernel_rfl) (fun _ => rfl) (hv9 w' hw'.1))) (qx 9 (vi (q6.wrap (1 + z1))) Kp9 (qx 10 (vi (q6.wrap (1 + z1))) (pickA (S8 (pickS (pickS pickZ)))) (wn (th_n (wpE_seq (wpE_seq ?_))))))
    refine wpE_via (fun ρ wJ => ∃ b1'0 y1 : Bool, ∃ HJ : NP, ((decide ((q6.wrap ((q6.wrap (1 + r1)) + r2)) > 4096)) = b1'0) ∧ (y1 = (b1'0 || (decide ((q6.wrap (1 + z1)) > 64)))) ∧ Hst w0 H w9 HJ wJ ∧ HB HJ wJ [(p2, [(vi aA), (vi aB), (vi aC), (vu aK), (vs aF), (vi aL), (vi aM)], 86)] ∧ Has ρ [(0, (vp p1)), (3, (vp (some p2))), (8, (vi (q6.wrap ((q6.wrap (1 + r1)) + r2)))), (9, (vi (q6.wrap (1 + z1)))), (65, (vb y1))]) ?_ ?_
    ·refine rg (q0 (vi (q6.wrap ((q6.wrap (1 + r1)) + r2))) (q0 (vb (decide ((q6.wrap ((q6.wrap (1 + r1)) + r2)) > 4096))) (q0 (vb (decide ((q6.wrap ((q6.wrap (1 + r1)) + r2)) > 4096))) ?_)))
     rcases Bool.eq_false_or_eq_true (decide ((q6.wrap ((q6.wrap (1 + r1)) + r2)) > 4096)) with hg2 | hg2
     ·refine sk (yD 62 hg2) (sk (yD 62 hg2) (q2 (vb true) (xT hg2) (wpL_nil (th_n ?_))))
      exact ⟨true, _, _, hg2, rfl, hs, hb, hm⟩
     ·refine q1 (vi (q6.wrap (1 + z1))) (want1 rfl (yD 62 hg2)) (q1 (vb (decide ((q6.wrap (1 + z1)) > 64))) (want1 rfl (yD 62 hg2)) (q2 (vb (decide ((q6.wrap (1 + z1)) > 64))) (xF hg2) (wpL_nil (th_n ?_))))
      exact ⟨false, _, _, hg2, rfl, hs, hb, hm⟩
    ·rintro ρ w10 ⟨b1'0, y1, H2, he0, hy1, hs, hb, hH⟩
     subst he0
     have h := h y1 hy1
     refine norm_has hH ?_
     refine th_n ?_
     refine wpE_cond (t := y1) (by kernel_rfl) (fun hc3 => ?_) (fun hc3 => ?_)
     ·have h := h.1 hc3
      refine wpE_seq (rg (q0 (vi 0) (q0 (vi 52) (wpL_nil (th_n (wpE_ret (th_r ?_)))))))
      have h := h H2 w10 hs
      have hs := hs.here
      refine res2 (.inl rfl) Tryz.results41 (v := (vi 0)) (by kernel_rfl) (v' := (vi 52)) (by kernel_rfl) ?_
      exact ⟨0, 52, rfl, h⟩
     ·have h := h.2 hc3
      refine wpE_skip (th_n (wpE_seq (rg (q0 (vp p1) (q2 (.agg #[(vi aA), (vi aB), (vi aC), (vu aK), (vs aF), (vi aL), (vi aM)]) (x_loadA (a := p2) (vs := [(vi aA), (vi aB), (vi aC), (vu aK), (vs aF), (vi aL), (vi aM)]) (by kernel_rfl) (Tryz.isAgg86 _) (Tryz.sizeOf86 _) rfl (hb.row0 0 7 gZ (by kernel_rfl))) ?_)))))
      have h := h H2 w10 hs
      have hs := hs.here
      refine sc Tryz.call89 (h.mono ?_)
      rintro e w11 ⟨r5, r6, rfl, hk, h⟩
      refine ⟨_, rfl, ?_⟩
      obtain ⟨hs, hb⟩ := hk.hh hs hb
      refine q0 (.tuple #[(vi r5), (vb r6)]) (q0 (vi r5) (q0 (vb r6) (q0 (vi r5) (q0 (vb r6) (wpL_nil (th_n (wpE_seq (wpE_seq (rg (q0 (vb r6) (wpL_nil ?_)))))))))))
      refine th_n ?_
      refine wpE_cond (t := r6) (by kernel_rfl) (fun hc4 => ?_) (fun hc4 => ?_)
      ·have h := h.1 hc4
       refine wpE_seq (rg (q0 (vi r5) (q0 (vi r5) (q0 (vi 0) (wpL_nil (th_n (wpE_ret (th_r (res2 (.inl rfl) Tryz.results41 (v := (vi r5)) (by kernel_rfl) (v' := (vi 0)) (by kernel_rfl) ?_)))))))))
       exact ⟨r5, 0, rfl, h⟩
      ·have h := h.2 hc4
       refine wpE_skip (th_n (wpE_seq (wpE_seq (rg (q0 (vp p1) ?_)))))
       obtain ⟨a1, hp1, h⟩ := h
       refine q2 (vp (some a1)) (x_nilCheck (p := p1) (by kernel_rfl) hp1) (q0 (vp (some a1)) ?_)
       obtain ⟨v1, hv8, h⟩ := h
       refine q2 v1.v (xl (Tryz.isAgg42 _) hv8) (q0 (vi (v1.len : Int)) (q0 (vb (decide ((v1.len : Int) ≥ 65536))) (wpL_nil (th_n ?_))))
       refine wpE_cond (t := (decide ((v1.len : Int) ≥ 65536))) (by kernel_rfl) (fun hc5 => ?_) (fun hc5 => ?_)
       ·have h := h.1 hc5
        refine wpE_seq (rg (q0 (vi 0) (q0 (vi 6) (wpL_nil (th_n (wpE_ret (th_r (res2 (.inl rfl) Tryz.results41 (v := (vi 0)) (by kernel_rfl) (v' := (vi 6)) (by kernel_rfl) ?_))))))))
        exact ⟨0, 6, rfl, h⟩
       ·have h := h.2 hc5
        refine wpE_skip (th_n (wpE_seq ?_))
        obtain ⟨C3, hC, h⟩ := h
        refine wpE_drawnC (fun x => C3 x ∧ HB H2 x [(p2, [(vi aA), (vi aB), (vi aC), (vu aK), (vs aF), (vi aL), (vi aM)], 86)]) [6, 7, 10] [10] (by kernel_rfl) (by kernel_rfl) (by kernel_rfl) (by kernel_rfl) ⟨hC, hb.drew⟩ ?_
        intro w12 hw12
        have h := h w12 hw12
        have hs : Hst w0 H2 w11 H2 w12 := by rw [hw12]; exact hs.drew
        have hb : HB H2 w12 [(p2, [(vi aA), (vi aB), (vi aC), (vu aK), (vs aF), (vi aL), (vi aM)], 86)] := by rw [hw12]; exact hb.drew
        have hs := hs.here
        refine qx 0 (vp p1) Kp0 (qx 1 (vp p1) Kp1 (qg 2 ?_))
        obtain ⟨a2, hp2, h⟩ := h
        refine sy (v := (vp (some a2))) Kp2 (fun _ _ => (x_nilCheck (p := p1) (by kernel_rfl) hp2)) (qx 3 (vp (some a2)) Kp3 (qg 4 ?_))
        obtain ⟨v2, hv7, h⟩ := h
        refine sy (v := v2.v) Kp4 (fun w' hw' => (xl (Tryz.isAgg42 _) (hv7 w' hw'.1))) (qz 5 (.agg #[(vi aA), (vi aB), (vi aC), (vu aK), (vs aF), (vi aL), (vi aM)]) Kp5 (fun w' hw' => (x_loadA (a := p2) (vs := [(vi aA), (vi aB), (vi aC), (vu aK), (vs aF), (vi aL), (vi aM)]) (by kernel_rfl) (Tryz.isAgg86 _) (Tryz.sizeOf86 _) rfl (hw'.2.row0 0 7 gZ (by kernel_rfl)))) (lg 6 (sl_new (O := (.cells #[(vi aA), (vi aB), (vi aC), (vu aK), (vs aF), (vi aL), (vi aM)] 86)) (fun p => (Sl.mk (some p) 1 1).v) Kp6 (want0 rfl) (by kernel_rfl) (x_buildSlice (vs := #[(0, (.agg #[(vi aA), (vi aB), (vi aC), (vu aK), (vs aF), (vi aL), (vi aM)]))]) (by kernel_rfl) (by kernel_rfl)) ?_)))
        intro p3 w13 hn7
        have h := h p3 w13 hn7
        refine ⟨.inr ⟨h.1, hb.kept (Ext.new (F := None) hn7).keptP⟩, ?_⟩
        have h := h.2
        have hs := hs.again (Ext.new (F := None) hn7).keptP
        have hb := hb.kept (Ext.new (F := None) hn7).keptP
        refine lg 7 ?_
        obtain ⟨s1, w14, hv6, hC, hk, h⟩ := h
        refine sl (v := s1.v) Kp7 (want0 rfl) (by kernel_rfl) (x_builtin (args := #[v2.v, (Sl.mk (some p3) 1 1).v]) (by kernel_rfl) (fun _ => rfl) hv6) (.inr ⟨hC, hb.kept hk⟩) ?_
        obtain ⟨hs, hb⟩ := hk.hh hs hb
        refine qg 8 ?_
        obtain ⟨a3, hp3, h⟩ := h
        refine sy (v := (vp (some a3))) Kp8 (fun _ _ => (x_nilCheck (p := p1) (by kernel_rfl) hp3)) (qx 9 (vp (some a3)) Kp9 (lg 10 ?_))
        obtain ⟨hp4, hnh, h⟩ := h
        refine sl_t (pickA (S8 (pickS (pickS pickZ)))) (xs (v := s1.v) (Tryz.sizeOf42 _) hp4) ?_
        intro w15 hn2
        have h := h w15 hn2
        refine ⟨.inl (by kernel_rfl), ?_⟩
        have hk := Kept.sc hnh hn2
        obtain ⟨hs, hb⟩ := hk.hh hs hb
        refine wn (th_n (wpE_seq (rg (q0 (vp p1) (q0 (vp p1) ?_)))))
        obtain ⟨a4, hp5, h⟩ := h
        refine q2 (vp (some a4)) (x_nilCheck (p := p1) (by kernel_rfl) hp5) (q0 (vp (some (a4.add 1))) ?_)
        obtain ⟨v3, hv5, h⟩ := h
        refine q2 v3.v (xl (Tryz.isAgg43 _) hv5) (q0 (vi (q6.wrap ((q6.wrap (1 + r1)) + r2))) (st_new (O := (.cells #[(vi (q6.wrap ((q6.wrap (1 + r1)) + r2)))] 3)) (fun p => (Sl.mk (some p) 1 1).v) (want0 rfl) (x_buildSlice (vs := #[(0, (vi (q6.wrap ((q6.wrap (1 + r1)) + r2))))]) (by kernel_rfl) (by kernel_rfl)) ?_))
        intro p4 w16 hn6
        have h := h p4 w16 hn6
        have hs := hs.again (Ext.new (F := None) hn6).keptP
        have hb := hb.kept (Ext.new (F := None) hn6).keptP
        obtain ⟨s2, w17, hv4, hk, h⟩ := h
        refine st (v := s2.v) (want0 rfl) (x_builtin (args := #[v3.v, (Sl.mk (some p4) 1 1).v]) (by kernel_rfl) (fun _ => rfl) hv4) ?_
        obtain ⟨hs, hb⟩ := hk.hh hs hb
        obtain ⟨a5, hp6, h⟩ := h
        refine q2 (vp (some a5)) (x_nilCheck (p := p1) (by kernel_rfl) hp6) (q0 (vp (some (a5.add 1))) ?_)
        obtain ⟨hp7, hnh, h⟩ := h
        refine st_set (want0 rfl) (x_store (a := (a5.add 1)) (v := s2.v) (by kernel_rfl) (by kernel_rfl) rfl (Tryz.sizeOf43 _) hp7) ?_
        intro w18 hn3
        have h := h w18 hn3
        have hk := Kept.sc hnh hn3
        obtain ⟨hs, hb⟩ := hk.hh hs hb
        refine wpL_nil (th_n (wpE_seq (rg (q0 (vp p1) (q0 (vp p1) ?_)))))
        obtain ⟨a6, hp8, h⟩ := h
        refine q2 (vp (some a6)) (x_nilCheck (p := p1) (by kernel_rfl) hp8) (q0 (vp (some (a6.add 2))) ?_)
        obtain ⟨v4, hv3, h⟩ := h
        refine q2 v4.v (xl (Tryz.isAgg43 _) hv3) (q0 (vi (q6.wrap (1 + z1))) (st_new (O := (.cells #[(vi (q6.wrap (1 + z1)))] 3)) (fun p => (Sl.mk (some p) 1 1).v) (want0 rfl) (x_buildSlice (vs := #[(0, (vi (q6.wrap (1 + z1))))]) (by kernel_rfl) (by kernel_rfl)) ?_))
        intro p5 w19 hn5
        have h := h p5 w19 hn5
        have hs := hs.again (Ext.new (F := None) hn5).keptP
        have hb := hb.kept (Ext.new (F := None) hn5).keptP
        obtain ⟨s3, w20, hv2, hk, h⟩ := h
        refine st (v := s3.v) (want0 rfl) (x_builtin (args := #[v4.v, (Sl.mk (some p5) 1 1).v]) (by kernel_rfl) (fun _ => rfl) hv2) ?_
        obtain ⟨hs, hb⟩ := hk.hh hs hb
        obtain ⟨a7, hp9, h⟩ := h
        refine q2 (vp (some a7)) (x_nilCheck (p := p1) (by kernel_rfl) hp9) (q0 (vp (some (a7.add 2))) ?_)
        obtain ⟨hp10, hnh, h⟩ := h
        refine st_set (want0 rfl) (x_store (a := (a7.add 2)) (v := s3.v) (by kernel_rfl) (by kernel_rfl) rfl (Tryz.sizeOf43 _) hp10) ?_
        intro w21 hn4
        have h := h w21 hn4
        have hk := Kept.sc hnh hn4
        obtain ⟨hs, hb⟩ := hk.hh hs hb
        refine wpL_nil (th_n (wpE_seq (rg (q0 (vp p1) ?_))))
        obtain ⟨a8, hp11, h⟩ := h
        refine q2 (vp (some a8)) (x_nilCheck (p := p1) (by kernel_rfl) hp11) (q0 (vp (some a8)) ?_)
        obtain ⟨v5, hv1, h⟩ := h
        refine q2 v5.v (xl (Tryz.isAgg42 _) hv1) (q0 (vi (v5.len : Int)) (q0 (vi (v5.len : Int)) (q0 (vi 0) (wpL_nil (th_n (wpE_ret (res2 (.inl rfl) Tryz.results41 (v := (vi (v5.len : Int))) (by kernel_rfl) (v' := (vi 0)) (by kernel_rfl) ?_)))))))
        exact ⟨(v5.len : Int), 0, rfl, h⟩
  ·refine rg (q0 (vi (s_C aA)) (q0 (vb (decide ((s_C aA) ≥ 1))) (q0 (vb (decide ((s_C aA) ≥ 1))) ?_)))
   refine wpL_join 6 (fun ρ w => ∃ x2 : Bool, ∃ H : NP, Has ρ [(0, (vp p1)), (3, (vp (some p2))), (7, (vi (s_C aA))), (28, (vb x2))] ∧ Hst w0 H w H w ∧ HB H w [(p2, [(vi aA), (vi aB), (vi aC), (vu aK), (vs aF), (vi aL), (vi aM)], 86)] ∧ m_Q_j2 p1 aA aB aC aK aF aL aM x2 w0 H w K) ?_ ?_
   ·rintro ρ w ⟨x2, H, hH, hs, hb, h⟩
    unfold m_Q_j2 at h
    refine wpL_has hH ?_
    refine q0 (vb x2) ?_
    rcases Bool.eq_false_or_eq_true x2 with hg3 | hg3
    ·have h := h.1 hg3
     refine sk (yD 29 hg3) (sk (yD 29 hg3) (sk (yD 29 hg3) (sm (sm (sm (sm (sm (sk (yD 29 hg3) (q2 (vb true) (xT hg3) (wpL_nil (th_n ?_)))))))))))
     exact ⟨true, H, hm, hs, hb, h⟩
    ·have h := h.2 hg3
     refine q1 (vi (s_C aA)) (want1 rfl (yD 29 hg3)) (q1 (vb (((s_C aA) : Int) == 2)) (want1 rfl (yD 29 hg3)) (q1 (vb (((s_C aA) : Int) == 2)) (want1 rfl (yD 29 hg3)) ?_))
     rcases Bool.eq_false_or_eq_true (((s_C aA) : Int) == 2) with hg4 | hg4
     ·have h := h.1 hg4
      refine q1 (vp p1) (want1 rfl (yD 32 hg4)) (q1 (vp (some (p2.add 6))) (want1 rfl (yD 32 hg4)) (stp (v := (vi aM)) (want1 rfl (yD 32 hg4)) (xl (Tryz.isAgg30 _) (hb.c 0 6 gZ)) ?_))
      refine st_call (want1 rfl (yD 32 hg4)) (xc Tryz.call60) (h.mono ?_)
      rintro e w22 ⟨r7, rfl, hk, h⟩
      refine ⟨_, rfl, ?_⟩
      obtain ⟨hs, hb⟩ := hk.hh hs hb
      refine q1 (vb (!r7)) (want1 rfl (yD 32 hg4)) (stp (v := (vb (!r7))) (want1 rfl (yD 29 hg3)) (xT hg4) (q2 (vb (!r7)) (xF hg3) (wpL_nil (th_n ?_))))
      exact ⟨(!r7), H, hm, hs, hb, h⟩
     ·have h := h.2 hg4
      refine sk (yD 32 hg4) (sk (yD 32 hg4) (sk (yD 32 hg4) (sk (yD 32 hg4) (sk (yD 32 hg4) (stp (v := (vb false)) (want1 rfl (yD 29 hg3)) (xF hg4) (q2 (vb false) (xF hg3) (wpL_nil (th_n ?_))))))))
      exact ⟨false, H, hm, hs, hb, h⟩
   ·rcases Bool.eq_false_or_eq_true (decide ((s_C aA) ≥ 1)) with hg5 | hg5
    ·have h := h.1 hg5
     refine q1 (vp p1) (want1 rfl (yD 22 hg5)) (q1 (vp (some (p2.add 5))) (want1 rfl (yD 22 hg5)) (stp (v := (vi aL)) (want1 rfl (yD 22 hg5)) (xl (Tryz.isAgg30 _) (hb.c 0 5 gZ)) ?_))
     have h := h H1 w3 hs
     have hs := hs.here
     refine st_call (want1 rfl (yD 22 hg5)) (xc Tryz.call60) (h.mono ?_)
     rintro e w23 ⟨r8, rfl, hk, h⟩
     refine ⟨_, rfl, ?_⟩
     obtain ⟨hs, hb⟩ := hk.hh hs hb
     refine q1 (vb (!r8)) (want1 rfl (yD 22 hg5)) (q2 (vb (!r8)) (xT hg5) (wpL_nil ?_))
     exact ⟨(!r8), H1, hm, hs, hb, h⟩
    ·have h := h.2 hg5
     refine sk (yD 22 hg5) (sk (yD 22 hg5) (sk (yD 22 hg5) (sk (yD 22 hg5) (sk (yD 22 hg5) (q2 (vb false) (xF hg5) (wpL_nil ?_))))))
     have h := h H1 w3 hs
     have hs := hs.here
     exact ⟨false, H1, hm, hs, hb, h⟩
def m_I1_l1 (p1 : Option Addr) (aE : Sl) (i1 aA : Int) (aB aC aK : Int) (aF : ByteArray) (aL aM : Int) (w0 : World) (Hl1 : NP) (wl1 : World) (Kc1 : Int → Int → Int → Int → Int → ByteArray → Int → Int → NP → WP) (K : Int → Int → WP) : Prop :=
 Br (decide (i1 < (aE.len : Int)))
  (∃ a1 : Addr, At aE i1 6 a1 ∧
  ∃ aN aO : Int, ∃ aP aQ : Int, ∃ aR : ByteArray, ∃ aX : Sl, Row wl1 a1 [(vi aN), (vi aO), (vi aP), (vu aQ), (vs aR), aX.v] ∧
  Calls Tryz.prog 72 #[(vp p1), (.agg #[(vi aN), (vi aO), (vi aP), (vu aQ), (vs aR), aX.v])] wl1 (fun e w5 => ∃ r1 r2 : Int, e = .returned (.tuple #[(vi r1), (vi r2)]) ∧ 
   Kept Hl1 wl1 w5 ∧
   Br (r2 != 0)
    (K 0 r2 w5)
    (∀ (H3 : NP) (w8 : World), Hst w0 Hl1 w5 H3 w8 →
    Kc1 (q6.wrap (i1 + 1)) aA aB aC aK aF (cond (i1 == 0) r1 aL) (cond (i1 == 0) aM r1) H3 w8)))
  (Calls Tryz.prog 41 #[(vp p1), (.agg #[(vi aA), (vi aB), (vi aC), (vu aK), (vs aF), (vi aL), (vi aM)])] wl1 (fun e w11 => ∃ r3 r4 : Int, e = .returned (.tuple #[(vi r3), (vi r4)]) ∧ 
   Kept Hl1 wl1 w11 ∧
   K r3 r4 w11))
def m_I1 (p1 : Option Addr) (aD aG : Int) (aH aI : Int) (aJ : ByteArray) (aE : Sl) (w0 : World) (K : Int → Int → WP) : Prop :=
 ∀ (H2 : NP) (w4 : World), Hst w0 None w0 H2 w4 →
 ∃ (I1 : Int → Int → Int → Int → Int → ByteArray → Int → Int → NP → WP) (mu1 : Int → Int → Int → Int → Int → ByteArray → Int → Int → World → Nat), I1 0 aD aG aH aI aJ 0 0 H2 w4 ∧
  ∀ (i1 aA : Int) (aB aC aK : Int) (aF : ByteArray) (aL aM : Int) (Hl1 : NP) (wl1 : World), Hst w0 Hl1 wl1 Hl1 wl1 → I1 i1 aA aB aC aK aF aL aM Hl1 wl1 → m_I1_l1 p1 aE i1 aA aB aC aK aF aL aM w0 Hl1 wl1 (fun y'0 y'1 y'2 y'3 y'4 y'5 y'6 y'7 H' w' => I1 y'0 y'1 y'2 y'3 y'4 y'5 y'6 y'7 H' w' ∧ mu1 y'0 y'1 y'2 y'3 y'4 y'5 y'6 y'7 w' < mu1 i1 aA aB aC aK aF aL aM wl1) K
theorem w_I1 (p1 : Option Addr) (aD aG : Int) (aH aI : Int) (aJ : ByteArray) (aE : Sl) (w0 : World) (K : Int → Int → WP) (h : m_I1 p1 aD aG aH aI aJ aE w0 K) :
  Calls Tryz.prog 72 #[(vp p1), (.agg #[(vi aD), (vi aG), (vi aH), (vu aI), (vs aJ), aE.v])] w0 (fun e w' => ∃ r5 r6 : Int, e = .returned (.tuple #[(vi r5), (vi r6)]) ∧ K r5 r6 w') := by
 unfold m_I1 at h
 refine cw (args := [(vp p1), (.agg #[(vi aD), (vi aG), (vi aH), (vu aI), (vs aJ), aE.v])]) Tryz.func72 Tryz.ntmps72 ?_
 have hs := Hst.start w0
 have hb := HB.nil None w0
 refine wpE_seq (rg (sn (O := (.cells #[(vi aD), (vi aG), (vi aH), (vu aI), (vs aJ), aE.v] 49)) xb ?_))
 intro p2 w1 hn1
 obtain ⟨H1, hs, hb⟩ := hs.alloc hb hn1
 refine q0 (vi 0) (q0 (vi 0) (wpL_nil (th_n (wpE_seq (rg (q2 (.agg #[(vi aD), (vi aG), (vi aH), (vu aI), (vs aJ), aE.v]) (x_loadA (a := p2) (vs := [(vi aD), (vi aG), (vi aH), (vu aI), (vs aJ), aE.v]) (by kernel_rfl) (Tryz.isAgg49 _) (Tryz.sizeOf49 _) rfl (hb.row0 0 6 gZ (by kernel_rfl))) ?_))))))
 refine sc Tryz.call107 ((p_Z aD aG aH aI aJ aE w1).mono ?_)
 rintro e w2 ⟨he, hE⟩
 refine ⟨(.agg #[(vi aD), (vi aG), (vi aH), (vu aI), (vs aJ), (vi 0), (vi 0)]), he.trans (by kernel_rfl), ?_⟩
 have hs := hs.pure hE
 have hb := hb.pure hE
 refine sn (O := (.cells #[(vi 0), (vi 0), (vi 0), (vu 0), (vs ⟨#[]⟩), (vi 0), (vi 0)] 86)) (x_alloc (Tryz.zeroValue86 _) rfl) ?_
 intro p3 w3 hn2
 obtain ⟨H2, hs, hb⟩ := hs.alloc hb hn2
 refine st_set (want0 rfl) (x_storeA (a := p3) (vs := [(vi aD), (vi aG), (vi aH), (vu aI), (vs aJ), (vi 0), (vi 0)]) (by kernel_rfl) (by kernel_rfl) rfl (Tryz.sizeOf86 _) rfl (hb.canWs0 0 7 gZ (by kernel_rfl))) ?_
 intro w4 hn3
 have hsb : Hst w0 None w0 H2 w4 ∧ HB H2 w4 [(p3, [(vi aD), (vi aG), (vi aH), (vu aI), (vs aJ), (vi 0), (vi 0)], 86), (p2, [(vi aD), (vi aG), (vi aH), (vu aI), (vs aJ), aE.v], 49)] := by
  rw [hn3]
  exact hb.store0 (i := 0) (vs := [(vi aD), (vi aG), (vi aH), (vu aI), (vs aJ), (vi 0), (vi 0)]) hs gZ (by kernel_rfl) (by kernel_rfl)
 obtain ⟨hs, hb⟩ := hsb
 refine wpL_nil (th_n (wpE_seq (wpE_seq (rg (q0 (vi 0) (wpL_nil (th_n (wpE_block ?_))))))))
 have h := h H2 w4 hs
 have hs := hs.here
 obtain ⟨I1, mu1, h0, hr⟩ := h
 refine wpE_loop (σ := Int × Int × Int × Int × Int × ByteArray × Int × Int × NP × World) (fun s ρ w => w = s.2.2.2.2.2.2.2.2.2 ∧ Has ρ [(0, (vp p1)), (3, (vp (some p2))), (6, (vp (some p3))), (7, (vi s.1))] ∧ Hst w0 s.2.2.2.2.2.2.2.2.1 w s.2.2.2.2.2.2.2.2.1 w ∧ HB s.2.2.2.2.2.2.2.2.1 w [(p3, [(vi s.2.1), (vi s.2.2.1), (vi s.2.2.2.1), (vu s.2.2.2.2.1), (vs s.2.2.2.2.2.1), (vi s.2.2.2.2.2.2.1), (vi s.2.2.2.2.2.2.2.1)], 86), (p2, [(vi aD), (vi aG), (vi aH), (vu aI), (vs aJ), aE.v], 49)] ∧ I1 s.1 s.2.1 s.2.2.1 s.2.2.2.1 s.2.2.2.2.1 s.2.2.2.2.2.1 s.2.2.2.2.2.2.1 s.2.2.2.2.2.2.2.1 s.2.2.2.2.2.2.2.2.1 s.2.2.2.2.2.2.2.2.2) (fun s => mu1 s.1 s.2.1 s.2.2.1 s.2.2.2.1 s.2.2.2.2.1 s.2.2.2.2.2.1 s.2.2.2.2.2.2.1 s.2.2.2.2.2.2.2.1 s.2.2.2.2.2.2.2.2.2) (0, aD, aG, aH, aI, aJ, 0, 0, H2, w4) ⟨rfl, hm, hs, hb, h0⟩ ?_
 rintro ⟨i1, aA, aB, aC, aK, aF, aL, aM, Hl1, wl1⟩ ρ w ⟨hw, hH, hs, hb, hI⟩
 obtain rfl : wl1 = w := (show w = wl1 from hw).symm
 have hH : Has ρ [(0, (vp p1)), (3, (vp (some p2))), (6, (vp (some p3))), (7, (vi i1))] := hH
 have hs : Hst w0 Hl1 wl1 Hl1 wl1 := hs
 have hb : HB Hl1 wl1 [(p3, [(vi aA), (vi aB), (vi aC), (vu aK), (vs aF), (vi aL), (vi aM)], 86), (p2, [(vi aD), (vi aG), (vi aH), (vu aI), (vs aJ), aE.v], 49)] := hb
 have h := hr i1 aA aB aC aK aF aL aM Hl1 wl1 hs hI
 unfold m_I1_l1 at h
 refine wpE_has hH ?_
 refine wpE_seq (wpE_seq (rg (q0 (vi i1) (q0 (vp (some (p2.add 5))) (q2 aE.v (xl (Tryz.isAgg22 _) (hb.c 1 5 (gS gZ))) (q0 (vi (aE.len : Int)) (q0 (vb (decide (i1 < (aE.len : Int)))) (wpL_nil (th_n ?_)))))))))
 refine wpE_cond (t := (decide (i1 < (aE.len : Int)))) (by kernel_rfl) (fun hc1 => ?_) (fun hc1 => ?_)
 ·have h := h.1 hc1
  refine wpE_skip (th_n (wpE_seq (wpE_block (wpE_seq (rg (q0 (vp p1) (q0 (vp (some (p2.add 5))) (q2 aE.v (xl (Tryz.isAgg22 _) (hb.c 1 5 (gS gZ))) (q0 (vi i1) ?_)))))))))
  obtain ⟨a1, hv2, h⟩ := h
  refine q2 (vp (some a1)) (xi (Tryz.runUnderlying22 _) (Tryz.sizeOf49 _) hv2) ?_
  obtain ⟨aN, aO, aP, aQ, aR, aX, hv1, h⟩ := h
  refine q2 (.agg #[(vi aN), (vi aO), (vi aP), (vu aQ), (vs aR), aX.v]) (x_loadA (a := a1) (vs := [(vi aN), (vi aO), (vi aP), (vu aQ), (vs aR), aX.v]) (by kernel_rfl) (Tryz.isAgg49 _) (Tryz.sizeOf49 _) rfl hv1) ?_
  refine sc Tryz.call72 (h.mono ?_)
  rintro e w5 ⟨r1, r2, rfl, hk, h⟩
  refine ⟨_, rfl, ?_⟩
  obtain ⟨hs, hb⟩ := hk.hh hs hb
  refine q0 (.tuple #[(vi r1), (vi r2)]) (q0 (vi r1) (q0 (vi r2) (q0 (vi r1) (q0 (vi r2) (wpL_nil (th_n (wpE_seq (wpE_seq (rg (q0 (vi r2) (q0 (vb (r2 != 0)) ?_)))))))))))
  refine wpL_nil (th_n ?_)
  refine wpE_cond (t := (r2 != 0)) (by kernel_rfl) (fun hc2 => ?_) (fun hc2 => ?_)
  ·have h := h.1 hc2
   refine wpE_seq (rg (q0 (vi r2) (q0 (vi 0) (q0 (vi r2) (wpL_nil (th_n (wpE_ret (th_r (bl_r (th_r (th_r ?_)))))))))))
   refine bl_r (th_r (res2 (.inl rfl) Tryz.results72 (v := (vi 0)) (by kernel_rfl) (v' := (vi r2)) (by kernel_rfl) ?_))
   exact ⟨0, r2, rfl, h⟩
  ·have h := h.2 hc2
   refine wpE_skip (th_n (wpE_seq (rg (q0 (vi i1) (q0 (vb (i1 == 0)) (wpL_nil (th_n ?_)))))))
   refine wpE_via (fun ρ wJ => ∃ b1'0 : Bool, ∃ HJ : NP, ((i1 == 0) = b1'0) ∧ Hst w0 Hl1 w5 HJ wJ ∧ HB HJ wJ [(p3, [(vi aA), (vi aB), (vi aC), (vu aK), (vs aF), (vi (cond b1'0 r1 aL)), (vi (cond b1'0 aM r1))], 86), (p2, [(vi aD), (vi aG), (vi aH), (vu aI), (vs aJ), aE.v], 49)] ∧ Has ρ [(0, (vp p1)), (3, (vp (some p2))), (6, (vp (some p3))), (7, (vi i1))]) ?_ ?_
   ·refine wpE_cond (t := (i1 == 0)) (by kernel_rfl) (fun hc4 => ?_) (fun hc4 => ?_)
    ·refine rg (q0 (vi r1) (q0 (vp (some (p3.add 5))) (st_set (want0 rfl) (x_store (a := (p3.add 5)) (v := (vi r1)) (by kernel_rfl) (by kernel_rfl) rfl (Tryz.sizeOf30 _) (hb.canW 0 5 gZ (by kernel_rfl))) ?_)))
     intro w9 hn6
     have hsb : Hst w0 Hl1 w5 Hl1 w9 ∧ HB Hl1 w9 [(p3, [(vi aA), (vi aB), (vi aC), (vu aK), (vs aF), (vi r1), (vi aM)], 86), (p2, [(vi aD), (vi aG), (vi aH), (vu aI), (vs aJ), aE.v], 49)] := by
      rw [hn6]
      exact hb.set (i := 0) 5 (v := (vi r1)) hs gZ (by kernel_rfl)
     obtain ⟨hs, hb⟩ := hsb
     refine wpL_nil (th_n ?_)
     exact ⟨true, _, hc4, hs, hb, hm⟩
    ·refine rg (q0 (vi r1) (q0 (vp (some (p3.add 6))) (st_set (want0 rfl) (x_store (a := (p3.add 6)) (v := (vi r1)) (by kernel_rfl) (by kernel_rfl) rfl (Tryz.sizeOf30 _) (hb.canW 0 6 gZ (by kernel_rfl))) ?_)))
     intro w10 hn7
     have hsb : Hst w0 Hl1 w5 Hl1 w10 ∧ HB Hl1 w10 [(p3, [(vi aA), (vi aB), (vi aC), (vu aK), (vs aF), (vi aL), (vi r1)], 86), (p2, [(vi aD), (vi aG), (vi aH), (vu aI), (vs aJ), aE.v], 49)] := by
      rw [hn7]
      exact hb.set (i := 0) 6 (v := (vi r1)) hs gZ (by kernel_rfl)
     obtain ⟨hs, hb⟩ := hsb
     refine wpL_nil (th_n ?_)
     exact ⟨false, _, hc4, hs, hb, hm⟩
   ·rintro ρ w8 ⟨b1'0, H3, he0, hs, hb, hH⟩
    subst he0
    refine norm_has hH ?_
    refine bl_n (th_n (rg (q0 (vi i1) (q0 (vi (q6.wrap (i1 + 1))) (q0 (vi (q6.wrap (i1 + 1))) (wpL_nil ?_))))))
    have h := h H3 w8 hs
    have hs := hs.here
    refine th_n ?_
    exact ⟨((q6.wrap (i1 + 1)), aA, aB, aC, aK, aF, (cond (i1 == 0) r1 aL), (cond (i1 == 0) aM r1), H3, w8), ⟨rfl, hm, hs, hb, h.1⟩, h.2⟩
 ·have h := h.2 hc1
  refine wpE_exit (th_x (th_x (bl_eq (th_n (wpE_seq (rg (q0 (vp p1) (q2 (.agg #[(vi aA), (vi aB), (vi aC), (vu aK), (vs aF), (vi aL), (vi aM)]) (x_loadA (a := p3) (vs := [(vi aA), (vi aB), (vi aC), (vu aK), (vs aF), (vi aL), (vi aM)]) (by kernel_rfl) (Tryz.isAgg86 _) (Tryz.sizeOf86 _) rfl (hb.row0 0 7 gZ (by kernel_rfl))) ?_))))))))
  refine sc Tryz.call41 (h.mono ?_)
  rintro e w11 ⟨r3, r4, rfl, hk, h⟩
  refine ⟨_, rfl, ?_⟩
  obtain ⟨hs, hb⟩ := hk.hh hs hb
  refine q0 (vi r3) (q0 (vi r4) (q0 (vi r3) (q0 (vi r4) (wpL_nil (th_n (wpE_ret (res2 (.inl rfl) Tryz.results72 (v := (vi r3)) (by kernel_rfl) (v' := (vi r4)) (by kernel_rfl) ?_)))))))
  exact ⟨r3, r4, rfl, h⟩
def m_B2 (p1 : Option Addr) (n1 : Int) (w0 : World) (K : WP) : Prop :=
 ∃ a1 : Addr, p1 = some a1 ∧
 ∃ v1 : Sl, w0.cell? a1 = some v1.v ∧
 ∃ s1 : Sl, (Instr.sliceAt 42 v1.v none (some (vi n1)) none).run Tryz.prog w0 = .ok s1.v w0 ∧
 ∃ a2 : Addr, p1 = some a2 ∧
 CanW w0 a2 ∧ ∀ w1 : World, w1 = w0.setCell a2 s1.v →
 ∃ a3 : Addr, p1 = some a3 ∧
 ∃ v2 : Sl, w1.cell? (a3.add 1) = some v2.v ∧
 ∃ s2 : Sl, (Instr.sliceAt 43 v2.v none (some (vi n1)) none).run Tryz.prog w1 = .ok s2.v w1 ∧
 ∃ a4 : Addr, p1 = some a4 ∧
 CanW w1 (a4.add 1) ∧ ∀ w2 : World, w2 = w1.setCell (a4.add 1) s2.v →
 ∃ a5 : Addr, p1 = some a5 ∧
 ∃ v3 : Sl, w2.cell? (a5.add 2) = some v3.v ∧
 ∃ s3 : Sl, (Instr.sliceAt 43 v3.v none (some (vi n1)) none).run Tryz.prog w2 = .ok s3.v w2 ∧
 ∃ a6 : Addr, p1 = some a6 ∧
 CanW w2 (a6.add 2) ∧ ∀ w3 : World, w3 = w2.setCell (a6.add 2) s3.v →
 K w3
theorem w_B2 (p1 : Option Addr) (n1 : Int) (w0 : World) (K : WP) (h : m_B2 p1 n1 w0 K) :
  Calls Tryz.prog 73 #[(vp p1), (vi n1)] w0 (fun e w' => e = .returned (.tuple #[]) ∧ K  w') := by
 unfold m_B2 at h
 refine cw (args := [(vp p1), (vi n1)]) Tryz.func73 Tryz.ntmps73 (wpE_seq (rg (q0 (vp p1) (q0 (vp p1) ?_))))
 obtain ⟨a1, hp1, h⟩ := h
 refine q2 (vp (some a1)) (x_nilCheck (p := p1) (by kernel_rfl) hp1) (q0 (vp (some a1)) ?_)
 obtain ⟨v1, hv6, h⟩ := h
 refine q2 v1.v (xl (Tryz.isAgg42 _) hv6) (q0 (vi n1) ?_)
 obtain ⟨s1, hv5, h⟩ := h
 refine q2 s1.v (x_slice (by kernel_rfl) (by kernel_rfl) (by kernel_rfl) (by kernel_rfl) hv5) ?_
 obtain ⟨a2, hp2, h⟩ := h
 refine q2 (vp (some a2)) (x_nilCheck (p := p1) (by kernel_rfl) hp2) (q0 (vp (some a2)) ?_)
 obtain ⟨hp3, h⟩ := h
 refine st_set (want0 rfl) (x_store (a := a2) (v := s1.v) (by kernel_rfl) (by kernel_rfl) rfl (Tryz.sizeOf42 _) hp3) ?_
 intro w1 hn1
 have h := h w1 hn1
 refine wpL_nil (th_n (wpE_seq (rg (q0 (vp p1) (q0 (vp p1) ?_)))))
 obtain ⟨a3, hp4, h⟩ := h
 refine q2 (vp (some a3)) (x_nilCheck (p := p1) (by kernel_rfl) hp4) (q0 (vp (some (a3.add 1))) ?_)
 obtain ⟨v2, hv4, h⟩ := h
 refine q2 v2.v (xl (Tryz.isAgg43 _) hv4) (q0 (vi n1) ?_)
 obtain ⟨s2, hv3, h⟩ := h
 refine q2 s2.v (x_slice (by kernel_rfl) (by kernel_rfl) (by kernel_rfl) (by kernel_rfl) hv3) ?_
 obtain ⟨a4, hp5, h⟩ := h
 refine q2 (vp (some a4)) (x_nilCheck (p := p1) (by kernel_rfl) hp5) (q0 (vp (some (a4.add 1))) ?_)
 obtain ⟨hp6, h⟩ := h
 refine st_set (want0 rfl) (x_store (a := (a4.add 1)) (v := s2.v) (by kernel_rfl) (by kernel_rfl) rfl (Tryz.sizeOf43 _) hp6) ?_
 intro w2 hn2
 have h := h w2 hn2
 refine wpL_nil (th_n (rg (q0 (vp p1) (q0 (vp p1) ?_))))
 obtain ⟨a5, hp7, h⟩ := h
 refine q2 (vp (some a5)) (x_nilCheck (p := p1) (by kernel_rfl) hp7) (q0 (vp (some (a5.add 2))) ?_)
 obtain ⟨v3, hv2, h⟩ := h
 refine q2 v3.v (xl (Tryz.isAgg43 _) hv2) (q0 (vi n1) ?_)
 obtain ⟨s3, hv1, h⟩ := h
 refine q2 s3.v (x_slice (by kernel_rfl) (by kernel_rfl) (by kernel_rfl) (by kernel_rfl) hv1) ?_
 obtain ⟨a6, hp8, h⟩ := h
 refine q2 (vp (some a6)) (x_nilCheck (p := p1) (by kernel_rfl) hp8) (q0 (vp (some (a6.add 2))) ?_)
 obtain ⟨hp9, h⟩ := h
 refine st_set (want0 rfl) (x_store (a := (a6.add 2)) (v := s3.v) (by kernel_rfl) (by kernel_rfl) rfl (Tryz.sizeOf43 _) hp9) ?_
 intro w3 hn3
 have h := h w3 hn3
 refine wpL_nil (res0 (.inr rfl) Tryz.results73 ?_)
 exact ⟨rfl, h⟩
def m_C2 (p1 : Option Addr) (aD aG : Int) (aH aI : Int) (aJ : ByteArray) (aE : Sl) (w0 : World) (K : Int → Int → WP) : Prop :=
 ∀ (H1 : NP) (w1 : World), Hst w0 None w0 H1 w1 →
 Calls Tryz.prog 71 #[(.agg #[(vi aD), (vi aG), (vi aH), (vu aI), (vs aJ), aE.v])] w1 (fun e w2 => ∃ r1 : Int, e = .returned (vi r1) ∧ 
  Kept H1 w1 w2 ∧
  Br (r1 != 0)
   (K 0 r1 w2)
   (∃ a1 : Addr, p1 = some a1 ∧
   ∃ v1 : Sl, w2.cell? a1 = some v1.v ∧
   Calls Tryz.prog 72 #[(vp p1), (.agg #[(vi aD), (vi aG), (vi aH), (vu aI), (vs aJ), aE.v])] w2 (fun e w3 => ∃ r2 r3 : Int, e = .returned (.tuple #[(vi r2), (vi r3)]) ∧ 
    Kept H1 w2 w3 ∧
    Br (r3 != 0)
     (Calls Tryz.prog 73 #[(vp p1), (vi (v1.len : Int))] w3 (fun e w4 => e = .returned (.tuple #[]) ∧ 
      Kept H1 w3 w4 ∧
      K r2 r3 w4))
     (K r2 r3 w3))))
theorem w_C2 (p1 : Option Addr) (aD aG : Int) (aH aI : Int) (aJ : ByteArray) (aE : Sl) (w0 : World) (K : Int → Int → WP) (h : m_C2 p1 aD aG aH aI aJ aE w0 K) :
  Calls Tryz.prog 34 #[(vp p1), (.agg #[(vi aD), (vi aG), (vi aH), (vu aI), (vs aJ), aE.v])] w0 (fun e w' => ∃ r4 r5 : Int, e = .returned (.tuple #[(vi r4), (vi r5)]) ∧ K r4 r5 w') := by
 unfold m_C2 at h
 refine cw (args := [(vp p1), (.agg #[(vi aD), (vi aG), (vi aH), (vu aI), (vs aJ), aE.v])]) Tryz.func34 Tryz.ntmps34 ?_
 have hs := Hst.start w0
 have hb := HB.nil None w0
 refine wpE_seq (rg (sn (O := (.cells #[(vi aD), (vi aG), (vi aH), (vu aI), (vs aJ), aE.v] 49)) xb ?_))
 intro p2 w1 hn1
 obtain ⟨H1, hs, hb⟩ := hs.alloc hb hn1
 refine q0 (vi 0) (q0 (vi 0) (wpL_nil (th_n (wpE_seq (rg (q2 (.agg #[(vi aD), (vi aG), (vi aH), (vu aI), (vs aJ), aE.v]) (x_loadA (a := p2) (vs := [(vi aD), (vi aG), (vi aH), (vu aI), (vs aJ), aE.v]) (by kernel_rfl) (Tryz.isAgg49 _) (Tryz.sizeOf49 _) rfl (hb.row0 0 6 gZ (by kernel_rfl))) ?_))))))
 have h := h H1 w1 hs
 have hs := hs.here
 refine sc Tryz.call71 (h.mono ?_)
 rintro e w2 ⟨r1, rfl, hk, h⟩
 refine ⟨_, rfl, ?_⟩
 obtain ⟨hs, hb⟩ := hk.hh hs hb
 refine q0 (vi r1) (wpL_nil (th_n (wpE_seq (wpE_seq (rg (q0 (vi r1) (q0 (vb (r1 != 0)) (wpL_nil (th_n ?_)))))))))
 refine wpE_cond (t := (r1 != 0)) (by kernel_rfl) (fun hc1 => ?_) (fun hc1 => ?_)
 ·have h := h.1 hc1
  refine wpE_seq (rg (q0 (vi r1) (q0 (vi 0) (q0 (vi r1) (wpL_nil (th_n (wpE_ret (th_r (res2 (.inl rfl) Tryz.results34 (v := (vi 0)) (by kernel_rfl) (v' := (vi r1)) (by kernel_rfl) ?_)))))))))
  exact ⟨0, r1, rfl, h⟩
 ·have h := h.2 hc1
  refine wpE_skip (th_n (wpE_seq (rg (q0 (vp p1) ?_))))
  obtain ⟨a1, hp1, h⟩ := h
  refine q2 (vp (some a1)) (x_nilCheck (p := p1) (by kernel_rfl) hp1) (q0 (vp (some a1)) ?_)
  obtain ⟨v1, hv1, h⟩ := h
  refine q2 v1.v (xl (Tryz.isAgg42 _) hv1) (q0 (vi (v1.len : Int)) (q0 (vi (v1.len : Int)) (wpL_nil (th_n (wpE_seq (rg (q0 (vp p1) (q2 (.agg #[(vi aD), (vi aG), (vi aH), (vu aI), (vs aJ), aE.v]) (x_loadA (a := p2) (vs := [(vi aD), (vi aG), (vi aH), (vu aI), (vs aJ), aE.v]) (by kernel_rfl) (Tryz.isAgg49 _) (Tryz.sizeOf49 _) rfl (hb.row0 0 6 gZ (by kernel_rfl))) ?_))))))))
  refine sc Tryz.call72 (h.mono ?_)
  rintro e w3 ⟨r2, r3, rfl, hk, h⟩
  refine ⟨_, rfl, ?_⟩
  obtain ⟨hs, hb⟩ := hk.hh hs hb
  refine q0 (.tuple #[(vi r2), (vi r3)]) (q0 (vi r2) (q0 (vi r3) (q0 (vi r2) (q0 (vi r3) (wpL_nil (th_n (wpE_seq (wpE_seq (rg (q0 (vi r3) (q0 (vb (r3 != 0)) ?_)))))))))))
  refine wpL_nil (th_n ?_)
  refine wpE_cond (t := (r3 != 0)) (by kernel_rfl) (fun hc2 => ?_) (fun hc2 => ?_)
  ·have h := h.1 hc2
   refine rg (q0 (vp p1) (q0 (vi (v1.len : Int)) ?_))
   refine sc Tryz.call73 (h.mono ?_)
   rintro e w4 ⟨rfl, hk, h⟩
   refine ⟨_, rfl, ?_⟩
   obtain ⟨hs, hb⟩ := hk.hh hs hb
   refine wpL_nil (th_n (wpE_seq (rg (q0 (vi r2) (q0 (vi r3) (q0 (vi r2) (q0 (vi r3) (wpL_nil (th_n (wpE_ret (res2 (.inl rfl) Tryz.results34 (v := (vi r2)) (by kernel_rfl) (v' := (vi r3)) (by kernel_rfl) ?_)))))))))))
   exact ⟨r2, r3, rfl, h⟩
  ·have h := h.2 hc2
   refine wpE_skip (th_n (wpE_seq (rg (q0 (vi r2) (q0 (vi r3) (q0 (vi r2) (q0 (vi r3) (wpL_nil (th_n (wpE_ret (res2 (.inl rfl) Tryz.results34 (v := (vi r2)) (by kernel_rfl) (v' := (vi r3)) (by kernel_rfl) ?_)))))))))))
   exact ⟨r2, r3, rfl, h⟩
end Go.Proofs
end
section
open Go Go.SE
namespace Go.Proofs
attribute [local irreducible] Calls
theorem kind_cases (k : Int) : (k = 1 ∨ k = 2 ∨ k = 3 ∨ k = 4 ∨ k = 5 ∨ k = 6 ∨ k = 7 ∨ k = 8 ∨ k = 9) ∨ (Sp.shapeOf k = Sp.noShape ∧ Sp.isKind k = false ∧ ∀ m : Int, 1 ≤ m → m ≤ 9 → (k == m) = false) := by
 by_cases h : k = 1 ∨ k = 2 ∨ k = 3 ∨ k = 4 ∨ k = 5 ∨ k = 6 ∨ k = 7 ∨ k = 8 ∨ k = 9
 ·exact .inl h
 ·right
  refine ⟨?_, ?_, fun m h1 h2 => ?_⟩
  ·unfold Sp.shapeOf; repeat rw [if_neg (by omega)]
  ·unfold Sp.isKind; apply Bool.eq_false_iff.2; intro h3; simp at h3; omega
  ·rw [beq_eq_false_iff_ne]; omega
theorem ref05_kids (k : Int) : s_C k = (Sp.shapeOf k).kids := by
 rcases kind_cases k with h | ⟨h, _, hm⟩
 ·rcases h with rfl | rfl | rfl | rfl | rfl | rfl | rfl | rfl | rfl <;> decide
 ·rw [h]; unfold s_C; simp [hm, Sp.noShape]
theorem ref05_named (k : Int) : s_E k = (Sp.shapeOf k).frm := by
 rcases kind_cases k with h | ⟨h, _, hm⟩
 ·rcases h with rfl | rfl | rfl | rfl | rfl | rfl | rfl | rfl | rfl <;> decide
 ·rw [h]; unfold s_E; simp [hm, Sp.noShape]
theorem shape_two (k : Int) : ((k == 8) || (k == 9)) = (Sp.shapeOf k).to := by
 rcases kind_cases k with h | ⟨h, _, hm⟩
 ·rcases h with rfl | rfl | rfl | rfl | rfl | rfl | rfl | rfl | rfl <;> decide
 ·rw [h]; simp [hm, Sp.noShape]
theorem shape_num (k : Int) : (k == 2) = (Sp.shapeOf k).num := by
 rcases kind_cases k with h | ⟨h, _, hm⟩
 ·rcases h with rfl | rfl | rfl | rfl | rfl | rfl | rfl | rfl | rfl <;> decide
 ·rw [h]; simp [hm, Sp.noShape]
theorem shape_text (k : Int) : (k == 3) = (Sp.shapeOf k).text := by
 rcases kind_cases k with h | ⟨h, _, hm⟩
 ·rcases h with rfl | rfl | rfl | rfl | rfl | rfl | rfl | rfl | rfl <;> decide
 ·rw [h]; simp [hm, Sp.noShape]
theorem shape_kind (k : Int) : (!(decide (k < 1) || decide (k > 9))) = Sp.isKind k := by
 unfold Sp.isKind
 by_cases h1 : k < 1 <;> by_cases h2 : k > 9 <;> simp [h1, h2] <;> omega
theorem ite53 (q : Bool) : decide ((if q = true then (53 : Int) else 0) = 0) = !q := by cases q <;> rfl
def Sp.nodeErr (n : Sp.Node) : Int :=
 if Sp.plainErr n ≠ 0 then 53 else if (decide ((Sp.shapeOf n.kind).kids < 1) && n.a != 0) || (decide ((Sp.shapeOf n.kind).kids < 2) && n.b != 0) then 53 else Sp.fieldsErr (Sp.shapeOf n.kind) n
theorem ref05_plain (n : Sp.Node) : s_A1 n.kind n.frm n.to n.num n.text n.a n.b = (decide (Sp.plainErr n = 0) && !((decide ((Sp.shapeOf n.kind).kids < 1) && n.a != 0) || (decide ((Sp.shapeOf n.kind).kids < 2) && n.b != 0))) := by
 obtain ⟨k, f, t, u, x, a, b⟩ := n
 unfold s_A1 Sp.plainErr
 simp only [ref05_kids, ref05_named, shape_two k, shape_num k, shape_text k, shape_kind]
 have hk := Sp.kids_le k
 generalize Sp.shapeOf k = s at *
 obtain ⟨s1, s2, s3, s4, s5⟩ := s
 generalize Sp.isKind k = i
 have e1 : decide (s5 ≥ 1) = !decide (s5 < 1) := by by_cases h : s5 < 1 <;> simp [h] <;> omega
 have e2 : (s5 == 2) = !decide (s5 < 2) := by
  by_cases h : s5 < 2
  ·simp [h]; omega
  ·simp [h]; simp at hk; omega
 simp only [e1, e2, bne, ite53]
 generalize (f == 0) = c1; generalize (t == 0) = c2; generalize (u == 0) = c3; generalize decide (x = ⟨#[]⟩) = c4; generalize (a == 0) = c5; generalize (b == 0) = c6; generalize decide (s5 < 1) = c7; generalize decide (s5 < 2) = c8
 cases i <;> cases s1 <;> cases s2 <;> cases s3 <;> cases s4 <;> cases c1 <;> cases c2 <;> cases c3 <;> cases c4 <;> simp
theorem ref05_shape (n : Sp.Node) : s_J n.kind n.frm n.to n.num n.text n.a n.b = Sp.nodeErr n := by
 unfold s_J Sp.nodeErr
 rw [ref05_plain, ref05_named, shape_two]
 by_cases h1 : Sp.plainErr n = 0
 ·by_cases h2 : ((decide ((Sp.shapeOf n.kind).kids < 1) && n.a != 0) || (decide ((Sp.shapeOf n.kind).kids < 2) && n.b != 0)) = true
  ·rw [h2]; simp [h1]
  ·have h2 : ((decide ((Sp.shapeOf n.kind).kids < 1) && n.a != 0) || (decide ((Sp.shapeOf n.kind).kids < 2) && n.b != 0)) = false := by simpa using h2
   rw [h2]
   simp only [h1, ne_eq, not_true_eq_false, if_false, Bool.false_eq_true, decide_true, Bool.not_false, Bool.and_true, Bool.not_true, cond_false]
   unfold Sp.fieldsErr Sp.isName
   have e1 : (decide (n.frm ≥ 0) && decide (n.frm < 16)) = (decide (0 ≤ n.frm) && decide (n.frm < 16)) := rfl
   have e2 : (decide (n.to ≥ 0) && decide (n.to < 16)) = (decide (0 ≤ n.to) && decide (n.to < 16)) := rfl
   have e3 : (n.frm == n.to) = (n.to == n.frm) := by rw [Bool.eq_iff_iff]; simp only [beq_iff_eq]; exact eq_comm
   rw [e1, e2, e3]
   have e4 : decide (((n.text.size : Int)) > 64) = decide (n.text.size > 64) := decide_eq_decide.2 (by omega)
   rw [e4]
   generalize ((Sp.shapeOf n.kind).frm && !(decide (0 ≤ n.frm) && decide (n.frm < 16)) || (Sp.shapeOf n.kind).to && (!(decide (0 ≤ n.to) && decide (n.to < 16)) || n.to == n.frm)) = c
   cases c
   ·by_cases h : n.text.size > 64 <;> simp [h]
   ·rfl
 ·simp [h1]
end Go.Proofs
end
section
open Go Go.SE
namespace Go.Proofs
attribute [local irreducible] Calls
theorem slT_node : SlType Tryz.prog 42 86 7 64 := by
 refine ⟨Tryz.underlying42, ⟨Tryz.t86, _, by kernel_rfl, (by kernel_rfl : Tryz.t86.zero = some (.agg #[.int .i64 0, .int .i64 0, .int .i64 0, .int .u64 0, .string ⟨#[]⟩, .int .i64 0, .int .i64 0])), by kernel_rfl, by kernel_rfl, rfl⟩, by omega⟩
theorem slT_int : SlType Tryz.prog 43 3 1 8 := by
 refine ⟨Tryz.underlying43, ⟨Tryz.t3, _, by kernel_rfl, (by kernel_rfl : Tryz.t3.zero = some (.int .i64 0)), by kernel_rfl, by kernel_rfl, rfl⟩, by omega⟩
def rnode (e : Sp.Ent) : List Value := nrow e.node
def rsize (e : Sp.Ent) : List Value := [.int .i64 e.size]
def rdepth (e : Sp.Ent) : List Value := [.int .i64 e.depth]
structure PoolRS (w : World) (p : Addr) (L : Sp.Pool) (s1 s2 s3 : Sl) : Prop where
 box : Box w p [s1.v, s2.v, s3.v] 45
 r1 : Rws w 86 7 s1 (L.map rnode)
 r2 : Rws w 3 1 s2 (L.map rsize)
 r3 : Rws w 3 1 s3 (L.map rdepth)
 n1 : ¬ s1.blk p.block
 n2 : ¬ s2.blk p.block
 n3 : ¬ s3.blk p.block
 d12 : ∀ b, s1.blk b → ¬ s2.blk b
 d13 : ∀ b, s1.blk b → ¬ s3.blk b
 d23 : ∀ b, s2.blk b → ¬ s3.blk b
def PoolR (w : World) (p : Addr) (L : Sp.Pool) (F : NP) : Prop := ∃ s1 s2 s3, PoolRS w p L s1 s2 s3 ∧ ∀ b, F b ↔ (b = p.block ∨ s1.blk b ∨ s2.blk b ∨ s3.blk b)
theorem PoolR.ext {G : NP} {w w' : World} {p : Addr} {L : Sp.Pool} {F : NP} (h : PoolR w p L F) (hE : Ext G w w') (hd : ∀ b, F b → ¬ G b) : PoolR w' p L F := by
 obtain ⟨s1, s2, s3, h, hF⟩ := h
 exact ⟨s1, s2, s3, ⟨h.box.ext hE (hd _ ((hF _).2 (.inl rfl))), h.r1.ext hE (fun b hb => hd _ ((hF _).2 (.inr (.inl hb)))), h.r2.ext hE (fun b hb => hd _ ((hF _).2 (.inr (.inr (.inl hb))))), h.r3.ext hE (fun b hb => hd _ ((hF _).2 (.inr (.inr (.inr hb))))), h.n1, h.n2, h.n3, h.d12, h.d13, h.d23⟩, hF⟩
theorem PoolR.pure {w w' : World} {p : Addr} {L : Sp.Pool} {F : NP} (h : PoolR w p L F) (hE : Pure w w') : PoolR w' p L F := h.ext hE (fun _ _ h => h)
theorem PoolR.lt {w : World} {p : Addr} {L : Sp.Pool} {F : NP} (h : PoolR w p L F) {b : Nat} (hb : F b) : b < w.heap.size := by
 obtain ⟨s1, s2, s3, h, hF⟩ := h
 rcases (hF b).1 hb with rfl | hb | hb | hb
 ·exact h.box.lt
 ·exact h.r1.lt hb
 ·exact h.r2.lt hb
 ·exact h.r3.lt hb
theorem c_ref05_New (w0 : World) : Calls Tryz.prog 31 #[] w0 (fun e w' => ∃ r : Option Addr, e = .returned (.pointer r) ∧ ∃ p F, r = some p ∧ PoolR w' p [] F ∧ Pure w0 w' ∧ ∀ b, F b → w0.heap.size ≤ b) := by
 refine w_E3 w0 (fun r w' => ∃ p F, r = some p ∧ PoolR w' p [] F ∧ Pure w0 w' ∧ ∀ b, F b → w0.heap.size ≤ b) ?_
 unfold m_E3
 have hnil : ∀ b, ¬ Sl.nil.blk b := fun b hb => by obtain ⟨a, h, _⟩ := hb; cases h
 intro p w1 h1
 have b1 := Box.of_new h1
 have E1 : Pure w0 w1 := Ext.new h1
 first
  | exact ⟨p, (· = p.block), rfl, ⟨Sl.nil, Sl.nil, Sl.nil, ⟨b1, Rws.nil _ _ _, Rws.nil _ _ _, Rws.nil _ _ _, hnil _, hnil _, hnil _, fun b h => (hnil b h).elim, fun b h => (hnil b h).elim, fun b h => (hnil b h).elim⟩, fun b => by simp [hnil]⟩, E1, fun b hb => by subst hb; exact New.own (Ext.refl w0) h1⟩
  | skip
theorem c_ref05_In (p : Addr) (t : Int) (w0 : World) {L : Sp.Pool} {F : NP} (hP : PoolR w0 p L F) : Calls Tryz.prog 60 #[.pointer (some p), .int .i64 t] w0 (fun e w' => ∃ r : Bool, e = .returned (.bool r) ∧ (r = Sp.inP L t ∧ w' = w0)) := by
 refine w_C3 _ _ w0 (fun r w' => r = Sp.inP L t ∧ w' = w0) ?_
 unfold m_C3
 obtain ⟨s1, s2, s3, h, hF⟩ := hP
 have hl : s1.len = L.length := by rw [h.r1.len]; simp
 refine ⟨fun hc => ⟨p, rfl, s1, h.box.cell0, ?_, rfl⟩, fun hc => ⟨?_, rfl⟩⟩
 ·have := of_decide_eq_true hc
  rw [hl]; simp [Sp.inP, this]
 ·have := of_decide_eq_false hc
  simp [Sp.inP]; omega
theorem PoolRS.at1 {w : World} {p : Addr} {L : Sp.Pool} {s1 s2 s3 : Sl} (h : PoolRS w p L s1 s2 s3) {t : Int} (ht : Sp.inP L t = true) (hok : Sp.Ok L) : ∃ e, Sp.get L t = some e ∧
  (∃ a, At s1 (IntKind.i64.wrap (t - 1)) 7 a ∧ Row w a (rnode e)) ∧ (∃ a, At s2 (IntKind.i64.wrap (t - 1)) 1 a ∧ Row w a (rsize e)) ∧ (∃ a, At s3 (IntKind.i64.wrap (t - 1)) 1 a ∧ Row w a (rdepth e)) := by
 obtain ⟨e, he, _, hi, hLe⟩ := Sp.get_some ht
 have hin := Sp.inP_iff.1 ht
 have hf := hok.few
 have hw : IntKind.i64.wrap (t - 1) = ((t - 1).toNat : Int) := by rw [i64 (by omega) (by omega)]; omega
 obtain ⟨a1, h1, g1⟩ := h.r1.nth (j := (t - 1).toNat) hi
 obtain ⟨a2, h2, g2⟩ := h.r2.nth (j := (t - 1).toNat) hi
 obtain ⟨a3, h3, g3⟩ := h.r3.nth (j := (t - 1).toNat) hi
 rw [hLe] at g1 g2 g3
 rw [hw]
 exact ⟨e, he, ⟨a1, h1, g1⟩, ⟨a2, h2, g2⟩, ⟨a3, h3, g3⟩⟩
theorem c_ref05_Size (p : Addr) (t : Int) (w0 : World) {L : Sp.Pool} {F : NP} (hP : PoolR w0 p L F) (hok : Sp.Ok L) : Calls Tryz.prog 87 #[.pointer (some p), .int .i64 t] w0 (fun e w' => ∃ r : Int, e = .returned (.int .i64 r) ∧ (r = Sp.sizeOf L t ∧ w' = w0)) := by
 refine w_G3 _ _ w0 (fun r w' => r = Sp.sizeOf L t ∧ w' = w0) ?_
 unfold m_G3
 refine (c_ref05_In p t w0 hP).mono ?_
 rintro _ _ ⟨_, rfl, rfl, rfl⟩
 refine ⟨_, rfl, fun h => ⟨?_, rfl⟩, fun h => ?_⟩
 ·have h : Sp.inP L t = false := by simpa using h
  simp [Sp.sizeOf, Sp.get_none h]
 ·have h : Sp.inP L t = true := by simpa using h
  obtain ⟨s1, s2, s3, hS, hF⟩ := hP
  obtain ⟨e, he, _, ⟨a, hat, hr⟩, _⟩ := hS.at1 h hok
  exact ⟨p, rfl, s2, hS.box.cell rfl, a, hat, _, row_cell hr, by simp [Sp.sizeOf, he], rfl⟩
theorem c_ref05_Depth (p : Addr) (t : Int) (w0 : World) {L : Sp.Pool} {F : NP} (hP : PoolR w0 p L F) (hok : Sp.Ok L) : Calls Tryz.prog 88 #[.pointer (some p), .int .i64 t] w0 (fun e w' => ∃ r : Int, e = .returned (.int .i64 r) ∧ (r = Sp.depthOf L t ∧ w' = w0)) := by
 refine w_H3 _ _ w0 (fun r w' => r = Sp.depthOf L t ∧ w' = w0) ?_
 unfold m_H3
 refine (c_ref05_In p t w0 hP).mono ?_
 rintro _ _ ⟨_, rfl, rfl, rfl⟩
 refine ⟨_, rfl, fun h => ⟨?_, rfl⟩, fun h => ?_⟩
 ·have h : Sp.inP L t = false := by simpa using h
  simp [Sp.depthOf, Sp.get_none h]
 ·have h : Sp.inP L t = true := by simpa using h
  obtain ⟨s1, s2, s3, hS, hF⟩ := hP
  obtain ⟨e, he, _, _, ⟨a, hat, hr⟩⟩ := hS.at1 h hok
  exact ⟨p, rfl, s3, hS.box.cell rfl, a, hat, _, row_cell hr, by simp [Sp.depthOf, he], rfl⟩
theorem c_ref05_Node (p : Addr) (t : Int) (w0 : World) {L : Sp.Pool} {F : NP} (hP : PoolR w0 p L F) (hok : Sp.Ok L) : Calls Tryz.prog 45 #[.pointer (some p), .int .i64 t] w0
  (fun e w' => ∃ k f t' u : Int, ∃ x : ByteArray, ∃ a b : Int, ∃ r : Bool, e = .returned (.tuple #[.agg #[.int .i64 k, .int .i64 f, .int .i64 t', .int .u64 u, .string x, .int .i64 a, .int .i64 b], .bool r]) ∧ (((⟨k, f, t', u, x, a, b⟩ : Sp.Node) = Sp.nodeOf L t ∧ r = Sp.inP L t) ∧ Pure w0 w')) := by
 refine w_D3 _ _ w0 (fun k f t' u x a b r w' => ((⟨k, f, t', u, x, a, b⟩ : Sp.Node) = Sp.nodeOf L t ∧ r = Sp.inP L t) ∧ Pure w0 w') ?_
 unfold m_D3
 intro H1 w1 hs1
 have hP1 := hP.pure hs1.first
 refine (c_ref05_In p t w1 hP1).mono ?_
 rintro _ _ ⟨_, rfl, rfl, rfl⟩
 refine ⟨_, rfl, Kept.refl _, fun h => ?_, fun h => ?_⟩
 ·intro w3 hs3
  have h : Sp.inP L t = false := by simpa using h
  exact ⟨⟨by simp [Sp.nodeOf, Sp.get_none h, Sp.noNode], h.symm⟩, hs1.first.hst hs3⟩
 ·have h : Sp.inP L t = true := by simpa using h
  obtain ⟨s1, s2, s3, hS, hF⟩ := hP1
  obtain ⟨e, he, ⟨a, hat, hr⟩, _, _⟩ := hS.at1 h hok
  refine ⟨p, rfl, s1, hS.box.cell0, a, hat, _, _, _, _, _, _, _, hr, ?_⟩
  intro w4 hs4
  exact ⟨⟨by simp [Sp.nodeOf, he], h.symm⟩, hs1.first.hst hs4⟩
theorem node_eqB (m n : Sp.Node) : ((m.kind == n.kind) && ((m.frm == n.frm) && ((m.to == n.to) && ((m.num == n.num) && ((decide (m.text = n.text)) && ((m.a == n.a) && (m.b == n.b))))))) = decide (m = n) := by
 obtain ⟨k, f, t, u, x, a, b⟩ := m; obtain ⟨k', f', t', u', x', a', b'⟩ := n
 rw [Bool.eq_iff_iff]; simp
theorem c_ref05_Has (p : Addr) (n : Sp.Node) (w0 : World) {L : Sp.Pool} {F : NP} (hP : PoolR w0 p L F) (hok : Sp.Ok L) : Calls Tryz.prog 89 #[.pointer (some p), nkey n] w0
  (fun e w' => ∃ r : Int, ∃ ok : Bool, e = .returned (.tuple #[.int .i64 r, .bool ok]) ∧ ((match Sp.find L n with | some i => r = (i : Int) + 1 ∧ ok = true | none => r = 0 ∧ ok = false) ∧ Pure w0 w')) := by
 obtain ⟨k, f, t, u, x, a, b⟩ := n
 generalize hn : (⟨k, f, t, u, x, a, b⟩ : Sp.Node) = n
 have hnk : nkey n = .agg #[.int .i64 k, .int .i64 f, .int .i64 t, .int .u64 u, .string x, .int .i64 a, .int .i64 b] := by rw [← hn]; rfl
 rw [hnk]
 suffices key : ∀ K : Int → Bool → WP, (∀ r ok w', ((match Sp.find L n with | some i => r = (i : Int) + 1 ∧ ok = true | none => r = 0 ∧ ok = false) ∧ Pure w0 w') → K r ok w') → m_H1 (some p) k f t u x a b w0 K from
  w_H1 _ _ _ _ _ _ _ _ w0 _ (key _ (fun _ _ _ h => h))
 intro K hK
 unfold m_H1
 intro H1 w1 hs1
 refine ⟨fun i H w' => ∃ j : Nat, i = j ∧ j ≤ L.length ∧ Pure w0 w' ∧ ∀ q, q < j → ∀ e, L[q]? = some e → e.node ≠ n, fun i _ => ((L.length : Int) - i).toNat, ⟨0, rfl, Nat.zero_le _, hs1.first, fun q hq => absurd hq (by omega)⟩, ?_⟩
 rintro _ Hl wl hl ⟨j, rfl, hj, El, hno⟩
 unfold m_H1_l1
 obtain ⟨s1, s2, s3, hS, hF⟩ := hP.pure El
 have hf := hok.few
 have hlen : s1.len = L.length := by rw [hS.r1.len]; simp
 refine ⟨p, rfl, s1, hS.box.cell0, fun h => ?_, fun h => ?_⟩
 ·have hlt := lt_of_dec hlen h
  refine ⟨p, rfl, ?_⟩
  intro w2 hs2
  have E2 := El.hst hs2
  obtain ⟨s1', s2', s3', hS', _⟩ := hP.pure E2
  obtain ⟨a', hat, hr⟩ := hS'.r1.nth hlt
  refine ⟨s1', hS'.box.cell0, a', hat, _, _, _, _, _, _, _, hr, ?_⟩
  have hB := node_eqB L[j].node n
  rw [← hn] at hB
  simp only at hB
  rw [hB, hn]
  refine ⟨fun h => ?_, fun h => ?_⟩
  ·have h := of_decide_eq_true h
   rw [wrap_succ hlt (by omega)]
   refine hK _ _ _ ⟨?_, E2⟩
   have hfd : Sp.find L n = some j := by
    unfold Sp.find
    rw [List.findIdx?_eq_some_iff_getElem]
    exact ⟨hlt, by simp [h], fun q hq => by simpa using hno q hq _ (List.getElem?_eq_getElem (by omega))⟩
   rw [hfd]; exact ⟨by omega, rfl⟩
  ·have h := of_decide_eq_false h
   rw [wrap_succ hlt (by omega)]
   refine ⟨⟨j + 1, rfl, hlt, E2, fun q hq e he => ?_⟩, lt_dec hlt⟩
   by_cases hqj : q = j
   ·subst hqj; rw [List.getElem?_eq_getElem hlt] at he; cases he; exact h
   ·exact hno q (by omega) e he
 ·have hge := eq_of_dec hlen hj h
  subst hge
  refine hK _ _ _ ⟨?_, El⟩
  have hfd : Sp.find L n = none := find_none (fun e he => by
   obtain ⟨q, hq, rfl⟩ := List.mem_iff_getElem.1 he
   exact hno q hq _ (List.getElem?_eq_getElem hq))
  rw [hfd]; exact ⟨rfl, rfl⟩
end Go.Proofs
end
section
open Go Go.SE
open Go.IntKind renaming i64 → q6
namespace Go.Proofs
set_option maxRecDepth 100000
set_option maxHeartbeats 4000000
attribute [local irreducible] wpL wpX opE wpE Calls
def m_N1_l1 (l1 : Sl) (t1 i1 : Int) (wl1 : World) (Kc1 : Int → WP) (K : Bool → WP) : Prop :=
 Br (decide (i1 < (l1.len : Int)))
  (∃ a1 : Addr, At l1 i1 1 a1 ∧
  ∃ v1 : Int, wl1.cell? a1 = some (vi v1) ∧
  Br (v1 == t1)
   (K true wl1)
   (Kc1 (q6.wrap (i1 + 1)) wl1))
  (K false wl1)
def m_N1 (l1 : Sl) (t1 : Int) (w0 : World) (K : Bool → WP) : Prop :=
 ∃ (I1 : Int → WP) (mu1 : Int → World → Nat), I1 0 w0 ∧
  ∀ (i1 : Int) (wl1 : World), I1 i1 wl1 → m_N1_l1 l1 t1 i1 wl1 (fun y'0 w' => I1 y'0 w' ∧ mu1 y'0 w' < mu1 i1 wl1) K
theorem w_N1 (l1 : Sl) (t1 : Int) (w0 : World) (K : Bool → WP) (h : m_N1 l1 t1 w0 K) :
  Calls Tryz.prog 61 #[l1.v, (vi t1)] w0 (fun e w' => ∃ r1 : Bool, e = .returned (vb r1) ∧ K r1 w') := by
 unfold m_N1 at h
 refine cw (args := [l1.v, (vi t1)]) Tryz.func61 Tryz.ntmps61 (wpE_seq (rg (q0 (vb false) (wpL_nil (th_n (wpE_seq (wpE_seq (rg (q0 (vi 0) (wpL_nil (th_n ?_)))))))))))
 refine wpE_block ?_
 obtain ⟨I1, mu1, h0, hr⟩ := h
 refine wpE_loop (σ := Int × World) (fun s ρ w => w = s.2 ∧ Has ρ [(0, l1.v), (1, (vi t1)), (5, (vi s.1))] ∧ I1 s.1 s.2) (fun s => mu1 s.1 s.2) (0, w0) ⟨rfl, hm, h0⟩ ?_
 rintro ⟨i1, wl1⟩ ρ w ⟨hw, hH, hI⟩
 obtain rfl : wl1 = w := (show w = wl1 from hw).symm
 have hH : Has ρ [(0, l1.v), (1, (vi t1)), (5, (vi i1))] := hH
 have h := hr i1 wl1 hI
 unfold m_N1_l1 at h
 refine wpE_has hH ?_
 refine wpE_seq (wpE_seq (rg (q0 (vi i1) (q0 l1.v (q0 (vi (l1.len : Int)) (q0 (vb (decide (i1 < (l1.len : Int)))) (wpL_nil (th_n ?_))))))))
 refine wpE_cond (t := (decide (i1 < (l1.len : Int)))) (by kernel_rfl) (fun hc1 => ?_) (fun hc1 => ?_)
 ·have h := h.1 hc1
  refine wpE_skip (th_n (wpE_seq (wpE_block (wpE_seq (rg (q0 l1.v (q0 (vi i1) ?_)))))))
  obtain ⟨a1, hv2, h⟩ := h
  refine q2 (vp (some a1)) (xi (Tryz.runUnderlying52 _) (Tryz.sizeOf30 _) hv2) ?_
  obtain ⟨v1, hv1, h⟩ := h
  refine q2 (vi v1) (xl (Tryz.isAgg30 _) hv1) (q0 (vi t1) (q0 (vb (v1 == t1)) (wpL_nil (th_n ?_))))
  refine wpE_cond (t := (v1 == t1)) (by kernel_rfl) (fun hc2 => ?_) (fun hc2 => ?_)
  ·have h := h.1 hc2
   refine wpE_seq (rg (q0 (vb true) (wpL_nil (th_n (wpE_ret (bl_r (th_r (th_r (bl_r (th_r (rs1 Tryz.results61 (v := (vb true)) ?_)))))))))))
   exact ⟨true, rfl, h⟩
  ·have h := h.2 hc2
   refine wpE_skip (bl_n (th_n (rg (q0 (vi i1) (q0 (vi (q6.wrap (i1 + 1))) (q0 (vi (q6.wrap (i1 + 1))) (wpL_nil (th_n ?_))))))))
   exact ⟨((q6.wrap (i1 + 1)), wl1), ⟨rfl, hm, h.1⟩, h.2⟩
 ·have h := h.2 hc1
  refine wpE_exit (th_x (th_x (bl_eq (th_n (wpE_seq (rg (q0 (vb false) (wpL_nil (th_n (wpE_ret (rs1 Tryz.results61 (v := (vb false)) ?_)))))))))))
  exact ⟨false, rfl, h⟩
def m_I3 (k1 : Option Addr) (t1 : Int) (w0 : World) (K : Int → WP) : Prop :=
 ∃ a1 : Addr, k1 = some a1 ∧
 ∃ v1 : Option Addr, w0.cell? a1 = some (vp v1) ∧
 Calls Tryz.prog 60 #[(vp v1), (vi t1)] w0 (fun e w1 => ∃ r1 : Bool, e = .returned (vb r1) ∧ 
  Br (!r1)
   (K 51 w1)
   (∃ a2 : Addr, k1 = some a2 ∧
   ∃ v2 : Sl, w1.cell? (a2.add 1) = some v2.v ∧
   Calls Tryz.prog 61 #[v2.v, (vi t1)] w1 (fun e w2 => ∃ r2 : Bool, e = .returned (vb r2) ∧ 
    Br (!r2)
     (∃ a3 : Addr, k1 = some a3 ∧
     ∃ v3 : Sl, w2.cell? (a3.add 1) = some v3.v ∧
     ∀ (p1 : Addr) (w3 : World), New w2 (.cells #[(vi t1)] 30) p1 w3 →
     ∃ s1 : Sl, ∃ w4 : World, (Builtin.append_ #[52, 52] 52 #[v3.v, (Sl.mk (some p1) 1 1).v]).run Tryz.prog w3 = .ok s1.v w4 ∧
     ∃ a4 : Addr, k1 = some a4 ∧
     CanW w4 (a4.add 1) ∧ ∀ w5 : World, w5 = w4.setCell (a4.add 1) s1.v →
     K 0 w5)
     (K 0 w2))))
theorem w_I3 (k1 : Option Addr) (t1 : Int) (w0 : World) (K : Int → WP) (h : m_I3 k1 t1 w0 K) :
  Calls Tryz.prog 24 #[(vp k1), (vi t1)] w0 (fun e w' => ∃ r3 : Int, e = .returned (vi r3) ∧ K r3 w') := by
 unfold m_I3 at h
 refine cw (args := [(vp k1), (vi t1)]) Tryz.func24 Tryz.ntmps24 (wpE_seq (rg (q0 (vi 0) (wpL_nil (th_n (wpE_seq (wpE_seq (rg (q0 (vp k1) ?_)))))))))
 obtain ⟨a1, hp1, h⟩ := h
 refine q2 (vp (some a1)) (x_nilCheck (p := k1) (by kernel_rfl) hp1) (q0 (vp (some a1)) ?_)
 obtain ⟨v1, hv4, h⟩ := h
 refine q2 (vp v1) (xl (Tryz.isAgg27 _) hv4) (q0 (vi t1) ?_)
 refine sc Tryz.call60 (h.mono ?_)
 rintro e w1 ⟨r1, rfl, h⟩
 refine ⟨_, rfl, ?_⟩
 refine q0 (vb (!r1)) (wpL_nil (th_n ?_))
 refine wpE_cond (t := (!r1)) (by kernel_rfl) (fun hc1 => ?_) (fun hc1 => ?_)
 ·have h := h.1 hc1
  refine wpE_seq (rg (q0 (vi 51) (wpL_nil (th_n (wpE_ret (th_r (rs1 Tryz.results24 (v := (vi 51)) ?_)))))))
  exact ⟨51, rfl, h⟩
 ·have h := h.2 hc1
  refine wpE_skip (th_n (wpE_seq (wpE_seq (rg (q0 (vp k1) ?_)))))
  obtain ⟨a2, hp2, h⟩ := h
  refine q2 (vp (some a2)) (x_nilCheck (p := k1) (by kernel_rfl) hp2) (q0 (vp (some (a2.add 1))) ?_)
  obtain ⟨v2, hv3, h⟩ := h
  refine q2 v2.v (xl (Tryz.isAgg52 _) hv3) (q0 (vi t1) ?_)
  refine sc Tryz.call61 (h.mono ?_)
  rintro e w2 ⟨r2, rfl, h⟩
  refine ⟨_, rfl, ?_⟩
  refine q0 (vb (!r2)) (wpL_nil (th_n ?_))
  refine wpE_cond (t := (!r2)) (by kernel_rfl) (fun hc2 => ?_) (fun hc2 => ?_)
  ·have h := h.1 hc2
   refine rg (q0 (vp k1) (q0 (vp k1) ?_))
   obtain ⟨a3, hp3, h⟩ := h
   refine q2 (vp (some a3)) (x_nilCheck (p := k1) (by kernel_rfl) hp3) (q0 (vp (some (a3.add 1))) ?_)
   obtain ⟨v3, hv2, h⟩ := h
   refine q2 v3.v (xl (Tryz.isAgg52 _) hv2) (q0 (vi t1) (st_new (O := (.cells #[(vi t1)] 30)) (fun p => (Sl.mk (some p) 1 1).v) (want0 rfl) (x_buildSlice (vs := #[(0, (vi t1))]) (by kernel_rfl) (by kernel_rfl)) ?_))
   intro p1 w3 hn2
   have h := h p1 w3 hn2
   obtain ⟨s1, w4, hv1, h⟩ := h
   refine st (v := s1.v) (want0 rfl) (x_builtin (args := #[v3.v, (Sl.mk (some p1) 1 1).v]) (by kernel_rfl) (fun _ => rfl) hv1) ?_
   obtain ⟨a4, hp4, h⟩ := h
   refine q2 (vp (some a4)) (x_nilCheck (p := k1) (by kernel_rfl) hp4) (q0 (vp (some (a4.add 1))) ?_)
   obtain ⟨hp5, h⟩ := h
   refine st_set (want0 rfl) (x_store (a := (a4.add 1)) (v := s1.v) (by kernel_rfl) (by kernel_rfl) rfl (Tryz.sizeOf52 _) hp5) ?_
   intro w5 hn1
   have h := h w5 hn1
   refine wpL_nil (th_n (wpE_seq (rg (q0 (vi 0) (wpL_nil (th_n (wpE_ret (rs1 Tryz.results24 (v := (vi 0)) ?_))))))))
   exact ⟨0, rfl, h⟩
  ·have h := h.2 hc2
   refine wpE_skip (th_n (wpE_seq (rg (q0 (vi 0) (wpL_nil (th_n (wpE_ret (rs1 Tryz.results24 (v := (vi 0)) ?_))))))))
   exact ⟨0, rfl, h⟩
def m_O1_l1 (a1 b1 : Sl) (i1 : Int) (w0 : World) (Hl1 : NP) (wl1 : World) (Kc1 : Int → NP → WP) (K : Bool → WP) : Prop :=
 Br (decide (i1 < (a1.len : Int)))
  (∃ a2 : Addr, At a1 i1 1 a2 ∧
  ∀ (w1 : World), Hst w0 Hl1 wl1 Hl1 w1 →
  ∃ v1 : Int, w1.cell? a2 = some (vi v1) ∧
  ∃ a3 : Addr, At b1 i1 1 a3 ∧
  ∃ v2 : Int, w1.cell? a3 = some (vi v2) ∧
  Br (v1 != v2)
   (K false w1)
   (Kc1 (q6.wrap (i1 + 1)) Hl1 w1))
  (K true wl1)
def m_O1 (a1 b1 : Sl) (w0 : World) (K : Bool → WP) : Prop :=
 Br (((a1.len : Int) : Int) != (b1.len : Int))
  (K false w0)
  (∃ (I1 : Int → NP → WP) (mu1 : Int → World → Nat), I1 0 None w0 ∧
   ∀ (i1 : Int) (Hl1 : NP) (wl1 : World), Hst w0 Hl1 wl1 Hl1 wl1 → I1 i1 Hl1 wl1 → m_O1_l1 a1 b1 i1 w0 Hl1 wl1 (fun y'0 H' w' => I1 y'0 H' w' ∧ mu1 y'0 w' < mu1 i1 wl1) K)
theorem w_O1 (a1 b1 : Sl) (w0 : World) (K : Bool → WP) (h : m_O1 a1 b1 w0 K) :
  Calls Tryz.prog 63 #[a1.v, b1.v] w0 (fun e w' => ∃ r1 : Bool, e = .returned (vb r1) ∧ K r1 w') := by
 unfold m_O1 at h
 refine cw (args := [a1.v, b1.v]) Tryz.func63 Tryz.ntmps63 ?_
 have hs := Hst.start w0
 have hb := HB.nil None w0
 refine wpE_seq (rg (q0 (vb false) (wpL_nil (th_n (wpE_seq (wpE_seq (rg (q0 a1.v (q0 (vi (a1.len : Int)) (q0 b1.v (q0 (vi (b1.len : Int)) ?_)))))))))))
 refine q0 (vb (((a1.len : Int) : Int) != (b1.len : Int))) (wpL_nil (th_n ?_))
 refine wpE_cond (t := (((a1.len : Int) : Int) != (b1.len : Int))) (by kernel_rfl) (fun hc1 => ?_) (fun hc1 => ?_)
 ·have h := h.1 hc1
  refine wpE_seq (rg (q0 (vb false) (wpL_nil (th_n (wpE_ret (th_r (rs1 Tryz.results63 (v := (vb false)) ?_)))))))
  exact ⟨false, rfl, h⟩
 ·have h := h.2 hc1
  refine wpE_skip (th_n (wpE_seq (wpE_seq (rg (q0 (vi 0) (wpL_nil (th_n (wpE_block ?_))))))))
  obtain ⟨I1, mu1, h0, hr⟩ := h
  refine wpE_loop (σ := Int × NP × World) (fun s ρ w => w = s.2.2 ∧ Has ρ [(0, a1.v), (1, b1.v), (5, (vi s.1))] ∧ Hst w0 s.2.1 w s.2.1 w ∧ HB s.2.1 w [] ∧ I1 s.1 s.2.1 s.2.2) (fun s => mu1 s.1 s.2.2) (0, None, w0) ⟨rfl, hm, hs, hb, h0⟩ ?_
  rintro ⟨i1, Hl1, wl1⟩ ρ w ⟨hw, hH, hs, hb, hI⟩
  obtain rfl : wl1 = w := (show w = wl1 from hw).symm
  have hH : Has ρ [(0, a1.v), (1, b1.v), (5, (vi i1))] := hH
  have hs : Hst w0 Hl1 wl1 Hl1 wl1 := hs
  have hb : HB Hl1 wl1 [] := hb
  have h := hr i1 Hl1 wl1 hs hI
  unfold m_O1_l1 at h
  refine wpE_has hH ?_
  refine wpE_seq (wpE_seq (rg (q0 (vi i1) (q0 a1.v (q0 (vi (a1.len : Int)) (q0 (vb (decide (i1 < (a1.len : Int)))) (wpL_nil (th_n ?_))))))))
  refine wpE_cond (t := (decide (i1 < (a1.len : Int)))) (by kernel_rfl) (fun hc2 => ?_) (fun hc2 => ?_)
  ·have h := h.1 hc2
   refine wpE_skip (th_n (wpE_seq (wpE_block (wpE_seq (wpE_drawnQ (by kernel_rfl) (by kernel_rfl) (by kernel_rfl) (by kernel_rfl) ?_)))))
   intro w1 hw1
   have hs : Hst w0 Hl1 wl1 Hl1 w1 := by rw [hw1]; exact hs.drew
   have hb : HB Hl1 w1 [] := by rw [hw1]; exact hb.drew
   refine qq 0 a1.v Kp0 (qq 1 (vi i1) Kp1 (qg 2 ?_))
   obtain ⟨a2, hv4, h⟩ := h
   refine sxQ (v := (vp (some a2))) Kp2 (want0 rfl) rfl (xi (Tryz.runUnderlying52 _) (Tryz.sizeOf30 _) hv4) (qg 3 ?_)
   have h := h w1 hs
   have hs := hs.here
   obtain ⟨v1, hv3, h⟩ := h
   refine sxQ (v := (vi v1)) Kp3 (want0 rfl) rfl (xl (Tryz.isAgg30 _) hv3) (qq 4 b1.v Kp4 (qq 5 (vi i1) Kp5 (qg 6 ?_)))
   obtain ⟨a3, hv2, h⟩ := h
   refine sxQ (v := (vp (some a3))) Kp6 (want0 rfl) rfl (xi (Tryz.runUnderlying52 _) (Tryz.sizeOf30 _) hv2) (qg 7 ?_)
   obtain ⟨v2, hv1, h⟩ := h
   refine sxQ (v := (vi v2)) Kp7 (want0 rfl) rfl (xl (Tryz.isAgg30 _) hv1) (qq 8 (vb (v1 != v2)) Kp8 (wn (th_n ?_)))
   refine wpE_cond (t := (v1 != v2)) (by kernel_rfl) (fun hc3 => ?_) (fun hc3 => ?_)
   ·have h := h.1 hc3
    refine wpE_seq (rg (q0 (vb false) (wpL_nil (th_n (wpE_ret (bl_r (th_r (th_r (bl_r (th_r (rs1 Tryz.results63 (v := (vb false)) ?_)))))))))))
    exact ⟨false, rfl, h⟩
   ·have h := h.2 hc3
    refine wpE_skip (bl_n (th_n (rg (q0 (vi i1) (q0 (vi (q6.wrap (i1 + 1))) (q0 (vi (q6.wrap (i1 + 1))) (wpL_nil (th_n ?_))))))))
    exact ⟨((q6.wrap (i1 + 1)), Hl1, w1), ⟨rfl, hm, hs, hb, h.1⟩, h.2⟩
  ·have h := h.2 hc2
   refine wpE_exit (th_x (th_x (bl_eq (th_n (wpE_seq (rg (q0 (vb true) (wpL_nil (th_n (wpE_ret (rs1 Tryz.results63 (v := (vb true)) ?_)))))))))))
   exact ⟨true, rfl, h⟩
def s_V (kind1 : Int) : Bool :=
 (((kind1 == 7) || (kind1 == 8)) || (kind1 == 9))
theorem pw_V (kind1 : Int) (w0 : World) :
  Calls Tryz.prog 142 #[(vi kind1)] w0 (fun e w' => (e = .returned (vb (((kind1 == 7) || (kind1 == 8)) || (kind1 == 9)))) ∧ Pure w0 w') := by
 refine cw (args := [(vi kind1)]) Tryz.func142 Tryz.ntmps142 (wpE_seq (rg (q0 (vb false) (wpL_nil (th_n (wpE_seq ?_))))))
 refine wpE_via (fun ρ wJ => w0 = wJ ∧ Has ρ [(2, (vb (((kind1 == 7) || (kind1 == 8)) || (kind1 == 9))))]) ?_ ?_
 ·refine rg (q0 (vi kind1) (q0 (vb (kind1 == 7)) (q0 (vb (kind1 == 7)) ?_)))
  refine wpL_join 3 (fun ρ wJ => ∃ b4'0 : Bool, ((kind1 == 7) = b4'0) ∧ w0 = wJ ∧ Has ρ [(0, (vi kind1)), (8, (vb (b4'0 || (kind1 == 8))))]) ?_ ?_
  ·rintro ρ w4 ⟨b4'0, he0, hw, hH⟩
   subst he0
   subst hw
   refine wpL_has hH ?_
   refine q0 (vb ((kind1 == 7) || (kind1 == 8))) ?_
   refine wpL_join 3 (fun ρ wJ => ∃ b5'0 : Bool, (((kind1 == 7) || (kind1 == 8)) = b5'0) ∧ w0 = wJ ∧ Has ρ [(12, (vb (b5'0 || (kind1 == 9))))]) ?_ ?_
   ·rintro ρ w5 ⟨b5'0, he0, hw, hH⟩
    subst he0
    subst hw
    refine wpL_has hH ?_
    refine q0 (vb (((kind1 == 7) || (kind1 == 8)) || (kind1 == 9))) (wpL_nil (th_n ?_))
    exact ⟨rfl, hm⟩
   ·rcases Bool.eq_false_or_eq_true ((kind1 == 7) || (kind1 == 8)) with hg8 | hg8
    ·refine sk (yD 9 hg8) (sk (yD 9 hg8) (q2 (vb true) (xT hg8) (wpL_nil ?_)))
     exact ⟨true, hg8, rfl, hm⟩
    ·refine q1 (vi kind1) (want1 rfl (yD 9 hg8)) (q1 (vb (kind1 == 9)) (want1 rfl (yD 9 hg8)) (q2 (vb (kind1 == 9)) (xF hg8) (wpL_nil ?_)))
     exact ⟨false, hg8, rfl, hm⟩
  ·rcases Bool.eq_false_or_eq_true (kind1 == 7) with hg6 | hg6
   ·refine sk (yD 5 hg6) (sk (yD 5 hg6) (q2 (vb true) (xT hg6) (wpL_nil ?_)))
    exact ⟨true, hg6, rfl, hm⟩
   ·refine q1 (vi kind1) (want1 rfl (yD 5 hg6)) (q1 (vb (kind1 == 8)) (want1 rfl (yD 5 hg6)) (q2 (vb (kind1 == 8)) (xF hg6) (wpL_nil ?_)))
    exact ⟨false, hg6, rfl, hm⟩
 ·rintro ρ w3 ⟨hw, hH⟩
  subst hw
  refine norm_has hH ?_
  refine th_n (wpE_ret (rs1 Tryz.results142 (v := (vb (((kind1 == 7) || (kind1 == 8)) || (kind1 == 9)))) ?_))
  exact ⟨by kernel_rfl, Ext.refl _⟩
theorem p_V (kind1 : Int) (w0 : World) : Calls Tryz.prog 142 #[(.int .i64 kind1)] w0 (fun e w' => e = .returned (.bool (s_V kind1)) ∧ Pure w0 w') := pw_V kind1 w0
def m_R_j3 (s1 : Sl) (t1 aA : Int) (aB aC : Int) (x1 : Bool) (H : NP) (w : World) (Kc2 : Int → NP → WP) (_K : Sl → WP) : Prop :=
 Br x1
  (∃ a10 : Addr, At s1 aB 1 a10 ∧
  CanW w a10 ∧ ¬ H a10.block ∧ ∀ w6 : World, w6 = w.setCell a10 (vb true) →
  Br (aA == 4)
   (∃ a11 : Addr, At s1 aC 1 a11 ∧
   CanW w6 a11 ∧ ¬ H a11.block ∧ ∀ w7 : World, w7 = w6.setCell a11 (vb true) →
   Kc2 (q6.wrap (t1 - 1)) H w7)
   (Kc2 (q6.wrap (t1 - 1)) H w6))
  (Kc2 (q6.wrap (t1 - 1)) H w)
def m_R_l2 (k1 : Option Addr) (s1 : Sl) (t1 : Int) (w0 : World) (Hl2 : NP) (wl2 : World) (Kc2 : Int → NP → WP) (K : Sl → WP) : Prop :=
 Br (decide (t1 ≥ 1))
  (∃ a9 : Addr, k1 = some a9 ∧
  ∃ v8 : Option Addr, wl2.cell? a9 = some (vp v8) ∧
  Calls Tryz.prog 45 #[(vp v8), (vi t1)] wl2 (fun e w3 => ∃ aA aD : Int, ∃ aE aF : Int, ∃ aG : ByteArray, ∃ aB aC : Int, ∃ r1 : Bool, e = .returned (.tuple #[(.agg #[(vi aA), (vi aD), (vi aE), (vu aF), (vs aG), (vi aB), (vi aC)]), (vb r1)]) ∧ 
   Kept Hl2 wl2 w3 ∧
   ∃ a12 : Addr, At s1 t1 1 a12 ∧
   ∀ (H1 : NP) (w5 : World), Hst w0 Hl2 w3 H1 w5 →
   ∃ v9 : Bool, w5.cell? a12 = some (vb v9) ∧
   ∀ (H3 : NP) (w11 : World), Hst w0 H1 w5 H3 w11 →
   m_R_j3 s1 t1 aA aB aC (v9 && ((aA == 4) || (s_V aA))) H3 w11 Kc2 K))
  (K s1 wl2)
def m_R_l1 (k1 : Option Addr) (s1 : Sl) (i1 : Int) (w0 : World) (Hl1 : NP) (wl1 : World) (Kc1 : Int → NP → WP) (K : Sl → WP) : Prop :=
 ∃ a3 : Addr, k1 = some a3 ∧
 ∃ v3 : Sl, wl1.cell? (a3.add 1) = some v3.v ∧
 Br (decide (i1 < (v3.len : Int)))
  (∃ a4 : Addr, k1 = some a4 ∧
  ∃ v4 : Sl, wl1.cell? (a4.add 1) = some v4.v ∧
  ∃ a5 : Addr, At v4 i1 1 a5 ∧
  ∃ v5 : Int, wl1.cell? a5 = some (vi v5) ∧
  ∃ a6 : Addr, At s1 v5 1 a6 ∧
  CanW wl1 a6 ∧ ¬ Hl1 a6.block ∧ ∀ w2 : World, w2 = wl1.setCell a6 (vb true) →
  Kc1 (q6.wrap (i1 + 1)) Hl1 w2)
  (∃ a7 : Addr, k1 = some a7 ∧
  ∃ v6 : Option Addr, wl1.cell? a7 = some (vp v6) ∧
  ∃ a8 : Addr, v6 = some a8 ∧
  ∃ v7 : Sl, wl1.cell? a8 = some v7.v ∧
  ∃ (I2 : Int → NP → WP) (mu2 : Int → World → Nat), I2 (v7.len : Int) Hl1 wl1 ∧
   ∀ (t1 : Int) (Hl2 : NP) (wl2 : World), Hst w0 Hl2 wl2 Hl2 wl2 → I2 t1 Hl2 wl2 → m_R_l2 k1 s1 t1 w0 Hl2 wl2 (fun y'0 H' w' => I2 y'0 H' w' ∧ mu2 y'0 w' < mu2 t1 wl2) K)
def m_R (k1 : Option Addr) (w0 : World) (K : Sl → WP) : Prop :=
 ∃ a1 : Addr, k1 = some a1 ∧
 ∃ v1 : Option Addr, w0.cell? a1 = some (vp v1) ∧
 ∃ a2 : Addr, v1 = some a2 ∧
 ∃ v2 : Sl, w0.cell? a2 = some v2.v ∧
 ∃ s1 : Sl, ∃ w1 : World, (Instr.makeSlice 117 (vi (q6.wrap ((v2.len : Int) + 1))) (vi (q6.wrap ((v2.len : Int) + 1)))).run Tryz.prog w0 = .ok s1.v w1 ∧
 Kept None w0 w1 ∧
 ∃ (I1 : Int → NP → WP) (mu1 : Int → World → Nat), I1 0 None w1 ∧
  ∀ (i1 : Int) (Hl1 : NP) (wl1 : World), Hst w0 Hl1 wl1 Hl1 wl1 → I1 i1 Hl1 wl1 → m_R_l1 k1 s1 i1 w0 Hl1 wl1 (fun y'0 H' w' => I1 y'0 H' w' ∧ mu1 y'0 w' < mu1 i1 wl1) K
theorem w_R (k1 : Option Addr) (w0 : World) (K : Sl → WP) (h : m_R k1 w0 K) :
  Calls Tryz.prog 100 #[(vp k1)] w0 (fun e w' => ∃ r2 : Sl, e = .returned r2.v ∧ K r2 w') := by
 unfold m_R at h
 refine cw (args := [(vp k1)]) Tryz.func100 Tryz.ntmps100 ?_
 have hs := Hst.start w0
 have hb := HB.nil None w0
 refine wpE_seq (rg (q0 Sl.nil.v (wpL_nil (th_n (wpE_seq (rg (q0 (vp k1) ?_)))))))
 obtain ⟨a1, hp1, h⟩ := h
 refine q2 (vp (some a1)) (x_nilCheck (p := k1) (by kernel_rfl) hp1) (q0 (vp (some a1)) ?_)
 obtain ⟨v1, hv15, h⟩ := h
 refine q2 (vp v1) (xl (Tryz.isAgg27 _) hv15) ?_
 obtain ⟨a2, hp2, h⟩ := h
 refine q2 (vp (some a2)) (x_nilCheck (p := v1) (by kernel_rfl) hp2) (q0 (vp (some a2)) ?_)
 obtain ⟨v2, hv14, h⟩ := h
 refine q2 v2.v (xl (Tryz.isAgg42 _) hv14) (q0 (vi (v2.len : Int)) (q0 (vi (q6.wrap ((v2.len : Int) + 1))) ?_))
 obtain ⟨s1, w1, hv13, hk, h⟩ := h
 refine st (v := s1.v) (want0 rfl) (x_makeSlice (by kernel_rfl) (by kernel_rfl) hv13) ?_
 obtain ⟨hs, hb⟩ := hk.hh hs hb
 refine q0 s1.v (wpL_nil (th_n (wpE_seq (wpE_seq (rg (q0 (vi 0) (wpL_nil (th_n (wpE_block ?_)))))))))
 obtain ⟨I1, mu1, h0, hr⟩ := h
 refine wpE_loop (σ := Int × NP × World) (fun s ρ w => w = s.2.2 ∧ Has ρ [(0, (vp k1)), (3, s1.v), (4, (vi s.1))] ∧ Hst w0 s.2.1 w s.2.1 w ∧ HB s.2.1 w [] ∧ I1 s.1 s.2.1 s.2.2) (fun s => mu1 s.1 s.2.2) (0, None, w1) ⟨rfl, hm, hs, hb, h0⟩ ?_
 rintro ⟨i1, Hl1, wl1⟩ ρ w ⟨hw, hH, hs, hb, hI⟩
 obtain rfl : wl1 = w := (show w = wl1 from hw).symm
 have hH : Has ρ [(0, (vp k1)), (3, s1.v), (4, (vi i1))] := hH
 have hs : Hst w0 Hl1 wl1 Hl1 wl1 := hs
 have hb : HB Hl1 wl1 [] := hb
 have h := hr i1 Hl1 wl1 hs hI
 unfold m_R_l1 at h
 refine wpE_has hH ?_
 refine wpE_seq (wpE_seq (rg (q0 (vi i1) (q0 (vp k1) ?_))))
 obtain ⟨a3, hp3, h⟩ := h
 refine q2 (vp (some a3)) (x_nilCheck (p := k1) (by kernel_rfl) hp3) (q0 (vp (some (a3.add 1))) ?_)
 obtain ⟨v3, hv12, h⟩ := h
 refine q2 v3.v (xl (Tryz.isAgg52 _) hv12) (q0 (vi (v3.len : Int)) (q0 (vb (decide (i1 < (v3.len : Int)))) (wpL_nil (th_n ?_))))
 refine wpE_cond (t := (decide (i1 < (v3.len : Int)))) (by kernel_rfl) (fun hc1 => ?_) (fun hc1 => ?_)
 ·have h := h.1 hc1
  refine wpE_skip (th_n (wpE_seq (wpE_block (rg (q0 s1.v (q0 (vp k1) ?_))))))
  obtain ⟨a4, hp4, h⟩ := h
  refine q2 (vp (some a4)) (x_nilCheck (p := k1) (by kernel_rfl) hp4) (q0 (vp (some (a4.add 1))) ?_)
  obtain ⟨v4, hv4, h⟩ := h
  refine q2 v4.v (xl (Tryz.isAgg52 _) hv4) (q0 (vi i1) ?_)
  obtain ⟨a5, hv3, h⟩ := h
  refine q2 (vp (some a5)) (xi (Tryz.runUnderlying52 _) (Tryz.sizeOf30 _) hv3) ?_
  obtain ⟨v5, hv2, h⟩ := h
  refine q2 (vi v5) (xl (Tryz.isAgg30 _) hv2) ?_
  obtain ⟨a6, hv1, h⟩ := h
  refine q2 (vp (some a6)) (xi (Tryz.runUnderlying117 _) (Tryz.sizeOf4 _) hv1) ?_
  obtain ⟨hp5, hnh, h⟩ := h
  refine st_set (want0 rfl) (x_store (a := a6) (v := (vb true)) (by kernel_rfl) (by kernel_rfl) rfl (Tryz.sizeOf4 _) hp5) ?_
  intro w2 hn1
  have h := h w2 hn1
  have hk := Kept.sc hnh hn1
  obtain ⟨hs, hb⟩ := hk.hh hs hb
  refine wpL_nil (bl_n (th_n (rg (q0 (vi i1) (q0 (vi (q6.wrap (i1 + 1))) (q0 (vi (q6.wrap (i1 + 1))) (wpL_nil (th_n ?_))))))))
  exact ⟨((q6.wrap (i1 + 1)), Hl1, w2), ⟨rfl, hm, hs, hb, h.1⟩, h.2⟩
 ·have h := h.2 hc1
  refine wpE_exit (th_x (th_x (bl_eq (th_n (wpE_seq (wpE_seq (rg (q0 (vp k1) ?_))))))))
  obtain ⟨a7, hp6, h⟩ := h
  refine q2 (vp (some a7)) (x_nilCheck (p := k1) (by kernel_rfl) hp6) (q0 (vp (some a7)) ?_)
  obtain ⟨v6, hv11, h⟩ := h
  refine q2 (vp v6) (xl (Tryz.isAgg27 _) hv11) ?_
  obtain ⟨a8, hp7, h⟩ := h
  refine q2 (vp (some a8)) (x_nilCheck (p := v6) (by kernel_rfl) hp7) (q0 (vp (some a8)) ?_)
  obtain ⟨v7, hv10, h⟩ := h
  refine q2 v7.v (xl (Tryz.isAgg42 _) hv10) (q0 (vi (v7.len : Int)) (q0 (vi (v7.len : Int)) (wpL_nil (th_n (wpE_block ?_)))))
  obtain ⟨I2, mu2, h0, hr⟩ := h
  refine wpE_loop (σ := Int × NP × World) (fun s ρ w => w = s.2.2 ∧ Has ρ [(0, (vp k1)), (3, s1.v), (5, (vi s.1))] ∧ Hst w0 s.2.1 w s.2.1 w ∧ HB s.2.1 w [] ∧ I2 s.1 s.2.1 s.2.2) (fun s => mu2 s.1 s.2.2) ((v7.len : Int), Hl1, wl1) ⟨rfl, hm, hs, hb, h0⟩ ?_
  rintro ⟨t1, Hl2, wl2⟩ ρ w ⟨hw, hH, hs, hb, hI⟩
  obtain rfl : wl2 = w := (show w = wl2 from hw).symm
  have hH : Has ρ [(0, (vp k1)), (3, s1.v), (5, (vi t1))] := hH
  have hs : Hst w0 Hl2 wl2 Hl2 wl2 := hs
  have hb : HB Hl2 wl2 [] := hb
  have h := hr t1 Hl2 wl2 hs hI
  unfold m_R_l2 at h
  refine wpE_has hH ?_
  refine wpE_seq (wpE_seq (rg (q0 (vi t1) (q0 (vb (decide (t1 ≥ 1))) (wpL_nil (th_n ?_))))))
  refine wpE_cond (t := (decide (t1 ≥ 1))) (by kernel_rfl) (fun hc2 => ?_) (fun hc2 => ?_)
  ·have h := h.1 hc2
   refine wpE_skip (th_n (wpE_seq (wpE_block (wpE_seq (rg (q0 (vp k1) ?_))))))
   obtain ⟨a9, hp8, h⟩ := h
   refine q2 (vp (some a9)) (x_nilCheck (p := k1) (by kernel_rfl) hp8) (q0 (vp (some a9)) ?_)
   obtain ⟨v8, hv9, h⟩ := h
   refine q2 (vp v8) (xl (Tryz.isAgg27 _) hv9) (q0 (vi t1) ?_)
   refine sc Tryz.call45 (h.mono ?_)
   rintro e w3 ⟨aA, aD, aE, aF, aG, aB, aC, r1, rfl, hk, h⟩
   refine ⟨_, rfl, ?_⟩
   obtain ⟨hs, hb⟩ := hk.hh hs hb
   refine q0 (.tuple #[(.agg #[(vi aA), (vi aD), (vi aE), (vu aF), (vs aG), (vi aB), (vi aC)]), (vb r1)]) (q0 (.agg #[(vi aA), (vi aD), (vi aE), (vu aF), (vs aG), (vi aB), (vi aC)]) (q0 (vb r1) (sn (O := (.cells #[(vi 0), (vi 0), (vi 0), (vu 0), (vs ⟨#[]⟩), (vi 0), (vi 0)] 86)) (x_alloc (Tryz.zeroValue86 _) rfl) ?_)))
   intro p1 w4 hn2
   obtain ⟨H1, hs, hb⟩ := hs.alloc hb hn2
   refine st_set (want0 rfl) (x_storeA (a := p1) (vs := [(vi aA), (vi aD), (vi aE), (vu aF), (vs aG), (vi aB), (vi aC)]) (by kernel_rfl) (by kernel_rfl) rfl (Tryz.sizeOf86 _) rfl (hb.canWs0 0 7 gZ (by kernel_rfl))) ?_
   intro w5 hn3
   have hsb : Hst w0 Hl2 w3 H1 w5 ∧ HB H1 w5 [(p1, [(vi aA), (vi aD), (vi aE), (vu aF), (vs aG), (vi aB), (vi aC)], 86)] := by
    rw [hn3]
    exact hb.store0 (i := 0) (vs := [(vi aA), (vi aD), (vi aE), (vu aF), (vs aG), (vi aB), (vi aC)]) hs gZ (by kernel_rfl) (by kernel_rfl)
   obtain ⟨hs, hb⟩ := hsb
   refine q0 (vb r1) (wpL_nil (th_n (wpE_seq ?_)))
   refine wpE_joinT (fun ρ w => ∃ x1 : Bool, ∃ H : NP, Has ρ [(0, (vp k1)), (3, s1.v), (5, (vi t1)), (6, (vp (some p1))), (70, (vb x1))] ∧ Hst w0 H w H w ∧ HB H w [(p1, [(vi aA), (vi aD), (vi aE), (vu aF), (vs aG), (vi aB), (vi aC)], 86)] ∧ m_R_j3 s1 t1 aA aB aC x1 H w (fun y'0 H' w' => I2 y'0 H' w' ∧ mu2 y'0 w' < mu2 t1 wl2) K) ?_ ?_
   ·rintro ρ w ⟨x1, H, hH, hs, hb, h⟩
    unfold m_R_j3 at h
    refine wpE_has hH ?_
    refine wpE_cond (t := x1) (by kernel_rfl) (fun hc3 => ?_) (fun hc3 => ?_)
    ·have h := h.1 hc3
     refine wpE_seq (rg (q0 s1.v (q0 (vp (some (p1.add 5))) (q2 (vi aB) (xl (Tryz.isAgg30 _) (hb.c 0 5 gZ)) ?_))))
     obtain ⟨a10, hv6, h⟩ := h
     refine q2 (vp (some a10)) (xi (Tryz.runUnderlying117 _) (Tryz.sizeOf4 _) hv6) ?_
     obtain ⟨hp9, hnh, h⟩ := h
     refine st_set (want0 rfl) (x_store (a := a10) (v := (vb true)) (by kernel_rfl) (by kernel_rfl) rfl (Tryz.sizeOf4 _) hp9) ?_
     intro w6 hn4
     have h := h w6 hn4
     have hk := Kept.sc hnh hn4
     obtain ⟨hs, hb⟩ := hk.hh hs hb
     refine wpL_nil (th_n (wpE_seq (rg (q0 (vp (some p1)) (q2 (vi aA) (xl (Tryz.isAgg3 _) (hb.c0 0 gZ)) (q0 (vb (aA == 4)) (wpL_nil (th_n ?_))))))))
     refine wpE_cond (t := (aA == 4)) (by kernel_rfl) (fun hc4 => ?_) (fun hc4 => ?_)
     ·have h := h.1 hc4
      refine rg (q0 s1.v (q0 (vp (some (p1.add 6))) (q2 (vi aC) (xl (Tryz.isAgg30 _) (hb.c 0 6 gZ)) ?_)))
      obtain ⟨a11, hv5, h⟩ := h
      refine q2 (vp (some a11)) (xi (Tryz.runUnderlying117 _) (Tryz.sizeOf4 _) hv5) ?_
      obtain ⟨hp10, hnh, h⟩ := h
      refine st_set (want0 rfl) (x_store (a := a11) (v := (vb true)) (by kernel_rfl) (by kernel_rfl) rfl (Tryz.sizeOf4 _) hp10) ?_
      intro w7 hn5
      have h := h w7 hn5
      have hk := Kept.sc hnh hn5
      obtain ⟨hs, hb⟩ := hk.hh hs hb
      refine wpL_nil (bl_n (th_n (rg (q0 (vi t1) (q0 (vi (q6.wrap (t1 - 1))) (q0 (vi (q6.wrap (t1 - 1))) (wpL_nil (th_n ?_))))))))
      exact ⟨((q6.wrap (t1 - 1)), H, w7), ⟨rfl, hm, hs, hb.drop 1, h.1⟩, h.2⟩
     ·have h := h.2 hc4
      refine wpE_skip (bl_n (th_n (rg (q0 (vi t1) (q0 (vi (q6.wrap (t1 - 1))) (q0 (vi (q6.wrap (t1 - 1))) (wpL_nil (th_n ?_))))))))
      exact ⟨((q6.wrap (t1 - 1)), H, w6), ⟨rfl, hm, hs, hb.drop 1, h.1⟩, h.2⟩
    ·have h := h.2 hc3
     refine wpE_skip (bl_n (th_n (rg (q0 (vi t1) (q0 (vi (q6.wrap (t1 - 1))) (q0 (vi (q6.wrap (t1 - 1))) (wpL_nil (th_n ?_))))))))
     exact ⟨((q6.wrap (t1 - 1)), H, w), ⟨rfl, hm, hs, hb.drop 1, h.1⟩, h.2⟩
   ·refine rg (q0 s1.v (q0 (vi t1) ?_))
    obtain ⟨a12, hv8, h⟩ := h
    refine q2 (vp (some a12)) (xi (Tryz.runUnderlying117 _) (Tryz.sizeOf4 _) hv8) ?_
    have h := h H1 w5 hs
    have hs := hs.here
    obtain ⟨v9, hv7, h⟩ := h
    refine q2 (vb v9) (xl (Tryz.isAgg4 _) hv7) (q0 (vb v9) ?_)
    refine wpL_join 9 (fun ρ wJ => ∃ b2'0 : Bool, ∃ HJ : NP, (v9 = b2'0) ∧ Hst w0 H1 w5 HJ wJ ∧ HB HJ wJ [(p1, [(vi aA), (vi aD), (vi aE), (vu aF), (vs aG), (vi aB), (vi aC)], 86)] ∧ Has ρ [(0, (vp k1)), (3, s1.v), (5, (vi t1)), (6, (vp (some p1))), (70, (vb (b2'0 && ((aA == 4) || (s_V aA)))))]) ?_ ?_
    ·rintro ρ w11 ⟨b2'0, H3, he0, hs, hb, hH⟩
     subst he0
     refine wpL_has hH ?_
     refine wpL_nil ?_
     have h := h H3 w11 hs
     have hs := hs.here
     refine th_n ?_
     exact ⟨(v9 && ((aA == 4) || (s_V aA))), H3, hm, hs, hb, h⟩
    ·rcases Bool.eq_false_or_eq_true v9 with hg4 | hg4
     ·refine q1 (vp (some p1)) (want1 rfl (yD 61 hg4)) (stp (v := (vi aA)) (want1 rfl (yD 61 hg4)) (xl (Tryz.isAgg3 _) (hb.c0 0 gZ)) (q1 (vb (aA == 4)) (want1 rfl (yD 61 hg4)) (q1 (vb (aA == 4)) (want1 rfl (yD 61 hg4)) ?_)))
      refine wpL_join 4 (fun ρ wJ => ∃ b3'0 : Bool, ∃ HJ : NP, ((aA == 4) = b3'0) ∧ Hst w0 H1 w5 HJ wJ ∧ HB HJ wJ [(p1, [(vi aA), (vi aD), (vi aE), (vu aF), (vs aG), (vi aB), (vi aC)], 86)] ∧ Has ρ [(0, (vp k1)), (3, s1.v), (5, (vi t1)), (6, (vp (some p1))), (61, (vb v9)), (69, (vb (b3'0 || (s_V aA))))]) ?_ ?_
      ·rintro ρ w13 ⟨b3'0, H4, he0, hs, hb, hH⟩
       subst he0
       refine wpL_has hH ?_
       refine q2 (vb ((aA == 4) || (s_V aA))) (xT hg4) (wpL_nil ?_)
       exact ⟨true, _, hg4, hs, hb, hm⟩
      ·rcases Bool.eq_false_or_eq_true (aA == 4) with hg6 | hg6
       ·refine sk (yD 65 hg6) (sk (yD 65 hg6) (sk (yD 65 hg6) (stp (v := (vb true)) (want1 rfl (yD 61 hg4)) (xT hg6) (wpL_nil ?_))))
        exact ⟨true, _, hg6, hs, hb, hm⟩
       ·refine q1 (vp (some p1)) (want1 rfl (yD 65 hg6)) (stp (v := (vi aA)) (want1 rfl (yD 65 hg6)) (xl (Tryz.isAgg3 _) (hb.c0 0 gZ)) ?_)
        refine st_call (want1 rfl (yD 65 hg6)) (xc Tryz.call142) ((p_V aA w5).mono ?_)
        rintro e w14 ⟨he, hE⟩
        refine ⟨(vb (s_V aA)), he.trans (by kernel_rfl), ?_⟩
        have hs := hs.pure hE
        have hb := hb.pure hE
        refine stp (v := (vb (s_V aA))) (want1 rfl (yD 61 hg4)) (xF hg6) (wpL_nil ?_)
        exact ⟨false, _, hg6, hs, hb, hm⟩
     ·refine sk (yD 61 hg4) (sk (yD 61 hg4) (sk (yD 61 hg4) (sk (yD 61 hg4) (sm (sm (sm (sk (yD 61 hg4) (q2 (vb false) (xF hg4) (wpL_nil ?_)))))))))
      exact ⟨false, _, hg4, hs, hb, hm⟩
  ·have h := h.2 hc2
   refine wpE_exit (th_x (th_x (bl_eq (th_n (wpE_seq (rg (q0 s1.v (q0 s1.v (wpL_nil (th_n (wpE_ret ?_)))))))))))
   refine rs1 Tryz.results100 (v := s1.v) ?_
   exact ⟨s1, rfl, h⟩
def m_P1_l1 (r1 l1 : Sl) (t1 : Int) (wl1 : World) (Kc1 : Sl → Int → WP) (K : Sl → WP) : Prop :=
 Br (decide (t1 < (r1.len : Int)))
  (∃ a1 : Addr, At r1 t1 1 a1 ∧
  ∃ v1 : Bool, wl1.cell? a1 = some (vb v1) ∧
  Br v1
   (∀ (p1 : Addr) (w2 : World), New wl1 (.cells #[(vi t1)] 30) p1 w2 →
   ∃ s1 : Sl, ∃ w3 : World, (Builtin.append_ #[52, 52] 52 #[l1.v, (Sl.mk (some p1) 1 1).v]).run Tryz.prog w2 = .ok s1.v w3 ∧
   Kc1 s1 (q6.wrap (t1 + 1)) w3)
   (Kc1 l1 (q6.wrap (t1 + 1)) wl1))
  (K l1 wl1)
def m_P1 (k1 : Option Addr) (w0 : World) (K : Sl → WP) : Prop :=
 Calls Tryz.prog 100 #[(vp k1)] w0 (fun e w1 => ∃ r1 : Sl, e = .returned r1.v ∧ 
  ∃ (I1 : Sl → Int → WP) (mu1 : Sl → Int → World → Nat), I1 Sl.nil 1 w1 ∧
   ∀ (l1 : Sl) (t1 : Int) (wl1 : World), I1 l1 t1 wl1 → m_P1_l1 r1 l1 t1 wl1 (fun y'0 y'1 w' => I1 y'0 y'1 w' ∧ mu1 y'0 y'1 w' < mu1 l1 t1 wl1) K)
theorem w_P1 (k1 : Option Addr) (w0 : World) (K : Sl → WP) (h : m_P1 k1 w0 K) :
  Calls Tryz.prog 64 #[(vp k1)] w0 (fun e w' => ∃ r2 : Sl, e = .returned r2.v ∧ K r2 w') := by
 unfold m_P1 at h
 refine cw (args := [(vp k1)]) Tryz.func64 Tryz.ntmps64 (wpE_seq (rg (q0 Sl.nil.v (wpL_nil (th_n (wpE_seq (rg (q0 (vp k1) ?_))))))))
 refine sc Tryz.call100 (h.mono ?_)
 rintro e w1 ⟨r1, rfl, h⟩
 refine ⟨_, rfl, ?_⟩
 refine q0 r1.v (wpL_nil (th_n (wpE_seq (rg (q0 Sl.nil.v (wpL_nil (th_n (wpE_seq (wpE_seq (rg (q0 (vi 1) ?_)))))))))))
 refine wpL_nil (th_n (wpE_block ?_))
 obtain ⟨I1, mu1, h0, hr⟩ := h
 refine wpE_loop (σ := Sl × Int × World) (fun s ρ w => w = s.2.2 ∧ Has ρ [(3, r1.v), (4, s.1.v), (5, (vi s.2.1))] ∧ I1 s.1 s.2.1 s.2.2) (fun s => mu1 s.1 s.2.1 s.2.2) (Sl.nil, 1, w1) ⟨rfl, hm, h0⟩ ?_
 rintro ⟨l1, t1, wl1⟩ ρ w ⟨hw, hH, hI⟩
 obtain rfl : wl1 = w := (show w = wl1 from hw).symm
 have hH : Has ρ [(3, r1.v), (4, l1.v), (5, (vi t1))] := hH
 have h := hr l1 t1 wl1 hI
 unfold m_P1_l1 at h
 refine wpE_has hH ?_
 refine wpE_seq (wpE_seq (rg (q0 (vi t1) (q0 r1.v (q0 (vi (r1.len : Int)) (q0 (vb (decide (t1 < (r1.len : Int)))) (wpL_nil (th_n ?_))))))))
 refine wpE_cond (t := (decide (t1 < (r1.len : Int)))) (by kernel_rfl) (fun hc1 => ?_) (fun hc1 => ?_)
 ·have h := h.1 hc1
  refine wpE_skip (th_n (wpE_seq (wpE_block (wpE_seq (rg (q0 r1.v (q0 (vi t1) ?_)))))))
  obtain ⟨a1, hv3, h⟩ := h
  refine q2 (vp (some a1)) (xi (Tryz.runUnderlying117 _) (Tryz.sizeOf4 _) hv3) ?_
  obtain ⟨v1, hv2, h⟩ := h
  refine q2 (vb v1) (xl (Tryz.isAgg4 _) hv2) (wpL_nil (th_n ?_))
  refine wpE_cond (t := v1) (by kernel_rfl) (fun hc2 => ?_) (fun hc2 => ?_)
  ·have h := h.1 hc2
   refine rg (q0 l1.v (q0 (vi t1) (st_new (O := (.cells #[(vi t1)] 30)) (fun p => (Sl.mk (some p) 1 1).v) (want0 rfl) (x_buildSlice (vs := #[(0, (vi t1))]) (by kernel_rfl) (by kernel_rfl)) ?_)))
   intro p1 w2 hn1
   have h := h p1 w2 hn1
   obtain ⟨s1, w3, hv1, h⟩ := h
   refine st (v := s1.v) (want0 rfl) (x_builtin (args := #[l1.v, (Sl.mk (some p1) 1 1).v]) (by kernel_rfl) (fun _ => rfl) hv1) (q0 s1.v (wpL_nil (bl_n (th_n (rg (q0 (vi t1) (q0 (vi (q6.wrap (t1 + 1))) (q0 (vi (q6.wrap (t1 + 1))) (wpL_nil (th_n ?_))))))))))
   exact ⟨(s1, (q6.wrap (t1 + 1)), w3), ⟨rfl, hm, h.1⟩, h.2⟩
  ·have h := h.2 hc2
   refine wpE_skip (bl_n (th_n (rg (q0 (vi t1) (q0 (vi (q6.wrap (t1 + 1))) (q0 (vi (q6.wrap (t1 + 1))) (wpL_nil (th_n ?_))))))))
   exact ⟨(l1, (q6.wrap (t1 + 1)), wl1), ⟨rfl, hm, h.1⟩, h.2⟩
 ·have h := h.2 hc1
  refine wpE_exit (th_x (th_x (bl_eq (th_n (wpE_seq (rg (q0 l1.v (q0 l1.v (wpL_nil (th_n (wpE_ret ?_)))))))))))
  refine rs1 Tryz.results64 (v := l1.v) ?_
  exact ⟨l1, rfl, h⟩
def m_J3 (k1 : Option Addr) (in1 : Sl) (name1 : Int) (w0 : World) (K : Bool → WP) : Prop :=
 ∃ a1 : Addr, k1 = some a1 ∧
 ∃ v1 : Option Addr, w0.cell? a1 = some (vp v1) ∧
 Calls Tryz.prog 89 #[(vp v1), (.agg #[(vi 6), (vi name1), (vi 0), (vu 0), (vs ⟨#[]⟩), (vi 0), (vi 0)])] w0 (fun e w1 => ∃ r1 : Int, ∃ r2 : Bool, e = .returned (.tuple #[(vi r1), (vb r2)]) ∧ 
  Br r2
   (∃ a2 : Addr, At in1 r1 1 a2 ∧
   ∃ v2 : Bool, w1.cell? a2 = some (vb v2) ∧
   K v2 w1)
   (K false w1))
theorem w_J3 (k1 : Option Addr) (in1 : Sl) (name1 : Int) (w0 : World) (K : Bool → WP) (h : m_J3 k1 in1 name1 w0 K) :
  Calls Tryz.prog 101 #[(vp k1), in1.v, (vi name1)] w0 (fun e w' => ∃ r3 : Bool, e = .returned (vb r3) ∧ K r3 w') := by
 unfold m_J3 at h
 refine cw (args := [(vp k1), in1.v, (vi name1)]) Tryz.func101 Tryz.ntmps101 (wpE_seq (rg (q0 (vb false) (wpL_nil (th_n (wpE_seq (rg (q0 (vp k1) ?_))))))))
 obtain ⟨a1, hp1, h⟩ := h
 refine q2 (vp (some a1)) (x_nilCheck (p := k1) (by kernel_rfl) hp1) (q0 (vp (some a1)) ?_)
 obtain ⟨v1, hv3, h⟩ := h
 refine q2 (vp v1) (xl (Tryz.isAgg27 _) hv3) (q0 (vi name1) (q0 (.agg #[(vi 6), (vi name1), (vi 0), (vu 0), (vs ⟨#[]⟩), (vi 0), (vi 0)]) ?_))
 refine sc Tryz.call89 (h.mono ?_)
 rintro e w1 ⟨r1, r2, rfl, h⟩
 refine ⟨_, rfl, ?_⟩
 refine q0 (.tuple #[(vi r1), (vb r2)]) (q0 (vi r1) (q0 (vb r2) (q0 (vi r1) (q0 (vb r2) (wpL_nil (th_n (wpE_seq (rg (q0 (vb r2) (q0 (vb r2) ?_))))))))))
 rcases Bool.eq_false_or_eq_true r2 with hg1 | hg1
 ·have h := h.1 hg1
  refine q1 in1.v (want1 rfl (yD 20 hg1)) (q1 (vi r1) (want1 rfl (yD 20 hg1)) ?_)
  obtain ⟨a2, hv2, h⟩ := h
  refine stp (v := (vp (some a2))) (want1 rfl (yD 20 hg1)) (xi (Tryz.runUnderlying117 _) (Tryz.sizeOf4 _) hv2) ?_
  obtain ⟨v2, hv1, h⟩ := h
  refine stp (v := (vb v2)) (want1 rfl (yD 20 hg1)) (xl (Tryz.isAgg4 _) hv1) (q2 (vb v2) (xT hg1) (q0 (vb v2) (wpL_nil (th_n (wpE_ret (rs1 Tryz.results101 (v := (vb v2)) ?_))))))
  exact ⟨v2, rfl, h⟩
 ·have h := h.2 hg1
  refine sk (yD 20 hg1) (sk (yD 20 hg1) (sk (yD 20 hg1) (sk (yD 20 hg1) (q2 (vb false) (xF hg1) (q0 (vb false) (wpL_nil (th_n (wpE_ret (rs1 Tryz.results101 (v := (vb false)) ?_)))))))))
  exact ⟨false, rfl, h⟩
def m_J1_l1 (k1 : Option Addr) (r1 s1 : Sl) (t1 : Int) (w0 : World) (Hl1 : NP) (wl1 : World) (Kc1 : Int → NP → WP) (K : Sl → WP) : Prop :=
 Br (decide (t1 < (r1.len : Int)))
  (∃ a1 : Addr, k1 = some a1 ∧
  ∃ v1 : Option Addr, wl1.cell? a1 = some (vp v1) ∧
  Calls Tryz.prog 45 #[(vp v1), (vi t1)] wl1 (fun e w4 => ∃ aA aD : Int, ∃ aE aF : Int, ∃ aG : ByteArray, ∃ aB aC : Int, ∃ r2 : Bool, e = .returned (.tuple #[(.agg #[(vi aA), (vi aD), (vi aE), (vu aF), (vs aG), (vi aB), (vi aC)]), (vb r2)]) ∧ 
   Kept Hl1 wl1 w4 ∧
   ∀ y1 : Bool, y1 = (cond (aA == 1) (aA == 1) (cond (aA == 2) (aA == 2) (aA == 3))) →
   Br y1
    (∃ a2 : Addr, At s1 t1 1 a2 ∧
    ∀ (H2 : NP) (w7 : World), Hst w0 Hl1 w4 H2 w7 →
    CanW w7 a2 ∧ ¬ H2 a2.block ∧ ∀ w8 : World, w8 = w7.setCell a2 (vb true) →
    Kc1 (q6.wrap (t1 + 1)) H2 w8)
    (Br (aA == 4)
     (∃ a3 : Addr, At s1 t1 1 a3 ∧
     ∀ (H2 : NP) (w7 : World), Hst w0 Hl1 w4 H2 w7 →
     ∃ v2 : Bool, w7.cell? a3 = some (vb v2) ∧
     Br v2
      (∃ a4 : Addr, At s1 t1 1 a4 ∧
      CanW w7 a4 ∧ ¬ H2 a4.block ∧ ∀ w9 : World, w9 = w7.setCell a4 (vb true) →
      Kc1 (q6.wrap (t1 + 1)) H2 w9)
      (∃ a5 : Addr, At s1 aB 1 a5 ∧
      ∃ v3 : Bool, w7.cell? a5 = some (vb v3) ∧
      Br v3
       (∃ a6 : Addr, At s1 aC 1 a6 ∧
       ∃ v4 : Bool, w7.cell? a6 = some (vb v4) ∧
       ∃ a7 : Addr, At s1 t1 1 a7 ∧
       CanW w7 a7 ∧ ¬ H2 a7.block ∧ ∀ w10 : World, w10 = w7.setCell a7 (vb v4) →
       Kc1 (q6.wrap (t1 + 1)) H2 w10)
       (∃ a8 : Addr, At s1 t1 1 a8 ∧
       CanW w7 a8 ∧ ¬ H2 a8.block ∧ ∀ w11 : World, w11 = w7.setCell a8 (vb false) →
       Kc1 (q6.wrap (t1 + 1)) H2 w11)))
     (Br (aA == 5)
      (∃ a9 : Addr, At s1 t1 1 a9 ∧
      ∀ (H2 : NP) (w7 : World), Hst w0 Hl1 w4 H2 w7 →
      ∃ v5 : Bool, w7.cell? a9 = some (vb v5) ∧
      Br v5
       (∃ a10 : Addr, At s1 t1 1 a10 ∧
       CanW w7 a10 ∧ ¬ H2 a10.block ∧ ∀ w12 : World, w12 = w7.setCell a10 (vb true) →
       Kc1 (q6.wrap (t1 + 1)) H2 w12)
       (∃ a11 : Addr, At s1 aB 1 a11 ∧
       ∃ v6 : Bool, w7.cell? a11 = some (vb v6) ∧
       ∃ a12 : Addr, At s1 t1 1 a12 ∧
       CanW w7 a12 ∧ ¬ H2 a12.block ∧ ∀ w13 : World, w13 = w7.setCell a12 (vb v6) →
       Kc1 (q6.wrap (t1 + 1)) H2 w13))
      (Br (cond (aA == 7) (aA == 7) (aA == 8))
       (∃ a13 : Addr, At s1 t1 1 a13 ∧
       ∀ (H3 : NP) (w14 : World), Hst w0 Hl1 w4 H3 w14 →
       ∃ v7 : Bool, w14.cell? a13 = some (vb v7) ∧
       Br v7
        (∃ a14 : Addr, At s1 t1 1 a14 ∧
        CanW w14 a14 ∧ ¬ H3 a14.block ∧ ∀ w15 : World, w15 = w14.setCell a14 (vb true) →
        Kc1 (q6.wrap (t1 + 1)) H3 w15)
        (∃ a15 : Addr, At s1 aB 1 a15 ∧
        ∃ v8 : Bool, w14.cell? a15 = some (vb v8) ∧
        Br v8
         (Calls Tryz.prog 101 #[(vp k1), r1.v, (vi aD)] w14 (fun e w16 => ∃ r3 : Bool, e = .returned (vb r3) ∧ 
          Kept H3 w14 w16 ∧
          ∃ a16 : Addr, At s1 t1 1 a16 ∧
          CanW w16 a16 ∧ ¬ H3 a16.block ∧ ∀ w17 : World, w17 = w16.setCell a16 (vb r3) →
          Kc1 (q6.wrap (t1 + 1)) H3 w17))
         (∃ a17 : Addr, At s1 t1 1 a17 ∧
         CanW w14 a17 ∧ ¬ H3 a17.block ∧ ∀ w18 : World, w18 = w14.setCell a17 (vb false) →
         Kc1 (q6.wrap (t1 + 1)) H3 w18)))
       (Br (aA == 9)
        (∃ a18 : Addr, At s1 t1 1 a18 ∧
        ∀ (H3 : NP) (w14 : World), Hst w0 Hl1 w4 H3 w14 →
        ∃ v9 : Bool, w14.cell? a18 = some (vb v9) ∧
        Br v9
         (∃ a19 : Addr, At s1 t1 1 a19 ∧
         CanW w14 a19 ∧ ¬ H3 a19.block ∧ ∀ w19 : World, w19 = w14.setCell a19 (vb true) →
         Kc1 (q6.wrap (t1 + 1)) H3 w19)
         (∃ a20 : Addr, At s1 aB 1 a20 ∧
         ∃ v10 : Bool, w14.cell? a20 = some (vb v10) ∧
         Br v10
          (Calls Tryz.prog 101 #[(vp k1), r1.v, (vi aE)] w14 (fun e w20 => ∃ r4 : Bool, e = .returned (vb r4) ∧ 
           Kept H3 w14 w20 ∧
           ∃ a21 : Addr, At s1 t1 1 a21 ∧
           CanW w20 a21 ∧ ¬ H3 a21.block ∧ ∀ w21 : World, w21 = w20.setCell a21 (vb r4) →
           Kc1 (q6.wrap (t1 + 1)) H3 w21))
          (∃ a22 : Addr, At s1 t1 1 a22 ∧
          CanW w14 a22 ∧ ¬ H3 a22.block ∧ ∀ w22 : World, w22 = w14.setCell a22 (vb false) →
          Kc1 (q6.wrap (t1 + 1)) H3 w22)))
        (∀ (H3 : NP) (w14 : World), Hst w0 Hl1 w4 H3 w14 →
        Kc1 (q6.wrap (t1 + 1)) H3 w14)))))))
  (K s1 wl1)
def m_J1 (k1 : Option Addr) (w0 : World) (K : Sl → WP) : Prop :=
 Calls Tryz.prog 100 #[(vp k1)] w0 (fun e w1 => ∃ r1 : Sl, e = .returned r1.v ∧ 
  Kept None w0 w1 ∧
  ∀ (p1 : Addr) (w2 : World), New w1 (.cells #[] 4) p1 w2 →
  ∃ s1 : Sl, ∃ w3 : World, (Builtin.append_ #[117, 117] 117 #[(Sl.mk (some p1) 0 0).v, r1.v]).run Tryz.prog w2 = .ok s1.v w3 ∧
  Kept None w2 w3 ∧
  ∃ (I1 : Int → NP → WP) (mu1 : Int → World → Nat), I1 1 None w3 ∧
   ∀ (t1 : Int) (Hl1 : NP) (wl1 : World), Hst w0 Hl1 wl1 Hl1 wl1 → I1 t1 Hl1 wl1 → m_J1_l1 k1 r1 s1 t1 w0 Hl1 wl1 (fun y'0 H' w' => I1 y'0 H' w' ∧ mu1 y'0 w' < mu1 t1 wl1) K)
theorem w_J1 (k1 : Option Addr) (w0 : World) (K : Sl → WP) (h : m_J1 k1 w0 K) :
  Calls Tryz.prog 65 #[(vp k1)] w0 (fun e w' => ∃ r5 : Sl, e = .returned r5.v ∧ K r5 w') := by
 unfold m_J1 at h
 refine cw (args := [(vp k1)]) Tryz.func65 Tryz.ntmps65 ?_
 have hs := Hst.start w0
 have hb := HB.nil None w0
 refine wpE_seq (rg (q0 Sl.nil.v (wpL_nil (th_n (wpE_seq (rg (q0 (vp k1) ?_)))))))
 refine sc Tryz.call100 (h.mono ?_)
 rintro e w1 ⟨r1, rfl, hk, h⟩
 refine ⟨_, rfl, ?_⟩
 obtain ⟨hs, hb⟩ := hk.hh hs hb
 refine q0 r1.v (wpL_nil (th_n (wpE_seq (rg (st_new (O := (.cells #[] 4)) (fun p => (Sl.mk (some p) 0 0).v) (want0 rfl) (x_buildSlice (vs := #[]) (by kernel_rfl) (by kernel_rfl)) ?_)))))
 intro p1 w2 hn15
 have h := h p1 w2 hn15
 have hs := hs.again (Ext.new (F := None) hn15).keptP
 have hb := hb.kept (Ext.new (F := None) hn15).keptP
 refine q0 r1.v ?_
 obtain ⟨s1, w3, hv32, hk, h⟩ := h
 refine st (v := s1.v) (want0 rfl) (x_builtin (args := #[(Sl.mk (some p1) 0 0).v, r1.v]) (by kernel_rfl) (fun _ => rfl) hv32) ?_
 obtain ⟨hs, hb⟩ := hk.hh hs hb
 refine q0 s1.v (wpL_nil (th_n (wpE_seq (wpE_seq (rg (q0 (vi 1) (wpL_nil (th_n (wpE_block ?_)))))))))
 obtain ⟨I1, mu1, h0, hr⟩ := h
 refine wpE_loop (σ := Int × NP × World) (fun s ρ w => w = s.2.2 ∧ Has ρ [(0, (vp k1)), (3, r1.v), (4, s1.v), (5, (vi s.1))] ∧ Hst w0 s.2.1 w s.2.1 w ∧ HB s.2.1 w [] ∧ I1 s.1 s.2.1 s.2.2) (fun s => mu1 s.1 s.2.2) (1, None, w3) ⟨rfl, hm, hs, hb, h0⟩ ?_
 rintro ⟨t1, Hl1, wl1⟩ ρ w ⟨hw, hH, hs, hb, hI⟩
 obtain rfl : wl1 = w := (show w = wl1 from hw).symm
 have hH : Has ρ [(0, (vp k1)), (3, r1.v), (4, s1.v), (5, (vi t1))] := hH
 have hs : Hst w0 Hl1 wl1 Hl1 wl1 := hs
 have hb : HB Hl1 wl1 [] := hb
 have h := hr t1 Hl1 wl1 hs hI
 unfold m_J1_l1 at h
 refine wpE_has hH ?_
 refine wpE_seq (wpE_seq (rg (q0 (vi t1) (q0 r1.v (q0 (vi (r1.len : Int)) (q0 (vb (decide (t1 < (r1.len : Int)))) (wpL_nil (th_n ?_))))))))
 refine wpE_cond (t := (decide (t1 < (r1.len : Int)))) (by kernel_rfl) (fun hc1 => ?_) (fun hc1 => ?_)
 ·have h := h.1 hc1
  refine wpE_skip (th_n (wpE_seq (wpE_block (wpE_seq (rg (q0 (vp k1) ?_))))))
  obtain ⟨a1, hp1, h⟩ := h
  refine q2 (vp (some a1)) (x_nilCheck (p := k1) (by kernel_rfl) hp1) (q0 (vp (some a1)) ?_)
  obtain ⟨v1, hv31, h⟩ := h
  refine q2 (vp v1) (xl (Tryz.isAgg27 _) hv31) (q0 (vi t1) ?_)
  refine sc Tryz.call45 (h.mono ?_)
  rintro e w4 ⟨aA, aD, aE, aF, aG, aB, aC, r2, rfl, hk, h⟩
  refine ⟨_, rfl, ?_⟩
  obtain ⟨hs, hb⟩ := hk.hh hs hb
  refine q0 (.tuple #[(.agg #[(vi aA), (vi aD), (vi aE), (vu aF), (vs aG), (vi aB), (vi aC)]), (vb r2)]) (q0 (.agg #[(vi aA), (vi aD), (vi aE), (vu aF), (vs aG), (vi aB), (vi aC)]) (q0 (vb r2) (sn (O := (.cells #[(vi 0), (vi 0), (vi 0), (vu 0), (vs ⟨#[]⟩), (vi 0), (vi 0)] 86)) (x_alloc (Tryz.zeroValue86 _) rfl) ?_)))
  intro p2 w5 hn1
  obtain ⟨H1, hs, hb⟩ := hs.alloc hb hn1
  refine st_set (want0 rfl) (x_storeA (a := p2) (vs := [(vi aA), (vi aD), (vi aE), (vu aF), (vs aG), (vi aB), (vi aC)]) (by kernel_rfl) (by kernel_rfl) rfl (Tryz.sizeOf86 _) rfl (hb.canWs0 0 7 gZ (by kernel_rfl))) ?_
  intro w6 hn2
  have hsb : Hst w0 Hl1 w4 H1 w6 ∧ HB H1 w6 [(p2, [(vi aA), (vi aD), (vi aE), (vu aF), (vs aG), (vi aB), (vi aC)], 86)] := by
   rw [hn2]
   exact hb.store0 (i := 0) (vs := [(vi aA), (vi aD), (vi aE), (vu aF), (vs aG), (vi aB), (vi aC)]) hs gZ (by kernel_rfl) (by kernel_rfl)
  obtain ⟨hs, hb⟩ := hsb
  refine q0 (vb r2) (wpL_nil (th_n (wpE_seq (rg (q0 (vp (some p2)) (q2 (vi aA) (xl (Tryz.isAgg3 _) (hb.c0 0 gZ)) (wpL_nil (th_n (wpE_block (wpE_seq (wpE_seq ?_)))))))))))
  refine rg (q0 (vb (aA == 1)) (q0 (vb (aA == 1)) (wpL_nil (th_n ?_))))
  refine wpE_via (fun ρ wJ => ∃ b1'0 b1'1 y1 : Bool, ∃ HJ : NP, ((aA == 1) = b1'0) ∧ ((aA == 2) = b1'1) ∧ (y1 = (cond b1'0 (aA == 1) (cond b1'1 (aA == 2) (aA == 3)))) ∧ Hst w0 Hl1 w4 HJ wJ ∧ HB HJ wJ [(p2, [(vi aA), (vi aD), (vi aE), (vu aF), (vs aG), (vi aB), (vi aC)], 86)] ∧ Has ρ [(0, (vp k1)), (3, r1.v), (4, s1.v), (5, (vi t1)), (6, (vp (some p2))), (29, (vi aA)), (30, (vb y1))]) ?_ ?_
  ·refine wpE_cond (t := (aA == 1)) (by kernel_rfl) (fun hc4 => ?_) (fun hc4 => ?_)
   ·refine wpE_skip (th_n ?_)
    exact ⟨true, _, _, _, hc4, rfl, rfl, hs, hb, hm⟩
   ·refine wpE_seq (rg (q0 (vb (aA == 2)) (q0 (vb (aA == 2)) (wpL_nil (th_n ?_)))))
    refine wpE_cond (t := (aA == 2)) (by kernel_rfl) (fun hc5 => ?_) (fun hc5 => ?_)
    ·refine wpE_skip (th_n ?_)
     exact ⟨false, true, _, _, hc4, hc5, rfl, hs, hb, hm⟩
    ·refine rg (q0 (vb (aA == 3)) (q0 (vb (aA == 3)) (wpL_nil (th_n ?_))))
     exact ⟨false, false, _, _, hc4, hc5, rfl, hs, hb, hm⟩
  ·rintro ρ w7 ⟨b1'0, b1'1, y1, H2, he0, he1, hy1, hs, hb, hH⟩
   subst he0
   subst he1
   have h := h y1 hy1
   refine norm_has hH ?_
   refine th_n ?_
   refine wpE_cond (t := y1) (by kernel_rfl) (fun hc6 => ?_) (fun hc6 => ?_)
   ·have h := h.1 hc6
    refine rg (q0 s1.v (q0 (vi t1) ?_))
    obtain ⟨a2, hv1, h⟩ := h
    refine q2 (vp (some a2)) (xi (Tryz.runUnderlying117 _) (Tryz.sizeOf4 _) hv1) ?_
    have h := h H2 w7 hs
    have hs := hs.here
    obtain ⟨hp2, hnh, h⟩ := h
    refine st_set (want0 rfl) (x_store (a := a2) (v := (vb true)) (by kernel_rfl) (by kernel_rfl) rfl (Tryz.sizeOf4 _) hp2) ?_
    intro w8 hn3
    have h := h w8 hn3
    have hk := Kept.sc hnh hn3
    obtain ⟨hs, hb⟩ := hk.hh hs hb
    refine wpL_nil (bl_n (bl_n (th_n (rg (q0 (vi t1) (q0 (vi (q6.wrap (t1 + 1))) (q0 (vi (q6.wrap (t1 + 1))) (wpL_nil (th_n ?_)))))))))
    exact ⟨((q6.wrap (t1 + 1)), H2, w8), ⟨rfl, hm, hs, hb.drop 1, h.1⟩, h.2⟩
   ·have h := h.2 hc6
    refine wpE_seq (rg (q0 (vb (aA == 4)) (q0 (vb (aA == 4)) (wpL_nil (th_n ?_)))))
    refine wpE_cond (t := (aA == 4)) (by kernel_rfl) (fun hc7 => ?_) (fun hc7 => ?_)
    ·have h := h.1 hc7
     refine rg (q0 s1.v (q0 (vi t1) (q0 s1.v (q0 (vi t1) ?_))))
     obtain ⟨a3, hv10, h⟩ := h
     refine q2 (vp (some a3)) (xi (Tryz.runUnderlying117 _) (Tryz.sizeOf4 _) hv10) ?_
     have h := h H2 w7 hs
     have hs := hs.here
     obtain ⟨v2, hv9, h⟩ := h
     refine q2 (vb v2) (xl (Tryz.isAgg4 _) hv9) (q0 (vb v2) ?_)
     rcases Bool.eq_false_or_eq_true v2 with hg1 | hg1
     ·have h := h.1 hg1
      refine sk (yD 45 hg1) (sk (yD 45 hg1) (sk (yD 45 hg1) (sk (yD 45 hg1) (sk (yD 45 hg1) (sk (yD 45 hg1) (sm (sm (sm (sm (sm (sk (yD 45 hg1) ?_)))))))))))
      refine q2 (vb true) (xT hg1) ?_
      obtain ⟨a4, hv2, h⟩ := h
      refine q2 (vp (some a4)) (xi (Tryz.runUnderlying117 _) (Tryz.sizeOf4 _) hv2) ?_
      obtain ⟨hp3, hnh, h⟩ := h
      refine st_set (want0 rfl) (x_store (a := a4) (v := (vb true)) (by kernel_rfl) (by kernel_rfl) rfl (Tryz.sizeOf4 _) hp3) ?_
      intro w9 hn4
      have h := h w9 hn4
      have hk := Kept.sc hnh hn4
      obtain ⟨hs, hb⟩ := hk.hh hs hb
      refine wpL_nil (bl_n (bl_n (th_n (rg (q0 (vi t1) (q0 (vi (q6.wrap (t1 + 1))) (q0 (vi (q6.wrap (t1 + 1))) (wpL_nil (th_n ?_)))))))))
      exact ⟨((q6.wrap (t1 + 1)), H2, w9), ⟨rfl, hm, hs, hb.drop 1, h.1⟩, h.2⟩
     ·have h := h.2 hg1
      refine q1 s1.v (want1 rfl (yD 45 hg1)) (q1 (vp (some (p2.add 5))) (want1 rfl (yD 45 hg1)) (stp (v := (vi aB)) (want1 rfl (yD 45 hg1)) (xl (Tryz.isAgg30 _) (hb.c 0 5 gZ)) ?_))
      obtain ⟨a5, hv8, h⟩ := h
      refine stp (v := (vp (some a5))) (want1 rfl (yD 45 hg1)) (xi (Tryz.runUnderlying117 _) (Tryz.sizeOf4 _) hv8) ?_
      obtain ⟨v3, hv7, h⟩ := h
      refine stp (v := (vb v3)) (want1 rfl (yD 45 hg1)) (xl (Tryz.isAgg4 _) hv7) (q1 (vb v3) (want1 rfl (yD 45 hg1)) ?_)
      rcases Bool.eq_false_or_eq_true v3 with hg2 | hg2
      ·have h := h.1 hg2
       refine q1 s1.v (want1 rfl (yD 51 hg2)) (q1 (vp (some (p2.add 6))) (want1 rfl (yD 51 hg2)) (stp (v := (vi aC)) (want1 rfl (yD 51 hg2)) (xl (Tryz.isAgg30 _) (hb.c 0 6 gZ)) ?_))
       obtain ⟨a6, hv5, h⟩ := h
       refine stp (v := (vp (some a6))) (want1 rfl (yD 51 hg2)) (xi (Tryz.runUnderlying117 _) (Tryz.sizeOf4 _) hv5) ?_
       obtain ⟨v4, hv4, h⟩ := h
       refine stp (v := (vb v4)) (want1 rfl (yD 51 hg2)) (xl (Tryz.isAgg4 _) hv4) (stp (v := (vb v4)) (want1 rfl (yD 45 hg1)) (xT hg2) (q2 (vb v4) (xF hg1) ?_))
       obtain ⟨a7, hv3, h⟩ := h
       refine q2 (vp (some a7)) (xi (Tryz.runUnderlying117 _) (Tryz.sizeOf4 _) hv3) ?_
       obtain ⟨hp4, hnh, h⟩ := h
       refine st_set (want0 rfl) (x_store (a := a7) (v := (vb v4)) (by kernel_rfl) (by kernel_rfl) rfl (Tryz.sizeOf4 _) hp4) ?_
       intro w10 hn5
       have h := h w10 hn5
       have hk := Kept.sc hnh hn5
       obtain ⟨hs, hb⟩ := hk.hh hs hb
       refine wpL_nil (bl_n (bl_n (th_n (rg (q0 (vi t1) (q0 (vi (q6.wrap (t1 + 1))) (q0 (vi (q6.wrap (t1 + 1))) (wpL_nil (th_n ?_)))))))))
       exact ⟨((q6.wrap (t1 + 1)), H2, w10), ⟨rfl, hm, hs, hb.drop 1, h.1⟩, h.2⟩
      ·have h := h.2 hg2
       refine sk (yD 51 hg2) (sk (yD 51 hg2) (sk (yD 51 hg2) (sk (yD 51 hg2) (sk (yD 51 hg2) (stp (v := (vb false)) (want1 rfl (yD 45 hg1)) (xF hg2) (q2 (vb false) (xF hg1) ?_))))))
       obtain ⟨a8, hv6, h⟩ := h
       refine q2 (vp (some a8)) (xi (Tryz.runUnderlying117 _) (Tryz.sizeOf4 _) hv6) ?_
       obtain ⟨hp5, hnh, h⟩ := h
       refine st_set (want0 rfl) (x_store (a := a8) (v := (vb false)) (by kernel_rfl) (by kernel_rfl) rfl (Tryz.sizeOf4 _) hp5) ?_
       intro w11 hn6
       have h := h w11 hn6
       have hk := Kept.sc hnh hn6
       obtain ⟨hs, hb⟩ := hk.hh hs hb
       refine wpL_nil (bl_n (bl_n (th_n (rg (q0 (vi t1) (q0 (vi (q6.wrap (t1 + 1))) (q0 (vi (q6.wrap (t1 + 1))) (wpL_nil (th_n ?_)))))))))
       exact ⟨((q6.wrap (t1 + 1)), H2, w11), ⟨rfl, hm, hs, hb.drop 1, h.1⟩, h.2⟩
    ·have h := h.2 hc7
     refine wpE_seq (rg (q0 (vb (aA == 5)) (q0 (vb (aA == 5)) (wpL_nil (th_n ?_)))))
     refine wpE_cond (t := (aA == 5)) (by kernel_rfl) (fun hc8 => ?_) (fun hc8 => ?_)
     ·have h := h.1 hc8
      refine rg (q0 s1.v (q0 (vi t1) (q0 s1.v (q0 (vi t1) ?_))))
      obtain ⟨a9, hv16, h⟩ := h
      refine q2 (vp (some a9)) (xi (Tryz.runUnderlying117 _) (Tryz.sizeOf4 _) hv16) ?_
      have h := h H2 w7 hs
      have hs := hs.here
      obtain ⟨v5, hv15, h⟩ := h
      refine q2 (vb v5) (xl (Tryz.isAgg4 _) hv15) (q0 (vb v5) ?_)
      rcases Bool.eq_false_or_eq_true v5 with hg3 | hg3
      ·have h := h.1 hg3
       refine sk (yD 68 hg3) (sk (yD 68 hg3) (sk (yD 68 hg3) (sk (yD 68 hg3) (sk (yD 68 hg3) (q2 (vb true) (xT hg3) ?_)))))
       obtain ⟨a10, hv11, h⟩ := h
       refine q2 (vp (some a10)) (xi (Tryz.runUnderlying117 _) (Tryz.sizeOf4 _) hv11) ?_
       obtain ⟨hp6, hnh, h⟩ := h
       refine st_set (want0 rfl) (x_store (a := a10) (v := (vb true)) (by kernel_rfl) (by kernel_rfl) rfl (Tryz.sizeOf4 _) hp6) ?_
       intro w12 hn7
       have h := h w12 hn7
       have hk := Kept.sc hnh hn7
       obtain ⟨hs, hb⟩ := hk.hh hs hb
       refine wpL_nil (bl_n (bl_n (th_n (rg (q0 (vi t1) (q0 (vi (q6.wrap (t1 + 1))) (q0 (vi (q6.wrap (t1 + 1))) (wpL_nil (th_n ?_)))))))))
       exact ⟨((q6.wrap (t1 + 1)), H2, w12), ⟨rfl, hm, hs, hb.drop 1, h.1⟩, h.2⟩
      ·have h := h.2 hg3
       refine q1 s1.v (want1 rfl (yD 68 hg3)) (q1 (vp (some (p2.add 5))) (want1 rfl (yD 68 hg3)) (stp (v := (vi aB)) (want1 rfl (yD 68 hg3)) (xl (Tryz.isAgg30 _) (hb.c 0 5 gZ)) ?_))
       obtain ⟨a11, hv14, h⟩ := h
       refine stp (v := (vp (some a11))) (want1 rfl (yD 68 hg3)) (xi (Tryz.runUnderlying117 _) (Tryz.sizeOf4 _) hv14) ?_
       obtain ⟨v6, hv13, h⟩ := h
       refine stp (v := (vb v6)) (want1 rfl (yD 68 hg3)) (xl (Tryz.isAgg4 _) hv13) (q2 (vb v6) (xF hg3) ?_)
       obtain ⟨a12, hv12, h⟩ := h
       refine q2 (vp (some a12)) (xi (Tryz.runUnderlying117 _) (Tryz.sizeOf4 _) hv12) ?_
       obtain ⟨hp7, hnh, h⟩ := h
       refine st_set (want0 rfl) (x_store (a := a12) (v := (vb v6)) (by kernel_rfl) (by kernel_rfl) rfl (Tryz.sizeOf4 _) hp7) ?_
       intro w13 hn8
       have h := h w13 hn8
       have hk := Kept.sc hnh hn8
       obtain ⟨hs, hb⟩ := hk.hh hs hb
       refine wpL_nil (bl_n (bl_n (th_n (rg (q0 (vi t1) (q0 (vi (q6.wrap (t1 + 1))) (q0 (vi (q6.wrap (t1 + 1))) (wpL_nil (th_n ?_)))))))))
       exact ⟨((q6.wrap (t1 + 1)), H2, w13), ⟨rfl, hm, hs, hb.drop 1, h.1⟩, h.2⟩
     ·have h := h.2 hc8
      refine wpE_seq (wpE_seq (rg (q0 (vb (aA == 7)) (q0 (vb (aA == 7)) (wpL_nil (th_n ?_))))))
      refine wpE_via (fun ρ wJ => ∃ b2'0 : Bool, ∃ HJ : NP, ((aA == 7) = b2'0) ∧ Hst w0 Hl1 w4 HJ wJ ∧ HB HJ wJ [(p2, [(vi aA), (vi aD), (vi aE), (vu aF), (vs aG), (vi aB), (vi aC)], 86)] ∧ Has ρ [(0, (vp k1)), (3, r1.v), (4, s1.v), (5, (vi t1)), (6, (vp (some p2))), (29, (vi aA)), (76, (vb (cond b2'0 (aA == 7) (aA == 8))))]) ?_ ?_
      ·refine wpE_cond (t := (aA == 7)) (by kernel_rfl) (fun hc10 => ?_) (fun hc10 => ?_)
       ·refine wpE_skip (th_n ?_)
        exact ⟨true, _, hc10, hs, hb, hm⟩
       ·refine rg (q0 (vb (aA == 8)) (q0 (vb (aA == 8)) (wpL_nil (th_n ?_))))
        exact ⟨false, _, hc10, hs, hb, hm⟩
      ·rintro ρ w14 ⟨b2'0, H3, he0, hs, hb, hH⟩
       subst he0
       refine norm_has hH ?_
       refine th_n ?_
       refine wpE_cond (t := (cond (aA == 7) (aA == 7) (aA == 8))) (by kernel_rfl) (fun hc11 => ?_) (fun hc11 => ?_)
       ·have h := h.1 hc11
        refine rg (q0 s1.v (q0 (vi t1) (q0 s1.v (q0 (vi t1) ?_))))
        obtain ⟨a13, hv23, h⟩ := h
        refine q2 (vp (some a13)) (xi (Tryz.runUnderlying117 _) (Tryz.sizeOf4 _) hv23) ?_
        have h := h H3 w14 hs
        have hs := hs.here
        obtain ⟨v7, hv22, h⟩ := h
        refine q2 (vb v7) (xl (Tryz.isAgg4 _) hv22) (q0 (vb v7) ?_)
        rcases Bool.eq_false_or_eq_true v7 with hg4 | hg4
        ·have h := h.1 hg4
         refine sk (yD 85 hg4) (sk (yD 85 hg4) (sk (yD 85 hg4) (sk (yD 85 hg4) (sk (yD 85 hg4) (sk (yD 85 hg4) (sm (sm (sm (sm (sm (sk (yD 85 hg4) ?_)))))))))))
         refine q2 (vb true) (xT hg4) ?_
         obtain ⟨a14, hv17, h⟩ := h
         refine q2 (vp (some a14)) (xi (Tryz.runUnderlying117 _) (Tryz.sizeOf4 _) hv17) ?_
         obtain ⟨hp8, hnh, h⟩ := h
         refine st_set (want0 rfl) (x_store (a := a14) (v := (vb true)) (by kernel_rfl) (by kernel_rfl) rfl (Tryz.sizeOf4 _) hp8) ?_
         intro w15 hn9
         have h := h w15 hn9
         have hk := Kept.sc hnh hn9
         obtain ⟨hs, hb⟩ := hk.hh hs hb
         refine wpL_nil (bl_n (bl_n (th_n (rg (q0 (vi t1) (q0 (vi (q6.wrap (t1 + 1))) (q0 (vi (q6.wrap (t1 + 1))) (wpL_nil (th_n ?_)))))))))
         exact ⟨((q6.wrap (t1 + 1)), H3, w15), ⟨rfl, hm, hs, hb.drop 1, h.1⟩, h.2⟩
        ·have h := h.2 hg4
         refine q1 s1.v (want1 rfl (yD 85 hg4)) (q1 (vp (some (p2.add 5))) (want1 rfl (yD 85 hg4)) (stp (v := (vi aB)) (want1 rfl (yD 85 hg4)) (xl (Tryz.isAgg30 _) (hb.c 0 5 gZ)) ?_))
         obtain ⟨a15, hv21, h⟩ := h
         refine stp (v := (vp (some a15))) (want1 rfl (yD 85 hg4)) (xi (Tryz.runUnderlying117 _) (Tryz.sizeOf4 _) hv21) ?_
         obtain ⟨v8, hv20, h⟩ := h
         refine stp (v := (vb v8)) (want1 rfl (yD 85 hg4)) (xl (Tryz.isAgg4 _) hv20) (q1 (vb v8) (want1 rfl (yD 85 hg4)) ?_)
         rcases Bool.eq_false_or_eq_true v8 with hg5 | hg5
         ·have h := h.1 hg5
          refine q1 (vp k1) (want1 rfl (yD 91 hg5)) (q1 r1.v (want1 rfl (yD 91 hg5)) (q1 (vp (some (p2.add 1))) (want1 rfl (yD 91 hg5)) (stp (v := (vi aD)) (want1 rfl (yD 91 hg5)) (xl (Tryz.isAgg3 _) (hb.c 0 1 gZ)) ?_)))
          refine st_call (want1 rfl (yD 91 hg5)) (xc Tryz.call101) (h.mono ?_)
          rintro e w16 ⟨r3, rfl, hk, h⟩
          refine ⟨_, rfl, ?_⟩
          obtain ⟨hs, hb⟩ := hk.hh hs hb
          refine stp (v := (vb r3)) (want1 rfl (yD 85 hg4)) (xT hg5) (q2 (vb r3) (xF hg4) ?_)
          obtain ⟨a16, hv18, h⟩ := h
          refine q2 (vp (some a16)) (xi (Tryz.runUnderlying117 _) (Tryz.sizeOf4 _) hv18) ?_
          obtain ⟨hp9, hnh, h⟩ := h
          refine st_set (want0 rfl) (x_store (a := a16) (v := (vb r3)) (by kernel_rfl) (by kernel_rfl) rfl (Tryz.sizeOf4 _) hp9) ?_
          intro w17 hn10
          have h := h w17 hn10
          have hk := Kept.sc hnh hn10
          obtain ⟨hs, hb⟩ := hk.hh hs hb
          refine wpL_nil (bl_n (bl_n (th_n (rg (q0 (vi t1) (q0 (vi (q6.wrap (t1 + 1))) (q0 (vi (q6.wrap (t1 + 1))) (wpL_nil (th_n ?_)))))))))
          exact ⟨((q6.wrap (t1 + 1)), H3, w17), ⟨rfl, hm, hs, hb.drop 1, h.1⟩, h.2⟩
         ·have h := h.2 hg5
          refine sk (yD 91 hg5) (sk (yD 91 hg5) (sk (yD 91 hg5) (sk (yD 91 hg5) (sk (yD 91 hg5) (stp (v := (vb false)) (want1 rfl (yD 85 hg4)) (xF hg5) (q2 (vb false) (xF hg4) ?_))))))
          obtain ⟨a17, hv19, h⟩ := h
          refine q2 (vp (some a17)) (xi (Tryz.runUnderlying117 _) (Tryz.sizeOf4 _) hv19) ?_
          obtain ⟨hp10, hnh, h⟩ := h
          refine st_set (want0 rfl) (x_store (a := a17) (v := (vb false)) (by kernel_rfl) (by kernel_rfl) rfl (Tryz.sizeOf4 _) hp10) ?_
          intro w18 hn11
          have h := h w18 hn11
          have hk := Kept.sc hnh hn11
          obtain ⟨hs, hb⟩ := hk.hh hs hb
          refine wpL_nil (bl_n (bl_n (th_n (rg (q0 (vi t1) (q0 (vi (q6.wrap (t1 + 1))) (q0 (vi (q6.wrap (t1 + 1))) (wpL_nil (th_n ?_)))))))))
          exact ⟨((q6.wrap (t1 + 1)), H3, w18), ⟨rfl, hm, hs, hb.drop 1, h.1⟩, h.2⟩
       ·have h := h.2 hc11
        refine wpE_seq (rg (q0 (vb (aA == 9)) (q0 (vb (aA == 9)) (wpL_nil (th_n ?_)))))
        refine wpE_cond (t := (aA == 9)) (by kernel_rfl) (fun hc12 => ?_) (fun hc12 => ?_)
        ·have h := h.1 hc12
         refine rg (q0 s1.v (q0 (vi t1) (q0 s1.v (q0 (vi t1) ?_))))
         obtain ⟨a18, hv30, h⟩ := h
         refine q2 (vp (some a18)) (xi (Tryz.runUnderlying117 _) (Tryz.sizeOf4 _) hv30) ?_
         have h := h H3 w14 hs
         have hs := hs.here
         obtain ⟨v9, hv29, h⟩ := h
         refine q2 (vb v9) (xl (Tryz.isAgg4 _) hv29) (q0 (vb v9) ?_)
         rcases Bool.eq_false_or_eq_true v9 with hg6 | hg6
         ·have h := h.1 hg6
          refine sk (yD 108 hg6) (sk (yD 108 hg6) (sk (yD 108 hg6) (sk (yD 108 hg6) (sk (yD 108 hg6) (sk (yD 108 hg6) (sm (sm (sm (sm (sm (sk (yD 108 hg6) ?_)))))))))))
          refine q2 (vb true) (xT hg6) ?_
          obtain ⟨a19, hv24, h⟩ := h
          refine q2 (vp (some a19)) (xi (Tryz.runUnderlying117 _) (Tryz.sizeOf4 _) hv24) ?_
          obtain ⟨hp11, hnh, h⟩ := h
          refine st_set (want0 rfl) (x_store (a := a19) (v := (vb true)) (by kernel_rfl) (by kernel_rfl) rfl (Tryz.sizeOf4 _) hp11) ?_
          intro w19 hn12
          have h := h w19 hn12
          have hk := Kept.sc hnh hn12
          obtain ⟨hs, hb⟩ := hk.hh hs hb
          refine wpL_nil (bl_n (bl_n (th_n (rg (q0 (vi t1) (q0 (vi (q6.wrap (t1 + 1))) (q0 (vi (q6.wrap (t1 + 1))) (wpL_nil (th_n ?_)))))))))
          exact ⟨((q6.wrap (t1 + 1)), H3, w19), ⟨rfl, hm, hs, hb.drop 1, h.1⟩, h.2⟩
         ·have h := h.2 hg6
          refine q1 s1.v (want1 rfl (yD 108 hg6)) (q1 (vp (some (p2.add 5))) (want1 rfl (yD 108 hg6)) (stp (v := (vi aB)) (want1 rfl (yD 108 hg6)) (xl (Tryz.isAgg30 _) (hb.c 0 5 gZ)) ?_))
          obtain ⟨a20, hv28, h⟩ := h
          refine stp (v := (vp (some a20))) (want1 rfl (yD 108 hg6)) (xi (Tryz.runUnderlying117 _) (Tryz.sizeOf4 _) hv28) ?_
          obtain ⟨v10, hv27, h⟩ := h
          refine stp (v := (vb v10)) (want1 rfl (yD 108 hg6)) (xl (Tryz.isAgg4 _) hv27) (q1 (vb v10) (want1 rfl (yD 108 hg6)) ?_)
          rcases Bool.eq_false_or_eq_true v10 with hg7 | hg7
          ·have h := h.1 hg7
           refine q1 (vp k1) (want1 rfl (yD 114 hg7)) (q1 r1.v (want1 rfl (yD 114 hg7)) (q1 (vp (some (p2.add 2))) (want1 rfl (yD 114 hg7)) (stp (v := (vi aE)) (want1 rfl (yD 114 hg7)) (xl (Tryz.isAgg3 _) (hb.c 0 2 gZ)) ?_)))
           refine st_call (want1 rfl (yD 114 hg7)) (xc Tryz.call101) (h.mono ?_)
           rintro e w20 ⟨r4, rfl, hk, h⟩
           refine ⟨_, rfl, ?_⟩
           obtain ⟨hs, hb⟩ := hk.hh hs hb
           refine stp (v := (vb r4)) (want1 rfl (yD 108 hg6)) (xT hg7) (q2 (vb r4) (xF hg6) ?_)
           obtain ⟨a21, hv25, h⟩ := h
           refine q2 (vp (some a21)) (xi (Tryz.runUnderlying117 _) (Tryz.sizeOf4 _) hv25) ?_
           obtain ⟨hp12, hnh, h⟩ := h
           refine st_set (want0 rfl) (x_store (a := a21) (v := (vb r4)) (by kernel_rfl) (by kernel_rfl) rfl (Tryz.sizeOf4 _) hp12) ?_
           intro w21 hn13
           have h := h w21 hn13
           have hk := Kept.sc hnh hn13
           obtain ⟨hs, hb⟩ := hk.hh hs hb
           refine wpL_nil (bl_n (bl_n (th_n (rg (q0 (vi t1) (q0 (vi (q6.wrap (t1 + 1))) (q0 (vi (q6.wrap (t1 + 1))) (wpL_nil (th_n ?_)))))))))
           exact ⟨((q6.wrap (t1 + 1)), H3, w21), ⟨rfl, hm, hs, hb.drop 1, h.1⟩, h.2⟩
          ·have h := h.2 hg7
           refine sk (yD 114 hg7) (sk (yD 114 hg7) (sk (yD 114 hg7) (sk (yD 114 hg7) (sk (yD 114 hg7) (stp (v := (vb false)) (want1 rfl (yD 108 hg6)) (xF hg7) (q2 (vb false) (xF hg6) ?_))))))
           obtain ⟨a22, hv26, h⟩ := h
           refine q2 (vp (some a22)) (xi (Tryz.runUnderlying117 _) (Tryz.sizeOf4 _) hv26) ?_
           obtain ⟨hp13, hnh, h⟩ := h
           refine st_set (want0 rfl) (x_store (a := a22) (v := (vb false)) (by kernel_rfl) (by kernel_rfl) rfl (Tryz.sizeOf4 _) hp13) ?_
           intro w22 hn14
           have h := h w22 hn14
           have hk := Kept.sc hnh hn14
           obtain ⟨hs, hb⟩ := hk.hh hs hb
           refine wpL_nil (bl_n (bl_n (th_n (rg (q0 (vi t1) (q0 (vi (q6.wrap (t1 + 1))) (q0 (vi (q6.wrap (t1 + 1))) (wpL_nil (th_n ?_)))))))))
           exact ⟨((q6.wrap (t1 + 1)), H3, w22), ⟨rfl, hm, hs, hb.drop 1, h.1⟩, h.2⟩
        ·have h := h.2 hc12
         refine wpE_skip (bl_n (bl_n (th_n (rg (q0 (vi t1) (q0 (vi (q6.wrap (t1 + 1))) (q0 (vi (q6.wrap (t1 + 1))) (wpL_nil ?_))))))))
         have h := h H3 w14 hs
         have hs := hs.here
         refine th_n ?_
         exact ⟨((q6.wrap (t1 + 1)), H3, w14), ⟨rfl, hm, hs, hb.drop 1, h.1⟩, h.2⟩
 ·have h := h.2 hc1
  refine wpE_exit (th_x (th_x (bl_eq (th_n (wpE_seq (rg (q0 s1.v (q0 s1.v (wpL_nil (th_n (wpE_ret ?_)))))))))))
  refine rs1 Tryz.results65 (v := s1.v) ?_
  exact ⟨s1, rfl, h⟩
end Go.Proofs
end
section
open Go Go.SE
namespace Go.Proofs
attribute [local irreducible] Calls
theorem c_r08_Has {S : NP} (s : Sl) (ts : List Int) (v : Int) (w0 : World) (hs : Lst S w0 1 s (tmr ts)) (hn : ts.length ≤ 1000000) :
  Calls Tryz.prog 61 #[s.v, .int .i64 v] w0 (fun e w' => ∃ r : Bool, e = .returned (.bool r) ∧ (r = decide (v ∈ ts) ∧ w' = w0)) := by
 refine w_N1 _ _ w0 (fun r w' => r = decide (v ∈ ts) ∧ w' = w0) ?_
 unfold m_N1
 have hl : s.len = ts.length := by rw [hs.len, tmr_len]
 refine ⟨fun i w' => w' = w0 ∧ ∃ j : Nat, i = j ∧ j ≤ ts.length ∧ v ∉ ts.take j, fun i _ => ((ts.length : Int) - i).toNat, ⟨rfl, 0, rfl, Nat.zero_le _, by simp⟩, ?_⟩
 rintro _ _ ⟨rfl, j, rfl, hj, hv⟩
 unfold m_N1_l1
 refine ⟨fun h => ?_, fun h => ?_⟩
 ·have hlt := lt_of_dec hl h
  obtain ⟨a, hat, _, hc⟩ := tm_nth hs hlt
  have htk : ts.take (j + 1) = ts.take j ++ [ts[j]] := List.take_succ_eq_append_getElem hlt
  refine ⟨a, hat, _, hc, fun h => ⟨?_, rfl⟩, fun h => ?_⟩
  ·have : ts[j] = v := by simpa using h
   rw [decide_eq_true]
   rw [← this]; exact List.getElem_mem hlt
  ·rw [wrap_succ hlt (by omega)]
   refine ⟨⟨rfl, j + 1, rfl, hlt, ?_⟩, lt_dec hlt⟩
   rw [htk, List.mem_append, List.mem_singleton]
   rintro (h' | h')
   ·exact hv h'
   ·simp [h'] at h
 ·have hge := eq_of_dec hl hj h
  subst hge
  rw [List.take_length] at hv
  exact ⟨by simp [hv], rfl⟩
end Go.Proofs
end
section
open Go.SE
namespace Go.Sp
def upd (V : Int → Bool) (t : Int) (b : Bool) : Int → Bool := fun x => if x = t then b else V x
end Go.Sp
end
section
open Go Go.SE
namespace Go.Proofs
attribute [local irreducible] Calls
theorem slT_bool : SlType Tryz.prog 117 4 1 1 := by
 refine ⟨Tryz.underlying117, ⟨Tryz.t4, _, by kernel_rfl, (by kernel_rfl : Tryz.t4.zero = some (.bool false)), by kernel_rfl, by kernel_rfl, rfl⟩, by omega⟩
theorem zero_bool : ∀ i z, Tryz.prog.info? 4 = some i → i.zero = some z → z.cells = #[Value.bool false] := by
 intro i z hi hz
 have h1 : Tryz.prog.info? 4 = some Tryz.t4 := by kernel_rfl
 rw [h1] at hi; cases hi
 have h2 : Tryz.t4.zero = some (.bool false) := by kernel_rfl
 rw [h2] at hz; cases hz; rfl
def brw (n : Nat) (V : Int → Bool) : List (List Value) := (List.range n).map fun i : Nat => [Value.bool (V (i : Int))]
theorem brw_len (n : Nat) (V : Int → Bool) : (brw n V).length = n := by simp [brw]
theorem brw_one (n : Nat) (V : Int → Bool) : ∀ q ∈ brw n V, q.all oneCell = true := by intro q hq; obtain ⟨t, _, rfl⟩ := List.mem_map.1 hq; rfl
theorem brw_sz (n : Nat) (V : Int → Bool) : ∀ q ∈ brw n V, q.length = 1 := by intro q hq; obtain ⟨t, _, rfl⟩ := List.mem_map.1 hq; rfl
theorem brw_false (n : Nat) : List.replicate n [Value.bool false] = brw n (fun _ => false) := by
 unfold brw; rw [List.map_const', List.length_range]
theorem brw_set (n : Nat) (V : Int → Bool) (t : Nat) (b : Bool) : (brw n V).set t [.bool b] = brw n (Sp.upd V (t : Int) b) := by
 apply List.ext_getElem?
 intro i
 rw [List.getElem?_set]
 by_cases h : t = i
 ·subst h
  rw [if_pos rfl]
  by_cases hl : t < n
  ·simp [brw, hl, Sp.upd]
  ·simp [brw, hl]
 ·rw [if_neg h]
  by_cases hl : i < n
  ·simp [brw, hl, Sp.upd, show ¬ (i : Int) = t by omega]
  ·simp [brw, hl]
section
variable {w w' : World} {e : TypeId} {s : Sl} {n : Nat} {V : Int → Bool}
theorem brw_get (h : Rws w e 1 s (brw n V)) {t : Int} (h0 : 0 ≤ t) (ht : t < n) : ∃ a, At s t 1 a ∧ s.blk a.block ∧ w.cell? a = some (.bool (V t)) := by
 obtain ⟨a, h1, h2, h3⟩ := h.at h0 (by rw [brw_len]; omega)
 refine ⟨a, h1, h3, ?_⟩
 have : (brw n V)[t.toNat]'(by rw [brw_len]; omega) = [Value.bool (V t)] := by
  simp only [brw, List.getElem_map, List.getElem_range]
  rw [show ((t.toNat : Nat) : Int) = t by omega]
 rw [this] at h2
 exact row_cell h2
theorem brw_put (h : Rws w e 1 s (brw n V)) {t : Int} (h0 : 0 ≤ t) (ht : t < n) : ∃ a, At s t 1 a ∧ s.blk a.block ∧ CanW w a ∧ ∀ b, Rws (w.setCell a (.bool b)) e 1 s (brw n (Sp.upd V t b)) ∧ Ext s.blk w (w.setCell a (.bool b)) := by
 have hset : ∀ b : Bool, ∃ a, At s t 1 a ∧ (∀ j, j < 1 → CanW w (a.add j)) ∧ ∀ w', w' = storeRow w a [Value.bool b] → Rws w' e 1 s ((brw n V).set t.toNat [.bool b]) ∧ Ext s.blk w w' := fun b => h.set (i := t.toNat) (by rw [brw_len]; omega) rfl (by omega)
 obtain ⟨a, hat, hw, _⟩ := hset true
 obtain ⟨a', h1, _, hblk⟩ := h.at h0 (by rw [brw_len]; omega)
 have same : ∀ {x : Addr}, At s t 1 x → x = a := fun hx => by
  obtain ⟨_, _, b1, hb1, rfl⟩ := hx
  obtain ⟨_, _, b2, hb2, rfl⟩ := hat
  rw [hb1] at hb2; cases hb2; rfl
 have h00 : a.add 0 = a := by simp [Addr.add]
 refine ⟨a, hat, ?_, by have := hw 0 (by omega); rwa [h00] at this, fun b => ?_⟩
 ·have := same h1; subst this; exact hblk
 ·obtain ⟨x, hx, _, hx2⟩ := hset b
  have := same hx; subst this
  have hst : storeRow w x [Value.bool b] = w.setCell x (.bool b) := by show w.setCell (x.add 0) (.bool b) = _; rw [h00]
  obtain ⟨r1, r2⟩ := hx2 _ rfl
  rw [hst] at r1 r2
  rw [brw_set, show ((t.toNat : Nat) : Int) = t by omega] at r1
  exact ⟨r1, r2⟩
end
theorem PoolR.at7 {w : World} {q : Addr} {L : Sp.Pool} {FR : NP} (h : PoolR w q L FR) {t : Int} (ht : Sp.inP L t = true) (hok : Sp.Ok L) : ∃ v, w.cell? q = some (Sl.v v) ∧ ∃ a, At v (IntKind.i64.wrap (t - 1)) 7 a ∧ w.cell? (a.add 5) = some (.int .i64 (Sp.nodeOf L t).a) ∧ w.cell? (a.add 6) = some (.int .i64 (Sp.nodeOf L t).b) := by
 obtain ⟨s1, s2, s3, h, _⟩ := h
 obtain ⟨i, hi, rfl⟩ := Sp.inP_at ht
 have := hok.few
 obtain ⟨a, h1, h2⟩ := h.r1.nth hi
 rw [IntWalk.i64_in _ (by omega), show (i : Int) + 1 - 1 = i by omega]
 have hn := Sp.nodeOf_lt hi
 have e0 : rnode L[i] = nrow (Sp.nodeOf L ((i : Int) + 1)) := by rw [hn]; rfl
 rw [e0] at h2
 exact ⟨s1, h.box.cell0, a, h1, h2 5 (by simp [nrow]), h2 6 (by simp [nrow])⟩
end Go.Proofs
end
section
open Go Go.SE
namespace Go.Proofs
attribute [local irreducible] Calls
structure K8S (w : World) (x q : Addr) (G : List Int) (sg : Sl) : Prop where
 box : Box w x [.pointer (some q), sg.v] 59
 giv : Rws w 30 1 sg (tmr G)
 n1 : ¬ sg.blk x.block
def K8At (w : World) (x q : Addr) (G : List Int) (F : NP) : Prop := ∃ sg, K8S w x q G sg ∧ ∀ b, F b ↔ (b = x.block ∨ sg.blk b)
section
variable {w w' : World} {x q : Addr} {G : List Int} {F : NP}
theorem K8At.ext {X : NP} (h : K8At w x q G F) (hE : Ext X w w') (hd : ∀ b, F b → ¬ X b) : K8At w' x q G F := by
 obtain ⟨sg, h, hF⟩ := h
 exact ⟨sg, ⟨h.box.ext hE (hd _ ((hF _).2 (.inl rfl))), h.giv.ext hE (fun b hb => hd _ ((hF _).2 (.inr hb))), h.n1⟩, hF⟩
theorem K8At.pure (h : K8At w x q G F) (hE : Pure w w') : K8At w' x q G F := h.ext hE (fun _ _ h => h)
theorem K8At.lt (h : K8At w x q G F) {b : Nat} (hb : F b) : b < w.heap.size := by
 obtain ⟨sg, h, hF⟩ := h
 rcases (hF b).1 hb with rfl | hb
 ·exact h.box.lt
 ·exact h.giv.lt hb
end
theorem shows_eq (k : Int) : s_V k = Sp.showsK k := rfl
theorem c_r08_seen (x q : Addr) (w0 : World) {L : Sp.Pool} {G : List Int} {F FR : NP} (h : K8At w0 x q G F) (hP : PoolR w0 q L FR) (hW : Sp.Wf L) (hG : ∀ g ∈ G, Sp.inP L g = true) (hGn : G.length ≤ 100000) :
  Calls Tryz.prog 100 #[.pointer (some x)] w0 (fun e w' => ∃ r : Sl, e = .returned r.v ∧ ∃ V, RetO w0 4 1 (brw (L.length + 1) V) r w' ∧ ∀ t, Sp.inP L t = true → (V t = true ↔ Sp.Seen L G t)) := by
 suffices key : ∀ K : Sl → WP, (∀ r w' V, RetO w0 4 1 (brw (L.length + 1) V) r w' → (∀ t, Sp.inP L t = true → (V t = true ↔ Sp.Seen L G t)) → K r w') → m_R (some x) w0 K from
  w_R _ w0 _ (key _ (fun r w' V a b => ⟨V, a, b⟩))
 intro K hK
 unfold m_R
 have hL := hW.ok.few
 obtain ⟨sg, h, hF⟩ := h
 obtain ⟨v2, hv2, hv2l⟩ : ∃ v1 : Sl, w0.cell? q = some v1.v ∧ v1.len = L.length := by
  obtain ⟨s1, s2, s3, h, _⟩ := hP
  exact ⟨s1, h.box.cell0, by rw [h.r1.len]; simp⟩
 refine ⟨x, rfl, _, h.box.cell0, q, rfl, v2, hv2, ?_⟩
 rw [hv2l, IntWalk.i64_in _ (by omega), show ((L.length : Int) + 1) = ((L.length + 1 : Nat) : Int) by omega]
 obtain ⟨w1, hr1, R1, E1⟩ := Rws.make (P := Tryz.prog) slT_bool zero_bool (k := .i64) (k' := .i64) (n := L.length + 1) (by omega) (by simp [maxLen]; omega) w0
 rw [brw_false] at R1
 refine ⟨_, w1, hr1, E1.keptP, ?_⟩
 generalize hsv : (Sl.mk (some ⟨w0.heap.size, 0, none⟩) (L.length + 1) (L.length + 1)) = sv at *
 have hsvb : ∀ b, sv.blk b → b = w0.heap.size := by subst hsv; rintro b ⟨a, ha, rfl⟩; cases ha; rfl
 have nF : ∀ b, sv.blk b → ∀ {Z : NP}, (∀ c, Z c → c < w0.heap.size) → ¬ Z b := fun b hb Z hz hh => by have := hsvb b hb; have := hz b hh; omega
 have hlg : sg.len = G.length := by rw [h.giv.len, tmr_len]
 refine ⟨fun i H w' => ∃ j : Nat, i = j ∧ j ≤ G.length ∧ Pure w0 w' ∧ (∀ b, sv.blk b → ¬ H b) ∧ ∃ V, Rws w' 4 1 sv (brw (L.length + 1) V) ∧ ∀ t, V t = true ↔ t ∈ G.take j, fun i _ => ((G.length : Int) - i).toNat, ⟨0, rfl, Nat.zero_le _, E1, fun b _ h => h, _, R1, by simp⟩, ?_⟩
 rintro _ Hl wl hl ⟨j, rfl, hj, El, hv, V, RV, hV⟩
 have hx := h.box.pure El
 have hg := h.giv.pure El
 unfold m_R_l1
 refine ⟨x, rfl, sg, hx.cell rfl, fun hc => ?_, fun hc => ?_⟩
 ·have hlt := lt_of_dec hlg hc
  obtain ⟨a5, at5, _, c5⟩ := tm_nth hg.lst hlt
  have htk : G.take (j + 1) = G.take j ++ [G[j]] := List.take_succ_eq_append_getElem hlt
  have hgi := Sp.inP_iff.1 (hG _ (List.getElem_mem hlt))
  obtain ⟨a6, at6, hb6, cw6, hput⟩ := brw_put RV (t := G[j]) (by omega) (by omega)
  refine ⟨x, rfl, sg, hx.cell rfl, a5, at5, _, c5, a6, at6, cw6, hv _ hb6, ?_⟩
  rintro _ rfl
  obtain ⟨R2, E2⟩ := hput true
  rw [wrap_succ hlt (by omega)]
  refine ⟨⟨j + 1, rfl, hlt, El.trans' E2 (fun i hi hb => by have := hsvb i hb; omega), hv, _, R2, fun t => ?_⟩, lt_dec hlt⟩
  rw [htk, List.mem_append, List.mem_singleton]
  simp only [Sp.upd]
  split
  ·rename_i e; simp [e]
  ·rename_i e; rw [hV]; exact ⟨.inl, fun h => h.elim id (fun h => absurd h e)⟩
 ·have hge := eq_of_dec hlg hj hc
  subst hge
  rw [List.take_length] at hV
  obtain ⟨v7, hv7, hv7l⟩ : ∃ v1 : Sl, wl.cell? q = some v1.v ∧ v1.len = L.length := by
   obtain ⟨s1, s2, s3, h, _⟩ := hP.pure El
   exact ⟨s1, h.box.cell0, by rw [h.r1.len]; simp⟩
  refine ⟨x, rfl, _, hx.cell0, q, rfl, v7, hv7, ?_⟩
  rw [hv7l]
  refine ⟨fun i H w' => ∃ j : Nat, i = (L.length : Int) - j ∧ j ≤ L.length ∧ Pure w0 w' ∧ (∀ b, sv.blk b → ¬ H b) ∧ ∃ V, Rws w' 4 1 sv (brw (L.length + 1) V) ∧ (∀ t, V t = true → Sp.Seen L G t) ∧ (∀ g ∈ G, V g = true) ∧ ∀ u, i < u → u ≤ L.length → V u = true → ∀ r y, Sp.Arises L r u y → V y = true, fun i _ => i.toNat,
   ⟨0, by simp, Nat.zero_le _, El, hv, V, RV, fun t ht => .given ((hV t).1 ht), fun g hg => (hV g).2 hg, fun u h1 h2 => by omega⟩, ?_⟩
  rintro _ Hm wm hm ⟨j, rfl, hj, Em, hvm, V, RV, h1, h2, h3⟩
  unfold m_R_l2
  refine ⟨fun hc => ?_, fun hc => ?_⟩
  ·have hc := of_decide_eq_true hc
   have hin : Sp.inP L ((L.length : Int) - j) = true := Sp.inP_iff.2 ⟨by omega, by omega⟩
   have hwr : IntKind.i64.wrap (((L.length : Int) - j) - 1) = (L.length : Int) - ((j + 1 : Nat) : Int) := by rw [IntWalk.i64_in _ (by omega)]; omega
   generalize ht : (L.length : Int) - j = t at *
   refine ⟨x, rfl, _, (h.box.pure Em).cell0, ?_⟩
   refine (c_ref05_Node q t wm (hP.pure Em) hW.ok).mono ?_
   rintro _ w3 ⟨nk, nf, nt, nu, nx, na, nb, ok, rfl, ⟨hn, _⟩, E3⟩
   refine ⟨_, _, _, _, _, _, _, _, rfl, E3.keptP, ?_⟩
   have hk1 : (Sp.nodeOf L t).kind = nk := by rw [← hn]
   have ha : (Sp.nodeOf L t).a = na := by rw [← hn]
   have hb : (Sp.nodeOf L t).b = nb := by rw [← hn]
   obtain ⟨a12, at12, _, _⟩ := brw_get (RV.pure E3) (t := t) (by omega) (by omega)
   refine ⟨a12, at12, ?_⟩
   intro H1 w5 hs5
   have hs3 : Hst w0 Hm w3 Hm w3 := hm.again E3.keptP
   have O5 : Own H1 w5 4 1 sv (brw (L.length + 1) V) := (Own.hst ⟨RV.pure E3, hvm⟩ hs5)
   have E5 := (Em.trans E3).hst hs5
   obtain ⟨a12', at12', _, c12⟩ := brw_get O5.rows (t := t) (by omega) (by omega)
   have : a12' = a12 := by
    obtain ⟨_, _, b1, hb1, rfl⟩ := at12
    obtain ⟨_, _, b2, hb2, rfl⟩ := at12'
    rw [hb1] at hb2; cases hb2; rfl
   subst this
   refine ⟨_, c12, ?_⟩
   intro H3 w11 hs11
   have O11 := O5.hst hs11
   have E11 := E5.hst hs11
   unfold m_R_j3
   rw [shows_eq]
   have hmu : ∀ y : Int, y = (L.length : Int) - ((j + 1 : Nat) : Int) → y.toNat < t.toNat := fun y e => by omega
   refine ⟨fun hx1 => ?_, fun hx1 => ?_⟩
   ·rw [Bool.and_eq_true, Bool.or_eq_true] at hx1
    obtain ⟨hvt, hkk⟩ := hx1
    have hsn := h1 t hvt
    have hna : Sp.inP L na = true ∧ na < t ∧ Sp.Seen L G na := by
     rcases hkk with hk | hk
     ·have hk4 : nk = 4 := by simpa using hk
      have := (Sp.kids4 hW hin (by rw [hk1]; exact hk4)).1
      rw [ha] at this
      exact ⟨this.1, this.2, .from hsn (.inl ⟨rfl, by rw [hk1]; exact hk4, ha⟩)⟩
     ·have := Sp.kids7 hW hin (by rw [hk1]; exact hk)
      rw [ha] at this
      exact ⟨this.1, this.2, .from hsn (.inr (.inr ⟨rfl, by rw [hk1]; exact hk, ha⟩))⟩
    have hna1 := Sp.inP_iff.1 hna.1
    obtain ⟨a10, at10, hb10, cw10, hput⟩ := brw_put O11.rows (t := na) (by omega) (by omega)
    refine ⟨a10, at10, cw10, O11.vis _ hb10, ?_⟩
    rintro _ rfl
    obtain ⟨R6, X6⟩ := hput true
    have E6 : Pure w0 (w11.setCell a10 (.bool true)) := E11.trans' X6 (fun i hi hb => by have := hsvb i hb; omega)
    generalize w11.setCell a10 (.bool true) = w6 at *
    refine ⟨fun hk => ?_, fun hk => ?_⟩
    ·have hk4 : nk = 4 := by simpa using hk
     have hnb := (Sp.kids4 hW hin (by rw [hk1]; exact hk4)).2
     rw [hb] at hnb
     have hnb1 := Sp.inP_iff.1 hnb.1
     obtain ⟨a11, at11, hb11, cw11, hput⟩ := brw_put R6 (t := nb) (by omega) (by omega)
     refine ⟨a11, at11, cw11, O11.vis _ hb11, ?_⟩
     rintro _ rfl
     obtain ⟨R7, X7⟩ := hput true
     have E7 : Pure w0 (w6.setCell a11 (.bool true)) := E6.trans' X7 (fun i hi hb => by have := hsvb i hb; omega)
     refine ⟨⟨j + 1, hwr, by omega, E7, O11.vis, _, R7, fun y hy => ?_, fun g hg => ?_, fun u hu1 hu2 hu3 r y hay => ?_⟩, hmu _ hwr⟩
     ·simp only [Sp.upd] at hy
      split at hy
      ·rename_i e; rw [e]; exact .from hsn (.inr (.inl ⟨rfl, by rw [hk1]; exact hk4, hb⟩))
      ·split at hy
       ·rename_i e; rw [e]; exact hna.2.2
       ·exact h1 y hy
     ·simp only [Sp.upd]; split
      ·rfl
      ·split
       ·rfl
       ·exact h2 g hg
     ·rw [hwr] at hu1
      have hc3 : ∀ y, V y = true → Sp.upd (Sp.upd V na true) nb true y = true := fun y hy => by simp only [Sp.upd]; split <;> (try split) <;> simp_all
      by_cases hut : u = t
      ·subst hut
       rcases hay with ⟨_, _, e⟩ | ⟨_, _, e⟩ | ⟨_, hk7, _⟩
       ·rw [← e, ha]; simp only [Sp.upd]; split <;> simp
       ·rw [← e, hb]; simp [Sp.upd]
       ·rw [hk1, hk4] at hk7; cases hk7
      ·simp only [Sp.upd] at hu3
       rw [if_neg (by omega), if_neg (by omega)] at hu3
       exact hc3 y (h3 u (by omega) hu2 hu3 r y hay)
    ·have hk4 : ¬ nk = 4 := by simpa using hk
     refine ⟨⟨j + 1, hwr, by omega, E6, O11.vis, _, R6, fun y hy => ?_, fun g hg => ?_, fun u hu1 hu2 hu3 r y hay => ?_⟩, hmu _ hwr⟩
     ·simp only [Sp.upd] at hy
      split at hy
      ·rename_i e; rw [e]; exact hna.2.2
      ·exact h1 y hy
     ·simp only [Sp.upd]; split
      ·rfl
      ·exact h2 g hg
     ·rw [hwr] at hu1
      by_cases hut : u = t
      ·subst hut
       rcases hay with ⟨_, hk', _⟩ | ⟨_, hk', _⟩ | ⟨_, _, e⟩
       ·rw [hk1] at hk'; exact absurd hk' hk4
       ·rw [hk1] at hk'; exact absurd hk' hk4
       ·rw [← e, ha]; simp [Sp.upd]
      ·simp only [Sp.upd] at hu3
       rw [if_neg (by omega)] at hu3
       have := h3 u (by omega) hu2 hu3 r y hay
       simp only [Sp.upd]; split
       ·rfl
       ·exact this
   ·refine ⟨⟨j + 1, hwr, by omega, E11, O11.vis, V, O11.rows, h1, h2, fun u hu1 hu2 hu3 r y hay => ?_⟩, hmu _ hwr⟩
    rw [hwr] at hu1
    by_cases hut : u = t
    ·subst hut
     rw [hu3] at hx1
     simp only [Bool.true_and, Bool.or_eq_false_iff] at hx1
     rcases hay with ⟨_, hk', _⟩ | ⟨_, hk', _⟩ | ⟨_, hk', _⟩
     ·rw [hk1] at hk'; rw [hk'] at hx1; simp at hx1
     ·rw [hk1] at hk'; rw [hk'] at hx1; simp at hx1
     ·rw [hk1] at hk'; rw [hk'] at hx1; simp at hx1
    ·exact h3 u (by omega) hu2 hu3 r y hay
  ·have hc := of_decide_eq_false hc
   have hj : (L.length : Int) - j = 0 := by omega
   refine hK sv wm V ⟨RV, fun b hb => by have := hsvb b hb; omega, Em⟩ (fun t ht => ⟨h1 t, fun hs => ?_⟩)
   have : ∀ t, Sp.Seen L G t → Sp.inP L t = true ∧ V t = true := by
    intro t hs
    induction hs with
    | given hg => exact ⟨hG _ hg, h2 _ hg⟩
    | «from» _ hay ih =>
     have hu := Sp.inP_iff.1 ih.1
     exact ⟨(hay.inp hW ih.1).1, h3 _ (by omega) (by omega) ih.2 _ _ hay⟩
   exact (this t hs).2
theorem c_r08_key (x q : Addr) (name : Int) (si : Sl) (w0 : World) {L : Sp.Pool} {G : List Int} {F FR : NP} {V : Int → Bool} (h : K8At w0 x q G F) (hP : PoolR w0 q L FR) (hok : Sp.Ok L) (hV : Rws w0 4 1 si (brw (L.length + 1) V)) :
  Calls Tryz.prog 101 #[.pointer (some x), si.v, .int .i64 name] w0 (fun e w' => ∃ r : Bool, e = .returned (.bool r) ∧ (r = ((Sp.keyOf L name).2 && V (Sp.keyOf L name).1) ∧ Pure w0 w')) := by
 refine w_J3 _ _ _ w0 (fun r w' => r = ((Sp.keyOf L name).2 && V (Sp.keyOf L name).1) ∧ Pure w0 w') ?_
 unfold m_J3
 obtain ⟨sg, h, hF⟩ := h
 refine ⟨x, rfl, _, h.box.cell0, ?_⟩
 refine (c_ref05_Has q (Sp.keyNode name) w0 hP hok).mono ?_
 rintro _ w1 ⟨r1, r2, rfl, hr, E1⟩
 have hke : Sp.keyOf L name = (r1, r2) := by
  unfold Sp.keyOf
  cases hf : Sp.find L (Sp.keyNode name) with
  | none => rw [hf] at hr; simp only at hr; rw [hr.1, hr.2]
  | some i => rw [hf] at hr; simp only at hr; rw [hr.1, hr.2]
 rw [hke]
 refine ⟨_, _, rfl, fun h => ?_, fun h => ⟨by simp [h], E1⟩⟩
 have hko := Sp.keyOf_ok (L := L) (n := name) (by rw [hke]; exact h)
 rw [hke] at hko
 have hin := Sp.inP_iff.1 hko.1
 simp only at hin
 obtain ⟨a, hat, _, hc⟩ := brw_get (hV.pure E1) (t := r1) (by omega) (by omega)
 exact ⟨a, hat, _, hc, by simp [h], E1⟩
end Go.Proofs
end
