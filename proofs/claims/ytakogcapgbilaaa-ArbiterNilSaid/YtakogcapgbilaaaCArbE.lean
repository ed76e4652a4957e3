/- Contracts: escrow/arbiter, Faults, Texts. -/
import Derived.Test.YtakogcapgbilaaaCArbK
import Derived.Test.YtakogcapgbilaaaCArbD
open Go Go.SE
namespace Go.Proofs
attribute [local irreducible] Calls

/-- The faults so far, and the map of those that are there. -/
structure FltsAt (w0 : World) (H : Nat → Prop) (w : World) (m : Nat) (s : Sl) (out : List Sp.Fault) : Prop where
  pure : Pure w0 w
  map : CntMap w m ((out.map Sp.Fault.key).map fval) out.length
  rows : Own H w 134 5 s (out.map frow)
  own : ∀ b, s.blk b → w0.heap.size ≤ b
  mown : w0.heap.size ≤ m
  mvis : ¬ H m
  ne : ¬ s.blk m
theorem FltsAt.hst {w0 w w1 : World} {H H1 : Nat → Prop} {m : Nat} {s : Sl} {out : List Sp.Fault} (h : FltsAt w0 H w m s out) (hs : Hst w0 H w H1 w1) : FltsAt w0 H1 w1 m s out :=
  have hm : ¬ H1 m := hs.disj (G := (· = m)) (fun b e => by subst e; exact ⟨h.map.lt, h.mvis⟩) m rfl
  ⟨h.pure.hst hs, h.map.ext hs.ext hm, h.rows.hst hs, h.own, h.mown, hm, h.ne⟩
theorem faults_are {fs : List Sp.Fault} : ∀ k ∈ fs.map fval, IsFault k := by
  intro k hk; obtain ⟨x, _, rfl⟩ := List.mem_map.1 hk; exact ⟨x, rfl⟩
theorem mem_fval {fs : List Sp.Fault} {f : Sp.Fault} : fval f ∈ fs.map fval ↔ f ∈ fs := by
  constructor
  · intro h; obtain ⟨x, hx, he⟩ := List.mem_map.1 h; rw [fval_inj] at he; subst he; exact hx
  · intro h; exact List.mem_map.2 ⟨f, h, rfl⟩

theorem c_arb_Faults (pv : Option Addr) (sh : Sl) (ls : List Sp.Letter) (w0 : World) (hR : Reads pv sh ls w0) (hn : ls.length ≤ 1000) :
    Calls Try.prog 22 #[.pointer pv, sh.v] w0 (fun e w' => ∃ s : Sl, e = .returned s.v ∧ RetS w0 134 5 ((Sp.faults ls).map frow) s w') := by
  suffices key : ∀ K : Sl → World → Prop, (∀ s w', RetS w0 134 5 ((Sp.faults ls).map frow) s w' → K s w') → m_arbiter_Faults pv sh w0 K from
    w_arbiter_Faults _ _ w0 _ (key _ (fun _ _ h => h))
  intro K hK
  unfold m_arbiter_Faults
  intro m w1 h1
  have E1 : Pure w0 w1 := Ext.new h1
  have om := New.own (Ext.refl w0) h1
  refine (hR w1 E1).mono ?_
  rintro _ w2 ⟨r1, rfl, hr1⟩
  have hm1 : CntMap w1 m.block ((([] : List Sp.Fault).map Sp.Fault.key).map fval) 0 := CntMap.of_new h1 _
  have O1 := hr1.own' ((Hst.start w0).pure E1)
  have hlen : r1.len = ls.length := by rw [O1.len]; simp
  have hrm : ∀ b, r1.blk b → b ≠ m.block := fun b hb e => by have := hr1.own b hb; have := hm1.lt; omega
  have hnil : ∀ b, Sl.nil.blk b → False := fun b hb => by obtain ⟨a, h, _⟩ := hb; cases h
  refine ⟨r1, rfl, hr1.kept, fun s i H w' => ∃ j : Nat, i = j ∧ j ≤ ls.length ∧ ∃ out, out.length ≤ j * 1000 ∧ FltsAt w0 H w' m.block s out ∧ Own H w' 132 5 r1 (ls.map lrow) ∧ (∀ b, s.blk b → ¬ r1.blk b) ∧ Sp.faults ls = Sp.faultsFrom j (ls.drop j) out, fun _ i _ => ((ls.length : Int) - i).toNat,
    ⟨0, rfl, Nat.zero_le _, [], by simp, ⟨E1.trans hr1.pure, hm1.ext hr1.pure id, Own.nil _ _, fun b h => (hnil b h).elim, om, id, fun h => hnil _ h⟩, O1, fun b h => (hnil b h).elim, rfl⟩, ?_⟩
  rintro s _ Hl wl hl ⟨j, rfl, hj, out, hol, hA, Ol, hsr, heq⟩
  unfold m_arbiter_Faults_l1
  refine ⟨fun h => ?_, fun h => ?_⟩
  · have hlt := lt_of_dec hlen h
    have heq0 := heq
    rw [List.drop_eq_getElem_cons hlt, Sp.faultsFrom] at heq
    have hj1000 : j < 1000 := by omega
    rw [wrap_succ hlt (by omega)]
    refine ⟨fun s k H w' => ∃ q : Nat, k = q ∧ j + 1 ≤ q ∧ q ≤ ls.length ∧ ∃ out', out'.length ≤ out.length + (q - (j + 1)) ∧ FltsAt w0 H w' m.block s out' ∧ Own H w' 132 5 r1 (ls.map lrow) ∧ (∀ b, s.blk b → ¬ r1.blk b) ∧ Sp.faultsRow j ls[j] ((j : Int) + 1) (ls.drop (j + 1)) out = Sp.faultsRow j ls[j] q (ls.drop q) out', fun _ k _ => ((ls.length : Int) - k).toNat,
      ⟨j + 1, by omega, Nat.le_refl _, hlt, out, by omega, hA, Ol, hsr, by simp⟩, ?_⟩
    rintro s2 _ Hm wm hm ⟨q, rfl, hq1, hq, out', hol', hAm, Om, hsr', heq'⟩
    unfold m_arbiter_Faults_l2
    refine ⟨fun h => ?_, fun h => ?_⟩
    · have hlt2 := lt_of_dec hlen h
      rw [List.drop_eq_getElem_cons hlt2, Sp.faultsRow] at heq'
      obtain ⟨a1, hat1, hrow1⟩ := Om.nth hlt
      obtain ⟨a2, hat2, hrow2⟩ := Om.nth hlt2
      have blk : ∀ (i : Int) a, At r1 i 5 a → ¬ Hm a.block := by
        rintro i a ⟨_, _, b, hb, rfl⟩
        rw [add_block]
        exact Om.vis _ ⟨b, hb, rfl⟩
      refine ⟨a1, hat1, _, _, _, _, _, hrow1, blk _ _ hat1, a2, hat2, _, _, _, _, _, hrow2, blk _ _ hat2, ?_⟩
      generalize hf : Sp.fault ls[j] ls[q] = f at *
      have hfk : f.a = 0 ∧ f.b = 0 := by rw [← hf]; exact Sp.fault_key _ _
      have hkey : f.key = f := by obtain ⟨f1, f2, f3, f4, f5⟩ := f; simp at hfk; simp [Sp.Fault.key, hfk.1, hfk.2]
      have hsf : s_arbiter_fault ls[j].kind ls[j].frm ls[j].c ls[j].text ls[j].fake ls[q].kind ls[q].frm ls[q].c ls[q].text ls[q].fake = (f.who, f.c, f.kind, f.a, f.b) := by
        unfold s_arbiter_fault; rw [hf]
      rw [hsf]
      have hjq : j * 1000 ≤ 999 * 1000 := Nat.mul_le_mul_right _ (by omega)
      -- nothing new
      have skip : ∀ (H : Nat → Prop) (w : World), FltsAt w0 H w m.block s2 out' → Own H w 132 5 r1 (ls.map lrow) → (f.kind = 0 ∨ f ∈ out'.map Sp.Fault.key) →
          (∃ q' : Nat, IntKind.i64.wrap ((q : Int) + 1) = q' ∧ j + 1 ≤ q' ∧ q' ≤ ls.length ∧ ∃ out', out'.length ≤ out.length + (q' - (j + 1)) ∧ FltsAt w0 H w m.block s2 out' ∧ Own H w 132 5 r1 (ls.map lrow) ∧ (∀ b, s2.blk b → ¬ r1.blk b) ∧ Sp.faultsRow j ls[j] ((j : Int) + 1) (ls.drop (j + 1)) out = Sp.faultsRow j ls[j] q' (ls.drop q') out') ∧ ((ls.length : Int) - IntKind.i64.wrap ((q : Int) + 1)).toNat < ((ls.length : Int) - (q : Int)).toNat := by
        intro H w hF hO hc
        have hadd : Sp.addFault out' j q f = out' := by unfold Sp.addFault; rw [if_pos hc]
        rw [hadd] at heq'
        rw [wrap_succ hlt2 (by omega)]
        exact ⟨⟨q + 1, rfl, by omega, hlt2, out', by omega, hF, hO, hsr', heq'⟩, lt_dec hlt2⟩
      have J3 : ∀ (x2 : Bool) (H : Nat → Prop) (w : World), Hst w0 H w H w → FltsAt w0 H w m.block s2 out' → Own H w 132 5 r1 (ls.map lrow) → (x2 = true → f.kind = 0 ∨ f ∈ out'.map Sp.Fault.key) → (x2 = false → ¬ (f.kind = 0 ∨ f ∈ out'.map Sp.Fault.key)) →
          m_arbiter_Faults_j3 m j s2 q ls[j].kind ls[j].frm ls[j].c ls[j].text ls[j].fake ls[q].kind ls[q].frm ls[q].c ls[q].text ls[q].fake x2 w0 H w (fun y'0 y'1 H' w' => (∃ q : Nat, y'1 = q ∧ j + 1 ≤ q ∧ q ≤ ls.length ∧ ∃ out', out'.length ≤ out.length + (q - (j + 1)) ∧ FltsAt w0 H' w' m.block y'0 out' ∧ Own H' w' 132 5 r1 (ls.map lrow) ∧ (∀ b, y'0.blk b → ¬ r1.blk b) ∧ Sp.faultsRow j ls[j] ((j : Int) + 1) (ls.drop (j + 1)) out = Sp.faultsRow j ls[j] q (ls.drop q) out') ∧ ((ls.length : Int) - y'1).toNat < ((ls.length : Int) - (q : Int)).toNat) K := by
        intro x2 H w hss hF hO hT hFa
        unfold m_arbiter_Faults_j3
        refine ⟨fun hx => skip H w hF hO (hT hx), fun hx => ?_⟩
        have hno := hFa hx
        rw [hsf]
        have hadd : Sp.addFault out' j q f = out' ++ [{ f with a := j, b := q }] := by unfold Sp.addFault; rw [if_neg hno]
        rw [hadd] at heq'
        obtain ⟨f', hf'⟩ : ∃ f' : Sp.Fault, f' = { f with a := j, b := q } := ⟨_, rfl⟩
        rw [← hf'] at heq'
        have hrow' : frow f' = [.int .i64 f.who, .int .u64 f.c, .int .i64 f.kind, .int .i64 j, .int .i64 q] := by rw [hf']; rfl
        have hnk : fval f ∉ (out'.map Sp.Fault.key).map fval := fun hm => hno (.inr (mem_fval.1 hm))
        obtain ⟨v, w3, z, hv0, hvB, hl0, he0, hl1, hE1, hst⟩ := (hF.map.ext (F := None) (Ext.drew w) id).bump (P := Try.prog) (T := 145) Try.underlying145 keyOK_fault faults_are ⟨f, rfl⟩ (Try.zeroValue3) (by omega)
        have hv : v = 0 := by
          obtain ⟨v', hv', hor⟩ := (hF.map.ext (F := None) (Ext.drew w) id).look (P := Try.prog) (T := 145) Try.underlying145 keyOK_fault faults_are ⟨f, rfl⟩ (Try.zeroValue3)
          rw [hl0] at hv'
          have : v = v' := by simpa using hv'
          rcases hor with ⟨h, _⟩ | ⟨_, h⟩
          · exact absurd h hnk
          · omega
        subst hv
        refine ⟨fun w' => (Instr.lookup 145 (.map (some m.block)) (fval f) false).run Try.prog w' = .ok (.int .i64 0) w', hl0, ?_⟩
        rintro _ rfl
        obtain ⟨w4, ks', hr4, hks, hM4, hE4⟩ := hst (Ext.refl (F := None) w3) id
        have hks : ks' = (out'.map Sp.Fault.key).map fval ++ [fval f] := by
          rcases hks with ⟨h, _⟩ | ⟨_, h⟩
          · exact absurd h hnk
          · exact h
        refine ⟨0, fun w' h' => h', 0, z, w3, he0, hl1, hE1.kept (fun b hb e => hF.mvis (e ▸ hb)), w4, hr4, hE4.kept (fun b hb e => hF.mvis (e ▸ hb)), ?_⟩
        have hE : Ext (· = m.block) w w4 := ((Ext.drew w).trans hE1).trans hE4
        have hsb : ∀ b, s2.blk b → ¬ b = m.block := fun b hb e => hF.ne (e ▸ hb)
        have P4 : Pure w0 w4 := hF.pure.trans' hE (fun i hi e => by subst e; exact absurd hF.mown (by omega))
        intro w5 hs5
        have R5 : Own H w5 134 5 s2 (out'.map frow) := (hF.rows.ext hE hsb).hst hs5
        have O5 : Own H w5 132 5 r1 (ls.map lrow) := (hO.ext hE (fun b hb e => hrm b hb e)).hst hs5
        have M5 := hM4.ext hs5.ext hF.mvis
        have P5 := P4.hst hs5
        intro p8 w6 h6
        have E6 : Pure w5 w6 := Ext.new h6
        have b6 := Box.of_new h6
        have hs6 := hs5.again (E6.keptP (H := H))
        obtain ⟨s', w7, hr7, hO7, hE7, hk7, hb7⟩ := (R5.pure E6).append (P := Try.prog) (ty := 35) (c := 1) slT_fault hs6 (r := frow f') (by rw [hrow']; exact b6.row) rfl rfl (by simp; omega) (by simp [maxLen]; omega)
        refine ⟨s', w7, hr7, hk7, ?_⟩
        rw [wrap_succ hlt2 (by omega)]
        have M6 := M5.ext (F := None) E6 id
        have hs'm : ¬ s'.blk m.block := fun h => (hb7 _ h).elim hF.ne (fun h => by have := M6.lt; omega)
        refine ⟨⟨q + 1, rfl, by omega, hlt2, out' ++ [f'], by simp; omega, ⟨append_own (R5.pure E6) (P5.trans E6) hE7 hF.own, ?_, by simpa using hO7, fun b hb => (hb7 b hb).elim (hF.own b) (fun h => by have := (P5.trans E6).size; omega), hF.mown, hF.mvis, hs'm⟩, (O5.pure E6).ext hE7 (fun b hb hs => hsr' b hs hb), fun b hb hr => (hb7 b hb).elim (fun h => hsr' b h hr) (fun h => by have := O5.rows.lt hr; have := E6.size; omega), heq'⟩, lt_dec hlt2⟩
        have e : ((out' ++ [f']).map Sp.Fault.key).map fval = ks' := by
          rw [hks, List.map_append, List.map_append]
          simp only [List.map_cons, List.map_nil]
          have : Sp.Fault.key f' = f := by rw [hf', ← hkey]; simp [Sp.Fault.key]
          rw [this]
        rw [e]
        have M7 := M6.ext hE7 hF.ne
        simpa using M7
      refine ⟨fun hz => ?_, fun hz => ?_⟩
      · intro H3 w10 hs3
        exact J3 true H3 w10 hs3.here (hAm.hst hs3) (Om.hst hs3) (fun _ => .inl (by simpa using hz)) (fun h => by cases h)
      · intro H3 w10 hs3
        have hA10 := hAm.hst hs3
        obtain ⟨v, hl10, hv⟩ := hA10.map.look (P := Try.prog) (T := 145) Try.underlying145 keyOK_fault faults_are ⟨f, rfl⟩ (Try.zeroValue3)
        have hk0 : f.kind ≠ 0 := by simpa using hz
        refine ⟨v, hl10, J3 _ H3 w10 hs3.here hA10 (Om.hst hs3) (fun h => ?_) (fun h => ?_)⟩
        · have := of_decide_eq_true h
          rcases hv with ⟨h1, _⟩ | ⟨_, h1⟩
          · exact .inr (mem_fval.1 h1)
          · omega
        · have := of_decide_eq_false h
          rintro (h1 | h1)
          · exact hk0 h1
          · rcases hv with ⟨_, h2, _⟩ | ⟨h2, _⟩
            · omega
            · exact h2 (mem_fval.2 h1)
    · have hge := eq_of_dec hlen hq h
      subst hge
      rw [List.drop_length, Sp.faultsRow] at heq'
      rw [heq'] at heq
      rw [wrap_succ hlt (by omega)]
      exact ⟨⟨j + 1, rfl, hlt, out', by rw [Nat.succ_mul]; omega, hAm, Om, hsr', heq⟩, lt_dec hlt⟩
  · have hge := eq_of_dec hlen hj h
    subst hge
    rw [List.drop_length, Sp.faultsFrom] at heq
    exact hK _ _ ⟨by rw [heq]; exact hA.rows.rows, hA.own, hA.pure⟩
end Go.Proofs
