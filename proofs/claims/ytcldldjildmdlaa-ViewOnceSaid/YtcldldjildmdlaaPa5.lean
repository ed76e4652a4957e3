import Derived.Test.YtcldldjildmdlaaPa1
import Derived.Test.YtcldldjildmdlaaPa4
import Derived.Test.YtcldldjildmdlaaPa2
section
open Go Go.SE
namespace Go.Proofs
attribute [local irreducible] Calls
def imk (v : Int) : Value := .int .i64 v
def Turned (f : Sp.Node → Sp.Node) (p : Addr) (who t : Int) (L0 : Sp.Pool) (FP : Nat → Prop) (w0 : World) (r e : Int) (w' : World) : Prop :=
 (Sp.isName who = false ∧ r = 0 ∧ e = 50 ∧ Pure w0 w') ∨ (Sp.isName who = true ∧ Sp.inP L0 t = false ∧ r = 0 ∧ e = 51 ∧ Pure w0 w') ∨
 (Sp.isName who = true ∧ Sp.inP L0 t = true ∧ e = 0 ∧ ∃ L FP', PoolAt w' p L FP' ∧ Ext FP w0 w' ∧ (∀ b, FP' b → FP b ∨ w0.heap.size ≤ b) ∧ Sp.Wf L ∧ (∃ X, L = L0 ++ X) ∧ L.length ≤ L0.length + (Sp.subs L0 t).length ∧ (L = (Sp.turnS f L0 (Sp.subs L0 t)).1 ∧ r = Sp.toF (Sp.turnS f L0 (Sp.subs L0 t)).2 t) ∧ Sp.inP L r = true ∧ Sp.treeOf L r = Sp.mapT f (Sp.treeOf L0 t))
structure TrA (w0 wb : World) (Y : Nat → Prop) (A : World) (p p2 p3 p4 p5 p8 pc : Addr) (m : Nat) (arg : Int) (cf : FuncId) (L : Sp.Pool) (FP FP' : Nat → Prop) (M : List (Int × Int)) : Prop where
 b2 : Box A p2 [.pointer (some p)] 36
 b3 : Box A p3 [.func (.func cf) #[] #[.pointer (some pc)]] 142
 b4 : Box A p4 [.int .i64 0] 32
 b5 : Box A p5 [.int .i64 0] 33
 b8 : Box A p8 [.map (some m)] 146
 mp : IMap imk A m M
 bc : Box A pc [.int .i64 arg] 3
 pool : PoolAt A p L FP'
 ext : Ext FP w0 A
 nf : ∀ b, FP' b → FP b ∨ wb.heap.size ≤ b
 vis : ∀ b, (b = p2.block ∨ b = p3.block ∨ b = p4.block ∨ b = p5.block ∨ b = p8.block ∨ b = m ∨ b = pc.block ∨ FP' b) → ¬ Y b
 le : wb.heap.size ≤ A.heap.size
section
variable {w0 wb A A' : World} {Y Y' : Nat → Prop} {p p2 p3 p4 p5 p8 pc : Addr} {m : Nat} {arg : Int} {cf : FuncId} {L : Sp.Pool} {FP FP' : Nat → Prop} {M : List (Int × Int)}
theorem TrA.hst (h : TrA w0 wb Y A p p2 p3 p4 p5 p8 pc m arg cf L FP FP' M) (hs : Hst w0 Y A Y' A') : TrA w0 wb Y' A' p p2 p3 p4 p5 p8 pc m arg cf L FP FP' M := by
 have hv : ∀ b, (b = p2.block ∨ b = p3.block ∨ b = p4.block ∨ b = p5.block ∨ b = p8.block ∨ b = m ∨ b = pc.block ∨ FP' b) → ¬ Y' b := hs.disj (fun b hb => ⟨by
  rcases hb with rfl | rfl | rfl | rfl | rfl | rfl | rfl | hb
  ·exact h.b2.lt
  ·exact h.b3.lt
  ·exact h.b4.lt
  ·exact h.b5.lt
  ·exact h.b8.lt
  ·exact h.mp.lt
  ·exact h.bc.lt
  ·exact h.pool.lt hb, h.vis b hb⟩)
 have E := hs.ext
 exact ⟨h.b2.ext E (hv _ (by simp)), h.b3.ext E (hv _ (by simp)), h.b4.ext E (hv _ (by simp)), h.b5.ext E (hv _ (by simp)), h.b8.ext E (hv _ (by simp)), h.mp.ext E (hv _ (by simp)), h.bc.ext E (hv _ (by simp)), h.pool.ext E (fun b hb => hv b (by simp [hb])), h.ext.hst hs, h.nf, hv, Nat.le_trans h.le E.size⟩
theorem TrA.pure (h : TrA w0 wb Y A p p2 p3 p4 p5 p8 pc m arg cf L FP FP' M) (E : Pure A A') : TrA w0 wb Y A' p p2 p3 p4 p5 p8 pc m arg cf L FP FP' M :=
 ⟨h.b2.pure E, h.b3.pure E, h.b4.pure E, h.b5.pure E, h.b8.pure E, h.mp.pure E, h.bc.pure E, h.pool.pure E, h.ext.thenPure E, h.nf, h.vis, Nat.le_trans h.le E.size⟩
end
theorem zero_term (w : World) : (zeroValue 32).run Try.prog w = .ok (.int .i64 0) w := Try.zeroValue32 w
theorem imap_get {w : World} {m : Nat} {M : List (Int × Int)} (h : IMap imk w m M) (a : Int) : (Instr.lookup 146 (.map (some m)) (.int .i64 a) false).run Try.prog w = .ok (.int .i64 (Sp.toF M a)) w := by
 unfold Sp.toF
 rcases h.get Try.underlying146 Try.underlying32 (zero_term w) a false with ⟨hn, hl⟩ | ⟨v, hv, hl⟩
 ·rw [hn]; exact hl
 ·rw [hv]; exact hl
theorem c_turned (f : Sp.Node → Sp.Node) (hf : Sp.Turn f) (cf : FuncId) (hcf : ∀ args w, (callFunc cf args).run Try.prog w = .ok (.enter cf args) w) (p pc : Addr) (who t : Int) (w0 : World) {L0 : Sp.Pool} {FP : Nat → Prop}
  (hturn : ∀ (w : World) (n : Sp.Node), Box w pc [.int .i64 who] 3 → Calls Try.prog cf #[.agg #[.int .i64 n.kind, .int .i64 n.frm, .int .i64 n.to, .int .u64 n.num, .string n.text, .int .i64 n.a, .int .i64 n.b], .pointer (some pc)] w (fun e w' => ∃ (k r t' u : Int) (x : ByteArray) (a b : Int), e = .returned (.agg #[.int .i64 k, .int .i64 r, .int .i64 t', .int .u64 u, .string x, .int .i64 a, .int .i64 b]) ∧ ((⟨k, r, t', u, x, a, b⟩ : Sp.Node) = f n ∧ Pure w w')))
  (hW : Sp.Wf L0) (hP : PoolAt w0 p L0 FP) (hc : Box w0 pc [.int .i64 who] 3) (hpc : ¬ FP pc.block) (hroom : 2 * L0.length ≤ 65000) :
  Calls Try.prog 92 #[.pointer (some p), .int .i64 who, .int .i64 t, .func (.func cf) #[] #[.pointer (some pc)]] w0 (fun e w' => ∃ r1 r2 : Int, e = .returned (.tuple #[.int .i64 r1, .int .i64 r2]) ∧ Turned f p who t L0 FP w0 r1 r2 w') := by
 suffices key : ∀ K : Int → Int → World → Prop, (∀ r1 r2 w', Turned f p who t L0 FP w0 r1 r2 w' → K r1 r2 w') → m_view_turned (some p) who t (.func (.func cf) #[] #[.pointer (some pc)]) w0 K from
  w_view_turned _ _ _ _ w0 _ (key _ (fun _ _ _ h => h))
 intro K hK
 unfold m_view_turned
 intro p2 w1 h1
 refine ⟨rfl, ?_⟩
 intro p3 w2 h2 p4 w3 h3 p5 w4 h4
 have E1 : Pure w0 w1 := Ext.new h1
 have E2 : Pure w1 w2 := Ext.new h2
 have E3 : Pure w2 w3 := Ext.new h3
 have E4 : Pure w3 w4 := Ext.new h4
 have s1 := h1.at_size; have s2 := h2.at_size; have s3 := h3.at_size; have s4 := h4.at_size
 have B2 := (((Box.of_new h1).pure E2).pure E3).pure E4
 have B3 := ((Box.of_new h2).pure E3).pure E4
 have B4 := (Box.of_new h3).pure E4
 have B5 := Box.of_new h4
 have l1 := (Box.of_new h1).lt; have l2 := (Box.of_new h2).lt; have l3 := (Box.of_new h3).lt; have l4 := B5.lt
 have z1 := E1.size; have z2 := E2.size; have z3 := E3.size; have z4 := E4.size
 have E04 : Pure w0 w4 := ((E1.trans E2).trans E3).trans E4
 have hcl := hc.lt
 have out : ∀ (H : Nat → Prop) (w : World) (e : Int), Pure w0 w → Box w p4 [.int .i64 0] 32 → Box w p5 [.int .i64 0] 33 → ¬ H p4.block → ¬ H p5.block → (∀ w', Pure w0 w' → K 0 e w') →
   CanW w p4 ∧ ¬ H p4.block ∧ ∀ w5 : World, w5 = w.setCell p4 (.int .i64 0) → CanW w5 p5 ∧ ¬ H p5.block ∧ ∀ w6 : World, w6 = w5.setCell p5 (.int .i64 e) → ∃ q1 : Int, w6.cell? p4 = some (.int .i64 q1) ∧ ∃ q2 : Int, w6.cell? p5 = some (.int .i64 q2) ∧ K q1 q2 w6 := by
  intro H w e E hb4 hb5 n4 n5 hk
  refine ⟨hb4.canW0 (by simp), n4, fun w5 h5 => ?_⟩
  have E5 : Ext (· = p4.block) w w5 := by rw [h5]; exact Ext.setCell p4 _
  have b4 : Box w5 p4 [.int .i64 0] 32 := by rw [h5]; exact hb4.set0
  have b5 := hb5.ext E5 (by omega)
  refine ⟨b5.canW0 (by simp), n5, fun w6 h6 => ?_⟩
  have E6 : Ext (· = p5.block) w5 w6 := by rw [h6]; exact Ext.setCell p5 _
  have b5' : Box w6 p5 [.int .i64 e] 33 := by rw [h6]; exact b5.set0
  exact ⟨0, (b4.ext E6 (by omega)).cell0, e, b5'.cell0, hk w6 ((E.own (by omega) E5).own (by omega) E6)⟩
 refine ⟨some p, B2.cell0, Br.f rfl ?_⟩
 refine ⟨fun hc1 w7 hs7 => ?_, fun hc1 w7 hs7 => ?_⟩
 ·have hn : Sp.isName who = false := by unfold Sp.isName; simp at hc1 ⊢; omega
  have E7 : Pure w4 w7 := hs7.ext
  exact out None w7 50 (E04.trans E7) (B4.pure E7) (B5.pure E7) (fun h => h) (fun h => h) (fun w' h => hK _ _ _ (.inl ⟨hn, rfl, rfl, h⟩))
 have hn : Sp.isName who = true := by unfold Sp.isName; simpa using hc1
 have E7 : Pure w4 w7 := hs7.ext
 have E07 := E04.trans E7
 refine ⟨some p, (B2.pure E7).cell0, ?_⟩
 refine (c_Node p t w7 (hP.pure E07) hW.ok).mono ?_
 rintro _ w10 ⟨k, r, t', u, x, a, b, r1, rfl, ⟨_, rfl⟩, E10⟩
 refine ⟨_, _, _, _, _, _, _, _, rfl, E10.keptP, ?_⟩
 have E710 : Pure w4 w10 := E7.trans E10
 have E010 := E07.trans E10
 have z10 := E710.size
 have hold : ∀ {H : Nat → Prop} {w : World}, Hst w0 None w10 H w → ∀ b, b < w10.heap.size → ¬ H b := fun hs b hb hh => (hs.new b hh).elim id (fun h => by omega)
 have up : ∀ {H : Nat → Prop} {w : World} {T : TypeId} {c : Addr} {vs : List Value}, Hst w0 None w10 H w → Box w4 c vs T → Box w c vs T := fun hs h => (h.pure E710).ext hs.ext (hold hs _ (by have := h.lt; omega))
 refine ⟨fun hc2 H1 w12 hs12 => ?_, fun hc2 H1 w12 hs12 => ?_⟩
 ·have hin : Sp.inP L0 t = false := by simpa using hc2
  have E12 : Pure w0 w12 := E010.hst hs12
  exact out H1 w12 51 E12 (up hs12 B4) (up hs12 B5) (hold hs12 _ (by omega)) (hold hs12 _ (by omega)) (fun w' h => hK _ _ _ (.inr (.inl ⟨hn, hin, rfl, rfl, h⟩)))
 have hin : Sp.inP L0 t = true := by simpa using hc2
 have E12 : Pure w0 w12 := E010.hst hs12
 have z12 := hs12.ext.size
 have hlt12 := hs12.lt
 intro p7 w15 h15 p8 w16 h16
 have E15 : Pure w12 w15 := Ext.new h15
 have E16 : Pure w15 w16 := Ext.new h16
 have s15 := h15.at_size; have s16 := h16.at_size
 have M7 := IMap.of_new (f := imk) h15
 have B8 := Box.of_new h16
 have l15 := M7.lt; have l16 := B8.lt; have z15 := E15.size; have z16 := E16.size
 refine ⟨B8.canW0 (by simp), fun hh => by have := hlt12 _ hh; omega, fun w17 h17 => ?_⟩
 have E17 : Ext (· = p8.block) w16 w17 := by rw [h17]; exact Ext.setCell p8 _
 have B8' : Box w17 p8 [.map (some p7.block)] 146 := by rw [h17]; exact B8.set0
 have up17 : ∀ {T : TypeId} {c : Addr} {vs : List Value}, Box w4 c vs T → Box w17 c vs T := fun h => (((up hs12 h).pure E15).pure E16).ext E17 (by have := h.lt; omega)
 have E017 : Pure w0 w17 := ((E12.trans E15).trans E16).own (by omega) E17
 have z17 := E17.size
 refine ⟨some p, (up17 B2).cell0, ?_⟩
 refine (c_Subs p t w17).mono ?_
 rintro _ w18 ⟨_, rfl, q2, q3, rfl, Bq2, Bq3, E18⟩
 refine ⟨_, rfl, E18.keptP, _, _, rfl, Try.call85, ?_⟩
 have E018 : Pure w0 w18 := E017.trans E18
 have z18 := E18.size
 have z018 := E018.size
 refine ⟨_, _, it_Subs hW (hP.pure E018) Bq2 Bq3, ?_⟩
 have hsub := fun u => Sp.subs_mem hW (t := t) (x := u)
 have hahead := Sp.subs_ahead hW t
 have hnd := Sp.subs_nd hW t
 obtain ⟨pl, hpl⟩ := Sp.subs_last hin
 have hfew := Sp.subs_few hW t
 generalize hxs : Sp.subs L0 t = xs at *
 refine ⟨fun pre Y A => ∃ L FP' M, Sp.TurnOk f L0 pre L M ∧ TrA w0 w18 Y A p p2 p3 p4 p5 p8 pc p7.block who cf L FP FP' M, fun _ _ _ => False, ⟨fun _ _ _ _ => trivial, ?_, fun _ _ _ _ _ h => h.elim, fun _ _ _ _ _ h => h.elim⟩, ?_, ?_, ?_⟩
 ·rintro pre Y A Y' A' ⟨L, FP', M, h1, h2⟩ hs
  exact ⟨L, FP', M, h1, h2.hst hs⟩
 ·refine ⟨L0, FP, [], .start hW, (up17 B2).pure E18, (up17 B3).pure E18, (up17 B4).pure E18, (up17 B5).pure E18, B8'.pure E18, ((M7.pure E16).ext E17 (by omega)).pure E18, hc.pure E018, hP.pure E018, E018.pure, fun b hb => .inl hb, ?_, Nat.le_refl _⟩
  intro b hb hh
  have hlt := hlt12 _ hh
  rcases hb with rfl | rfl | rfl | rfl | rfl | rfl | rfl | hb
  ·exact hold hs12 _ (by omega) hh
  ·exact hold hs12 _ (by omega) hh
  ·exact hold hs12 _ (by omega) hh
  ·exact hold hs12 _ (by omega) hh
  ·omega
  ·omega
  ·exact hold hs12 _ (by have := E010.size; omega) hh
  ·exact hold hs12 _ (by have := hP.lt hb; have := E010.size; omega) hh
 ·-- one part
  rintro pre z Y A ⟨L, FP', M, hT, hA⟩ hsA ⟨post, hpost⟩
  have hzin : Sp.inP L0 z = true := by
   have hz := (hsub z).1 (by rw [hpost]; simp)
   exact (hz.2.le hW hz.1).1
  have hzk := hahead pre z post hpost
  have hzn : z ∉ pre := fun h => by
   rw [hpost] at hnd
   exact (List.nodup_append.1 hnd).2.2 z h z (by simp) rfl
  have hzL : Sp.inP L z = true := by obtain ⟨X, hX⟩ := hT.ext; rw [hX]; exact Sp.inP_app hzin
  have hnz : Sp.nodeOf L z = Sp.nodeOf L0 z := by obtain ⟨X, hX⟩ := hT.ext; rw [hX]; exact Sp.nodeOf_app hzin
  have hprelen : pre.length < xs.length := by rw [hpost]; simp
  refine ⟨some p, hA.b2.cell0, ?_⟩
  refine (c_Node p z A hA.pool hT.wf.ok).mono ?_
  rintro _ w19 ⟨k, r, t', u, x, a, b, r3, rfl, ⟨hnode, _⟩, E19⟩
  refine ⟨_, _, _, _, _, _, _, _, rfl, E19.keptP, ?_⟩
  rw [hnz] at hnode
  have A19 := hA.pure E19
  intro p9 w20 h20
  have E20 : Pure w19 w20 := Ext.new h20
  have A20 := A19.pure E20
  have s20 := h20.at_size
  have zA := hA.le
  have z19 := E19.size
  have z20 := E20.size
  have hne9 : ∀ b, b < A.heap.size → b ≠ p9.block := fun b hb => by omega
  have hYlt := hsA.lt
  refine ⟨(Box.of_new h20).canWs (by decide), fun h => h, fun w21 h21 => ?_⟩
  have c9 : Box w21 p9 [.int .i64 k, .int .i64 r, .int .i64 t', .int .u64 u, .string x, .int .i64 a, .int .i64 b] 106 := by rw [h21]; exact (Box.of_new h20).store rfl
  have E21 : Ext (· = p9.block) w20 w21 := by rw [h21]; exact Ext.storeRow _ _ _
  have side : ∀ {w w' : World} {L' : Sp.Pool} {F' : Nat → Prop} {M' : List (Int × Int)}, A.heap.size ≤ w.heap.size → TrA w0 w18 Y w p p2 p3 p4 p5 p8 pc p7.block who cf L' FP F' M' → (∀ b, F' b → b ≠ p9.block) → Ext (· = p9.block) w w' → TrA w0 w18 Y w' p p2 p3 p4 p5 p8 pc p7.block who cf L' FP F' M' := by
   intro w w' L' F' M' hz h hF E
   have b2lt := hA.b2.lt; have b3lt := hA.b3.lt; have b4lt := hA.b4.lt; have b5lt := hA.b5.lt; have b8lt := hA.b8.lt; have mlt := hA.mp.lt; have bclt := hA.bc.lt
   exact ⟨h.b2.ext E (by omega), h.b3.ext E (by omega), h.b4.ext E (by omega), h.b5.ext E (by omega), h.b8.ext E (by omega), h.mp.ext E (by omega), h.bc.ext E (by omega), h.pool.ext E hF, h.ext.trans' E (fun i hi e => by omega), h.nf, h.vis, Nat.le_trans h.le E.size⟩
  have hF9 : ∀ b, FP' b → b ≠ p9.block := fun b hb => by have := hA.pool.lt hb; omega
  have A21 := side (by omega) A20 hF9 E21
  have A22 := A21.pure (Ext.drew w21)
  have c9d := c9.pure (Ext.drew w21)
  refine ⟨fun w' => Box w' p8 [.map (some p7.block)] 146 ∧ IMap imk w' p7.block M, ⟨A22.b8, A22.mp⟩, fun w22 hw22 => ?_⟩
  subst hw22
  refine ⟨some p7.block, A22.b8.cell0, _, c9d.cell rfl, _, imap_get A22.mp _, some p7.block, fun w' hw' => hw'.1.cell0, _, c9d.cell rfl, _, fun w' hw' => imap_get hw'.2 _, ?_⟩
  refine ⟨c9d.canW (by simp), fun h => h, fun w23 h23 => ?_⟩
  have E23 : Ext (· = p9.block) w21.drew w23 := by rw [h23]; have := Ext.setCell (w := w21.drew) (p9.add 5) (.int .i64 (Sp.toF M a)); rwa [add_block] at this
  have c23 := c9d.set 5 (.int .i64 (Sp.toF M a))
  rw [← h23] at c23
  have A23 := side (by have := E21.size; show A.heap.size ≤ w21.heap.size; omega) A22 hF9 E23
  refine ⟨⟨A23.b8, A23.mp⟩, c23.canW (by simp), fun h => h, fun w24 h24 => ?_⟩
  have E24 : Ext (· = p9.block) w23 w24 := by rw [h24]; have := Ext.setCell (w := w23) (p9.add 6) (.int .i64 (Sp.toF M b)); rwa [add_block] at this
  have c24 := c23.set 6 (.int .i64 (Sp.toF M b))
  rw [← h24] at c24
  have A24 := side (by have := E21.size; have := E23.size; have : w21.drew.heap.size = w21.heap.size := rfl; omega) A23 hF9 E24
  have A25 := A24.pure (Ext.drew w24)
  have c25 := c24.pure (Ext.drew w24)
  refine ⟨fun w' => Box w' p2 [.pointer (some p)] 36, A25.b2, fun w25 hw25 => ?_⟩
  subst hw25
  refine ⟨some p, fun w' hw' => hw'.cell0, _, A25.b3.cell0, _, _, _, _, _, _, _, c25.row, cf, #[], #[.pointer (some pc)], rfl, hcf, ?_⟩
  have hzk0 : ∀ w', Pure w24.drew w' → A.heap.size ≤ w'.heap.size := fun w' h => by
   have := E21.size; have := E23.size; have := E24.size; have := h.size; have : w21.drew.heap.size = w21.heap.size := rfl; have : w24.drew.heap.size = w24.heap.size := rfl; omega
  refine (hturn w24.drew ⟨k, r, t', u, x, Sp.toF M a, Sp.toF M b⟩ A25.bc).mono ?_
  rintro _ w26 ⟨k3, r3', t3, u3, x3, a3, b3, rfl, hn3, E26⟩
  have A26 := A25.pure E26
  refine ⟨_, _, _, _, _, _, _, rfl, A26.b2, E26.keptP, ?_⟩
  refine (c_Make p k3 r3' t3 u3 x3 a3 b3 w26 A26.pool hT.wf.ok).mono ?_
  rintro _ w27 ⟨r4, r5, rfl, hm, FP2, P27, X27, f27⟩
  have hnode2 : ({ Sp.nodeOf L0 z with a := Sp.toF M (Sp.nodeOf L0 z).a, b := Sp.toF M (Sp.nodeOf L0 z).b } : Sp.Node) = ⟨k, r, t', u, x, Sp.toF M a, Sp.toF M b⟩ := by rw [← hnode]
  have hst := hT.step hf hW hzin hzn hzk (by have := hT.few; omega)
  rw [hnode2, ← hn3] at hst
  obtain ⟨hst0, hst1⟩ := hst
  generalize hmk : Sp.make L ⟨k3, r3', t3, u3, x3, a3, b3⟩ = mk at *
  obtain ⟨v, e0, L'⟩ := mk
  simp only [Prod.mk.injEq] at hm
  obtain ⟨rfl, rfl⟩ := hm
  simp only at hst0 hst1 P27
  subst hst0
  have hvis : ∀ b, FP' b → ¬ Y b := fun b hb => hA.vis b (by simp [hb])
  have g2 : ¬ FP' p2.block := fun hb => (hA.nf _ hb).elim (fun h => by have := hP.lt h; omega) (fun h => by omega)
  have g3 : ¬ FP' p3.block := fun hb => (hA.nf _ hb).elim (fun h => by have := hP.lt h; omega) (fun h => by omega)
  have g4 : ¬ FP' p4.block := fun hb => (hA.nf _ hb).elim (fun h => by have := hP.lt h; omega) (fun h => by omega)
  have g5 : ¬ FP' p5.block := fun hb => (hA.nf _ hb).elim (fun h => by have := hP.lt h; omega) (fun h => by omega)
  have g8 : ¬ FP' p8.block := fun hb => (hA.nf _ hb).elim (fun h => by have := hP.lt h; omega) (fun h => by omega)
  have gm : ¬ FP' p7.block := fun hb => (hA.nf _ hb).elim (fun h => by have := hP.lt h; omega) (fun h => by omega)
  have gc : ¬ FP' pc.block := fun hb => (hA.nf _ hb).elim hpc (fun h => by omega)
  have z26 := hzk0 w26 E26
  have B27 := A26.b2.ext X27 g2
  have A27 : TrA w0 w18 Y w27 p p2 p3 p4 p5 p8 pc p7.block who cf L' FP FP2 M :=
   ⟨B27, A26.b3.ext X27 g3, A26.b4.ext X27 g4, A26.b5.ext X27 g5, A26.b8.ext X27 g8, A26.mp.ext X27 gm, A26.bc.ext X27 gc, P27, A26.ext.trans' X27 (fun i hi hb => (hA.nf i hb).elim id (fun h => by omega)), fun b hb => (f27 b hb).elim (fun h => hA.nf b h) (fun h => .inr (by omega)), fun b hb hY => by
    rcases hb with hb | hb | hb | hb | hb | hb | hb | hb
    ·exact hA.vis b (by simp [hb]) hY
    ·exact hA.vis b (by simp [hb]) hY
    ·exact hA.vis b (by simp [hb]) hY
    ·exact hA.vis b (by simp [hb]) hY
    ·exact hA.vis b (by simp [hb]) hY
    ·exact hA.vis b (by simp [hb]) hY
    ·exact hA.vis b (by simp [hb]) hY
    ·exact (f27 b hb).elim (fun h => hvis b h hY) (fun h => by have := hYlt b hY; omega), by have := X27.size; omega⟩
  refine ⟨_, _, rfl, B27, Kept.mono (X27.kept (H := None) (fun b h => h.elim)) (fun b h => h), Br.f rfl ?_⟩
  have hlk : SE.look M z = none := SE.look_none.2 (by rw [hT.keys]; exact hzn)
  obtain ⟨w30, hu, M30, E30⟩ := A27.mp.put (P := Try.prog) Try.underlying146 Try.underlying32 hlk r4
  refine ⟨some p7.block, A27.b8.cell0, w30, hu, E30.kept (H := None) (fun b h => h.elim), ?_, ?_⟩
  ·-- what the iterator hides was kept
   have XX : Ext (fun b => b = p9.block ∨ FP' b ∨ b = p7.block) A w30 := by
    have x1 : Ext (fun b => b = p9.block ∨ FP' b ∨ b = p7.block) A w20 := (E19.trans E20).pure
    have x2 := x1.trans (E21.mono (fun b _ h => .inl h))
    have x3 := (x2.thenPure (Ext.drew w21)).trans (E23.mono (fun b _ h => .inl h))
    have x4 := x3.trans (E24.mono (fun b _ h => .inl h))
    have x5 := (x4.thenPure (Ext.drew w24)).thenPure E26
    exact (x5.trans (X27.mono (fun b _ h => .inr (.inl h)))).trans (E30.mono (fun b _ h => .inr (.inr h)))
   refine XX.kept (fun b hY hb => ?_)
   rcases hb with hb | hb | hb
   ·have := hYlt b hY; omega
   ·exact hvis b hb hY
   ·exact hA.vis b (by simp [hb]) hY
  ·have n7 : ∀ b, FP2 b → b ≠ p7.block := fun b hb e => by
    subst e
    exact (f27 _ hb).elim gm (fun h => by omega)
   have b2lt := hA.b2.lt; have b3lt := hA.b3.lt; have b4lt := hA.b4.lt; have b5lt := hA.b5.lt; have b8lt := hA.b8.lt; have bclt := hA.bc.lt
   refine ⟨L', FP2, M ++ [(z, r4)], hst1, A27.b2.ext E30 (by omega), A27.b3.ext E30 (by omega), A27.b4.ext E30 (by omega), A27.b5.ext E30 (by omega), A27.b8.ext E30 (by omega), M30, A27.bc.ext E30 (by omega), A27.pool.ext E30 n7, A27.ext.trans' E30 (fun i hi e => by omega), A27.nf, A27.vis, Nat.le_trans A27.le E30.size⟩
 ·refine ⟨?_, fun _ _ _ _ h => h.elim⟩
  rintro H2 w31 hs31 hsub2 hk31 ⟨L, FP', M, hT, hA⟩
  refine ⟨some p7.block, hA.b8.cell0, _, imap_get hA.mp _, hA.b4.canW0 (by simp), hA.vis _ (by simp), fun w32 h32 => ?_⟩
  have E32 : Ext (· = p4.block) w31 w32 := by rw [h32]; exact Ext.setCell p4 _
  have b4 : Box w32 p4 [.int .i64 (Sp.toF M t)] 32 := by rw [h32]; exact hA.b4.set0
  have b5 := hA.b5.ext E32 (by omega)
  refine ⟨b5.canW0 (by simp), hA.vis _ (by simp), fun w33 h33 => ?_⟩
  have E33 : Ext (· = p5.block) w32 w33 := by rw [h33]; exact Ext.setCell p5 _
  have b5' : Box w33 p5 [.int .i64 0] 33 := by rw [h33]; exact b5.set0
  intro w34 hs34
  have n4 : ¬ H2 p4.block := hA.vis _ (by simp)
  have n5 : ¬ H2 p5.block := hA.vis _ (by simp)
  have hF4 : ∀ b, FP' b → b ≠ p4.block ∧ b ≠ p5.block := fun b hb => (hA.nf b hb).elim (fun h => by have := hP.lt h; omega) (fun h => by omega)
  have hP34 : PoolAt w34 p L FP' := ((hA.pool.ext E32 (fun b hb => (hF4 b hb).1)).ext E33 (fun b hb => (hF4 b hb).2)).ext hs34.ext (fun b hb => hA.vis b (by simp [hb]))
  have E34 : Ext FP w0 w34 := ((hA.ext.trans' E32 (fun i hi e => by omega)).trans' E33 (fun i hi e => by omega)).hst hs34
  refine ⟨_, ((b4.ext E33 (by omega)).ext hs34.ext n4).cell0, _, (b5'.ext hs34.ext n5).cell0, ?_⟩
  have htm := hT.toF (u := t) (by rw [hpl]; simp)
  obtain ⟨v1, v2, _, _⟩ := hT.val _ _ htm
  exact hK _ _ _ (.inr (.inr ⟨hn, hin, rfl, L, FP', hP34, E34, fun b hb => (hA.nf b hb).imp_right (fun h => by omega), hT.wf, hT.ext, by rw [hxs]; exact hT.few, by rw [hxs, ← hT.run]; exact ⟨rfl, rfl⟩, v1, v2⟩))
end Go.Proofs
end
section
namespace Sp
section
variable {α : Type}
theorem swp_perm : ∀ {l : List α} {i j : Nat} {x y : α}, l[i]? = some x → l[j]? = some y → ((l.set i y).set j x).Perm l := by
 intro l i j x y hi hj
 obtain ⟨h1, rfl⟩ := List.getElem?_eq_some_iff.1 hi
 obtain ⟨h2, rfl⟩ := List.getElem?_eq_some_iff.1 hj
 exact List.set_set_perm h1 h2
structure PermIn (a b : Nat) (l l' : List α) : Prop where
 perm : l'.Perm l
 out : ∀ i, i < a ∨ b ≤ i → l'[i]? = l[i]?
 mem : ∀ p x, a ≤ p → p < b → l'[p]? = some x → ∃ q, a ≤ q ∧ q < b ∧ l[q]? = some x
variable {a b : Nat} {l l' l'' : List α}
theorem PermIn.len (h : PermIn a b l l') : l'.length = l.length := h.perm.length_eq
theorem PermIn.refl (a b : Nat) (l : List α) : PermIn a b l l := ⟨List.Perm.refl _, fun _ _ => rfl, fun p x h1 h2 h3 => ⟨p, h1, h2, h3⟩⟩
theorem PermIn.trans (h : PermIn a b l l') (k : PermIn a b l' l'') : PermIn a b l l'' :=
 ⟨k.perm.trans h.perm, fun i hi => (k.out i hi).trans (h.out i hi), fun p x h1 h2 h3 => let ⟨q, h4, h5, h6⟩ := k.mem p x h1 h2 h3; h.mem q x h4 h5 h6⟩
theorem PermIn.mono {a' b' : Nat} (h : PermIn a b l l') (ha : a' ≤ a) (hb : b ≤ b') : PermIn a' b' l l' :=
 ⟨h.perm, fun i hi => h.out i (by omega), fun p x h1 h2 h3 => by
  by_cases hp : a ≤ p ∧ p < b
  ·obtain ⟨q, h4, h5, h6⟩ := h.mem p x hp.1 hp.2 h3
   exact ⟨q, by omega, by omega, h6⟩
  ·exact ⟨p, h1, h2, by rw [← h.out p (by omega)]; exact h3⟩⟩
theorem swp_get {i j : Nat} {x y : α} (hi : l[i]? = some x) (hj : l[j]? = some y) (k : Nat) : ((l.set i y).set j x)[k]? = if k = j then some x else if k = i then some y else l[k]? := by
 have h1 := (List.getElem?_eq_some_iff.1 hi).1
 have h2 := (List.getElem?_eq_some_iff.1 hj).1
 rw [List.getElem?_set, List.getElem?_set]
 by_cases e : k = j
 ·subst e; simp [h2]
 ·rw [if_neg (Ne.symm e), if_neg e]
  by_cases e' : k = i
  ·subst e'; simp [h1]
  ·rw [if_neg (Ne.symm e'), if_neg e']
theorem PermIn.swp {i j : Nat} {x y : α} (hi : l[i]? = some x) (hj : l[j]? = some y) (h1 : a ≤ i) (h2 : i < b) (h3 : a ≤ j) (h4 : j < b) : PermIn a b l ((l.set i y).set j x) := by
 refine ⟨swp_perm hi hj, fun k hk => ?_, fun p z hp1 hp2 hp => ?_⟩
 ·rw [swp_get hi hj, if_neg (by omega), if_neg (by omega)]
 ·rw [swp_get hi hj] at hp
  split at hp
  ·exact ⟨i, h1, h2, by rw [hi, hp]⟩
  ·split at hp
   ·exact ⟨j, h3, h4, by rw [hj, hp]⟩
   ·exact ⟨p, hp1, hp2, hp⟩
structure Ord (lt : α → α → Bool) : Prop where
 asym : ∀ x y, lt x y = true → lt y x = false
 trans : ∀ x y z, lt y x = false → lt z y = false → lt z x = false
variable {lt : α → α → Bool}
theorem Ord.irr (h : Ord lt) (x : α) : lt x x = false := by
 cases e : lt x x with
 | false => rfl
 | true => exact (h.asym x x e).symm.trans e |>.symm
def Le (lt : α → α → Bool) (l : List α) (p q : Nat) : Prop := ∀ x y, l[p]? = some x → l[q]? = some y → lt y x = false
theorem Le.of {p q : Nat} {x y : α} (hx : l[p]? = some x) (hy : l[q]? = some y) (h : lt y x = false) : Le lt l p q := by
 intro x' y' h1 h2; rw [hx] at h1; rw [hy] at h2; cases h1; cases h2; exact h
theorem Le.refl (h : Ord lt) (p : Nat) : Le lt l p p := by intro x y h1 h2; rw [h1] at h2; cases h2; exact h.irr x
theorem Le.trans {p q r : Nat} (h : Ord lt) (hq : q < l.length) (h1 : Le lt l p q) (h2 : Le lt l q r) : Le lt l p r := by
 intro x z hx hz
 exact h.trans x l[q] z (h1 _ _ hx (List.getElem?_eq_getElem hq)) (h2 _ _ (List.getElem?_eq_getElem hq) hz)
def SortedIn (lt : α → α → Bool) (a b : Nat) (l : List α) : Prop := ∀ p q, a ≤ p → p < q → q < b → Le lt l p q
theorem SortedIn.small (l : List α) (h : b ≤ a + 1) : SortedIn lt a b l := fun p q h1 h2 h3 => by omega
def Outer (lt : α → α → Bool) (a0 b0 a b : Nat) (l : List α) : Prop := ∀ p q, a0 ≤ p → p < q → q < b0 → (p < a ∨ b ≤ p ∨ q < a ∨ b ≤ q) → Le lt l p q
theorem Outer.start (a b : Nat) (l : List α) : Outer lt a b a b l := fun p q h1 h2 h3 h4 => by omega
theorem Le.congr {p q : Nat} (hp : l'[p]? = l[p]?) (hq : l'[q]? = l[q]?) (h : Le lt l p q) : Le lt l' p q := fun x y h1 h2 => h x y (hp ▸ h1) (hq ▸ h2)
theorem Outer.perm {a0 b0 : Nat} (h : Outer lt a0 b0 a b l) (hp : PermIn a b l l') (h0 : a0 ≤ a) (h1 : b ≤ b0) : Outer lt a0 b0 a b l' := by
 intro p q hp1 hpq hq1 hh x y hx hy
 by_cases e1 : a ≤ p ∧ p < b
 ·obtain ⟨p', e2, e3, e4⟩ := hp.mem p x e1.1 e1.2 hx
  rw [hp.out q (by omega)] at hy
  exact h p' q (by omega) (by omega) hq1 (by omega) x y e4 hy
 ·rw [hp.out p (by omega)] at hx
  by_cases e2 : a ≤ q ∧ q < b
  ·obtain ⟨q', e3, e4, e5⟩ := hp.mem q y e2.1 e2.2 hy
   exact h p q' hp1 (by omega) (by omega) (by omega) x y hx e5
  ·rw [hp.out q (by omega)] at hy
   exact h p q hp1 hpq hq1 (by omega) x y hx hy
theorem Outer.done {a0 b0 : Nat} (h : Outer lt a0 b0 a b l) (hs : SortedIn lt a b l) : SortedIn lt a0 b0 l := by
 intro p q h1 h2 h3
 by_cases e : a ≤ p ∧ q < b
 ·exact hs p q e.1 h2 e.2
 ·exact h p q h1 h2 h3 (by omega)
def Floor (lt : α → α → Bool) (a b : Nat) (l : List α) : Prop := 0 < a → ∀ p, a ≤ p → p < b → Le lt l (a - 1) p
theorem Floor.perm (h : Floor lt a b l) (hp : PermIn a b l l') : Floor lt a b l' := by
 intro h0 p h1 h2 x y hx hy
 obtain ⟨p', e2, e3, e4⟩ := hp.mem p y h1 h2 hy
 rw [hp.out (a - 1) (by omega)] at hx
 exact h h0 p' e2 e3 x y hx e4
theorem Floor.sub {b' : Nat} (h : Floor lt a b l) (hb : b' ≤ b) : Floor lt a b' l := fun h0 p h1 h2 => h h0 p h1 (by omega)
def But (lt : α → α → Bool) (a b j : Nat) (l : List α) : Prop := ∀ p q, a ≤ p → p < q → q < b → q ≠ j → Le lt l p q
theorem SortedIn.but {i : Nat} (h : SortedIn lt a i l) : But lt a (i + 1) i l := fun p q h1 h2 h3 h4 => h p q h1 h2 (by omega)
theorem But.done (ho : Ord lt) {i j : Nat} (h : But lt a i j l) (hl : i ≤ l.length) (hj : a < j → Le lt l (j - 1) j) : SortedIn lt a i l := by
 intro p q h1 h2 h3
 by_cases e : q = j
 ·subst e
  by_cases e' : p = q - 1
  ·subst e'; exact hj (by omega)
  ·exact Le.trans ho (by omega) (h p (q - 1) h1 (by omega) (by omega) (by omega)) (hj (by omega))
 ·exact h p q h1 h2 h3 e
theorem But.step (ho : Ord lt) {i j : Nat} {x y : α} (h : But lt a i j l) (ha : a < j) (hx : l[j]? = some x) (hy : l[j - 1]? = some y) (hlt : lt x y = true) : But lt a i (j - 1) ((l.set j y).set (j - 1) x) := by
 intro p q h1 h2 h3 h4 u v hu hv
 rw [swp_get hx hy] at hu hv
 rw [if_neg h4] at hv
 by_cases e : q = j
 ·subst e
  rw [if_pos rfl] at hv; cases hv
  by_cases e' : p = q - 1
  ·subst e'; rw [if_pos rfl] at hu; cases hu; exact ho.asym _ _ hlt
  ·rw [if_neg e', if_neg (by omega)] at hu
   exact h p (q - 1) h1 (by omega) (by omega) (by omega) _ _ hu hy
 ·rw [if_neg e] at hv
  by_cases e1 : p = j - 1
  ·subst e1; rw [if_pos rfl] at hu; cases hu
   exact h j q (by omega) (by omega) h3 e _ _ hx hv
  ·rw [if_neg e1] at hu
   by_cases e2 : p = j
   ·subst e2; rw [if_pos rfl] at hu; cases hu
    exact h (p - 1) q (by omega) (by omega) h3 e _ _ hy hv
   ·rw [if_neg e2] at hu
    exact h p q h1 h2 h3 e _ _ hu hv
def Heap (lt : α → α → Bool) (first lo hi : Nat) (l : List α) : Prop := ∀ k c, lo ≤ k → (c = 2 * k + 1 ∨ c = 2 * k + 2) → c < hi → Le lt l (first + c) (first + k)
def HeapBut (lt : α → α → Bool) (first lo hi r : Nat) (l : List α) : Prop :=
 (∀ k c, lo ≤ k → k ≠ r → (c = 2 * k + 1 ∨ c = 2 * k + 2) → c < hi → Le lt l (first + c) (first + k)) ∧
 (∀ k c, lo ≤ k → (r = 2 * k + 1 ∨ r = 2 * k + 2) → (c = 2 * r + 1 ∨ c = 2 * r + 2) → c < hi → Le lt l (first + c) (first + k))
theorem HeapBut.start {first lo hi : Nat} (h : Heap lt first (lo + 1) hi l) : HeapBut lt first lo hi lo l :=
 ⟨fun k c h1 h2 h3 h4 => h k c (by omega) h3 h4, fun k c h1 h2 h3 h4 => by omega⟩
theorem HeapBut.leaf {first lo hi r : Nat} (h : HeapBut lt first lo hi r l) (hr : hi ≤ 2 * r + 1) : Heap lt first lo hi l := fun k c h1 h2 h3 => by
 by_cases e : k = r
 ·subst e; omega
 ·exact h.1 k c h1 e h2 h3
theorem HeapBut.fit {first lo hi r c0 : Nat} (ho : Ord lt) (h : HeapBut lt first lo hi r l) (hl : first + hi ≤ l.length) (hc : c0 < hi) (hbig : ∀ c, (c = 2 * r + 1 ∨ c = 2 * r + 2) → c < hi → Le lt l (first + c) (first + c0)) (hok : Le lt l (first + c0) (first + r)) : Heap lt first lo hi l := fun k c h1 h2 h3 => by
 by_cases e : k = r
 ·subst e; exact Le.trans ho (by omega) (hbig c h2 h3) hok
 ·exact h.1 k c h1 e h2 h3
theorem HeapBut.step {first lo hi r c0 : Nat} {x y : α} (ho : Ord lt) (h : HeapBut lt first lo hi r l) (hl : first + hi ≤ l.length) (hlo : lo ≤ r) (hc : c0 = 2 * r + 1 ∨ c0 = 2 * r + 2) (hc0 : c0 < hi) (hbig : ∀ c, (c = 2 * r + 1 ∨ c = 2 * r + 2) → c < hi → Le lt l (first + c) (first + c0))
  (hx : l[first + r]? = some x) (hy : l[first + c0]? = some y) (hlt : lt x y = true) : HeapBut lt first lo hi c0 ((l.set (first + r) y).set (first + c0) x) := by
 refine ⟨fun k c h1 h2 h3 h4 u v hu hv => ?_, fun k c h1 h2 h3 h4 u v hu hv => ?_⟩
 ·rw [swp_get hx hy] at hu hv
  rw [if_neg (by omega)] at hv
  by_cases e : k = r
  ·subst e
   rw [if_pos rfl] at hv; cases hv
   by_cases e' : c = c0
   ·subst e'; rw [if_pos rfl] at hu; cases hu; exact ho.asym _ _ hlt
   ·rw [if_neg (by omega), if_neg (by omega)] at hu
    exact hbig c h3 h4 _ _ hu hy
  ·rw [if_neg (by omega)] at hv
   rw [if_neg (by omega)] at hu
   by_cases e' : c = r
   ·subst e'
    rw [if_pos rfl] at hu; cases hu
    exact h.2 k c0 h1 h3 hc hc0 _ _ hy hv
   ·rw [if_neg (by omega)] at hu
    exact h.1 k c h1 e h3 h4 _ _ hu hv
 ·have hk : k = r := by omega
  subst hk
  rw [swp_get hx hy] at hu hv
  rw [if_neg (by omega), if_neg (by omega)] at hu
  rw [if_neg (by omega), if_pos rfl] at hv
  cases hv
  exact h.1 c0 c (by omega) (by omega) h3 h4 _ _ hu hy
theorem Heap.top (ho : Ord lt) {first hi : Nat} (h : Heap lt first 0 hi l) (hl : first + hi ≤ l.length) : ∀ k, k < hi → Le lt l (first + k) first := by
 intro k
 induction k using Nat.strongRecOn with
 | _ k ih =>
  intro hk
  by_cases e : k = 0
  ·subst e; exact Le.refl ho _
  ·have := h ((k - 1) / 2) k (by omega) (by omega) hk
   exact Le.trans ho (by omega) this (ih _ (by omega) (by omega))
end
end Sp
end
