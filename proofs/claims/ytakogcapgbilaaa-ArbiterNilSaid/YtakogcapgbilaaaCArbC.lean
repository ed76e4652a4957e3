/- Contracts: escrow/arbiter, fault. -/
import Derived.Test.YtakogcapgbilaaaCArbB
open Go Go.SE
namespace Go.Sp
structure Fault where
  who : Int
  c : Int
  kind : Int
  a : Int
  b : Int
deriving DecidableEq
def isVerdict (l : Letter) : Bool := l.kind == 5 || l.kind == 6
def signedO (l : Letter) : Bool := l.kind == 2 && l.frm == 0
def fault (a b : Letter) : Fault :=
  if a.c ≠ b.c then ⟨0, 0, 0, 0, 0⟩
  else if (a.kind == 2 && b.kind == 2 && a.frm == b.frm && !decide (a.text = b.text)) = true then ⟨a.frm, a.c, 1, 0, 0⟩
  else if (isVerdict a && isVerdict b && !decide (a = b)) = true then ⟨2, a.c, 2, 0, 0⟩
  else if ((signedO a && b.kind == 3) || (signedO b && a.kind == 3)) = true then ⟨0, a.c, 3, 0, 0⟩
  else ⟨0, a.c, 0, 0, 0⟩
end Go.Sp
namespace Go.Proofs
attribute [local irreducible] Calls
def lval (l : Sp.Letter) : Value := .agg (lrow l).toArray
def frow (f : Sp.Fault) : List Value := [.int .i64 f.who, .int .u64 f.c, .int .i64 f.kind, .int .i64 f.a, .int .i64 f.b]

theorem c_isVerdict (l : Sp.Letter) (w : World) : Calls Try.prog 132 #[lval l] w (fun e w' => ∃ r : Bool, e = .returned (.bool r) ∧ (r = Sp.isVerdict l ∧ Pure w w')) := by
  refine w_arbiter_isVerdict _ _ _ _ _ w (fun r w' => r = Sp.isVerdict l ∧ Pure w w') ?_
  unfold m_arbiter_isVerdict
  intro p1 w1 h1
  have b1 := Box.of_new h1
  have E1 : Pure w w1 := Ext.new h1
  refine ⟨l.kind, b1.cell0, fun h => ⟨?_, E1⟩, fun h => ⟨l.kind, b1.cell0, ?_, E1⟩⟩
  · unfold Sp.isVerdict; rw [h]; rfl
  · unfold Sp.isVerdict; rw [h]; rfl
theorem c_fault1 (l : Sp.Letter) (w : World) : Calls Try.prog 131 #[lval l] w (fun e w' => ∃ r : Bool, e = .returned (.bool r) ∧ (r = Sp.signedO l ∧ Pure w w')) := by
  refine w_arbiter_fault_1 _ _ _ _ _ w (fun r w' => r = Sp.signedO l ∧ Pure w w') ?_
  unfold m_arbiter_fault_1
  intro p1 w1 h1
  have b1 := Box.of_new h1
  have E1 : Pure w w1 := Ext.new h1
  refine ⟨l.kind, b1.cell0, fun h => ⟨l.frm, b1.cell rfl, ?_, E1⟩, fun h => ⟨?_, E1⟩⟩
  · unfold Sp.signedO; rw [h]; rfl
  · unfold Sp.signedO; rw [h]; rfl
theorem run_letter_neq (a b : Sp.Letter) (w : World) : (Go.binOp .neq 132 (lval a) (lval b)).run Try.prog w = .ok (.bool (!decide (a = b))) w := by
  obtain ⟨k, f, c, x, g⟩ := a
  obtain ⟨k', f', c', x', g'⟩ := b
  simp [Go.binOp, Op.equal, Op.maxDepth, go_sem, streq, lval, lrow]
  repeat' split
  all_goals simp_all

theorem c_arb_fault (a b : Sp.Letter) (w : World) : Calls Try.prog 82 #[lval a, lval b] w
    (fun e w' => ∃ f1 : Int, ∃ f2 : Int, ∃ f3 : Int, ∃ f4 : Int, ∃ f5 : Int, e = .returned (.agg #[.int .i64 f1, .int .u64 f2, .int .i64 f3, .int .i64 f4, .int .i64 f5]) ∧ ((⟨f1, f2, f3, f4, f5⟩ : Sp.Fault) = Sp.fault a b ∧ Pure w w')) := by
  suffices key : ∀ K : Int → Int → Int → Int → Int → World → Prop, (∀ f1 f2 f3 f4 f5 w', ((⟨f1, f2, f3, f4, f5⟩ : Sp.Fault) = Sp.fault a b ∧ Pure w w') → K f1 f2 f3 f4 f5 w') → m_arbiter_fault a.kind a.frm a.c a.text a.fake b.kind b.frm b.c b.text b.fake w K from
    w_arbiter_fault _ _ _ _ _ _ _ _ _ _ w _ (key _ (fun _ _ _ _ _ _ h => h))
  intro K hK
  unfold m_arbiter_fault
  intro p1 w1 h1 p2 w2 h2 p3 w3 h3
  have E1 : Pure w w1 := Ext.new h1
  have E2 : Pure w w2 := E1.trans (Ext.new h2)
  have E3 : Pure w w3 := E2.trans (Ext.new h3)
  have o3 := New.own E2 h3
  have a1 : Box w3 p1 (lrow a) 132 := ((Box.of_new h1).pure (Ext.new h2)).pure (Ext.new h3 : Pure w2 w3)
  have a2 : Box w3 p2 (lrow b) 132 := (Box.of_new h2).pure (Ext.new h3 : Pure w2 w3)
  have a3 := Box.of_new h3
  clear h1 h2 h3
  refine ⟨a.c, a1.cell rfl, ?_⟩
  intro p4 w4 h4
  have E4 : Pure w w4 := E3.trans (Ext.new h4)
  have o4 := New.own E3 h4
  have n14 : p1.block ≠ p4.block := New.ne h4 a1.blk
  have n24 : p2.block ≠ p4.block := New.ne h4 a2.blk
  have n34 : p3.block ≠ p4.block := New.ne h4 a3.blk
  refine bx 5 (Box.of_new h4) rfl rfl (fun w5 b4 E45 => ?_)
  have E5 : Pure w w5 := E4.own o4 E45
  have b1 := (a1.pure (Ext.new h4 : Pure w3 w4)).ext E45 n14
  have b2 := (a2.pure (Ext.new h4 : Pure w3 w4)).ext E45 n24
  have b3 := (a3.pure (Ext.new h4 : Pure w3 w4)).ext E45 n34
  clear E45 h4 a1 a2 a3 E4 E3 E2 E1
  -- the fault's variable as it stands goes to the result
  have out : ∀ (f : Sp.Fault) (w' : World), f = Sp.fault a b → Box w' p4 (frow f) 134 → Box w' p3 (frow ⟨0, 0, 0, 0, 0⟩) 134 → Pure w w' →
      ∃ vWho3 : Int, ∃ vC3 : Int, ∃ vKind3 : Int, ∃ vA3 : Int, ∃ vB3 : Int, Row w' p4 [(.int .i64 vWho3), (.int .u64 vC3), (.int .i64 vKind3), (.int .i64 vA3), (.int .i64 vB3)] ∧
      (∀ j, j < 5 → CanW w' (p3.add j)) ∧ ∀ w15 : World, w15 = storeRow w' p3 [(.int .i64 vWho3), (.int .u64 vC3), (.int .i64 vKind3), (.int .i64 vA3), (.int .i64 vB3)] →
      ∃ qWho4 : Int, ∃ qC4 : Int, ∃ qKind4 : Int, ∃ qA4 : Int, ∃ qB4 : Int, Row w15 p3 [(.int .i64 qWho4), (.int .u64 qC4), (.int .i64 qKind4), (.int .i64 qA4), (.int .i64 qB4)] ∧ K qWho4 qC4 qKind4 qA4 qB4 w15 := by
    intro f w' hf B4 B3 E
    refine ⟨f.who, f.c, f.kind, f.a, f.b, B4.row, ?_⟩
    exact bx 5 B3 rfl rfl (fun w15 b15 E15 => ⟨_, _, _, _, _, b15.row, hK _ _ _ _ _ _ ⟨hf, E.own o3 E15⟩⟩)
  -- two fields are set
  have set2 : ∀ (x y : Int) (w' : World), (⟨x, a.c, y, 0, 0⟩ : Sp.Fault) = Sp.fault a b → Pure w5 w' →
      CanW w' p4 ∧ ∀ w13 : World, w13 = w'.setCell p4 (.int .i64 x) → CanW w13 (p4.add 2) ∧ ∀ w14 : World, w14 = w13.setCell (p4.add 2) (.int .i64 y) →
      ∃ vWho3 : Int, ∃ vC3 : Int, ∃ vKind3 : Int, ∃ vA3 : Int, ∃ vB3 : Int, Row w14 p4 [(.int .i64 vWho3), (.int .u64 vC3), (.int .i64 vKind3), (.int .i64 vA3), (.int .i64 vB3)] ∧
      (∀ j, j < 5 → CanW w14 (p3.add j)) ∧ ∀ w15 : World, w15 = storeRow w14 p3 [(.int .i64 vWho3), (.int .u64 vC3), (.int .i64 vKind3), (.int .i64 vA3), (.int .i64 vB3)] →
      ∃ qWho4 : Int, ∃ qC4 : Int, ∃ qKind4 : Int, ∃ qA4 : Int, ∃ qB4 : Int, Row w15 p3 [(.int .i64 qWho4), (.int .u64 qC4), (.int .i64 qKind4), (.int .i64 qA4), (.int .i64 qB4)] ∧ K qWho4 qC4 qKind4 qA4 qB4 w15 := by
    intro x y w' hf E
    have c4 := b4.pure E
    have c3 := b3.pure E
    refine ⟨c4.canW0 (by simp), ?_⟩
    intro w13 h13
    have d4 : Box w13 p4 [.int .i64 x, .int .u64 a.c, .int .i64 0, .int .i64 0, .int .i64 0] 134 := by rw [h13]; exact c4.set0
    have E13 : Ext (· = p4.block) w' w13 := by rw [h13]; exact Ext.setCell p4 _
    clear h13
    refine ⟨d4.canW (by simp), ?_⟩
    intro w14 h14
    have e4 : Box w14 p4 [.int .i64 x, .int .u64 a.c, .int .i64 y, .int .i64 0, .int .i64 0] 134 := by rw [h14]; exact d4.set 2 _
    have E14 : Ext (· = p4.block) w13 w14 := by rw [h14]; have := Ext.setCell (w := w13) (p4.add 2) (.int .i64 y); rw [add_block] at this; exact this
    clear h14
    exact out ⟨x, a.c, y, 0, 0⟩ w14 hf e4 ((c3.ext E13 n34).ext E14 n34) (((E5.trans E).own o4 E13).own o4 E14)
  refine ⟨a.c, b1.cell rfl, b.c, b2.cell rfl, fun h => ?_, fun h => ?_⟩
  · have hc : a.c ≠ b.c := by simpa using h
    have : Sp.fault a b = ⟨0, 0, 0, 0, 0⟩ := by unfold Sp.fault; rw [if_pos hc]
    exact bx 5 b3 rfl rfl (fun w15 b15 E15 => ⟨0, 0, 0, 0, 0, b15.row, hK _ _ _ _ _ _ ⟨this.symm, E5.own o3 E15⟩⟩)
  have hc : ¬ a.c ≠ b.c := by simpa using h
  have hsp : Sp.fault a b = if (a.kind == 2 && b.kind == 2 && a.frm == b.frm && !decide (a.text = b.text)) = true then ⟨a.frm, a.c, 1, 0, 0⟩
      else if (Sp.isVerdict a && Sp.isVerdict b && !decide (a = b)) = true then ⟨2, a.c, 2, 0, 0⟩
      else if ((Sp.signedO a && b.kind == 3) || (Sp.signedO b && a.kind == 3)) = true then ⟨0, a.c, 3, 0, 0⟩
      else ⟨0, a.c, 0, 0, 0⟩ := by unfold Sp.fault; rw [if_neg hc]
  have J3 : ∀ (x : Bool) (w' : World), x = (Sp.signedO a && b.kind == 3) → ¬ (a.kind == 2 && b.kind == 2 && a.frm == b.frm && !decide (a.text = b.text)) = true → ¬ (Sp.isVerdict a && Sp.isVerdict b && !decide (a = b)) = true → Pure w5 w' → m_arbiter_fault_j3 p1 p2 p3 p4 x w' K := by
    intro x w' hx h1 h2 E
    rw [if_neg h1, if_neg h2, ← hx] at hsp
    unfold m_arbiter_fault_j3
    refine ⟨fun h => ?_, fun h => ⟨_, _, _, _, _, (b2.pure E).row, ?_⟩⟩
    · rw [h, Bool.true_or, if_pos rfl] at hsp
      exact set2 0 3 w' hsp.symm E
    · rw [h, Bool.false_or] at hsp
      refine (c_fault1 b w').mono ?_
      rintro _ w16 ⟨r, rfl, hr, E16⟩
      rw [← hr] at hsp
      have E' := E.trans E16
      refine ⟨r, rfl, fun hr1 => ⟨a.kind, (b1.pure E').cell0, fun h3 => ?_, fun h3 => ?_⟩, fun hr1 => ?_⟩
      · rw [hr1, h3, if_pos (by simp)] at hsp
        exact set2 0 3 w16 hsp.symm E'
      · rw [hr1, h3, if_neg (by simp)] at hsp
        exact out ⟨0, a.c, 0, 0, 0⟩ w16 hsp.symm (b4.pure E') (b3.pure E') (E5.trans E')
      · rw [hr1, if_neg (by simp)] at hsp
        exact out ⟨0, a.c, 0, 0, 0⟩ w16 hsp.symm (b4.pure E') (b3.pure E') (E5.trans E')
  have J2 : ∀ (x : Bool) (w' : World), x = (Sp.isVerdict a && Sp.isVerdict b && !decide (a = b)) → ¬ (a.kind == 2 && b.kind == 2 && a.frm == b.frm && !decide (a.text = b.text)) = true → Pure w5 w' → m_arbiter_fault_j2 p1 p2 p3 p4 x w' K := by
    intro x w' hx h1 E
    unfold m_arbiter_fault_j2
    refine ⟨fun h => ?_, fun h => ⟨_, _, _, _, _, (b1.pure E).row, ?_⟩⟩
    · rw [if_neg h1, if_pos (by rw [← hx, h])] at hsp
      exact set2 2 2 w' hsp.symm E
    · refine (c_fault1 a w').mono ?_
      rintro _ w22 ⟨r, rfl, hr, E22⟩
      have E' := E.trans E22
      exact ⟨r, rfl, fun hr1 => ⟨b.kind, (b2.pure E').cell0, J3 _ w22 (by rw [← hr, hr1]; rfl) h1 (by rw [← hx, h]; simp) E'⟩, fun hr1 => J3 _ w22 (by rw [← hr, hr1]; rfl) h1 (by rw [← hx, h]; simp) E'⟩
  have J4 : ∀ (x : Bool) (w' : World), x = (Sp.isVerdict a && Sp.isVerdict b) → ¬ (a.kind == 2 && b.kind == 2 && a.frm == b.frm && !decide (a.text = b.text)) = true → Pure w5 w' → m_arbiter_fault_j4 p1 p2 p3 p4 x w' K := by
    intro x w' hx h1 E
    unfold m_arbiter_fault_j4
    refine ⟨fun h => ⟨_, _, _, _, _, (b1.pure E).row, _, _, _, _, _, (b2.pure E).row, _, run_letter_neq a b w', J2 _ w' ?_ h1 E⟩, fun h => J2 _ w' ?_ h1 E⟩
    · rw [← hx, h]; rfl
    · rw [← hx, h]; rfl
  have J1 : ∀ (x : Bool), x = (a.kind == 2 && b.kind == 2 && a.frm == b.frm && !decide (a.text = b.text)) → m_arbiter_fault_j1 p1 p2 p3 p4 x w5 K := by
    intro x hx
    unfold m_arbiter_fault_j1
    refine ⟨fun h => ⟨a.frm, b1.cell rfl, ?_⟩, fun h => ⟨_, _, _, _, _, b1.row, ?_⟩⟩
    · rw [if_pos (by rw [← hx, h])] at hsp
      exact set2 a.frm 1 w5 hsp.symm (Ext.refl _)
    · have h1 : ¬ (a.kind == 2 && b.kind == 2 && a.frm == b.frm && !decide (a.text = b.text)) = true := by rw [← hx, h]; simp
      refine (c_isVerdict a w5).mono ?_
      rintro _ w23 ⟨r, rfl, hr, E23⟩
      refine ⟨r, rfl, fun hr1 => ⟨_, _, _, _, _, (b2.pure E23).row, ?_⟩, fun hr1 => J4 _ w23 (by rw [← hr, hr1]; rfl) h1 E23⟩
      refine (c_isVerdict b w23).mono ?_
      rintro _ w24 ⟨r', rfl, hr', E24⟩
      exact ⟨r', rfl, J4 _ w24 (by rw [← hr, hr1, hr']; rfl) h1 (E23.trans E24)⟩
  have J6 : ∀ x, x = (a.kind == 2 && b.kind == 2 && a.frm == b.frm) → m_arbiter_fault_j6 p1 p2 p3 p4 x w5 K := by
    intro x hx
    unfold m_arbiter_fault_j6
    exact ⟨fun h => ⟨a.text, b1.cell rfl, b.text, b2.cell rfl, J1 _ (by rw [← hx, h]; rfl)⟩, fun h => J1 _ (by rw [← hx, h]; rfl)⟩
  have J5 : ∀ x, x = (a.kind == 2 && b.kind == 2) → m_arbiter_fault_j5 p1 p2 p3 p4 x w5 K := by
    intro x hx
    unfold m_arbiter_fault_j5
    exact ⟨fun h => ⟨a.frm, b1.cell rfl, b.frm, b2.cell rfl, J6 _ (by rw [← hx, h]; rfl)⟩, fun h => J6 _ (by rw [← hx, h]; rfl)⟩
  exact ⟨a.kind, b1.cell0, fun h => ⟨b.kind, b2.cell0, J5 _ (by rw [h]; rfl)⟩, fun h => J5 _ (by rw [h]; rfl)⟩
end Go.Proofs
