import Derived.Test.YtdljcendkjfamaaPa1
import Derived.Test.YtdljcendkjfamaaProg
import Derived.KernelRfl
import Derived.Test.YtdljcendkjfamaaPa0
section
open Go Go.SE
namespace Go.Sp
structure Op where
 code : Int
 a : Int
 b : Int
 num : Int
 text : ByteArray
deriving DecidableEq
abbrev Res := Int × Int × Pool
def atM (M : List Int) (i : Int) : Option Int := if i < 0 then none else M[i.toNat]?
def nodeAt (L : Pool) (M : List Int) (i : Int) : Node := match atM M i with | none => noNode | some t => nodeOf L t
def nameOf (n : Int) : Int := cond (decide (n > 2147483648)) (-1) (IntKind.i64.wrap n)
def noOp (L : Pool) : Res := (0, 90, L)
def keyedOp (L : Pool) (M : List Int) (o : Op) (mk : Int → Int → Node) : Res :=
 match atM M o.a with
 | none => noOp L
 | some a => if (nodeAt L M o.b).kind = 6 then make L (mk (nodeAt L M o.b).frm a) else noOp L
def pairOp (L : Pool) (M : List Int) (o : Op) : Res :=
 match atM M o.a with
 | none => noOp L
 | some a => match atM M o.b with
  | none => noOp L
  | some b => make L ⟨4, 0, 0, 0, ⟨#[]⟩, a, b⟩
def hashOp (L : Pool) (M : List Int) (o : Op) : Res :=
 match atM M o.a with
 | none => noOp L
 | some a => make L ⟨5, 0, 0, 0, ⟨#[]⟩, a, 0⟩
def knownOp (L : Pool) (G : List Int) (o : Op) : Res :=
 match atM G o.a with
 | none => noOp L
 | some a => (a, 0, L)
def partOp (L : Pool) (M : List Int) (o : Op) (second : Bool) : Res :=
 if (nodeAt L M o.a).kind = 4 then (if second then (nodeAt L M o.a).b else (nodeAt L M o.a).a, 0, L) else noOp L
def shownOp (L : Pool) (M : List Int) (o : Op) : Res :=
 if showsK (nodeAt L M o.a).kind = true then ((nodeAt L M o.a).a, 0, L) else noOp L
def doOp (L : Pool) (G M : List Int) (o : Op) : Res :=
 if o.code = 0 then knownOp L G o
 else if o.code = 1 then make L ⟨1, o.a, 0, 0, ⟨#[]⟩, 0, 0⟩
 else if o.code = 2 then make L ⟨2, 0, 0, o.num, ⟨#[]⟩, 0, 0⟩
 else if o.code = 3 then make L ⟨3, 0, 0, 0, o.text, 0, 0⟩
 else if o.code = 4 then pairOp L M o
 else if o.code = 5 then hashOp L M o
 else if o.code = 6 then partOp L M o false
 else if o.code = 7 then partOp L M o true
 else if o.code = 8 then shownOp L M o
 else if o.code = 9 then keyedOp L M o (fun k a => ⟨7, k, 0, 0, ⟨#[]⟩, a, 0⟩)
 else if o.code = 10 then keyedOp L M o (fun k a => ⟨8, k, nameOf o.num, 0, ⟨#[]⟩, a, 0⟩)
 else if o.code = 11 then keyedOp L M o (fun k a => ⟨9, nameOf o.num, k, 0, ⟨#[]⟩, a, 0⟩)
 else noOp L
def runOps (L : Pool) (G : List Int) (M : List Int) : List Op → List Int × Int × Pool
 | [] => (M, 0, L)
 | o :: os => if (doOp L G M o).2.1 ≠ 0 then (M, (doOp L G M o).2.1, (doOp L G M o).2.2) else runOps (doOp L G M o).2.2 G (M ++ [(doOp L G M o).1]) os
def evalOps (L : Pool) (G : List Int) (l : List Op) : Int × Int × Int × Pool :=
 if l.length > 256 then (0, 6, 0, L) else if l.length = 0 then (0, 3, 0, L)
 else if (runOps L G [] l).2.1 ≠ 0 then (0, (runOps L G [] l).2.1, (runOps L G [] l).1.length, (runOps L G [] l).2.2)
 else (((runOps L G [] l).1.getLast?).getD 0, 0, 0, (runOps L G [] l).2.2)
theorem nodeOf_out {L : Pool} {t : Int} (h : inP L t = false) : nodeOf L t = noNode := by simp [nodeOf, get_none h]
theorem atM_in {M : List Int} {i : Int} (h0 : 0 ≤ i) (h1 : i.toNat < M.length) : atM M i = some M[i.toNat] := by
 unfold atM; rw [if_neg (by omega), List.getElem?_eq_getElem h1]
theorem atM_out {M : List Int} {i : Int} (h : i < 0 ∨ (M.length : Int) ≤ i) : atM M i = none := by
 unfold atM
 split
 ·rfl
 ·rw [List.getElem?_eq_none]; omega
theorem atM_some {M : List Int} {i t : Int} (h : atM M i = some t) : 0 ≤ i ∧ ∃ h1 : i.toNat < M.length, M[i.toNat] = t := by
 unfold atM at h
 split at h
 ·cases h
 ·exact ⟨by omega, List.getElem?_eq_some_iff.1 h⟩
theorem ite_ind {α : Type} {P : α → Prop} {c : Prop} [Decidable c] {x y : α} (hx : P x) (hy : P y) : P (if c then x else y) := by split <;> assumption
theorem doOp_ind {L : Pool} (P : Res → Prop) (h1 : ∀ t e, P (t, e, L)) (h2 : ∀ n, P (make L n)) (G M : List Int) (o : Op) : P (doOp L G M o) := by
 have hk : ∀ mk, P (keyedOp L M o mk) := fun mk => by
  unfold keyedOp; split
  ·exact h1 _ _
  ·split
   ·exact h2 _
   ·exact h1 _ _
 have hkn : P (knownOp L G o) := by unfold knownOp; split <;> exact h1 _ _
 have hp : P (pairOp L M o) := by
  unfold pairOp; split
  ·exact h1 _ _
  ·split
   ·exact h1 _ _
   ·exact h2 _
 have hh : P (hashOp L M o) := by
  unfold hashOp; split
  ·exact h1 _ _
  ·exact h2 _
 have hpa : ∀ s, P (partOp L M o s) := fun s => by unfold partOp; split <;> exact h1 _ _
 have hs : P (shownOp L M o) := by unfold shownOp; split <;> exact h1 _ _
 unfold doOp
 refine ite_ind hkn (ite_ind (h2 _) (ite_ind (h2 _) (ite_ind (h2 _) (ite_ind hp (ite_ind hh (ite_ind (hpa _) (ite_ind (hpa _) (ite_ind hs (ite_ind (hk _) (ite_ind (hk _) (ite_ind (hk _) (h1 _ _))))))))))))
theorem doOp_wf {L : Pool} (h : Wf L) (G M : List Int) (o : Op) : Wf (doOp L G M o).2.2 := doOp_ind (fun r => Wf r.2.2) (fun _ _ => h) (fun n => make_wf h n) G M o
theorem runOps_wf (G : List Int) : ∀ (l : List Op) (L : Pool) (M : List Int), Wf L → Wf (runOps L G M l).2.2
 | [], _, _, h => h
 | o :: os, L, M, h => by
  unfold runOps
  split
  ·exact doOp_wf h G M o
  ·exact runOps_wf G os _ _ (doOp_wf h G M o)
theorem runOps_len (G : List Int) : ∀ (l : List Op) (L : Pool) (M : List Int), (runOps L G M l).1.length ≤ M.length + l.length ∧ ((runOps L G M l).2.1 = 0 → (runOps L G M l).1.length = M.length + l.length)
 | [], _, _ => ⟨Nat.le_refl _, fun _ => rfl⟩
 | o :: os, L, M => by
  unfold runOps
  split
  ·rename_i h; exact ⟨by show M.length ≤ M.length + (os.length + 1); omega, fun h' => absurd h' h⟩
  ·obtain ⟨h1, h2⟩ := runOps_len G os (doOp L G M o).2.2 (M ++ [(doOp L G M o).1])
   simp only [List.length_append, List.length_cons, List.length_nil] at h1 h2
   simp only [List.length_cons]
   exact ⟨by omega, fun h => by have := h2 h; omega⟩
section
variable {L : Pool} {G M : List Int} {o : Op}
theorem doOp0 (h : o.code = 0) : doOp L G M o = knownOp L G o := by unfold doOp; rw [if_pos h]
theorem doOp1 (h : o.code = 1) : doOp L G M o = make L ⟨1, o.a, 0, 0, ⟨#[]⟩, 0, 0⟩ := by unfold doOp; rw [if_neg (by omega), if_pos h]
theorem doOp2 (h : o.code = 2) : doOp L G M o = make L ⟨2, 0, 0, o.num, ⟨#[]⟩, 0, 0⟩ := by unfold doOp; rw [if_neg (by omega), if_neg (by omega), if_pos h]
theorem doOp3 (h : o.code = 3) : doOp L G M o = make L ⟨3, 0, 0, 0, o.text, 0, 0⟩ := by unfold doOp; rw [if_neg (by omega), if_neg (by omega), if_neg (by omega), if_pos h]
theorem doOp4 (h : o.code = 4) : doOp L G M o = pairOp L M o := by unfold doOp; rw [if_neg (by omega), if_neg (by omega), if_neg (by omega), if_neg (by omega), if_pos h]
theorem doOp5 (h : o.code = 5) : doOp L G M o = hashOp L M o := by unfold doOp; rw [if_neg (by omega), if_neg (by omega), if_neg (by omega), if_neg (by omega), if_neg (by omega), if_pos h]
theorem doOp6 (h : o.code = 6) : doOp L G M o = partOp L M o false := by unfold doOp; rw [if_neg (by omega), if_neg (by omega), if_neg (by omega), if_neg (by omega), if_neg (by omega), if_neg (by omega), if_pos h]
theorem doOp7 (h : o.code = 7) : doOp L G M o = partOp L M o true := by unfold doOp; rw [if_neg (by omega), if_neg (by omega), if_neg (by omega), if_neg (by omega), if_neg (by omega), if_neg (by omega), if_neg (by omega), if_pos h]
theorem doOp8 (h : o.code = 8) : doOp L G M o = shownOp L M o := by unfold doOp; rw [if_neg (by omega), if_neg (by omega), if_neg (by omega), if_neg (by omega), if_neg (by omega), if_neg (by omega), if_neg (by omega), if_neg (by omega), if_pos h]
theorem doOp9 (h : o.code = 9) : doOp L G M o = keyedOp L M o (fun k a => ⟨7, k, 0, 0, ⟨#[]⟩, a, 0⟩) := by unfold doOp; rw [if_neg (by omega), if_neg (by omega), if_neg (by omega), if_neg (by omega), if_neg (by omega), if_neg (by omega), if_neg (by omega), if_neg (by omega), if_neg (by omega), if_pos h]
theorem doOp10 (h : o.code = 10) : doOp L G M o = keyedOp L M o (fun k a => ⟨8, k, nameOf o.num, 0, ⟨#[]⟩, a, 0⟩) := by unfold doOp; rw [if_neg (by omega), if_neg (by omega), if_neg (by omega), if_neg (by omega), if_neg (by omega), if_neg (by omega), if_neg (by omega), if_neg (by omega), if_neg (by omega), if_neg (by omega), if_pos h]
theorem doOp11 (h : o.code = 11) : doOp L G M o = keyedOp L M o (fun k a => ⟨9, nameOf o.num, k, 0, ⟨#[]⟩, a, 0⟩) := by unfold doOp; rw [if_neg (by omega), if_neg (by omega), if_neg (by omega), if_neg (by omega), if_neg (by omega), if_neg (by omega), if_neg (by omega), if_neg (by omega), if_neg (by omega), if_neg (by omega), if_neg (by omega), if_pos h]
end
theorem runOps_step {L : Pool} {G M : List Int} {l : List Op} {j : Nat} (hj : j < l.length) : runOps L G M (l.drop j) =
  if (doOp L G M l[j]).2.1 ≠ 0 then (M, (doOp L G M l[j]).2.1, (doOp L G M l[j]).2.2) else runOps (doOp L G M l[j]).2.2 G (M ++ [(doOp L G M l[j]).1]) (l.drop (j + 1)) := by
 rw [List.drop_eq_getElem_cons hj, runOps]
theorem evalOps_wf {L : Pool} (h : Wf L) (G : List Int) (l : List Op) : Wf (evalOps L G l).2.2.2 := by
 unfold evalOps
 repeat' split
 ·exact h
 ·exact h
 ·exact runOps_wf G l L [] h
 ·exact runOps_wf G l L [] h
end Go.Sp
end
section
open Go Go.SE
namespace Go.Proofs
set_option maxRecDepth 100000
set_option maxHeartbeats 4000000
attribute [local irreducible] wpL wpX opE wpE Calls
def s_recipe_refuses (p1 : Option Addr) (k1 : Option Addr) (l1 : Sl) : Int :=
 (cond ((Option.isNone p1) || (Option.isNone k1)) 2 (cond (decide ((l1.len : Int) > 256)) 6 (cond (((l1.len : Int) : Int) == 0) 3 0)))
theorem pw_recipe_refuses (p1 : Option Addr) (k1 : Option Addr) (l1 : Sl) (w0 : World) :
  Calls Try.prog 65 #[(vp p1), (vp k1), l1.v] w0 (fun e w' => ∃ b'0 b'1 b'2 : Bool, (((Option.isNone p1) || (Option.isNone k1)) = b'0 ∧ (decide ((l1.len : Int) > 256)) = b'1 ∧ (((l1.len : Int) : Int) == 0) = b'2) ∧ (e = .returned (vi (cond b'0 2 (cond b'1 6 (cond b'2 3 0))))) ∧ Pure w0 w') := by
 refine calls_of_wpE (args := [(vp p1), (vp k1), l1.v]) Try.func65 rfl Try.ntmps65 (Nat.le_of_ble_eq_true rfl) (wpE_seq (rg (q0 (vi 0) (wpL_nil (th_n (wpE_seq (wpE_block (wpE_seq ?_))))))))
 refine wpE_via (fun ρ wJ => w0 = wJ ∧ Has ρ [(2, l1.v), (7, (vb ((Option.isNone p1) || (Option.isNone k1))))]) ?_ ?_
 ·skip
  refine rg (q0 (vp p1) (q2 (vb (Option.isNone p1)) (x_ptreq (by kernel_rfl) rfl Try.underlying32) (q0 (vb (Option.isNone p1)) ?_)))
  refine wpL_join 3 (fun ρ wJ => ∃ b3'0 : Bool, ((Option.isNone p1) = b3'0) ∧ w0 = wJ ∧ Has ρ [(2, l1.v), (13, (vb (b3'0 || (Option.isNone k1))))]) ?_ ?_
  ·rintro ρ w3 ⟨b3'0, he0, hw, hH⟩
   subst he0
   subst hw
   refine wpL_has hH ?_
   clear hH
   refine q0 (vb ((Option.isNone p1) || (Option.isNone k1))) (wpL_nil (th_n ?_))
   exact ⟨rfl, Has.mk (by kernel_rfl)⟩
  ·skip
   rcases Bool.eq_false_or_eq_true (Option.isNone p1) with hg4 | hg4
   ·skip
    refine sk (yD 10 hg4) (sk (yD 10 hg4) (q2 (vb true) (xT hg4) (wpL_nil ?_)))
    exact ⟨true, hg4, rfl, Has.mk (by kernel_rfl)⟩
   ·skip
    refine q1 (vp k1) (want1 rfl (yD 10 hg4)) (stp (v := (vb (Option.isNone k1))) (want1 rfl (yD 10 hg4)) (x_ptreq (by kernel_rfl) rfl Try.underlying33) (q2 (vb (Option.isNone k1)) (xF hg4) (wpL_nil ?_)))
    exact ⟨false, hg4, rfl, Has.mk (by kernel_rfl)⟩
 ·rintro ρ w2 ⟨hw, hH⟩
  subst hw
  refine norm_has hH ?_
  clear hH
  refine th_n ?_
  refine wpE_cond (t := ((Option.isNone p1) || (Option.isNone k1))) (by kernel_rfl) (fun hc1 => ?_) (fun hc1 => ?_)
  ·skip
   refine wpE_seq (rg (q0 (vi 2) (wpL_nil (th_n (wpE_ret (bl_r (th_r (res1 (.inl rfl) Try.results65 (v := (vi 2)) (by kernel_rfl) ?_))))))))
   exact ⟨true, _, _, ⟨hc1, rfl, rfl⟩, by kernel_rfl, Ext.refl _⟩
  ·skip
   refine wpE_seq (rg (q0 l1.v (q0 (vi (l1.len : Int)) (q0 (vb (decide ((l1.len : Int) > 256))) (q0 (vb (decide ((l1.len : Int) > 256))) (wpL_nil (th_n ?_)))))))
   refine wpE_cond (t := (decide ((l1.len : Int) > 256))) (by kernel_rfl) (fun hc2 => ?_) (fun hc2 => ?_)
   ·skip
    refine wpE_seq (rg (q0 (vi 6) (wpL_nil (th_n (wpE_ret (bl_r (th_r (res1 (.inl rfl) Try.results65 (v := (vi 6)) (by kernel_rfl) ?_))))))))
    exact ⟨false, true, _, ⟨hc1, hc2, rfl⟩, by kernel_rfl, Ext.refl _⟩
   ·skip
    refine wpE_seq (rg (q0 l1.v (q0 (vi (l1.len : Int)) (q0 (vb (((l1.len : Int) : Int) == 0)) (q0 (vb (((l1.len : Int) : Int) == 0)) (wpL_nil (th_n ?_)))))))
    refine wpE_cond (t := (((l1.len : Int) : Int) == 0)) (by kernel_rfl) (fun hc3 => ?_) (fun hc3 => ?_)
    ·skip
     refine wpE_seq (rg (q0 (vi 3) (wpL_nil (th_n (wpE_ret (bl_r (th_r (res1 (.inl rfl) Try.results65 (v := (vi 3)) (by kernel_rfl) ?_))))))))
     exact ⟨false, false, true, ⟨hc1, hc2, hc3⟩, by kernel_rfl, Ext.refl _⟩
    ·skip
     refine wpE_skip (bl_n (th_n (wpE_seq (rg (q0 (vi 0) (wpL_nil (th_n (wpE_ret (res1 (.inl rfl) Try.results65 (v := (vi 0)) (by kernel_rfl) ?_)))))))))
     exact ⟨false, false, false, ⟨hc1, hc2, hc3⟩, by kernel_rfl, Ext.refl _⟩
theorem p_recipe_refuses (p1 : Option Addr) (k1 : Option Addr) (l1 : Sl) (w0 : World) : Calls Try.prog 65 #[(.pointer p1), (.pointer k1), l1.v] w0 (fun e w' => e = .returned (.int .i64 (s_recipe_refuses p1 k1 l1)) ∧ Pure w0 w') := by
 refine (pw_recipe_refuses p1 k1 l1 w0).mono ?_
 rintro e w' ⟨b'0, b'1, b'2, ⟨e0, e1, e2⟩, h, E⟩
 subst e0
 subst e1
 subst e2
 exact ⟨h, E⟩
def m_recipe_cook_kitchen (c1 : Option Addr) (w0 : World) (K : (Option Nat) → World → Prop) : Prop :=
 ∀ (p1 : Addr) (w1 : World), New w0 (.cells #[(vp c1)] 169) p1 w1 →
 ∃ v1 : Option Addr, w1.cell? p1 = some (vp v1) ∧
 ∃ a1 : Addr, v1 = some a1 ∧
 ∃ v2 : Option Addr, w1.cell? a1 = some (vp v2) ∧
 ∀ (p2 : Addr) (w2 : World), New w1 (.cells #[(vp none)] 32) p2 w2 →
 CanW w2 p2 ∧ ∀ w3 : World, w3 = w2.setCell p2 (vp v2) →
 ∀ (p3 : Addr) (w4 : World), New w3 (.map #[] 0) p3 w4 →
 ∃ w5 : World, (Instr.mapUpdate 172 (.map (some p3.block)) (vi 0) (.func (.func 138) #[] #[(vp (some p1))])).run Try.prog w4 = .ok () w5 ∧
 ∃ w6 : World, (Instr.mapUpdate 172 (.map (some p3.block)) (vi 1) (.func (.func 139) #[] #[(vp (some p2))])).run Try.prog w5 = .ok () w6 ∧
 ∃ w7 : World, (Instr.mapUpdate 172 (.map (some p3.block)) (vi 2) (.func (.func 140) #[] #[(vp (some p2))])).run Try.prog w6 = .ok () w7 ∧
 ∃ w8 : World, (Instr.mapUpdate 172 (.map (some p3.block)) (vi 3) (.func (.func 141) #[] #[(vp (some p2))])).run Try.prog w7 = .ok () w8 ∧
 ∃ w9 : World, (Instr.mapUpdate 172 (.map (some p3.block)) (vi 4) (.func (.func 143) #[] #[(vp (some p1)), (vp (some p2))])).run Try.prog w8 = .ok () w9 ∧
 ∃ w10 : World, (Instr.mapUpdate 172 (.map (some p3.block)) (vi 5) (.func (.func 145) #[] #[(vp (some p1)), (vp (some p2))])).run Try.prog w9 = .ok () w10 ∧
 ∃ w11 : World, (Instr.mapUpdate 172 (.map (some p3.block)) (vi 6) (.func (.func 146) #[] #[(vp (some p1))])).run Try.prog w10 = .ok () w11 ∧
 ∃ w12 : World, (Instr.mapUpdate 172 (.map (some p3.block)) (vi 7) (.func (.func 148) #[] #[(vp (some p1))])).run Try.prog w11 = .ok () w12 ∧
 ∃ v3 : Option Addr, w12.cell? p1 = some (vp v3) ∧
 ∃ w13 : World, (Instr.mapUpdate 172 (.map (some p3.block)) (vi 8) (.func (.func 149) #[(vp v3)] #[])).run Try.prog w12 = .ok () w13 ∧
 ∃ w14 : World, (Instr.mapUpdate 172 (.map (some p3.block)) (vi 9) (.func (.func 150) #[] #[(vp (some p1)), (vp (some p2))])).run Try.prog w13 = .ok () w14 ∧
 ∃ w15 : World, (Instr.mapUpdate 172 (.map (some p3.block)) (vi 10) (.func (.func 152) #[] #[(vp (some p1)), (vp (some p2))])).run Try.prog w14 = .ok () w15 ∧
 ∃ w16 : World, (Instr.mapUpdate 172 (.map (some p3.block)) (vi 11) (.func (.func 155) #[] #[(vp (some p1)), (vp (some p2))])).run Try.prog w15 = .ok () w16 ∧
 K (some p3.block) w16
theorem w_recipe_cook_kitchen (c1 : Option Addr) (w0 : World) (K : (Option Nat) → World → Prop) (h : m_recipe_cook_kitchen c1 w0 K) :
  Calls Try.prog 114 #[(vp c1)] w0 (fun e w' => ∃ r1 : Option Nat, e = .returned (.map r1) ∧ K r1 w') := by
 unfold m_recipe_cook_kitchen at h
 refine calls_of_wpE (args := [(vp c1)]) Try.func114 rfl Try.ntmps114 (Nat.le_of_ble_eq_true rfl) (wpE_seq (rg (sn (O := (.cells #[(vp c1)] 169)) xb ?_)))
 intro p1 w1 hn4
 replace h := h p1 w1 hn4
 refine q0 (.map none) (wpL_nil (th_n (wpE_seq (rg ?_))))
 obtain ⟨v1, hv15, h⟩ := h
 refine q2 (vp v1) (xl (Try.isAgg169 _) hv15) ?_
 obtain ⟨a1, hp1, h⟩ := h
 refine q2 (vp (some a1)) (x_nilCheck (p := v1) (by kernel_rfl) hp1) (q0 (vp (some a1)) ?_)
 obtain ⟨v2, hv14, h⟩ := h
 refine q2 (vp v2) (xl (Try.isAgg32 _) hv14) (sn (O := (.cells #[(vp none)] 32)) (x_alloc (Try.zeroValue32 _) rfl) ?_)
 intro p2 w2 hn3
 replace h := h p2 w2 hn3
 obtain ⟨hp2, h⟩ := h
 refine st_set (want0 rfl) (x_store (a := p2) (v := (vp v2)) (by kernel_rfl) (by kernel_rfl) rfl (Try.sizeOf32 _) hp2) ?_
 intro w3 hn1
 replace h := h w3 hn1
 refine wpL_nil (th_n (wpE_seq (rg (st_new (O := (.map #[] 0)) (fun p => .map (some p.block)) (want0 rfl) (by kernel_rfl) ?_))))
 intro p3 w4 hn2
 replace h := h p3 w4 hn2
 refine q0 (.func (.func 138) #[] #[(vp (some p1))]) ?_
 obtain ⟨w5, hv13, h⟩ := h
 refine st_skip (want0 rfl) (x_insert (by kernel_rfl) (by kernel_rfl) (by kernel_rfl) hv13) (q0 (.func (.func 139) #[] #[(vp (some p2))]) ?_)
 obtain ⟨w6, hv12, h⟩ := h
 refine st_skip (want0 rfl) (x_insert (by kernel_rfl) (by kernel_rfl) (by kernel_rfl) hv12) (q0 (.func (.func 140) #[] #[(vp (some p2))]) ?_)
 obtain ⟨w7, hv11, h⟩ := h
 refine st_skip (want0 rfl) (x_insert (by kernel_rfl) (by kernel_rfl) (by kernel_rfl) hv11) (q0 (.func (.func 141) #[] #[(vp (some p2))]) ?_)
 obtain ⟨w8, hv10, h⟩ := h
 refine st_skip (want0 rfl) (x_insert (by kernel_rfl) (by kernel_rfl) (by kernel_rfl) hv10) (q0 (.func (.func 143) #[] #[(vp (some p1)), (vp (some p2))]) ?_)
 obtain ⟨w9, hv9, h⟩ := h
 refine st_skip (want0 rfl) (x_insert (by kernel_rfl) (by kernel_rfl) (by kernel_rfl) hv9) (q0 (.func (.func 145) #[] #[(vp (some p1)), (vp (some p2))]) ?_)
 obtain ⟨w10, hv8, h⟩ := h
 refine st_skip (want0 rfl) (x_insert (by kernel_rfl) (by kernel_rfl) (by kernel_rfl) hv8) (q0 (.func (.func 146) #[] #[(vp (some p1))]) ?_)
 obtain ⟨w11, hv7, h⟩ := h
 refine st_skip (want0 rfl) (x_insert (by kernel_rfl) (by kernel_rfl) (by kernel_rfl) hv7) (q0 (.func (.func 148) #[] #[(vp (some p1))]) ?_)
 obtain ⟨w12, hv6, h⟩ := h
 refine st_skip (want0 rfl) (x_insert (by kernel_rfl) (by kernel_rfl) (by kernel_rfl) hv6) ?_
 obtain ⟨v3, hv5, h⟩ := h
 refine q2 (vp v3) (xl (Try.isAgg169 _) hv5) (q0 (.func (.func 149) #[(vp v3)] #[]) ?_)
 obtain ⟨w13, hv4, h⟩ := h
 refine st_skip (want0 rfl) (x_insert (by kernel_rfl) (by kernel_rfl) (by kernel_rfl) hv4) (q0 (.func (.func 150) #[] #[(vp (some p1)), (vp (some p2))]) ?_)
 obtain ⟨w14, hv3, h⟩ := h
 refine st_skip (want0 rfl) (x_insert (by kernel_rfl) (by kernel_rfl) (by kernel_rfl) hv3) (q0 (.func (.func 152) #[] #[(vp (some p1)), (vp (some p2))]) ?_)
 obtain ⟨w15, hv2, h⟩ := h
 refine st_skip (want0 rfl) (x_insert (by kernel_rfl) (by kernel_rfl) (by kernel_rfl) hv2) (q0 (.func (.func 155) #[] #[(vp (some p1)), (vp (some p2))]) ?_)
 obtain ⟨w16, hv1, h⟩ := h
 refine st_skip (want0 rfl) (x_insert (by kernel_rfl) (by kernel_rfl) (by kernel_rfl) hv1) (q0 (.map (some p3.block)) (q0 (.map (some p3.block)) (wpL_nil (th_n (wpE_ret (res1 (.inl rfl) Try.results114 (v := (.map (some p3.block))) (by kernel_rfl) ?_))))))
 exact ⟨(some p3.block), rfl, h⟩
def m_recipe_run_l1 (l1 : Sl) (p2 : Addr) (r2 : Option Nat) (x1 : Int) (w0 : World) (Hl1 : Nat → Prop) (wl1 : World) (Kc1 : Int → (Nat → Prop) → World → Prop) (K : Sl → Int → World → Prop) : Prop :=
 Br (decide (x1 < (l1.len : Int)))
  (∃ a1 : Addr, At l1 x1 5 a1 ∧
  ∃ aR aP : Int, ∃ aQ aS : Int, ∃ aT : ByteArray, Row wl1 a1 [(vi aR), (vi aP), (vi aQ), (vu aS), (vs aT)] ∧
  ∀ (H1 : Nat → Prop) (w5 : World), Hst w0 Hl1 wl1 H1 w5 →
  ∃ v1 : Value, ∃ ok1 : Bool, (Instr.lookup 172 (.map r2) (vi aR) true).run Try.prog w5 = .ok (.tuple #[v1, (vb ok1)]) w5 ∧
  Br (!ok1)
   (∃ v2 : Sl, w5.cell? (p2.add 2) = some v2.v ∧
   K v2 90 w5)
   (∃ (f1 : FuncId) (fs1 cs1 : Array Value), v1 = .func (.func f1) fs1 cs1 ∧
   (∀ args w, (callFunc f1 args).run Try.prog w = .ok (.enter f1 args) w) ∧ Calls Try.prog f1 (fs1 ++ #[(.agg #[(vi aR), (vi aP), (vi aQ), (vu aS), (vs aT)])] ++ cs1) w5 (fun e w6 => ∃ r3 r4 : Int, e = .returned (.tuple #[(vi r3), (vi r4)]) ∧ 
    Kept H1 w5 w6 ∧
    Br (r4 != 0)
     (∃ v3 : Sl, w6.cell? (p2.add 2) = some v3.v ∧
     K v3 r4 w6)
     (∃ v4 : Sl, w6.cell? (p2.add 2) = some v4.v ∧
     ∀ (p4 : Addr) (w7 : World), New w6 (.cells #[(vi r3)] 38) p4 w7 →
     ∃ s1 : Sl, ∃ w8 : World, (Builtin.append_ #[30, 30] 30 #[v4.v, (Sl.mk (some p4) 1 1).v]).run Try.prog w7 = .ok s1.v w8 ∧
     Kept H1 w7 w8 ∧
     CanW w8 (p2.add 2) ∧ ¬ H1 (p2.add 2).block ∧ ∀ w9 : World, w9 = w8.setCell (p2.add 2) s1.v →
     Kc1 (IntKind.i64.wrap (x1 + 1)) H1 w9))))
  (∃ v5 : Sl, wl1.cell? (p2.add 2) = some v5.v ∧
  K v5 0 wl1)
def m_recipe_run (p1 : Option Addr) (k1 : Option Addr) (l1 : Sl) (w0 : World) (K : Sl → Int → World → Prop) : Prop :=
 Calls Try.prog 57 #[(vp k1)] w0 (fun e w1 => ∃ r1 : Sl, e = .returned r1.v ∧ 
  Kept None w0 w1 ∧
  ∀ (p2 : Addr) (w2 : World), New w1 (.cells #[(vp p1), r1.v, Sl.nil.v] 171) p2 w2 →
  Calls Try.prog 114 #[(vp (some p2))] w2 (fun e w3 => ∃ r2 : Option Nat, e = .returned (.map r2) ∧ 
   Kept None w2 w3 ∧
   ∃ (I1 : Int → (Nat → Prop) → World → Prop) (mu1 : Int → World → Nat), I1 0 None w3 ∧
    ∀ (x1 : Int) (Hl1 : Nat → Prop) (wl1 : World), Hst w0 Hl1 wl1 Hl1 wl1 → I1 x1 Hl1 wl1 → m_recipe_run_l1 l1 p2 r2 x1 w0 Hl1 wl1 (fun y'0 H' w' => I1 y'0 H' w' ∧ mu1 y'0 w' < mu1 x1 wl1) K))
theorem w_recipe_run (p1 : Option Addr) (k1 : Option Addr) (l1 : Sl) (w0 : World) (K : Sl → Int → World → Prop) (h : m_recipe_run p1 k1 l1 w0 K) :
  Calls Try.prog 66 #[(vp p1), (vp k1), l1.v] w0 (fun e w' => ∃ r5 : Sl, ∃ r6 : Int, e = .returned (.tuple #[r5.v, (vi r6)]) ∧ K r5 r6 w') := by
 unfold m_recipe_run at h
 refine calls_of_wpE (args := [(vp p1), (vp k1), l1.v]) Try.func66 rfl Try.ntmps66 (Nat.le_of_ble_eq_true rfl) ?_
 have hs := Hst.start w0
 have hb := HB.nil None w0
 refine wpE_seq (rg (q0 Sl.nil.v (q0 (vi 0) (wpL_nil (th_n (wpE_seq (rg (q0 (vp p1) (q0 (vp k1) ?_)))))))))
 refine st_call (want0 rfl) (xc Try.call57) (h.mono ?_)
 rintro e w1 ⟨r1, rfl, hk, h⟩
 refine ⟨_, rfl, ?_⟩
 obtain ⟨hs, hb⟩ := hk.hh hs hb
 refine q0 (.agg #[(vp p1), r1.v, Sl.nil.v]) (sn (O := (.cells #[(vp p1), r1.v, Sl.nil.v] 171)) xb ?_)
 intro p2 w2 hn5
 replace h := h p2 w2 hn5
 replace hs := hs.again (Ext.new (F := None) hn5).keptP
 replace hb := hb.kept (Ext.new (F := None) hn5).keptP
 refine q0 (vp (some p2)) (wpL_nil (th_n (wpE_seq (rg (q0 (vp (some p2)) ?_)))))
 refine st_call (want0 rfl) (xc Try.call114) (h.mono ?_)
 rintro e w3 ⟨r2, rfl, hk, h⟩
 refine ⟨_, rfl, ?_⟩
 obtain ⟨hs, hb⟩ := hk.hh hs hb
 refine q0 (.map r2) (wpL_nil (th_n (wpE_seq (wpE_seq (rg (q0 l1.v (q0 (vi (l1.len : Int)) (q0 (vi 0) (wpL_nil (th_n (wpE_block ?_)))))))))))
 obtain ⟨I1, mu1, h0, hr⟩ := h
 refine wpE_loop (σ := Int × (Nat → Prop) × World) (fun s ρ w => w = s.2.2 ∧ Has ρ [(8, (vp (some p2))), (9, (.map r2)), (23, l1.v), (24, (vi (l1.len : Int))), (25, (vi s.1))] ∧ Hst w0 s.2.1 w s.2.1 w ∧ HB s.2.1 w [] ∧ I1 s.1 s.2.1 s.2.2) (fun s => mu1 s.1 s.2.2) (0, None, w3) ⟨rfl, Has.mk (by kernel_rfl), hs, hb, h0⟩ ?_
 clear hs hb
 rintro ⟨x1, Hl1, wl1⟩ ρ w ⟨hw, hH, hs, hb, hI⟩
 obtain rfl : wl1 = w := (show w = wl1 from hw).symm
 replace hH : Has ρ [(8, (vp (some p2))), (9, (.map r2)), (23, l1.v), (24, (vi (l1.len : Int))), (25, (vi x1))] := hH
 replace hs : Hst w0 Hl1 wl1 Hl1 wl1 := hs
 replace hb : HB Hl1 wl1 [] := hb
 have h := hr x1 Hl1 wl1 hs hI
 clear hr h0
 unfold m_recipe_run_l1 at h
 refine wpE_has hH ?_
 clear hH hI
 refine wpE_seq (rg (q0 (vb (decide (x1 < (l1.len : Int)))) (wpL_nil (th_n (wpE_seq ?_)))))
 refine wpE_cond (t := (decide (x1 < (l1.len : Int)))) (by kernel_rfl) (fun hc1 => ?_) (fun hc1 => ?_)
 ·replace h := h.1 hc1
  refine wpE_skip (th_n (wpE_seq (wpE_block (wpE_seq (rg ?_)))))
  obtain ⟨a1, hv7, h⟩ := h
  refine q2 (vp (some a1)) (x_indexAddr (s := l1) (k := .i64) (i := x1) (by kernel_rfl) (by kernel_rfl) (Try.runUnderlying23 _) (Try.sizeOf103 _) hv7) ?_
  obtain ⟨aR, aP, aQ, aS, aT, hv6, h⟩ := h
  refine q2 (.agg #[(vi aR), (vi aP), (vi aQ), (vu aS), (vs aT)]) (x_loadA (a := a1) (vs := [(vi aR), (vi aP), (vi aQ), (vu aS), (vs aT)]) (by kernel_rfl) (Try.isAgg103 _) (Try.sizeOf103 _) rfl hv6) (sn (O := (.cells #[(vi 0), (vi 0), (vi 0), (vu 0), (vs ⟨#[]⟩)] 103)) (x_alloc (Try.zeroValue103 _) rfl) ?_)
  intro p3 w4 hn1
  obtain ⟨H1, hs, hb⟩ := hs.alloc hb hn1
  refine st_set (want0 rfl) (x_storeA (a := p3) (vs := [(vi aR), (vi aP), (vi aQ), (vu aS), (vs aT)]) (by kernel_rfl) (by kernel_rfl) rfl (Try.sizeOf103 _) rfl (hb.canWs0 0 5 gZ (by kernel_rfl))) ?_
  intro w5 hn2
  have hsb : Hst w0 Hl1 wl1 H1 w5 ∧ HB H1 w5 [(p3, [(vi aR), (vi aP), (vi aQ), (vu aS), (vs aT)], 103)] := by
   rw [hn2]
   exact hb.store0 (i := 0) (vs := [(vi aR), (vi aP), (vi aQ), (vu aS), (vs aT)]) hs gZ (by kernel_rfl) (by kernel_rfl)
  clear hs hb hn2
  obtain ⟨hs, hb⟩ := hsb
  refine wpL_nil (th_n (wpE_seq (rg (q0 (.map r2) (q0 (vp (some p3)) (q2 (vi aR) (xl (Try.isAgg3 _) (hb.c0 0 gZ)) ?_))))))
  replace h := h H1 w5 hs
  replace hs := hs.here
  obtain ⟨v1, ok1, hv5, h⟩ := h
  refine q2 (.tuple #[v1, (vb ok1)]) (x_lookup (by kernel_rfl) (by kernel_rfl) hv5) (q0 (.tuple #[v1, (vb ok1)]) (q0 v1 (q0 (vb ok1) (q0 v1 (q0 (vb ok1) (wpL_nil (th_n (wpE_seq (wpE_seq (rg (q0 (vb ok1) ?_)))))))))))
  refine q0 (vb (!ok1)) (wpL_nil (th_n ?_))
  refine wpE_cond (t := (!ok1)) (by kernel_rfl) (fun hc2 => ?_) (fun hc2 => ?_)
  ·replace h := h.1 hc2
   refine wpE_seq (rg (q0 (vp (some p2)) (q0 (vp (some p2)) (q0 (vp (some (p2.add 2))) ?_))))
   obtain ⟨v2, hv1, h⟩ := h
   refine q2 v2.v (xl (Try.isAgg30 _) hv1) (q0 v2.v (q0 (vi 90) (wpL_nil (th_n (wpE_ret (th_r (bl_r (th_r (th_r (bl_r (th_r ?_)))))))))))
   refine res2 (.inl rfl) Try.results66 (v := v2.v) (by kernel_rfl) (v' := (vi 90)) (by kernel_rfl) ?_
   exact ⟨v2, 90, rfl, h⟩
  ·replace h := h.2 hc2
   refine wpE_skip (th_n (wpE_seq (rg (q0 v1 (q2 (.agg #[(vi aR), (vi aP), (vi aQ), (vu aS), (vs aT)]) (x_loadA (a := p3) (vs := [(vi aR), (vi aP), (vi aQ), (vu aS), (vs aT)]) (by kernel_rfl) (Try.isAgg103 _) (Try.sizeOf103 _) rfl (hb.row0 0 5 gZ (by kernel_rfl))) ?_)))))
   obtain ⟨f1, fs1, cs1, hp1, h⟩ := h
   obtain ⟨hf1, h⟩ := h
   refine st_call (want0 rfl) (x_callmE (fs := fs1) (caps := cs1) (args := #[(.agg #[(vi aR), (vi aP), (vi aQ), (vu aS), (vs aT)])]) (by kernel_rfl) hp1 hf1 (by kernel_rfl) rfl) (h.mono ?_)
   rintro e w6 ⟨r3, r4, rfl, hk, h⟩
   refine ⟨_, rfl, ?_⟩
   obtain ⟨hs, hb⟩ := hk.hh hs hb
   refine q0 (.tuple #[(vi r3), (vi r4)]) (q0 (vi r3) (q0 (vi r4) (q0 (vi r3) (q0 (vi r4) (wpL_nil (th_n (wpE_seq (wpE_seq (rg (q0 (vi r4) (q0 (vb (r4 != 0)) ?_)))))))))))
   refine wpL_nil (th_n ?_)
   refine wpE_cond (t := (r4 != 0)) (by kernel_rfl) (fun hc3 => ?_) (fun hc3 => ?_)
   ·replace h := h.1 hc3
    refine wpE_seq (rg (q0 (vp (some p2)) (q0 (vp (some p2)) (q0 (vp (some (p2.add 2))) ?_))))
    obtain ⟨v3, hv2, h⟩ := h
    refine q2 v3.v (xl (Try.isAgg30 _) hv2) (q0 (vi r4) (q0 v3.v (q0 (vi r4) (wpL_nil (th_n (wpE_ret (th_r (bl_r (th_r (th_r (bl_r ?_)))))))))))
    refine th_r (res2 (.inl rfl) Try.results66 (v := v3.v) (by kernel_rfl) (v' := (vi r4)) (by kernel_rfl) ?_)
    exact ⟨v3, r4, rfl, h⟩
   ·replace h := h.2 hc3
    refine wpE_skip (th_n (rg (q0 (vp (some p2)) (q0 (vp (some p2)) (q0 (vp (some p2)) (q0 (vp (some (p2.add 2))) ?_))))))
    obtain ⟨v4, hv4, h⟩ := h
    refine q2 v4.v (xl (Try.isAgg30 _) hv4) (q0 (vi r3) (st_new (O := (.cells #[(vi r3)] 38)) (fun p => (Sl.mk (some p) 1 1).v) (want0 rfl) (x_buildSlice (vs := #[(0, (vi r3))]) (by kernel_rfl) (by kernel_rfl)) ?_))
    intro p4 w7 hn4
    replace h := h p4 w7 hn4
    replace hs := hs.again (Ext.new (F := None) hn4).keptP
    replace hb := hb.kept (Ext.new (F := None) hn4).keptP
    obtain ⟨s1, w8, hv3, hk, h⟩ := h
    refine st (v := s1.v) (want0 rfl) (x_builtin (args := #[v4.v, (Sl.mk (some p4) 1 1).v]) (by kernel_rfl) (fun _ => rfl) hv3) ?_
    obtain ⟨hs, hb⟩ := hk.hh hs hb
    refine q0 (vp (some p2)) (q0 (vp (some (p2.add 2))) ?_)
    obtain ⟨hp2, hnh, h⟩ := h
    refine st_set (want0 rfl) (x_store (a := (p2.add 2)) (v := s1.v) (by kernel_rfl) (by kernel_rfl) rfl (Try.sizeOf30 _) hp2) ?_
    intro w9 hn3
    replace h := h w9 hn3
    have hk : Kept H1 w8 w9 := by rw [hn3]; exact Kept.setCell hnh
    replace hs := hs.again hk
    replace hb := hb.kept hk
    clear hk hnh
    refine wpL_nil (bl_n (th_n (rg (q0 (vi (IntKind.i64.wrap (x1 + 1))) (q0 (vi (IntKind.i64.wrap (x1 + 1))) (wpL_nil (th_n ?_)))))))
    exact ⟨((IntKind.i64.wrap (x1 + 1)), H1, w9), ⟨rfl, Has.mk (by kernel_rfl), hs, hb.drop 1, h.1⟩, h.2⟩
 ·replace h := h.2 hc1
  refine wpE_exit (th_x (th_x (bl_eq (th_n (wpE_seq (rg (q0 (vp (some p2)) (q0 (vp (some p2)) (q0 (vp (some (p2.add 2))) ?_)))))))))
  obtain ⟨v5, hv8, h⟩ := h
  refine q2 v5.v (xl (Try.isAgg30 _) hv8) (q0 v5.v (q0 (vi 0) (wpL_nil (th_n (wpE_ret (res2 (.inl rfl) Try.results66 (v := v5.v) (by kernel_rfl) (v' := (vi 0)) (by kernel_rfl) ?_))))))
  exact ⟨v5, 0, rfl, h⟩
def m_recipe_Eval (p1 : Option Addr) (k1 : Option Addr) (l1 : Sl) (w0 : World) (K : Int → Int → Int → World → Prop) : Prop :=
 Br (((s_recipe_refuses p1 k1 l1) : Int) != 0)
  (∀ (w1 : World), Hst w0 None w0 None w1 →
  K 0 (s_recipe_refuses p1 k1 l1) 0 w1)
  (∀ (w1 : World), Hst w0 None w0 None w1 →
  Calls Try.prog 66 #[(vp p1), (vp k1), l1.v] w1 (fun e w2 => ∃ r1 : Sl, ∃ r2 : Int, e = .returned (.tuple #[r1.v, (vi r2)]) ∧ 
   Kept None w1 w2 ∧
   Br (r2 != 0)
    (K 0 r2 (r1.len : Int) w2)
    (∃ a1 : Addr, At r1 (IntKind.i64.wrap ((r1.len : Int) - 1)) 1 a1 ∧
    ∃ v1 : Int, w2.cell? a1 = some (vi v1) ∧
    K v1 0 0 w2)))
theorem w_recipe_Eval (p1 : Option Addr) (k1 : Option Addr) (l1 : Sl) (w0 : World) (K : Int → Int → Int → World → Prop) (h : m_recipe_Eval p1 k1 l1 w0 K) :
  Calls Try.prog 18 #[(vp p1), (vp k1), l1.v] w0 (fun e w' => ∃ r3 r4 r5 : Int, e = .returned (.tuple #[(vi r3), (vi r4), (vi r5)]) ∧ K r3 r4 r5 w') := by
 unfold m_recipe_Eval at h
 refine calls_of_wpE (args := [(vp p1), (vp k1), l1.v]) Try.func18 rfl Try.ntmps18 (Nat.le_of_ble_eq_true rfl) ?_
 have hs := Hst.start w0
 have hb := HB.nil None w0
 refine wpE_seq (rg (q0 (vi 0) (q0 (vi 0) (q0 (vi 0) (wpL_nil (th_n (wpE_seq (wpE_seq (rg (q0 (vp p1) (q0 (vp k1) ?_)))))))))))
 refine q0 l1.v ?_
 refine st_call (want0 rfl) (xc Try.call65) ((p_recipe_refuses p1 k1 l1 w0).mono ?_)
 rintro e w1 ⟨he, hE⟩
 refine ⟨(vi (s_recipe_refuses p1 k1 l1)), he.trans (by kernel_rfl), ?_⟩
 replace hs := hs.pure hE
 replace hb := hb.pure hE
 clear hE he
 refine q0 (vi (s_recipe_refuses p1 k1 l1)) (wpL_nil (th_n (wpE_seq (rg (q0 (vi (s_recipe_refuses p1 k1 l1)) (q0 (vb (((s_recipe_refuses p1 k1 l1) : Int) != 0)) (wpL_nil (th_n ?_))))))))
 refine wpE_cond (t := (((s_recipe_refuses p1 k1 l1) : Int) != 0)) (by kernel_rfl) (fun hc1 => ?_) (fun hc1 => ?_)
 ·replace h := h.1 hc1
  refine wpE_seq (rg (q0 (vi (s_recipe_refuses p1 k1 l1)) (q0 (vi 0) (q0 (vi (s_recipe_refuses p1 k1 l1)) (q0 (vi 0) (wpL_nil (th_n (wpE_ret (th_r ?_)))))))))
  replace h := h w1 hs
  replace hs := hs.here
  refine res3 (.inl rfl) Try.results18 (v := (vi 0)) (by kernel_rfl) (v' := (vi (s_recipe_refuses p1 k1 l1))) (by kernel_rfl) (v'' := (vi 0)) (by kernel_rfl) ?_
  exact ⟨0, (s_recipe_refuses p1 k1 l1), 0, rfl, h⟩
 ·replace h := h.2 hc1
  refine wpE_skip (th_n (wpE_seq (rg (q0 (vp p1) (q0 (vp k1) (q0 l1.v ?_))))))
  replace h := h w1 hs
  replace hs := hs.here
  refine st_call (want0 rfl) (xc Try.call66) (h.mono ?_)
  rintro e w2 ⟨r1, r2, rfl, hk, h⟩
  refine ⟨_, rfl, ?_⟩
  obtain ⟨hs, hb⟩ := hk.hh hs hb
  refine q0 (.tuple #[r1.v, (vi r2)]) (q0 r1.v (q0 (vi r2) (q0 r1.v (q0 (vi r2) (wpL_nil (th_n (wpE_seq (wpE_seq (rg (q0 (vi r2) (q0 (vb (r2 != 0)) ?_)))))))))))
  refine wpL_nil (th_n ?_)
  refine wpE_cond (t := (r2 != 0)) (by kernel_rfl) (fun hc2 => ?_) (fun hc2 => ?_)
  ·replace h := h.1 hc2
   refine wpE_seq (rg (q0 (vi r2) (q0 r1.v (q0 (vi (r1.len : Int)) (q0 (vi 0) (q0 (vi r2) (q0 (vi (r1.len : Int)) (wpL_nil (th_n (wpE_ret (th_r ?_)))))))))))
   refine res3 (.inl rfl) Try.results18 (v := (vi 0)) (by kernel_rfl) (v' := (vi r2)) (by kernel_rfl) (v'' := (vi (r1.len : Int))) (by kernel_rfl) ?_
   exact ⟨0, r2, (r1.len : Int), rfl, h⟩
  ·replace h := h.2 hc2
   refine wpE_skip (th_n (wpE_seq (rg (q0 r1.v (q0 r1.v (q0 (vi (r1.len : Int)) (q0 (vi (IntKind.i64.wrap ((r1.len : Int) - 1))) ?_)))))))
   obtain ⟨a1, hv2, h⟩ := h
   refine q2 (vp (some a1)) (x_indexAddr (s := r1) (k := .i64) (i := (IntKind.i64.wrap ((r1.len : Int) - 1))) (by kernel_rfl) (by kernel_rfl) (Try.runUnderlying30 _) (Try.sizeOf38 _) hv2) ?_
   obtain ⟨v1, hv1, h⟩ := h
   refine q2 (vi v1) (xl (Try.isAgg38 _) hv1) (q0 (vi v1) (q0 (vi 0) (q0 (vi 0) (wpL_nil (th_n (wpE_ret (res3 (.inl rfl) Try.results18 (v := (vi v1)) (by kernel_rfl) (v' := (vi 0)) (by kernel_rfl) (v'' := (vi 0)) (by kernel_rfl) ?_)))))))
   exact ⟨v1, 0, 0, rfl, h⟩
def m_recipe_step (p1 : Option Addr) (given1 : Sl) (aO aG : Int) (aN aU : Int) (w0 : World) (K : Int → Int → Int → Int → ByteArray → World → Prop) : Prop :=
 ∀ (H2 : Nat → Prop) (w2 : World), Hst w0 None w0 H2 w2 →
 Calls Try.prog 62 #[(vp p1), (vi aU)] w2 (fun e w3 => ∃ aB aH : Int, ∃ aM aJ : Int, ∃ aK : ByteArray, ∃ aI aL : Int, ∃ r1 : Bool, e = .returned (.tuple #[(.agg #[(vi aB), (vi aH), (vi aM), (vu aJ), (vs aK), (vi aI), (vi aL)]), (vb r1)]) ∧ 
  Kept H2 w2 w3 ∧
  Br (aO == 0)
   (∀ (H3 : Nat → Prop) (w5 : World), Hst w0 H2 w3 H3 w5 →
   Calls Try.prog 92 #[given1.v, (vi aU)] w5 (fun e w6 => ∃ r2 : Int, e = .returned (vi r2) ∧ 
    Kept H3 w5 w6 ∧
    ∀ (w7 : World), Hst w0 H3 w6 H3 w7 →
    K 0 r2 0 0 ⟨#[]⟩ w7))
   (Br (aO == 1)
    (∀ (H3 : Nat → Prop) (w8 : World), Hst w0 H2 w3 H3 w8 →
    K 6 aG 0 0 ⟨#[]⟩ w8)
    (Br (aO == 2)
     (∀ (H3 : Nat → Prop) (w9 : World), Hst w0 H2 w3 H3 w9 →
     K 7 aG 0 0 ⟨#[]⟩ w9)
     (Br (aO == 3)
      (∀ (H3 : Nat → Prop) (w10 : World), Hst w0 H2 w3 H3 w10 →
      K 8 aG 0 0 ⟨#[]⟩ w10)
      (Br (aB == 1)
       (∀ (H3 : Nat → Prop) (w11 : World), Hst w0 H2 w3 H3 w11 →
       K 1 aH 0 0 ⟨#[]⟩ w11)
       (Br (aB == 2)
        (∀ (H3 : Nat → Prop) (w12 : World), Hst w0 H2 w3 H3 w12 →
        K 2 0 0 aJ ⟨#[]⟩ w12)
        (Br (aB == 3)
         (∀ (H3 : Nat → Prop) (w13 : World), Hst w0 H2 w3 H3 w13 →
         K 3 0 0 0 aK w13)
         (Br (aB == 4)
          (∀ (H3 : Nat → Prop) (w14 : World), Hst w0 H2 w3 H3 w14 →
          K 4 aG aN 0 ⟨#[]⟩ w14)
          (Br (aB == 5)
           (∀ (H3 : Nat → Prop) (w15 : World), Hst w0 H2 w3 H3 w15 →
           K 5 aG 0 0 ⟨#[]⟩ w15)
           (Br (aB == 7)
            (∀ (H3 : Nat → Prop) (w16 : World), Hst w0 H2 w3 H3 w16 →
            K 9 aG aN 0 ⟨#[]⟩ w16)
            (Br (aB == 8)
             (∀ (H3 : Nat → Prop) (w17 : World), Hst w0 H2 w3 H3 w17 →
             K 10 aG aN (IntKind.u64.wrap aM) ⟨#[]⟩ w17)
             (∀ (H3 : Nat → Prop) (w18 : World), Hst w0 H2 w3 H3 w18 →
             K 11 aG aN (IntKind.u64.wrap aH) ⟨#[]⟩ w18))))))))))))
theorem w_recipe_step (p1 : Option Addr) (given1 : Sl) (aO aG : Int) (aN aU : Int) (w0 : World) (K : Int → Int → Int → Int → ByteArray → World → Prop) (h : m_recipe_step p1 given1 aO aG aN aU w0 K) :
  Calls Try.prog 86 #[(vp p1), given1.v, (.agg #[(vi aO), (vi aG), (vi aN), (vi aU)])] w0 (fun e w' => ∃ aX aY : Int, ∃ aZ bA : Int, ∃ bB : ByteArray, e = .returned (.agg #[(vi aX), (vi aY), (vi aZ), (vu bA), (vs bB)]) ∧ K aX aY aZ bA bB w') := by
 unfold m_recipe_step at h
 refine calls_of_wpE (args := [(vp p1), given1.v, (.agg #[(vi aO), (vi aG), (vi aN), (vi aU)])]) Try.func86 rfl Try.ntmps86 (Nat.le_of_ble_eq_true rfl) ?_
 have hs := Hst.start w0
 have hb := HB.nil None w0
 refine wpE_seq (rg (sn (O := (.cells #[(vi aO), (vi aG), (vi aN), (vi aU)] 136)) xb ?_))
 intro p2 w1 hn1
 obtain ⟨H1, hs, hb⟩ := hs.alloc hb hn1
 refine sn (O := (.cells #[(vi 0), (vi 0), (vi 0), (vu 0), (vs ⟨#[]⟩)] 103)) (x_alloc (Try.zeroValue103 _) rfl) ?_
 intro p3 w2 hn2
 obtain ⟨H2, hs, hb⟩ := hs.alloc hb hn2
 refine wpL_nil (th_n (wpE_seq (rg (q0 (vp p1) (q0 (vp (some (p2.add 3))) (q2 (vi aU) (xl (Try.isAgg38 _) (hb.c 1 3 (gS gZ))) ?_))))))
 replace h := h H2 w2 hs
 replace hs := hs.here
 refine st_call (want0 rfl) (xc Try.call62) (h.mono ?_)
 rintro e w3 ⟨aB, aH, aM, aJ, aK, aI, aL, r1, rfl, hk, h⟩
 refine ⟨_, rfl, ?_⟩
 obtain ⟨hs, hb⟩ := hk.hh hs hb
 refine q0 (.tuple #[(.agg #[(vi aB), (vi aH), (vi aM), (vu aJ), (vs aK), (vi aI), (vi aL)]), (vb r1)]) (q0 (.agg #[(vi aB), (vi aH), (vi aM), (vu aJ), (vs aK), (vi aI), (vi aL)]) (q0 (vb r1) (sn (O := (.cells #[(vi 0), (vi 0), (vi 0), (vu 0), (vs ⟨#[]⟩), (vi 0), (vi 0)] 105)) (x_alloc (Try.zeroValue105 _) rfl) ?_)))
 intro p4 w4 hn3
 obtain ⟨H3, hs, hb⟩ := hs.alloc hb hn3
 refine st_set (want0 rfl) (x_storeA (a := p4) (vs := [(vi aB), (vi aH), (vi aM), (vu aJ), (vs aK), (vi aI), (vi aL)]) (by kernel_rfl) (by kernel_rfl) rfl (Try.sizeOf105 _) rfl (hb.canWs0 0 7 gZ (by kernel_rfl))) ?_
 intro w5 hn4
 have hsb : Hst w0 H2 w3 H3 w5 ∧ HB H3 w5 [(p4, [(vi aB), (vi aH), (vi aM), (vu aJ), (vs aK), (vi aI), (vi aL)], 105), (p3, [(vi 0), (vi 0), (vi 0), (vu 0), (vs ⟨#[]⟩)], 103), (p2, [(vi aO), (vi aG), (vi aN), (vi aU)], 136)] := by
  rw [hn4]
  exact hb.store0 (i := 0) (vs := [(vi aB), (vi aH), (vi aM), (vu aJ), (vs aK), (vi aI), (vi aL)]) hs gZ (by kernel_rfl) (by kernel_rfl)
 clear hs hb hn4
 obtain ⟨hs, hb⟩ := hsb
 refine q0 (vb r1) (wpL_nil (th_n (wpE_seq (wpE_seq (rg (q0 (vp (some p2)) (q2 (vi aO) (xl (Try.isAgg3 _) (hb.c0 2 (gS (gS gZ)))) (wpL_nil (th_n (wpE_block (wpE_seq ?_)))))))))))
 refine rg (q0 (vb (aO == 0)) (q0 (vb (aO == 0)) (wpL_nil (th_n ?_))))
 refine wpE_cond (t := (aO == 0)) (by kernel_rfl) (fun hc1 => ?_) (fun hc1 => ?_)
 ·replace h := h.1 hc1
  refine wpE_seq (rg (q0 given1.v (q0 (vp (some (p2.add 3))) (q2 (vi aU) (xl (Try.isAgg38 _) (hb.c 2 3 (gS (gS gZ)))) ?_))))
  replace h := h H3 w5 hs
  replace hs := hs.here
  refine st_call (want0 rfl) (xc Try.call92) (h.mono ?_)
  rintro e w6 ⟨r2, rfl, hk, h⟩
  refine ⟨_, rfl, ?_⟩
  obtain ⟨hs, hb⟩ := hk.hh hs hb
  refine q0 (.agg #[(vi 0), (vi r2), (vi 0), (vu 0), (vs ⟨#[]⟩)]) (st_set (want0 rfl) (x_storeA (a := p3) (vs := [(vi 0), (vi r2), (vi 0), (vu 0), (vs ⟨#[]⟩)]) (by kernel_rfl) (by kernel_rfl) rfl (Try.sizeOf103 _) rfl (hb.canWs0 1 5 (gS gZ) (by kernel_rfl))) ?_)
  intro w7 hn5
  have hsb : Hst w0 H3 w6 H3 w7 ∧ HB H3 w7 [(p4, [(vi aB), (vi aH), (vi aM), (vu aJ), (vs aK), (vi aI), (vi aL)], 105), (p3, [(vi 0), (vi r2), (vi 0), (vu 0), (vs ⟨#[]⟩)], 103), (p2, [(vi aO), (vi aG), (vi aN), (vi aU)], 136)] := by
   rw [hn5]
   exact hb.store0 (i := 1) (vs := [(vi 0), (vi r2), (vi 0), (vu 0), (vs ⟨#[]⟩)]) hs (gS gZ) (by kernel_rfl) (by kernel_rfl)
  clear hs hb hn5
  obtain ⟨hs, hb⟩ := hsb
  refine wpL_nil (th_n (wpE_ret (bl_r (th_r ?_))))
  replace h := h w7 hs
  replace hs := hs.here
  refine resG (.inl rfl) (vs := [(.agg #[(vi 0), (vi r2), (vi 0), (vu 0), (vs ⟨#[]⟩)])]) (v := (.agg #[(vi 0), (vi r2), (vi 0), (vu 0), (vs ⟨#[]⟩)])) Try.results86 ⟨(RV.cellA (by kernel_rfl) (Try.isAgg103 _) (Try.sizeOf103 _) rfl (hb.row0 1 5 (gS gZ) (by kernel_rfl))), trivial⟩ (by kernel_rfl) ?_
  exact ⟨0, r2, 0, 0, ⟨#[]⟩, rfl, h⟩
 ·replace h := h.2 hc1
  refine wpE_seq (rg (q0 (vb (aO == 1)) (q0 (vb (aO == 1)) (wpL_nil (th_n ?_)))))
  refine wpE_cond (t := (aO == 1)) (by kernel_rfl) (fun hc2 => ?_) (fun hc2 => ?_)
  ·replace h := h.1 hc2
   refine wpE_seq (rg (q0 (vp (some (p2.add 1))) (q2 (vi aG) (xl (Try.isAgg3 _) (hb.c 2 1 (gS (gS gZ)))) (q0 (.agg #[(vi 6), (vi aG), (vi 0), (vu 0), (vs ⟨#[]⟩)]) (st_set (want0 rfl) (x_storeA (a := p3) (vs := [(vi 6), (vi aG), (vi 0), (vu 0), (vs ⟨#[]⟩)]) (by kernel_rfl) (by kernel_rfl) rfl (Try.sizeOf103 _) rfl (hb.canWs0 1 5 (gS gZ) (by kernel_rfl))) ?_)))))
   intro w8 hn6
   have hsb : Hst w0 H2 w3 H3 w8 ∧ HB H3 w8 [(p4, [(vi aB), (vi aH), (vi aM), (vu aJ), (vs aK), (vi aI), (vi aL)], 105), (p3, [(vi 6), (vi aG), (vi 0), (vu 0), (vs ⟨#[]⟩)], 103), (p2, [(vi aO), (vi aG), (vi aN), (vi aU)], 136)] := by
    rw [hn6]
    exact hb.store0 (i := 1) (vs := [(vi 6), (vi aG), (vi 0), (vu 0), (vs ⟨#[]⟩)]) hs (gS gZ) (by kernel_rfl) (by kernel_rfl)
   clear hs hb hn6
   obtain ⟨hs, hb⟩ := hsb
   refine wpL_nil (th_n (wpE_ret (bl_r (th_r ?_))))
   replace h := h H3 w8 hs
   replace hs := hs.here
   refine resG (.inl rfl) (vs := [(.agg #[(vi 6), (vi aG), (vi 0), (vu 0), (vs ⟨#[]⟩)])]) (v := (.agg #[(vi 6), (vi aG), (vi 0), (vu 0), (vs ⟨#[]⟩)])) Try.results86 ⟨(RV.cellA (by kernel_rfl) (Try.isAgg103 _) (Try.sizeOf103 _) rfl (hb.row0 1 5 (gS gZ) (by kernel_rfl))), trivial⟩ (by kernel_rfl) ?_
   exact ⟨6, aG, 0, 0, ⟨#[]⟩, rfl, h⟩
  ·replace h := h.2 hc2
   refine wpE_seq (rg (q0 (vb (aO == 2)) (q0 (vb (aO == 2)) (wpL_nil (th_n ?_)))))
   refine wpE_cond (t := (aO == 2)) (by kernel_rfl) (fun hc3 => ?_) (fun hc3 => ?_)
   ·replace h := h.1 hc3
    refine wpE_seq (rg (q0 (vp (some (p2.add 1))) (q2 (vi aG) (xl (Try.isAgg3 _) (hb.c 2 1 (gS (gS gZ)))) (q0 (.agg #[(vi 7), (vi aG), (vi 0), (vu 0), (vs ⟨#[]⟩)]) (st_set (want0 rfl) (x_storeA (a := p3) (vs := [(vi 7), (vi aG), (vi 0), (vu 0), (vs ⟨#[]⟩)]) (by kernel_rfl) (by kernel_rfl) rfl (Try.sizeOf103 _) rfl (hb.canWs0 1 5 (gS gZ) (by kernel_rfl))) ?_)))))
    intro w9 hn7
    have hsb : Hst w0 H2 w3 H3 w9 ∧ HB H3 w9 [(p4, [(vi aB), (vi aH), (vi aM), (vu aJ), (vs aK), (vi aI), (vi aL)], 105), (p3, [(vi 7), (vi aG), (vi 0), (vu 0), (vs ⟨#[]⟩)], 103), (p2, [(vi aO), (vi aG), (vi aN), (vi aU)], 136)] := by
     rw [hn7]
     exact hb.store0 (i := 1) (vs := [(vi 7), (vi aG), (vi 0), (vu 0), (vs ⟨#[]⟩)]) hs (gS gZ) (by kernel_rfl) (by kernel_rfl)
    clear hs hb hn7
    obtain ⟨hs, hb⟩ := hsb
    refine wpL_nil (th_n (wpE_ret (bl_r (th_r ?_))))
    replace h := h H3 w9 hs
    replace hs := hs.here
    refine resG (.inl rfl) (vs := [(.agg #[(vi 7), (vi aG), (vi 0), (vu 0), (vs ⟨#[]⟩)])]) (v := (.agg #[(vi 7), (vi aG), (vi 0), (vu 0), (vs ⟨#[]⟩)])) Try.results86 ⟨(RV.cellA (by kernel_rfl) (Try.isAgg103 _) (Try.sizeOf103 _) rfl (hb.row0 1 5 (gS gZ) (by kernel_rfl))), trivial⟩ (by kernel_rfl) ?_
    exact ⟨7, aG, 0, 0, ⟨#[]⟩, rfl, h⟩
   ·replace h := h.2 hc3
    refine wpE_seq (rg (q0 (vb (aO == 3)) (q0 (vb (aO == 3)) (wpL_nil (th_n ?_)))))
    refine wpE_cond (t := (aO == 3)) (by kernel_rfl) (fun hc4 => ?_) (fun hc4 => ?_)
    ·replace h := h.1 hc4
     refine wpE_seq (rg (q0 (vp (some (p2.add 1))) (q2 (vi aG) (xl (Try.isAgg3 _) (hb.c 2 1 (gS (gS gZ)))) (q0 (.agg #[(vi 8), (vi aG), (vi 0), (vu 0), (vs ⟨#[]⟩)]) (st_set (want0 rfl) (x_storeA (a := p3) (vs := [(vi 8), (vi aG), (vi 0), (vu 0), (vs ⟨#[]⟩)]) (by kernel_rfl) (by kernel_rfl) rfl (Try.sizeOf103 _) rfl (hb.canWs0 1 5 (gS gZ) (by kernel_rfl))) ?_)))))
     intro w10 hn8
     have hsb : Hst w0 H2 w3 H3 w10 ∧ HB H3 w10 [(p4, [(vi aB), (vi aH), (vi aM), (vu aJ), (vs aK), (vi aI), (vi aL)], 105), (p3, [(vi 8), (vi aG), (vi 0), (vu 0), (vs ⟨#[]⟩)], 103), (p2, [(vi aO), (vi aG), (vi aN), (vi aU)], 136)] := by
      rw [hn8]
      exact hb.store0 (i := 1) (vs := [(vi 8), (vi aG), (vi 0), (vu 0), (vs ⟨#[]⟩)]) hs (gS gZ) (by kernel_rfl) (by kernel_rfl)
     clear hs hb hn8
     obtain ⟨hs, hb⟩ := hsb
     refine wpL_nil (th_n (wpE_ret (bl_r (th_r ?_))))
     replace h := h H3 w10 hs
     replace hs := hs.here
     refine resG (.inl rfl) (vs := [(.agg #[(vi 8), (vi aG), (vi 0), (vu 0), (vs ⟨#[]⟩)])]) (v := (.agg #[(vi 8), (vi aG), (vi 0), (vu 0), (vs ⟨#[]⟩)])) Try.results86 ⟨(RV.cellA (by kernel_rfl) (Try.isAgg103 _) (Try.sizeOf103 _) rfl (hb.row0 1 5 (gS gZ) (by kernel_rfl))), trivial⟩ (by kernel_rfl) ?_
     exact ⟨8, aG, 0, 0, ⟨#[]⟩, rfl, h⟩
    ·replace h := h.2 hc4
     refine wpE_skip (bl_n (th_n (wpE_seq (wpE_seq (rg (q0 (vp (some p4)) (q2 (vi aB) (xl (Try.isAgg3 _) (hb.c0 0 gZ)) (wpL_nil (th_n (wpE_block (wpE_seq ?_)))))))))))
     refine rg (q0 (vb (aB == 1)) (q0 (vb (aB == 1)) (wpL_nil (th_n ?_))))
     refine wpE_cond (t := (aB == 1)) (by kernel_rfl) (fun hc5 => ?_) (fun hc5 => ?_)
     ·replace h := h.1 hc5
      refine wpE_seq (rg (q0 (vp (some (p4.add 1))) (q2 (vi aH) (xl (Try.isAgg3 _) (hb.c 0 1 gZ)) (q0 (.agg #[(vi 1), (vi aH), (vi 0), (vu 0), (vs ⟨#[]⟩)]) (st_set (want0 rfl) (x_storeA (a := p3) (vs := [(vi 1), (vi aH), (vi 0), (vu 0), (vs ⟨#[]⟩)]) (by kernel_rfl) (by kernel_rfl) rfl (Try.sizeOf103 _) rfl (hb.canWs0 1 5 (gS gZ) (by kernel_rfl))) ?_)))))
      intro w11 hn9
      have hsb : Hst w0 H2 w3 H3 w11 ∧ HB H3 w11 [(p4, [(vi aB), (vi aH), (vi aM), (vu aJ), (vs aK), (vi aI), (vi aL)], 105), (p3, [(vi 1), (vi aH), (vi 0), (vu 0), (vs ⟨#[]⟩)], 103), (p2, [(vi aO), (vi aG), (vi aN), (vi aU)], 136)] := by
       rw [hn9]
       exact hb.store0 (i := 1) (vs := [(vi 1), (vi aH), (vi 0), (vu 0), (vs ⟨#[]⟩)]) hs (gS gZ) (by kernel_rfl) (by kernel_rfl)
      clear hs hb hn9
      obtain ⟨hs, hb⟩ := hsb
      refine wpL_nil (th_n (wpE_ret (bl_r (th_r ?_))))
      replace h := h H3 w11 hs
      replace hs := hs.here
      refine resG (.inl rfl) (vs := [(.agg #[(vi 1), (vi aH), (vi 0), (vu 0), (vs ⟨#[]⟩)])]) (v := (.agg #[(vi 1), (vi aH), (vi 0), (vu 0), (vs ⟨#[]⟩)])) Try.results86 ⟨(RV.cellA (by kernel_rfl) (Try.isAgg103 _) (Try.sizeOf103 _) rfl (hb.row0 1 5 (gS gZ) (by kernel_rfl))), trivial⟩ (by kernel_rfl) ?_
      exact ⟨1, aH, 0, 0, ⟨#[]⟩, rfl, h⟩
     ·replace h := h.2 hc5
      refine wpE_seq (rg (q0 (vb (aB == 2)) (q0 (vb (aB == 2)) (wpL_nil (th_n ?_)))))
      refine wpE_cond (t := (aB == 2)) (by kernel_rfl) (fun hc6 => ?_) (fun hc6 => ?_)
      ·replace h := h.1 hc6
       refine wpE_seq (rg (q0 (vp (some (p4.add 3))) (q2 (vu aJ) (xl (Try.isAgg44 _) (hb.c 0 3 gZ)) (q0 (.agg #[(vi 2), (vi 0), (vi 0), (vu aJ), (vs ⟨#[]⟩)]) (st_set (want0 rfl) (x_storeA (a := p3) (vs := [(vi 2), (vi 0), (vi 0), (vu aJ), (vs ⟨#[]⟩)]) (by kernel_rfl) (by kernel_rfl) rfl (Try.sizeOf103 _) rfl (hb.canWs0 1 5 (gS gZ) (by kernel_rfl))) ?_)))))
       intro w12 hn10
       have hsb : Hst w0 H2 w3 H3 w12 ∧ HB H3 w12 [(p4, [(vi aB), (vi aH), (vi aM), (vu aJ), (vs aK), (vi aI), (vi aL)], 105), (p3, [(vi 2), (vi 0), (vi 0), (vu aJ), (vs ⟨#[]⟩)], 103), (p2, [(vi aO), (vi aG), (vi aN), (vi aU)], 136)] := by
        rw [hn10]
        exact hb.store0 (i := 1) (vs := [(vi 2), (vi 0), (vi 0), (vu aJ), (vs ⟨#[]⟩)]) hs (gS gZ) (by kernel_rfl) (by kernel_rfl)
       clear hs hb hn10
       obtain ⟨hs, hb⟩ := hsb
       refine wpL_nil (th_n (wpE_ret (bl_r (th_r ?_))))
       replace h := h H3 w12 hs
       replace hs := hs.here
       refine resG (.inl rfl) (vs := [(.agg #[(vi 2), (vi 0), (vi 0), (vu aJ), (vs ⟨#[]⟩)])]) (v := (.agg #[(vi 2), (vi 0), (vi 0), (vu aJ), (vs ⟨#[]⟩)])) Try.results86 ⟨(RV.cellA (by kernel_rfl) (Try.isAgg103 _) (Try.sizeOf103 _) rfl (hb.row0 1 5 (gS gZ) (by kernel_rfl))), trivial⟩ (by kernel_rfl) ?_
       exact ⟨2, 0, 0, aJ, ⟨#[]⟩, rfl, h⟩
      ·replace h := h.2 hc6
       refine wpE_seq (rg (q0 (vb (aB == 3)) (q0 (vb (aB == 3)) (wpL_nil (th_n ?_)))))
       refine wpE_cond (t := (aB == 3)) (by kernel_rfl) (fun hc7 => ?_) (fun hc7 => ?_)
       ·replace h := h.1 hc7
        refine wpE_seq (rg (q0 (vp (some (p4.add 4))) (q2 (vs aK) (xl (Try.isAgg9 _) (hb.c 0 4 gZ)) (q0 (.agg #[(vi 3), (vi 0), (vi 0), (vu 0), (vs aK)]) (st_set (want0 rfl) (x_storeA (a := p3) (vs := [(vi 3), (vi 0), (vi 0), (vu 0), (vs aK)]) (by kernel_rfl) (by kernel_rfl) rfl (Try.sizeOf103 _) rfl (hb.canWs0 1 5 (gS gZ) (by kernel_rfl))) ?_)))))
        intro w13 hn11
        have hsb : Hst w0 H2 w3 H3 w13 ∧ HB H3 w13 [(p4, [(vi aB), (vi aH), (vi aM), (vu aJ), (vs aK), (vi aI), (vi aL)], 105), (p3, [(vi 3), (vi 0), (vi 0), (vu 0), (vs aK)], 103), (p2, [(vi aO), (vi aG), (vi aN), (vi aU)], 136)] := by
         rw [hn11]
         exact hb.store0 (i := 1) (vs := [(vi 3), (vi 0), (vi 0), (vu 0), (vs aK)]) hs (gS gZ) (by kernel_rfl) (by kernel_rfl)
        clear hs hb hn11
        obtain ⟨hs, hb⟩ := hsb
        refine wpL_nil (th_n (wpE_ret (bl_r (th_r ?_))))
        replace h := h H3 w13 hs
        replace hs := hs.here
        refine resG (.inl rfl) (vs := [(.agg #[(vi 3), (vi 0), (vi 0), (vu 0), (vs aK)])]) (v := (.agg #[(vi 3), (vi 0), (vi 0), (vu 0), (vs aK)])) Try.results86 ⟨(RV.cellA (by kernel_rfl) (Try.isAgg103 _) (Try.sizeOf103 _) rfl (hb.row0 1 5 (gS gZ) (by kernel_rfl))), trivial⟩ (by kernel_rfl) ?_
        exact ⟨3, 0, 0, 0, aK, rfl, h⟩
       ·replace h := h.2 hc7
        refine wpE_seq (rg (q0 (vb (aB == 4)) (q0 (vb (aB == 4)) (wpL_nil (th_n ?_)))))
        refine wpE_cond (t := (aB == 4)) (by kernel_rfl) (fun hc8 => ?_) (fun hc8 => ?_)
        ·replace h := h.1 hc8
         refine wpE_seq (rg (q0 (vp (some (p2.add 1))) (q2 (vi aG) (xl (Try.isAgg3 _) (hb.c 2 1 (gS (gS gZ)))) (q0 (vp (some (p2.add 2))) (q2 (vi aN) (xl (Try.isAgg3 _) (hb.c 2 2 (gS (gS gZ)))) (q0 (.agg #[(vi 4), (vi aG), (vi aN), (vu 0), (vs ⟨#[]⟩)]) (st_set (want0 rfl) (x_storeA (a := p3) (vs := [(vi 4), (vi aG), (vi aN), (vu 0), (vs ⟨#[]⟩)]) (by kernel_rfl) (by kernel_rfl) rfl (Try.sizeOf103 _) rfl (hb.canWs0 1 5 (gS gZ) (by kernel_rfl))) ?_)))))))
         intro w14 hn12
         have hsb : Hst w0 H2 w3 H3 w14 ∧ HB H3 w14 [(p4, [(vi aB), (vi aH), (vi aM), (vu aJ), (vs aK), (vi aI), (vi aL)], 105), (p3, [(vi 4), (vi aG), (vi aN), (vu 0), (vs ⟨#[]⟩)], 103), (p2, [(vi aO), (vi aG), (vi aN), (vi aU)], 136)] := by
          rw [hn12]
          exact hb.store0 (i := 1) (vs := [(vi 4), (vi aG), (vi aN), (vu 0), (vs ⟨#[]⟩)]) hs (gS gZ) (by kernel_rfl) (by kernel_rfl)
         clear hs hb hn12
         obtain ⟨hs, hb⟩ := hsb
         refine wpL_nil (th_n (wpE_ret (bl_r (th_r ?_))))
         replace h := h H3 w14 hs
         replace hs := hs.here
         refine resG (.inl rfl) (vs := [(.agg #[(vi 4), (vi aG), (vi aN), (vu 0), (vs ⟨#[]⟩)])]) (v := (.agg #[(vi 4), (vi aG), (vi aN), (vu 0), (vs ⟨#[]⟩)])) Try.results86 ⟨(RV.cellA (by kernel_rfl) (Try.isAgg103 _) (Try.sizeOf103 _) rfl (hb.row0 1 5 (gS gZ) (by kernel_rfl))), trivial⟩ (by kernel_rfl) ?_
         exact ⟨4, aG, aN, 0, ⟨#[]⟩, rfl, h⟩
        ·replace h := h.2 hc8
         refine wpE_seq (rg (q0 (vb (aB == 5)) (q0 (vb (aB == 5)) (wpL_nil (th_n ?_)))))
         refine wpE_cond (t := (aB == 5)) (by kernel_rfl) (fun hc9 => ?_) (fun hc9 => ?_)
         ·replace h := h.1 hc9
          refine wpE_seq (rg (q0 (vp (some (p2.add 1))) (q2 (vi aG) (xl (Try.isAgg3 _) (hb.c 2 1 (gS (gS gZ)))) (q0 (.agg #[(vi 5), (vi aG), (vi 0), (vu 0), (vs ⟨#[]⟩)]) (st_set (want0 rfl) (x_storeA (a := p3) (vs := [(vi 5), (vi aG), (vi 0), (vu 0), (vs ⟨#[]⟩)]) (by kernel_rfl) (by kernel_rfl) rfl (Try.sizeOf103 _) rfl (hb.canWs0 1 5 (gS gZ) (by kernel_rfl))) ?_)))))
          intro w15 hn13
          have hsb : Hst w0 H2 w3 H3 w15 ∧ HB H3 w15 [(p4, [(vi aB), (vi aH), (vi aM), (vu aJ), (vs aK), (vi aI), (vi aL)], 105), (p3, [(vi 5), (vi aG), (vi 0), (vu 0), (vs ⟨#[]⟩)], 103), (p2, [(vi aO), (vi aG), (vi aN), (vi aU)], 136)] := by
           rw [hn13]
           exact hb.store0 (i := 1) (vs := [(vi 5), (vi aG), (vi 0), (vu 0), (vs ⟨#[]⟩)]) hs (gS gZ) (by kernel_rfl) (by kernel_rfl)
          clear hs hb hn13
          obtain ⟨hs, hb⟩ := hsb
          refine wpL_nil (th_n (wpE_ret (bl_r (th_r ?_))))
          replace h := h H3 w15 hs
          replace hs := hs.here
          refine resG (.inl rfl) (vs := [(.agg #[(vi 5), (vi aG), (vi 0), (vu 0), (vs ⟨#[]⟩)])]) (v := (.agg #[(vi 5), (vi aG), (vi 0), (vu 0), (vs ⟨#[]⟩)])) Try.results86 ⟨(RV.cellA (by kernel_rfl) (Try.isAgg103 _) (Try.sizeOf103 _) rfl (hb.row0 1 5 (gS gZ) (by kernel_rfl))), trivial⟩ (by kernel_rfl) ?_
          exact ⟨5, aG, 0, 0, ⟨#[]⟩, rfl, h⟩
         ·replace h := h.2 hc9
          refine wpE_seq (rg (q0 (vb (aB == 7)) (q0 (vb (aB == 7)) (wpL_nil (th_n ?_)))))
          refine wpE_cond (t := (aB == 7)) (by kernel_rfl) (fun hc10 => ?_) (fun hc10 => ?_)
          ·replace h := h.1 hc10
           refine wpE_seq (rg (q0 (vp (some (p2.add 1))) (q2 (vi aG) (xl (Try.isAgg3 _) (hb.c 2 1 (gS (gS gZ)))) (q0 (vp (some (p2.add 2))) (q2 (vi aN) (xl (Try.isAgg3 _) (hb.c 2 2 (gS (gS gZ)))) (q0 (.agg #[(vi 9), (vi aG), (vi aN), (vu 0), (vs ⟨#[]⟩)]) (st_set (want0 rfl) (x_storeA (a := p3) (vs := [(vi 9), (vi aG), (vi aN), (vu 0), (vs ⟨#[]⟩)]) (by kernel_rfl) (by kernel_rfl) rfl (Try.sizeOf103 _) rfl (hb.canWs0 1 5 (gS gZ) (by kernel_rfl))) ?_)))))))
           intro w16 hn14
           have hsb : Hst w0 H2 w3 H3 w16 ∧ HB H3 w16 [(p4, [(vi aB), (vi aH), (vi aM), (vu aJ), (vs aK), (vi aI), (vi aL)], 105), (p3, [(vi 9), (vi aG), (vi aN), (vu 0), (vs ⟨#[]⟩)], 103), (p2, [(vi aO), (vi aG), (vi aN), (vi aU)], 136)] := by
            rw [hn14]
            exact hb.store0 (i := 1) (vs := [(vi 9), (vi aG), (vi aN), (vu 0), (vs ⟨#[]⟩)]) hs (gS gZ) (by kernel_rfl) (by kernel_rfl)
           clear hs hb hn14
           obtain ⟨hs, hb⟩ := hsb
           refine wpL_nil (th_n (wpE_ret (bl_r (th_r ?_))))
           replace h := h H3 w16 hs
           replace hs := hs.here
           refine resG (.inl rfl) (vs := [(.agg #[(vi 9), (vi aG), (vi aN), (vu 0), (vs ⟨#[]⟩)])]) (v := (.agg #[(vi 9), (vi aG), (vi aN), (vu 0), (vs ⟨#[]⟩)])) Try.results86 ⟨(RV.cellA (by kernel_rfl) (Try.isAgg103 _) (Try.sizeOf103 _) rfl (hb.row0 1 5 (gS gZ) (by kernel_rfl))), trivial⟩ (by kernel_rfl) ?_
           exact ⟨9, aG, aN, 0, ⟨#[]⟩, rfl, h⟩
          ·replace h := h.2 hc10
           refine wpE_seq (rg (q0 (vb (aB == 8)) (q0 (vb (aB == 8)) (wpL_nil (th_n ?_)))))
           refine wpE_cond (t := (aB == 8)) (by kernel_rfl) (fun hc11 => ?_) (fun hc11 => ?_)
           ·replace h := h.1 hc11
            refine wpE_seq (rg (q0 (vp (some (p2.add 1))) (q2 (vi aG) (xl (Try.isAgg3 _) (hb.c 2 1 (gS (gS gZ)))) (q0 (vp (some (p2.add 2))) (q2 (vi aN) (xl (Try.isAgg3 _) (hb.c 2 2 (gS (gS gZ)))) (q0 (vp (some (p4.add 2))) (q2 (vi aM) (xl (Try.isAgg3 _) (hb.c 0 2 gZ)) (q0 (vu (IntKind.u64.wrap aM)) (q0 (.agg #[(vi 10), (vi aG), (vi aN), (vu (IntKind.u64.wrap aM)), (vs ⟨#[]⟩)]) (st_set (want0 rfl) (x_storeA (a := p3) (vs := [(vi 10), (vi aG), (vi aN), (vu (IntKind.u64.wrap aM)), (vs ⟨#[]⟩)]) (by kernel_rfl) (by kernel_rfl) rfl (Try.sizeOf103 _) rfl (hb.canWs0 1 5 (gS gZ) (by kernel_rfl))) ?_))))))))))
            intro w17 hn15
            have hsb : Hst w0 H2 w3 H3 w17 ∧ HB H3 w17 [(p4, [(vi aB), (vi aH), (vi aM), (vu aJ), (vs aK), (vi aI), (vi aL)], 105), (p3, [(vi 10), (vi aG), (vi aN), (vu (IntKind.u64.wrap aM)), (vs ⟨#[]⟩)], 103), (p2, [(vi aO), (vi aG), (vi aN), (vi aU)], 136)] := by
             rw [hn15]
             exact hb.store0 (i := 1) (vs := [(vi 10), (vi aG), (vi aN), (vu (IntKind.u64.wrap aM)), (vs ⟨#[]⟩)]) hs (gS gZ) (by kernel_rfl) (by kernel_rfl)
            clear hs hb hn15
            obtain ⟨hs, hb⟩ := hsb
            refine wpL_nil (th_n (wpE_ret (bl_r (th_r ?_))))
            replace h := h H3 w17 hs
            replace hs := hs.here
            refine resG (.inl rfl) (vs := [(.agg #[(vi 10), (vi aG), (vi aN), (vu (IntKind.u64.wrap aM)), (vs ⟨#[]⟩)])]) (v := (.agg #[(vi 10), (vi aG), (vi aN), (vu (IntKind.u64.wrap aM)), (vs ⟨#[]⟩)])) Try.results86 ⟨(RV.cellA (by kernel_rfl) (Try.isAgg103 _) (Try.sizeOf103 _) rfl (hb.row0 1 5 (gS gZ) (by kernel_rfl))), trivial⟩ (by kernel_rfl) ?_
            exact ⟨10, aG, aN, (IntKind.u64.wrap aM), ⟨#[]⟩, rfl, h⟩
           ·replace h := h.2 hc11
            refine wpE_skip (bl_n (th_n (wpE_seq (rg (q0 (vp (some (p2.add 1))) (q2 (vi aG) (xl (Try.isAgg3 _) (hb.c 2 1 (gS (gS gZ)))) (q0 (vp (some (p2.add 2))) (q2 (vi aN) (xl (Try.isAgg3 _) (hb.c 2 2 (gS (gS gZ)))) (q0 (vp (some (p4.add 1))) (q2 (vi aH) (xl (Try.isAgg3 _) (hb.c 0 1 gZ)) (q0 (vu (IntKind.u64.wrap aH)) ?_)))))))))))
            refine q0 (.agg #[(vi 11), (vi aG), (vi aN), (vu (IntKind.u64.wrap aH)), (vs ⟨#[]⟩)]) (st_set (want0 rfl) (x_storeA (a := p3) (vs := [(vi 11), (vi aG), (vi aN), (vu (IntKind.u64.wrap aH)), (vs ⟨#[]⟩)]) (by kernel_rfl) (by kernel_rfl) rfl (Try.sizeOf103 _) rfl (hb.canWs0 1 5 (gS gZ) (by kernel_rfl))) ?_)
            intro w18 hn16
            have hsb : Hst w0 H2 w3 H3 w18 ∧ HB H3 w18 [(p4, [(vi aB), (vi aH), (vi aM), (vu aJ), (vs aK), (vi aI), (vi aL)], 105), (p3, [(vi 11), (vi aG), (vi aN), (vu (IntKind.u64.wrap aH)), (vs ⟨#[]⟩)], 103), (p2, [(vi aO), (vi aG), (vi aN), (vi aU)], 136)] := by
             rw [hn16]
             exact hb.store0 (i := 1) (vs := [(vi 11), (vi aG), (vi aN), (vu (IntKind.u64.wrap aH)), (vs ⟨#[]⟩)]) hs (gS gZ) (by kernel_rfl) (by kernel_rfl)
            clear hs hb hn16
            obtain ⟨hs, hb⟩ := hsb
            refine wpL_nil (th_n (wpE_ret ?_))
            replace h := h H3 w18 hs
            replace hs := hs.here
            refine resG (.inl rfl) (vs := [(.agg #[(vi 11), (vi aG), (vi aN), (vu (IntKind.u64.wrap aH)), (vs ⟨#[]⟩)])]) (v := (.agg #[(vi 11), (vi aG), (vi aN), (vu (IntKind.u64.wrap aH)), (vs ⟨#[]⟩)])) Try.results86 ⟨(RV.cellA (by kernel_rfl) (Try.isAgg103 _) (Try.sizeOf103 _) rfl (hb.row0 1 5 (gS gZ) (by kernel_rfl))), trivial⟩ (by kernel_rfl) ?_
            exact ⟨11, aG, aN, (IntKind.u64.wrap aH), ⟨#[]⟩, rfl, h⟩
def m_recipe_For_l1 (p1 : Option Addr) (r1 r3 l1 : Sl) (x1 : Int) (w0 : World) (Hl1 : Nat → Prop) (wl1 : World) (Kc1 : Sl → Int → (Nat → Prop) → World → Prop) (K : Sl → Bool → World → Prop) : Prop :=
 Br (decide (x1 < (r1.len : Int)))
  (∃ a1 : Addr, At r1 x1 4 a1 ∧
  ∃ aV aP : Int, ∃ aQ aW : Int, Row wl1 a1 [(vi aV), (vi aP), (vi aQ), (vi aW)] ∧
  ∀ (H3 : Nat → Prop) (w6 : World), Hst w0 Hl1 wl1 H3 w6 →
  Calls Try.prog 86 #[(vp p1), r3.v, (.agg #[(vi aV), (vi aP), (vi aQ), (vi aW)])] w6 (fun e w7 => ∃ aX aI : Int, ∃ aL aJ : Int, ∃ aK : ByteArray, e = .returned (.agg #[(vi aX), (vi aI), (vi aL), (vu aJ), (vs aK)]) ∧ 
   Kept H3 w6 w7 ∧
   ∀ (p3 : Addr) (w8 : World), New w7 (.cells #[(vi aX), (vi aI), (vi aL), (vu aJ), (vs aK)] 103) p3 w8 →
   ∃ s1 : Sl, ∃ w9 : World, (Builtin.append_ #[23, 23] 23 #[l1.v, (Sl.mk (some p3) 1 1).v]).run Try.prog w8 = .ok s1.v w9 ∧
   Kept H3 w8 w9 ∧
   Kc1 s1 (IntKind.i64.wrap (x1 + 1)) H3 w9))
  (K l1 true wl1)
def m_recipe_For (p1 : Option Addr) (k1 : Option Addr) (t1 : Int) (w0 : World) (K : Sl → Bool → World → Prop) : Prop :=
 Br ((Option.isNone p1) || (Option.isNone k1))
  (∀ (H1 : Nat → Prop) (w1 : World), Hst w0 None w0 H1 w1 →
  K Sl.nil false w1)
  (∀ (H1 : Nat → Prop) (w1 : World), Hst w0 None w0 H1 w1 →
  Calls Try.prog 37 #[(vp k1), (vi t1)] w1 (fun e w2 => ∃ r1 : Sl, ∃ r2 : Bool, e = .returned (.tuple #[r1.v, (vb r2)]) ∧ 
   Kept H1 w1 w2 ∧
   Br ((!r2) || (decide ((r1.len : Int) > 256)))
    (∀ (H2 : Nat → Prop) (w3 : World), Hst w0 H1 w2 H2 w3 →
    K Sl.nil false w3)
    (∀ (H2 : Nat → Prop) (w3 : World), Hst w0 H1 w2 H2 w3 →
    Calls Try.prog 57 #[(vp k1)] w3 (fun e w4 => ∃ r3 : Sl, e = .returned r3.v ∧ 
     Kept H2 w3 w4 ∧
     ∃ (I1 : Sl → Int → (Nat → Prop) → World → Prop) (mu1 : Sl → Int → World → Nat), I1 Sl.nil 0 H2 w4 ∧
      ∀ (l1 : Sl) (x1 : Int) (Hl1 : Nat → Prop) (wl1 : World), Hst w0 Hl1 wl1 Hl1 wl1 → I1 l1 x1 Hl1 wl1 → m_recipe_For_l1 p1 r1 r3 l1 x1 w0 Hl1 wl1 (fun y'0 y'1 H' w' => I1 y'0 y'1 H' w' ∧ mu1 y'0 y'1 w' < mu1 l1 x1 wl1) K))))
theorem w_recipe_For (p1 : Option Addr) (k1 : Option Addr) (t1 : Int) (w0 : World) (K : Sl → Bool → World → Prop) (h : m_recipe_For p1 k1 t1 w0 K) :
  Calls Try.prog 38 #[(vp p1), (vp k1), (vi t1)] w0 (fun e w' => ∃ r4 : Sl, ∃ r5 : Bool, e = .returned (.tuple #[r4.v, (vb r5)]) ∧ K r4 r5 w') := by
 unfold m_recipe_For at h
 refine calls_of_wpE (args := [(vp p1), (vp k1), (vi t1)]) Try.func38 rfl Try.ntmps38 (Nat.le_of_ble_eq_true rfl) ?_
 have hs := Hst.start w0
 have hb := HB.nil None w0
 refine wpE_seq (rg (q0 Sl.nil.v (q0 (vb false) (wpL_nil (th_n (wpE_seq (wpE_seq ?_)))))))
 refine wpE_via (fun ρ wJ => ∃ b1'0 : Bool, ∃ HJ : Nat → Prop, ((Option.isNone p1) = b1'0) ∧ Hst w0 None w0 HJ wJ ∧ HB HJ wJ [] ∧ Has ρ [(0, (vp p1)), (1, (vp k1)), (2, (vi t1)), (19, (vb (b1'0 || (Option.isNone k1))))]) ?_ ?_
 ·skip
  refine rg (q0 (vp p1) (q2 (vb (Option.isNone p1)) (x_ptreq (by kernel_rfl) rfl Try.underlying32) (q0 (vb (Option.isNone p1)) ?_)))
  rcases Bool.eq_false_or_eq_true (Option.isNone p1) with hg2 | hg2
  ·skip
   refine sk (yD 16 hg2) (sk (yD 16 hg2) (q2 (vb true) (xT hg2) (wpL_nil (th_n ?_))))
   exact ⟨true, _, hg2, hs, hb, Has.mk (by kernel_rfl)⟩
  ·skip
   refine q1 (vp k1) (want1 rfl (yD 16 hg2)) (stp (v := (vb (Option.isNone k1))) (want1 rfl (yD 16 hg2)) (x_ptreq (by kernel_rfl) rfl Try.underlying33) (q2 (vb (Option.isNone k1)) (xF hg2) (wpL_nil (th_n ?_))))
   exact ⟨false, _, hg2, hs, hb, Has.mk (by kernel_rfl)⟩
 ·clear hs hb
  rintro ρ w1 ⟨b1'0, H1, he0, hs, hb, hH⟩
  subst he0
  refine norm_has hH ?_
  clear hH
  refine th_n ?_
  refine wpE_cond (t := ((Option.isNone p1) || (Option.isNone k1))) (by kernel_rfl) (fun hc1 => ?_) (fun hc1 => ?_)
  ·replace h := h.1 hc1
   refine wpE_seq (rg (q0 Sl.nil.v (q0 (vb false) (wpL_nil (th_n (wpE_ret (th_r ?_)))))))
   replace h := h H1 w1 hs
   replace hs := hs.here
   refine res2 (.inl rfl) Try.results38 (v := Sl.nil.v) (by kernel_rfl) (v' := (vb false)) (by kernel_rfl) ?_
   exact ⟨Sl.nil, false, rfl, h⟩
  ·replace h := h.2 hc1
   refine wpE_skip (th_n (wpE_seq (rg (q0 (vp k1) (q0 (vi t1) ?_)))))
   replace h := h H1 w1 hs
   replace hs := hs.here
   refine st_call (want0 rfl) (xc Try.call37) (h.mono ?_)
   rintro e w2 ⟨r1, r2, rfl, hk, h⟩
   refine ⟨_, rfl, ?_⟩
   obtain ⟨hs, hb⟩ := hk.hh hs hb
   refine q0 (.tuple #[r1.v, (vb r2)]) (q0 r1.v (q0 (vb r2) (q0 r1.v (q0 (vb r2) (wpL_nil (th_n (wpE_seq (wpE_seq ?_))))))))
   refine wpE_via (fun ρ wJ => ∃ b2'0 : Bool, ∃ HJ : Nat → Prop, ((!r2) = b2'0) ∧ Hst w0 H1 w2 HJ wJ ∧ HB HJ wJ [] ∧ Has ρ [(0, (vp p1)), (1, (vp k1)), (8, r1.v), (32, (vb (b2'0 || (decide ((r1.len : Int) > 256)))))]) ?_ ?_
   ·skip
    refine rg (q0 (vb r2) (q0 (vb (!r2)) (q0 (vb (!r2)) ?_)))
    rcases Bool.eq_false_or_eq_true (!r2) with hg4 | hg4
    ·skip
     refine sk (yD 28 hg4) (sk (yD 28 hg4) (sk (yD 28 hg4) (q2 (vb true) (xT hg4) (wpL_nil (th_n ?_)))))
     exact ⟨true, _, hg4, hs, hb, Has.mk (by kernel_rfl)⟩
    ·skip
     refine q1 r1.v (want1 rfl (yD 28 hg4)) (q1 (vi (r1.len : Int)) (want1 rfl (yD 28 hg4)) (q1 (vb (decide ((r1.len : Int) > 256))) (want1 rfl (yD 28 hg4)) (q2 (vb (decide ((r1.len : Int) > 256))) (xF hg4) (wpL_nil (th_n ?_)))))
     exact ⟨false, _, hg4, hs, hb, Has.mk (by kernel_rfl)⟩
   ·clear hs hb
    rintro ρ w3 ⟨b2'0, H2, he0, hs, hb, hH⟩
    subst he0
    refine norm_has hH ?_
    clear hH
    refine th_n ?_
    refine wpE_cond (t := ((!r2) || (decide ((r1.len : Int) > 256)))) (by kernel_rfl) (fun hc2 => ?_) (fun hc2 => ?_)
    ·replace h := h.1 hc2
     refine wpE_seq (rg (q0 Sl.nil.v (q0 (vb false) (wpL_nil (th_n (wpE_ret (th_r ?_)))))))
     replace h := h H2 w3 hs
     replace hs := hs.here
     refine res2 (.inl rfl) Try.results38 (v := Sl.nil.v) (by kernel_rfl) (v' := (vb false)) (by kernel_rfl) ?_
     exact ⟨Sl.nil, false, rfl, h⟩
    ·replace h := h.2 hc2
     refine wpE_skip (th_n (wpE_seq (rg (q0 Sl.nil.v (wpL_nil (th_n (wpE_seq (rg (q0 (vp k1) ?_)))))))))
     replace h := h H2 w3 hs
     replace hs := hs.here
     refine st_call (want0 rfl) (xc Try.call57) (h.mono ?_)
     rintro e w4 ⟨r3, rfl, hk, h⟩
     refine ⟨_, rfl, ?_⟩
     obtain ⟨hs, hb⟩ := hk.hh hs hb
     refine q0 r3.v (wpL_nil (th_n (wpE_seq (wpE_seq (rg (q0 r1.v (q0 (vi (r1.len : Int)) (q0 (vi 0) (wpL_nil (th_n (wpE_block ?_)))))))))))
     obtain ⟨I1, mu1, h0, hr⟩ := h
     refine wpE_loop (σ := Sl × Int × (Nat → Prop) × World) (fun s ρ w => w = s.2.2.2 ∧ Has ρ [(0, (vp p1)), (10, s.1.v), (11, r3.v), (35, r1.v), (36, (vi (r1.len : Int))), (37, (vi s.2.1))] ∧ Hst w0 s.2.2.1 w s.2.2.1 w ∧ HB s.2.2.1 w [] ∧ I1 s.1 s.2.1 s.2.2.1 s.2.2.2) (fun s => mu1 s.1 s.2.1 s.2.2.2) (Sl.nil, 0, H2, w4) ⟨rfl, Has.mk (by kernel_rfl), hs, hb, h0⟩ ?_
     clear hs hb
     rintro ⟨l1, x1, Hl1, wl1⟩ ρ w ⟨hw, hH, hs, hb, hI⟩
     obtain rfl : wl1 = w := (show w = wl1 from hw).symm
     replace hH : Has ρ [(0, (vp p1)), (10, l1.v), (11, r3.v), (35, r1.v), (36, (vi (r1.len : Int))), (37, (vi x1))] := hH
     replace hs : Hst w0 Hl1 wl1 Hl1 wl1 := hs
     replace hb : HB Hl1 wl1 [] := hb
     have h := hr l1 x1 Hl1 wl1 hs hI
     clear hr h0
     unfold m_recipe_For_l1 at h
     refine wpE_has hH ?_
     clear hH hI
     refine wpE_seq (rg (q0 (vb (decide (x1 < (r1.len : Int)))) (wpL_nil (th_n (wpE_seq ?_)))))
     refine wpE_cond (t := (decide (x1 < (r1.len : Int)))) (by kernel_rfl) (fun hc3 => ?_) (fun hc3 => ?_)
     ·replace h := h.1 hc3
      refine wpE_skip (th_n (wpE_seq (wpE_block (wpE_seq (rg ?_)))))
      obtain ⟨a1, hv3, h⟩ := h
      refine q2 (vp (some a1)) (x_indexAddr (s := r1) (k := .i64) (i := x1) (by kernel_rfl) (by kernel_rfl) (Try.runUnderlying73 _) (Try.sizeOf136 _) hv3) ?_
      obtain ⟨aV, aP, aQ, aW, hv2, h⟩ := h
      refine q2 (.agg #[(vi aV), (vi aP), (vi aQ), (vi aW)]) (x_loadA (a := a1) (vs := [(vi aV), (vi aP), (vi aQ), (vi aW)]) (by kernel_rfl) (Try.isAgg136 _) (Try.sizeOf136 _) rfl hv2) (sn (O := (.cells #[(vi 0), (vi 0), (vi 0), (vi 0)] 136)) (x_alloc (Try.zeroValue136 _) rfl) ?_)
      intro p2 w5 hn1
      obtain ⟨H3, hs, hb⟩ := hs.alloc hb hn1
      refine st_set (want0 rfl) (x_storeA (a := p2) (vs := [(vi aV), (vi aP), (vi aQ), (vi aW)]) (by kernel_rfl) (by kernel_rfl) rfl (Try.sizeOf136 _) rfl (hb.canWs0 0 4 gZ (by kernel_rfl))) ?_
      intro w6 hn2
      have hsb : Hst w0 Hl1 wl1 H3 w6 ∧ HB H3 w6 [(p2, [(vi aV), (vi aP), (vi aQ), (vi aW)], 136)] := by
       rw [hn2]
       exact hb.store0 (i := 0) (vs := [(vi aV), (vi aP), (vi aQ), (vi aW)]) hs gZ (by kernel_rfl) (by kernel_rfl)
      clear hs hb hn2
      obtain ⟨hs, hb⟩ := hsb
      refine wpL_nil (th_n (rg (q0 l1.v (q0 (vp p1) (q0 r3.v (q2 (.agg #[(vi aV), (vi aP), (vi aQ), (vi aW)]) (x_loadA (a := p2) (vs := [(vi aV), (vi aP), (vi aQ), (vi aW)]) (by kernel_rfl) (Try.isAgg136 _) (Try.sizeOf136 _) rfl (hb.row0 0 4 gZ (by kernel_rfl))) ?_))))))
      replace h := h H3 w6 hs
      replace hs := hs.here
      refine st_call (want0 rfl) (xc Try.call86) (h.mono ?_)
      rintro e w7 ⟨aX, aI, aL, aJ, aK, rfl, hk, h⟩
      refine ⟨_, rfl, ?_⟩
      obtain ⟨hs, hb⟩ := hk.hh hs hb
      refine st_new (O := (.cells #[(vi aX), (vi aI), (vi aL), (vu aJ), (vs aK)] 103)) (fun p => (Sl.mk (some p) 1 1).v) (want0 rfl) (x_buildSlice (vs := #[(0, (.agg #[(vi aX), (vi aI), (vi aL), (vu aJ), (vs aK)]))]) (by kernel_rfl) (by kernel_rfl)) ?_
      intro p3 w8 hn3
      replace h := h p3 w8 hn3
      replace hs := hs.again (Ext.new (F := None) hn3).keptP
      replace hb := hb.kept (Ext.new (F := None) hn3).keptP
      obtain ⟨s1, w9, hv1, hk, h⟩ := h
      refine st (v := s1.v) (want0 rfl) (x_builtin (args := #[l1.v, (Sl.mk (some p3) 1 1).v]) (by kernel_rfl) (fun _ => rfl) hv1) ?_
      obtain ⟨hs, hb⟩ := hk.hh hs hb
      refine q0 s1.v (wpL_nil (bl_n (th_n (rg (q0 (vi (IntKind.i64.wrap (x1 + 1))) (q0 (vi (IntKind.i64.wrap (x1 + 1))) (wpL_nil (th_n ?_))))))))
      exact ⟨(s1, (IntKind.i64.wrap (x1 + 1)), H3, w9), ⟨rfl, Has.mk (by kernel_rfl), hs, hb.drop 1, h.1⟩, h.2⟩
     ·replace h := h.2 hc3
      refine wpE_exit (th_x (th_x (bl_eq (th_n (wpE_seq (rg (q0 l1.v (q0 l1.v (q0 (vb true) (wpL_nil (th_n ?_)))))))))))
      refine wpE_ret (res2 (.inl rfl) Try.results38 (v := l1.v) (by kernel_rfl) (v' := (vb true)) (by kernel_rfl) ?_)
      exact ⟨l1, true, rfl, h⟩
def m_recipe_cook_kitchen_1_j1 (aA : Int) (cap1 : Addr) (x1 : Bool) (w0 : World) (H : Nat → Prop) (w : World) (K : Int → Int → World → Prop) : Prop :=
 Br x1
  (K 0 90 w)
  (∀ (w2 : World), Hst w0 H w H w2 →
  ∃ v1 : Option Addr, w2.cell? cap1 = some (vp v1) ∧
  ∃ a1 : Addr, v1 = some a1 ∧
  ∃ v2 : Sl, w2.cell? (a1.add 1) = some v2.v ∧
  ∃ a2 : Addr, At v2 aA 1 a2 ∧
  ∃ v3 : Int, w2.cell? a2 = some (vi v3) ∧
  K v3 0 w2)
def m_recipe_cook_kitchen_1 (aF aA : Int) (aC aD : Int) (aE : ByteArray) (cap1 : Addr) (w0 : World) (K : Int → Int → World → Prop) : Prop :=
 Br (decide (aA < 0))
  (∀ (H1 : Nat → Prop) (w3 : World), Hst w0 None w0 H1 w3 →
  m_recipe_cook_kitchen_1_j1 aA cap1 true w0 H1 w3 K)
  (∀ (H1 : Nat → Prop) (w3 : World), Hst w0 None w0 H1 w3 →
  ∃ v4 : Option Addr, w3.cell? cap1 = some (vp v4) ∧
  ∃ a3 : Addr, v4 = some a3 ∧
  ∃ v5 : Sl, w3.cell? (a3.add 1) = some v5.v ∧
  m_recipe_cook_kitchen_1_j1 aA cap1 (decide (aA ≥ (v5.len : Int))) w0 H1 w3 K)
theorem w_recipe_cook_kitchen_1 (aF aA : Int) (aC aD : Int) (aE : ByteArray) (cap1 : Addr) (w0 : World) (K : Int → Int → World → Prop) (h : m_recipe_cook_kitchen_1 aF aA aC aD aE cap1 w0 K) :
  Calls Try.prog 138 #[(.agg #[(vi aF), (vi aA), (vi aC), (vu aD), (vs aE)]), (vp (some cap1))] w0 (fun e w' => ∃ r1 r2 : Int, e = .returned (.tuple #[(vi r1), (vi r2)]) ∧ K r1 r2 w') := by
 unfold m_recipe_cook_kitchen_1 at h
 refine calls_of_wpE (args := [(.agg #[(vi aF), (vi aA), (vi aC), (vu aD), (vs aE)]), (vp (some cap1))]) Try.func138 rfl Try.ntmps138 (Nat.le_of_ble_eq_true rfl) ?_
 have hs := Hst.start w0
 have hb := HB.nil None w0
 refine wpE_seq (rg (sn (O := (.cells #[(vi aF), (vi aA), (vi aC), (vu aD), (vs aE)] 103)) xb ?_))
 intro p1 w1 hn1
 obtain ⟨H1, hs, hb⟩ := hs.alloc hb hn1
 refine q0 (vi 0) (q0 (vi 0) (wpL_nil (th_n (wpE_seq (wpE_seq ?_)))))
 refine wpE_joinT (fun ρ w => ∃ x1 : Bool, ∃ H : Nat → Prop, Has ρ [(1, (vp (some cap1))), (2, (vp (some p1))), (17, (vb x1))] ∧ Hst w0 H w H w ∧ HB H w [(p1, [(vi aF), (vi aA), (vi aC), (vu aD), (vs aE)], 103)] ∧ m_recipe_cook_kitchen_1_j1 aA cap1 x1 w0 H w K) ?_ ?_
 ·clear h hs hb
  rintro ρ w ⟨x1, H, hH, hs, hb, h⟩
  unfold m_recipe_cook_kitchen_1_j1 at h
  refine wpE_has hH ?_
  clear hH
  refine wpE_cond (t := x1) (by kernel_rfl) (fun hc1 => ?_) (fun hc1 => ?_)
  ·replace h := h.1 hc1
   refine wpE_seq (rg (q0 (vi 0) (q0 (vi 90) (wpL_nil (th_n (wpE_ret (th_r (res2 (.inl rfl) Try.results138 (v := (vi 0)) (by kernel_rfl) (v' := (vi 90)) (by kernel_rfl) ?_))))))))
   exact ⟨0, 90, rfl, h⟩
  ·replace h := h.2 hc1
   refine wpE_skip (th_n (wpE_seq (wpE_drawnQ (by kernel_rfl) (by kernel_rfl) (by kernel_rfl) (by kernel_rfl) ?_)))
   intro w2 hw2
   replace hs : Hst w0 H w H w2 := by rw [hw2]; exact hs.drew
   replace hb : HB H w2 [(p1, [(vi aF), (vi aA), (vi aC), (vu aD), (vs aE)], 103)] := by rw [hw2]; exact hb.drew
   clear hw2
   refine qgo (k := 0) (by kernel_rfl) ?_
   replace h := h w2 hs
   replace hs := hs.here
   obtain ⟨v1, hv4, h⟩ := h
   refine sxQ (v := (vp v1)) Kp0 (want0 rfl) rfl (xl (Try.isAgg169 _) hv4) (qgo (k := 1) (by kernel_rfl) ?_)
   obtain ⟨a1, hp1, h⟩ := h
   refine sxQ (v := (vp (some a1))) Kp1 (want0 rfl) rfl (x_nilCheck (p := v1) (by kernel_rfl) hp1) (qq 2 (vp (some (a1.add 1))) Kp2 (qgo (k := 3) (by kernel_rfl) ?_))
   obtain ⟨v2, hv3, h⟩ := h
   refine sxQ (v := v2.v) Kp3 (want0 rfl) rfl (xl (Try.isAgg30 _) hv3) (qq 4 (vp (some (p1.add 1))) Kp4 (qr 5 (vi aA) Kp5 (xl (Try.isAgg3 _) (hb.c 0 1 gZ)) (qgo (k := 6) (by kernel_rfl) ?_)))
   obtain ⟨a2, hv2, h⟩ := h
   refine sxQ (v := (vp (some a2))) Kp6 (want0 rfl) rfl (x_indexAddr (s := v2) (k := .i64) (i := aA) (by kernel_rfl) (by kernel_rfl) (Try.runUnderlying30 _) (Try.sizeOf38 _) hv2) (qgo (k := 7) (by kernel_rfl) ?_)
   obtain ⟨v3, hv1, h⟩ := h
   refine sxQ (v := (vi v3)) Kp7 (want0 rfl) rfl (xl (Try.isAgg38 _) hv1) (qq 8 (vi v3) Kp8 (qq 9 (vi 0) Kp9 (wpX_nil (by kernel_rfl) (th_n (wpE_ret (res2 (.inl rfl) Try.results138 (v := (vi v3)) (by kernel_rfl) (v' := (vi 0)) (by kernel_rfl) ?_))))))
   exact ⟨v3, 0, rfl, h⟩
 ·skip
  refine wpE_drawnQ (by kernel_rfl) (by kernel_rfl) (by kernel_rfl) (by kernel_rfl) ?_
  intro w3 hw3
  replace hs : Hst w0 None w0 H1 w3 := by rw [hw3]; exact hs.drew
  replace hb : HB H1 w3 [(p1, [(vi aF), (vi aA), (vi aC), (vu aD), (vs aE)], 103)] := by rw [hw3]; exact hb.drew
  clear hw3
  refine qq 0 (vp (some (p1.add 1))) Kp0 (qr 1 (vi aA) Kp1 (xl (Try.isAgg3 _) (hb.c 0 1 gZ)) (qq 2 (vb (decide (aA < 0))) Kp2 (qq 3 (vb (decide (aA < 0))) Kp3 (qgo (k := 4) (by kernel_rfl) ?_))))
  rcases Bool.eq_false_or_eq_true (decide (aA < 0)) with hg1 | hg1
  ·replace h := h.1 hg1
   refine sx_not Kp4 (unwant rfl (yD 8 hg1) rfl) (qn 5 Kp5 (unwant rfl (yD 8 hg1) rfl) (qn 6 Kp6 (unwant rfl (yD 8 hg1) rfl) (qn 7 Kp7 (unwant rfl (yD 8 hg1) rfl) (qn 8 Kp8 (unwant rfl (yD 8 hg1) rfl) (qn 9 Kp9 (unwant rfl (yD 8 hg1) rfl) (qn 10 (pickA (S8 (pickS (pickS pickZ)))) (unwant rfl (yD 8 hg1) rfl) (qn 11 (pickA (S8 (pickS (pickS (pickS pickZ))))) (unwant rfl (yD 8 hg1) rfl) (qr 12 (vb true) (pickA (S8 (S4 pickZ))) (xT hg1) (wpX_nil (by kernel_rfl) ?_)))))))))
   replace h := h H1 w3 hs
   replace hs := hs.here
   refine th_n ?_
   exact ⟨true, H1, Has.mk (by kernel_rfl), hs, hb, h⟩
  ·replace h := h.2 hg1
   refine sxQ (v := (vp (some (p1.add 1)))) Kp4 (want1 rfl (yD 8 hg1)) rfl (by kernel_rfl) (qgo (k := 5) (by kernel_rfl) (sxQ (v := (vi aA)) Kp5 (want1 rfl (yD 8 hg1)) rfl (xl (Try.isAgg3 _) (hb.c 0 1 gZ)) (qgo (k := 6) (by kernel_rfl) ?_)))
   replace h := h H1 w3 hs
   replace hs := hs.here
   obtain ⟨v4, hv6, h⟩ := h
   refine sxQ (v := (vp v4)) Kp6 (want1 rfl (yD 8 hg1)) rfl (xl (Try.isAgg169 _) hv6) (qgo (k := 7) (by kernel_rfl) ?_)
   obtain ⟨a3, hp2, h⟩ := h
   refine sxQ (v := (vp (some a3))) Kp7 (want1 rfl (yD 8 hg1)) rfl (x_nilCheck (p := v4) (by kernel_rfl) hp2) (qgo (k := 8) (by kernel_rfl) (sxQ (v := (vp (some (a3.add 1)))) Kp8 (want1 rfl (yD 8 hg1)) rfl (by kernel_rfl) (qgo (k := 9) (by kernel_rfl) ?_)))
   obtain ⟨v5, hv5, h⟩ := h
   refine sxQ (v := v5.v) Kp9 (want1 rfl (yD 8 hg1)) rfl (xl (Try.isAgg30 _) hv5) (qgo (k := 10) (by kernel_rfl) (sxQ (v := (vi (v5.len : Int))) (pickA (S8 (pickS (pickS pickZ)))) (want1 rfl (yD 8 hg1)) rfl (by kernel_rfl) (qgo (k := 11) (by kernel_rfl) (sxQ (v := (vb (decide (aA ≥ (v5.len : Int))))) (pickA (S8 (pickS (pickS (pickS pickZ))))) (want1 rfl (yD 8 hg1)) rfl (by kernel_rfl) (qr 12 (vb (decide (aA ≥ (v5.len : Int)))) (pickA (S8 (S4 pickZ))) (xF hg1) (wpX_nil (by kernel_rfl) (th_n ?_)))))))
   exact ⟨(decide (aA ≥ (v5.len : Int))), H1, Has.mk (by kernel_rfl), hs, hb, h⟩
def m_recipe_cook_kitchen_2 (aF aA : Int) (aC aD : Int) (aE : ByteArray) (cap1 : Addr) (w0 : World) (K : Int → Int → World → Prop) : Prop :=
 ∀ (H1 : Nat → Prop) (w1 : World), Hst w0 None w0 H1 w1 →
 ∃ v1 : Option Addr, w1.cell? cap1 = some (vp v1) ∧
 Calls Try.prog 67 #[(vp v1), (vi aA)] w1 (fun e w2 => ∃ r1 r2 : Int, e = .returned (.tuple #[(vi r1), (vi r2)]) ∧ 
  Kept H1 w1 w2 ∧
  K r1 r2 w2)
theorem w_recipe_cook_kitchen_2 (aF aA : Int) (aC aD : Int) (aE : ByteArray) (cap1 : Addr) (w0 : World) (K : Int → Int → World → Prop) (h : m_recipe_cook_kitchen_2 aF aA aC aD aE cap1 w0 K) :
  Calls Try.prog 139 #[(.agg #[(vi aF), (vi aA), (vi aC), (vu aD), (vs aE)]), (vp (some cap1))] w0 (fun e w' => ∃ r3 r4 : Int, e = .returned (.tuple #[(vi r3), (vi r4)]) ∧ K r3 r4 w') := by
 unfold m_recipe_cook_kitchen_2 at h
 refine calls_of_wpE (args := [(.agg #[(vi aF), (vi aA), (vi aC), (vu aD), (vs aE)]), (vp (some cap1))]) Try.func139 rfl Try.ntmps139 (Nat.le_of_ble_eq_true rfl) ?_
 have hs := Hst.start w0
 have hb := HB.nil None w0
 refine wpE_seq (rg (sn (O := (.cells #[(vi aF), (vi aA), (vi aC), (vu aD), (vs aE)] 103)) xb ?_))
 intro p1 w1 hn1
 obtain ⟨H1, hs, hb⟩ := hs.alloc hb hn1
 refine q0 (vi 0) (q0 (vi 0) (wpL_nil (th_n (wpE_seq (rg ?_)))))
 replace h := h H1 w1 hs
 replace hs := hs.here
 obtain ⟨v1, hv1, h⟩ := h
 refine q2 (vp v1) (xl (Try.isAgg32 _) hv1) (q0 (vp (some (p1.add 1))) (q2 (vi aA) (xl (Try.isAgg3 _) (hb.c 0 1 gZ)) ?_))
 refine st_call (want0 rfl) (xc Try.call67) (h.mono ?_)
 rintro e w2 ⟨r1, r2, rfl, hk, h⟩
 refine ⟨_, rfl, ?_⟩
 obtain ⟨hs, hb⟩ := hk.hh hs hb
 refine q0 (vi r1) (q0 (vi r2) (q0 (vi r1) (q0 (vi r2) (wpL_nil (th_n (wpE_ret (res2 (.inl rfl) Try.results139 (v := (vi r1)) (by kernel_rfl) (v' := (vi r2)) (by kernel_rfl) ?_)))))))
 exact ⟨r1, r2, rfl, h⟩
def m_recipe_cook_kitchen_3 (aF aA : Int) (aC aD : Int) (aE : ByteArray) (cap1 : Addr) (w0 : World) (K : Int → Int → World → Prop) : Prop :=
 ∀ (H1 : Nat → Prop) (w1 : World), Hst w0 None w0 H1 w1 →
 ∃ v1 : Option Addr, w1.cell? cap1 = some (vp v1) ∧
 Calls Try.prog 94 #[(vp v1), (vu aD)] w1 (fun e w2 => ∃ r1 r2 : Int, e = .returned (.tuple #[(vi r1), (vi r2)]) ∧ 
  Kept H1 w1 w2 ∧
  K r1 r2 w2)
theorem w_recipe_cook_kitchen_3 (aF aA : Int) (aC aD : Int) (aE : ByteArray) (cap1 : Addr) (w0 : World) (K : Int → Int → World → Prop) (h : m_recipe_cook_kitchen_3 aF aA aC aD aE cap1 w0 K) :
  Calls Try.prog 140 #[(.agg #[(vi aF), (vi aA), (vi aC), (vu aD), (vs aE)]), (vp (some cap1))] w0 (fun e w' => ∃ r3 r4 : Int, e = .returned (.tuple #[(vi r3), (vi r4)]) ∧ K r3 r4 w') := by
 unfold m_recipe_cook_kitchen_3 at h
 refine calls_of_wpE (args := [(.agg #[(vi aF), (vi aA), (vi aC), (vu aD), (vs aE)]), (vp (some cap1))]) Try.func140 rfl Try.ntmps140 (Nat.le_of_ble_eq_true rfl) ?_
 have hs := Hst.start w0
 have hb := HB.nil None w0
 refine wpE_seq (rg (sn (O := (.cells #[(vi aF), (vi aA), (vi aC), (vu aD), (vs aE)] 103)) xb ?_))
 intro p1 w1 hn1
 obtain ⟨H1, hs, hb⟩ := hs.alloc hb hn1
 refine q0 (vi 0) (q0 (vi 0) (wpL_nil (th_n (wpE_seq (rg ?_)))))
 replace h := h H1 w1 hs
 replace hs := hs.here
 obtain ⟨v1, hv1, h⟩ := h
 refine q2 (vp v1) (xl (Try.isAgg32 _) hv1) (q0 (vp (some (p1.add 3))) (q2 (vu aD) (xl (Try.isAgg44 _) (hb.c 0 3 gZ)) ?_))
 refine st_call (want0 rfl) (xc Try.call94) (h.mono ?_)
 rintro e w2 ⟨r1, r2, rfl, hk, h⟩
 refine ⟨_, rfl, ?_⟩
 obtain ⟨hs, hb⟩ := hk.hh hs hb
 refine q0 (vi r1) (q0 (vi r2) (q0 (vi r1) (q0 (vi r2) (wpL_nil (th_n (wpE_ret (res2 (.inl rfl) Try.results140 (v := (vi r1)) (by kernel_rfl) (v' := (vi r2)) (by kernel_rfl) ?_)))))))
 exact ⟨r1, r2, rfl, h⟩
def m_recipe_cook_kitchen_4 (aF aA : Int) (aC aD : Int) (aE : ByteArray) (cap1 : Addr) (w0 : World) (K : Int → Int → World → Prop) : Prop :=
 ∀ (H1 : Nat → Prop) (w1 : World), Hst w0 None w0 H1 w1 →
 ∃ v1 : Option Addr, w1.cell? cap1 = some (vp v1) ∧
 Calls Try.prog 142 #[(vp v1), (vs aE)] w1 (fun e w2 => ∃ r1 r2 : Int, e = .returned (.tuple #[(vi r1), (vi r2)]) ∧ 
  Kept H1 w1 w2 ∧
  K r1 r2 w2)
theorem w_recipe_cook_kitchen_4 (aF aA : Int) (aC aD : Int) (aE : ByteArray) (cap1 : Addr) (w0 : World) (K : Int → Int → World → Prop) (h : m_recipe_cook_kitchen_4 aF aA aC aD aE cap1 w0 K) :
  Calls Try.prog 141 #[(.agg #[(vi aF), (vi aA), (vi aC), (vu aD), (vs aE)]), (vp (some cap1))] w0 (fun e w' => ∃ r3 r4 : Int, e = .returned (.tuple #[(vi r3), (vi r4)]) ∧ K r3 r4 w') := by
 unfold m_recipe_cook_kitchen_4 at h
 refine calls_of_wpE (args := [(.agg #[(vi aF), (vi aA), (vi aC), (vu aD), (vs aE)]), (vp (some cap1))]) Try.func141 rfl Try.ntmps141 (Nat.le_of_ble_eq_true rfl) ?_
 have hs := Hst.start w0
 have hb := HB.nil None w0
 refine wpE_seq (rg (sn (O := (.cells #[(vi aF), (vi aA), (vi aC), (vu aD), (vs aE)] 103)) xb ?_))
 intro p1 w1 hn1
 obtain ⟨H1, hs, hb⟩ := hs.alloc hb hn1
 refine q0 (vi 0) (q0 (vi 0) (wpL_nil (th_n (wpE_seq (rg ?_)))))
 replace h := h H1 w1 hs
 replace hs := hs.here
 obtain ⟨v1, hv1, h⟩ := h
 refine q2 (vp v1) (xl (Try.isAgg32 _) hv1) (q0 (vp (some (p1.add 4))) (q2 (vs aE) (xl (Try.isAgg9 _) (hb.c 0 4 gZ)) ?_))
 refine st_call (want0 rfl) (xc Try.call142) (h.mono ?_)
 rintro e w2 ⟨r1, r2, rfl, hk, h⟩
 refine ⟨_, rfl, ?_⟩
 obtain ⟨hs, hb⟩ := hk.hh hs hb
 refine q0 (vi r1) (q0 (vi r2) (q0 (vi r1) (q0 (vi r2) (wpL_nil (th_n (wpE_ret (res2 (.inl rfl) Try.results141 (v := (vi r1)) (by kernel_rfl) (v' := (vi r2)) (by kernel_rfl) ?_)))))))
 exact ⟨r1, r2, rfl, h⟩
def m_recipe_cook_at (c1 : Option Addr) (i1 : Int) (w0 : World) (K : Int → Bool → World → Prop) : Prop :=
 Br (decide (i1 < 0))
  (K 0 false w0)
  (∃ a1 : Addr, c1 = some a1 ∧
  ∃ v1 : Sl, w0.cell? (a1.add 2) = some v1.v ∧
  Br (decide (i1 ≥ (v1.len : Int)))
   (K 0 false w0)
   (∃ a2 : Addr, c1 = some a2 ∧
   ∃ v2 : Sl, w0.cell? (a2.add 2) = some v2.v ∧
   ∃ a3 : Addr, At v2 i1 1 a3 ∧
   ∃ v3 : Int, w0.cell? a3 = some (vi v3) ∧
   K v3 true w0))
theorem w_recipe_cook_at (c1 : Option Addr) (i1 : Int) (w0 : World) (K : Int → Bool → World → Prop) (h : m_recipe_cook_at c1 i1 w0 K) :
  Calls Try.prog 144 #[(vp c1), (vi i1)] w0 (fun e w' => ∃ r1 : Int, ∃ r2 : Bool, e = .returned (.tuple #[(vi r1), (vb r2)]) ∧ K r1 r2 w') := by
 unfold m_recipe_cook_at at h
 refine calls_of_wpE (args := [(vp c1), (vi i1)]) Try.func144 rfl Try.ntmps144 (Nat.le_of_ble_eq_true rfl) (wpE_seq (rg (q0 (vi 0) (q0 (vb false) (wpL_nil (th_n (wpE_seq (wpE_seq (rg (q0 (vi i1) (q0 (vb (decide (i1 < 0))) ?_)))))))))))
 refine q0 (vb (decide (i1 < 0))) ?_
 rcases Bool.eq_false_or_eq_true (decide (i1 < 0)) with hg1 | hg1
 ·replace h := h.1 hg1
  refine sk (yD 8 hg1) (sk (yD 8 hg1) (sk (yD 8 hg1) (sk (yD 8 hg1) (sk (yD 8 hg1) (sk (yD 8 hg1) (sk (yD 8 hg1) (q2 (vb true) (xT hg1) (wpL_nil (th_n (wpE_condT (by kernel_rfl) (wpE_seq ?_)))))))))))
  refine rg (q0 (vi 0) (q0 (vb false) (wpL_nil (th_n (wpE_ret (th_r (res2 (.inl rfl) Try.results144 (v := (vi 0)) (by kernel_rfl) (v' := (vb false)) (by kernel_rfl) ?_)))))))
  exact ⟨0, false, rfl, h⟩
 ·replace h := h.2 hg1
  refine q1 (vi i1) (want1 rfl (yD 8 hg1)) (q1 (vp c1) (want1 rfl (yD 8 hg1)) ?_)
  obtain ⟨a1, hp1, h⟩ := h
  refine stp (v := (vp (some a1))) (want1 rfl (yD 8 hg1)) (x_nilCheck (p := c1) (by kernel_rfl) hp1) (q1 (vp (some (a1.add 2))) (want1 rfl (yD 8 hg1)) ?_)
  obtain ⟨v1, hv4, h⟩ := h
  refine stp (v := v1.v) (want1 rfl (yD 8 hg1)) (xl (Try.isAgg30 _) hv4) (q1 (vi (v1.len : Int)) (want1 rfl (yD 8 hg1)) (q1 (vb (decide (i1 ≥ (v1.len : Int)))) (want1 rfl (yD 8 hg1)) (q2 (vb (decide (i1 ≥ (v1.len : Int)))) (xF hg1) (wpL_nil (th_n ?_)))))
  refine wpE_cond (t := (decide (i1 ≥ (v1.len : Int)))) (by kernel_rfl) (fun hc1 => ?_) (fun hc1 => ?_)
  ·replace h := h.1 hc1
   refine wpE_seq (rg (q0 (vi 0) (q0 (vb false) (wpL_nil (th_n (wpE_ret (th_r (res2 (.inl rfl) Try.results144 (v := (vi 0)) (by kernel_rfl) (v' := (vb false)) (by kernel_rfl) ?_))))))))
   exact ⟨0, false, rfl, h⟩
  ·replace h := h.2 hc1
   refine wpE_skip (th_n (wpE_seq (rg (q0 (vp c1) ?_))))
   obtain ⟨a2, hp2, h⟩ := h
   refine q2 (vp (some a2)) (x_nilCheck (p := c1) (by kernel_rfl) hp2) (q0 (vp (some (a2.add 2))) ?_)
   obtain ⟨v2, hv3, h⟩ := h
   refine q2 v2.v (xl (Try.isAgg30 _) hv3) (q0 (vi i1) ?_)
   obtain ⟨a3, hv2, h⟩ := h
   refine q2 (vp (some a3)) (x_indexAddr (s := v2) (k := .i64) (i := i1) (by kernel_rfl) (by kernel_rfl) (Try.runUnderlying30 _) (Try.sizeOf38 _) hv2) ?_
   obtain ⟨v3, hv1, h⟩ := h
   refine q2 (vi v3) (xl (Try.isAgg38 _) hv1) (q0 (vi v3) (q0 (vb true) (wpL_nil (th_n (wpE_ret (res2 (.inl rfl) Try.results144 (v := (vi v3)) (by kernel_rfl) (v' := (vb true)) (by kernel_rfl) ?_))))))
   exact ⟨v3, true, rfl, h⟩
def m_recipe_cook_kitchen_5 (aF aA : Int) (aC aD : Int) (aE : ByteArray) (cap1 cap2 : Addr) (w0 : World) (K : Int → Int → World → Prop) : Prop :=
 ∀ (H1 : Nat → Prop) (w1 : World), Hst w0 None w0 H1 w1 →
 ∃ v1 : Option Addr, w1.cell? cap1 = some (vp v1) ∧
 Calls Try.prog 144 #[(vp v1), (vi aA)] w1 (fun e w2 => ∃ r1 : Int, ∃ r2 : Bool, e = .returned (.tuple #[(vi r1), (vb r2)]) ∧ 
  Kept H1 w1 w2 ∧
  ∃ v2 : Option Addr, w2.cell? cap1 = some (vp v2) ∧
  Calls Try.prog 144 #[(vp v2), (vi aC)] w2 (fun e w3 => ∃ r3 : Int, ∃ r4 : Bool, e = .returned (.tuple #[(vi r3), (vb r4)]) ∧ 
   Kept H1 w2 w3 ∧
   Br ((!r2) || (!r4))
    (∀ (H2 : Nat → Prop) (w4 : World), Hst w0 H1 w3 H2 w4 →
    K 0 90 w4)
    (∀ (H2 : Nat → Prop) (w4 : World), Hst w0 H1 w3 H2 w4 →
    ∃ v3 : Option Addr, w4.cell? cap2 = some (vp v3) ∧
    Calls Try.prog 68 #[(vp v3), (vi r1), (vi r3)] w4 (fun e w5 => ∃ r5 r6 : Int, e = .returned (.tuple #[(vi r5), (vi r6)]) ∧ 
     Kept H2 w4 w5 ∧
     K r5 r6 w5))))
theorem w_recipe_cook_kitchen_5 (aF aA : Int) (aC aD : Int) (aE : ByteArray) (cap1 cap2 : Addr) (w0 : World) (K : Int → Int → World → Prop) (h : m_recipe_cook_kitchen_5 aF aA aC aD aE cap1 cap2 w0 K) :
  Calls Try.prog 143 #[(.agg #[(vi aF), (vi aA), (vi aC), (vu aD), (vs aE)]), (vp (some cap1)), (vp (some cap2))] w0 (fun e w' => ∃ r7 r8 : Int, e = .returned (.tuple #[(vi r7), (vi r8)]) ∧ K r7 r8 w') := by
 unfold m_recipe_cook_kitchen_5 at h
 refine calls_of_wpE (args := [(.agg #[(vi aF), (vi aA), (vi aC), (vu aD), (vs aE)]), (vp (some cap1)), (vp (some cap2))]) Try.func143 rfl Try.ntmps143 (Nat.le_of_ble_eq_true rfl) ?_
 have hs := Hst.start w0
 have hb := HB.nil None w0
 refine wpE_seq (rg (sn (O := (.cells #[(vi aF), (vi aA), (vi aC), (vu aD), (vs aE)] 103)) xb ?_))
 intro p1 w1 hn1
 obtain ⟨H1, hs, hb⟩ := hs.alloc hb hn1
 refine q0 (vi 0) (q0 (vi 0) (wpL_nil (th_n (wpE_seq (rg ?_)))))
 replace h := h H1 w1 hs
 replace hs := hs.here
 obtain ⟨v1, hv3, h⟩ := h
 refine q2 (vp v1) (xl (Try.isAgg169 _) hv3) (q0 (vp (some (p1.add 1))) (q2 (vi aA) (xl (Try.isAgg3 _) (hb.c 0 1 gZ)) ?_))
 refine st_call (want0 rfl) (xc Try.call144) (h.mono ?_)
 rintro e w2 ⟨r1, r2, rfl, hk, h⟩
 refine ⟨_, rfl, ?_⟩
 obtain ⟨hs, hb⟩ := hk.hh hs hb
 refine q0 (.tuple #[(vi r1), (vb r2)]) (q0 (vi r1) (q0 (vb r2) (q0 (vi r1) (q0 (vb r2) (wpL_nil (th_n (wpE_seq (rg ?_))))))))
 obtain ⟨v2, hv2, h⟩ := h
 refine q2 (vp v2) (xl (Try.isAgg169 _) hv2) (q0 (vp (some (p1.add 2))) (q2 (vi aC) (xl (Try.isAgg3 _) (hb.c 0 2 gZ)) ?_))
 refine st_call (want0 rfl) (xc Try.call144) (h.mono ?_)
 rintro e w3 ⟨r3, r4, rfl, hk, h⟩
 refine ⟨_, rfl, ?_⟩
 obtain ⟨hs, hb⟩ := hk.hh hs hb
 refine q0 (.tuple #[(vi r3), (vb r4)]) (q0 (vi r3) (q0 (vb r4) (q0 (vi r3) (q0 (vb r4) (wpL_nil (th_n (wpE_seq (wpE_seq ?_))))))))
 refine wpE_via (fun ρ wJ => ∃ b1'0 : Bool, ∃ HJ : Nat → Prop, ((!r2) = b1'0) ∧ Hst w0 H1 w3 HJ wJ ∧ HB HJ wJ [(p1, [(vi aF), (vi aA), (vi aC), (vu aD), (vs aE)], 103)] ∧ Has ρ [(2, (vp (some cap2))), (6, (vi r1)), (8, (vi r3)), (29, (vb (b1'0 || (!r4))))]) ?_ ?_
 ·skip
  refine rg (q0 (vb r2) (q0 (vb (!r2)) (q0 (vb (!r2)) ?_)))
  rcases Bool.eq_false_or_eq_true (!r2) with hg2 | hg2
  ·skip
   refine sk (yD 26 hg2) (sk (yD 26 hg2) (q2 (vb true) (xT hg2) (wpL_nil (th_n ?_))))
   exact ⟨true, _, hg2, hs, hb, Has.mk (by kernel_rfl)⟩
  ·skip
   refine q1 (vb r4) (want1 rfl (yD 26 hg2)) (q1 (vb (!r4)) (want1 rfl (yD 26 hg2)) (q2 (vb (!r4)) (xF hg2) (wpL_nil (th_n ?_))))
   exact ⟨false, _, hg2, hs, hb, Has.mk (by kernel_rfl)⟩
 ·clear hs hb
  rintro ρ w4 ⟨b1'0, H2, he0, hs, hb, hH⟩
  subst he0
  refine norm_has hH ?_
  clear hH
  refine th_n ?_
  refine wpE_cond (t := ((!r2) || (!r4))) (by kernel_rfl) (fun hc1 => ?_) (fun hc1 => ?_)
  ·replace h := h.1 hc1
   refine wpE_seq (rg (q0 (vi 0) (q0 (vi 90) (wpL_nil (th_n (wpE_ret (th_r ?_)))))))
   replace h := h H2 w4 hs
   replace hs := hs.here
   refine res2 (.inl rfl) Try.results143 (v := (vi 0)) (by kernel_rfl) (v' := (vi 90)) (by kernel_rfl) ?_
   exact ⟨0, 90, rfl, h⟩
  ·replace h := h.2 hc1
   refine wpE_skip (th_n (wpE_seq (rg ?_)))
   replace h := h H2 w4 hs
   replace hs := hs.here
   obtain ⟨v3, hv1, h⟩ := h
   refine q2 (vp v3) (xl (Try.isAgg32 _) hv1) (q0 (vi r1) (q0 (vi r3) ?_))
   refine st_call (want0 rfl) (xc Try.call68) (h.mono ?_)
   rintro e w5 ⟨r5, r6, rfl, hk, h⟩
   refine ⟨_, rfl, ?_⟩
   obtain ⟨hs, hb⟩ := hk.hh hs hb
   refine q0 (vi r5) (q0 (vi r6) (q0 (vi r5) (q0 (vi r6) (wpL_nil (th_n (wpE_ret (res2 (.inl rfl) Try.results143 (v := (vi r5)) (by kernel_rfl) (v' := (vi r6)) (by kernel_rfl) ?_)))))))
   exact ⟨r5, r6, rfl, h⟩
def m_recipe_cook_kitchen_6 (aF aA : Int) (aC aD : Int) (aE : ByteArray) (cap1 cap2 : Addr) (w0 : World) (K : Int → Int → World → Prop) : Prop :=
 ∀ (H1 : Nat → Prop) (w1 : World), Hst w0 None w0 H1 w1 →
 ∃ v1 : Option Addr, w1.cell? cap1 = some (vp v1) ∧
 Calls Try.prog 144 #[(vp v1), (vi aA)] w1 (fun e w2 => ∃ r1 : Int, ∃ r2 : Bool, e = .returned (.tuple #[(vi r1), (vb r2)]) ∧ 
  Kept H1 w1 w2 ∧
  Br (!r2)
   (K 0 90 w2)
   (∃ v2 : Option Addr, w2.cell? cap2 = some (vp v2) ∧
   Calls Try.prog 102 #[(vp v2), (vi r1)] w2 (fun e w3 => ∃ r3 r4 : Int, e = .returned (.tuple #[(vi r3), (vi r4)]) ∧ 
    Kept H1 w2 w3 ∧
    K r3 r4 w3)))
theorem w_recipe_cook_kitchen_6 (aF aA : Int) (aC aD : Int) (aE : ByteArray) (cap1 cap2 : Addr) (w0 : World) (K : Int → Int → World → Prop) (h : m_recipe_cook_kitchen_6 aF aA aC aD aE cap1 cap2 w0 K) :
  Calls Try.prog 145 #[(.agg #[(vi aF), (vi aA), (vi aC), (vu aD), (vs aE)]), (vp (some cap1)), (vp (some cap2))] w0 (fun e w' => ∃ r5 r6 : Int, e = .returned (.tuple #[(vi r5), (vi r6)]) ∧ K r5 r6 w') := by
 unfold m_recipe_cook_kitchen_6 at h
 refine calls_of_wpE (args := [(.agg #[(vi aF), (vi aA), (vi aC), (vu aD), (vs aE)]), (vp (some cap1)), (vp (some cap2))]) Try.func145 rfl Try.ntmps145 (Nat.le_of_ble_eq_true rfl) ?_
 have hs := Hst.start w0
 have hb := HB.nil None w0
 refine wpE_seq (rg (sn (O := (.cells #[(vi aF), (vi aA), (vi aC), (vu aD), (vs aE)] 103)) xb ?_))
 intro p1 w1 hn1
 obtain ⟨H1, hs, hb⟩ := hs.alloc hb hn1
 refine q0 (vi 0) (q0 (vi 0) (wpL_nil (th_n (wpE_seq (rg ?_)))))
 replace h := h H1 w1 hs
 replace hs := hs.here
 obtain ⟨v1, hv2, h⟩ := h
 refine q2 (vp v1) (xl (Try.isAgg169 _) hv2) (q0 (vp (some (p1.add 1))) (q2 (vi aA) (xl (Try.isAgg3 _) (hb.c 0 1 gZ)) ?_))
 refine st_call (want0 rfl) (xc Try.call144) (h.mono ?_)
 rintro e w2 ⟨r1, r2, rfl, hk, h⟩
 refine ⟨_, rfl, ?_⟩
 obtain ⟨hs, hb⟩ := hk.hh hs hb
 refine q0 (.tuple #[(vi r1), (vb r2)]) (q0 (vi r1) (q0 (vb r2) (q0 (vi r1) (q0 (vb r2) (wpL_nil (th_n (wpE_seq (wpE_seq (rg (q0 (vb r2) (q0 (vb (!r2)) ?_)))))))))))
 refine wpL_nil (th_n ?_)
 refine wpE_cond (t := (!r2)) (by kernel_rfl) (fun hc1 => ?_) (fun hc1 => ?_)
 ·replace h := h.1 hc1
  refine wpE_seq (rg (q0 (vi 0) (q0 (vi 90) (wpL_nil (th_n (wpE_ret (th_r (res2 (.inl rfl) Try.results145 (v := (vi 0)) (by kernel_rfl) (v' := (vi 90)) (by kernel_rfl) ?_))))))))
  exact ⟨0, 90, rfl, h⟩
 ·replace h := h.2 hc1
  refine wpE_skip (th_n (wpE_seq (rg ?_)))
  obtain ⟨v2, hv1, h⟩ := h
  refine q2 (vp v2) (xl (Try.isAgg32 _) hv1) (q0 (vi r1) ?_)
  refine st_call (want0 rfl) (xc Try.call102) (h.mono ?_)
  rintro e w3 ⟨r3, r4, rfl, hk, h⟩
  refine ⟨_, rfl, ?_⟩
  obtain ⟨hs, hb⟩ := hk.hh hs hb
  refine q0 (vi r3) (q0 (vi r4) (q0 (vi r3) (q0 (vi r4) (wpL_nil (th_n (wpE_ret (res2 (.inl rfl) Try.results145 (v := (vi r3)) (by kernel_rfl) (v' := (vi r4)) (by kernel_rfl) ?_)))))))
  exact ⟨r3, r4, rfl, h⟩
def m_recipe_cook_node (c1 : Option Addr) (i1 : Int) (w0 : World) (K : Int → Int → Int → Int → ByteArray → Int → Int → Bool → World → Prop) : Prop :=
 ∀ (H1 : Nat → Prop) (w1 : World), Hst w0 None w0 H1 w1 →
 Calls Try.prog 144 #[(vp c1), (vi i1)] w1 (fun e w2 => ∃ r1 : Int, ∃ r2 : Bool, e = .returned (.tuple #[(vi r1), (vb r2)]) ∧ 
  Kept H1 w1 w2 ∧
  Br (!r2)
   (∀ (w3 : World), Hst w0 H1 w2 H1 w3 →
   K 0 0 0 0 ⟨#[]⟩ 0 0 false w3)
   (∃ a1 : Addr, c1 = some a1 ∧
   ∃ v1 : Option Addr, w2.cell? a1 = some (vp v1) ∧
   Calls Try.prog 62 #[(vp v1), (vi r1)] w2 (fun e w4 => ∃ aB aH : Int, ∃ aM aJ : Int, ∃ aK : ByteArray, ∃ aI aL : Int, ∃ r3 : Bool, e = .returned (.tuple #[(.agg #[(vi aB), (vi aH), (vi aM), (vu aJ), (vs aK), (vi aI), (vi aL)]), (vb r3)]) ∧ 
    Kept H1 w2 w4 ∧
    ∀ (w5 : World), Hst w0 H1 w4 H1 w5 →
    K aB aH aM aJ aK aI aL r3 w5)))
theorem w_recipe_cook_node (c1 : Option Addr) (i1 : Int) (w0 : World) (K : Int → Int → Int → Int → ByteArray → Int → Int → Bool → World → Prop) (h : m_recipe_cook_node c1 i1 w0 K) :
  Calls Try.prog 197 #[(vp c1), (vi i1)] w0 (fun e w' => ∃ bC bD : Int, ∃ bE bA : Int, ∃ bB : ByteArray, ∃ aY aZ : Int, ∃ r4 : Bool, e = .returned (.tuple #[(.agg #[(vi bC), (vi bD), (vi bE), (vu bA), (vs bB), (vi aY), (vi aZ)]), (vb r4)]) ∧ K bC bD bE bA bB aY aZ r4 w') := by
 unfold m_recipe_cook_node at h
 refine calls_of_wpE (args := [(vp c1), (vi i1)]) Try.func197 rfl Try.ntmps197 (Nat.le_of_ble_eq_true rfl) ?_
 have hs := Hst.start w0
 have hb := HB.nil None w0
 refine wpE_seq (rg (sn (O := (.cells #[(vi 0), (vi 0), (vi 0), (vu 0), (vs ⟨#[]⟩), (vi 0), (vi 0)] 105)) (x_alloc (Try.zeroValue105 _) rfl) ?_))
 intro p1 w1 hn1
 obtain ⟨H1, hs, hb⟩ := hs.alloc hb hn1
 refine q0 (vb false) (wpL_nil (th_n (wpE_seq (rg (q0 (vp c1) (q0 (vi i1) ?_))))))
 replace h := h H1 w1 hs
 replace hs := hs.here
 refine st_call (want0 rfl) (xc Try.call144) (h.mono ?_)
 rintro e w2 ⟨r1, r2, rfl, hk, h⟩
 refine ⟨_, rfl, ?_⟩
 obtain ⟨hs, hb⟩ := hk.hh hs hb
 refine q0 (.tuple #[(vi r1), (vb r2)]) (q0 (vi r1) (q0 (vb r2) (q0 (vi r1) (q0 (vb r2) (wpL_nil (th_n (wpE_seq (wpE_seq (rg (q0 (vb r2) (q0 (vb (!r2)) ?_)))))))))))
 refine wpL_nil (th_n ?_)
 refine wpE_cond (t := (!r2)) (by kernel_rfl) (fun hc1 => ?_) (fun hc1 => ?_)
 ·replace h := h.1 hc1
  refine wpE_seq (rg (q0 (.agg #[(vi 0), (vi 0), (vi 0), (vu 0), (vs ⟨#[]⟩), (vi 0), (vi 0)]) (st_set (want0 rfl) (x_storeA (a := p1) (vs := [(vi 0), (vi 0), (vi 0), (vu 0), (vs ⟨#[]⟩), (vi 0), (vi 0)]) (by kernel_rfl) (by kernel_rfl) rfl (Try.sizeOf105 _) rfl (hb.canWs0 0 7 gZ (by kernel_rfl))) ?_)))
  intro w3 hn2
  have hsb : Hst w0 H1 w2 H1 w3 ∧ HB H1 w3 [(p1, [(vi 0), (vi 0), (vi 0), (vu 0), (vs ⟨#[]⟩), (vi 0), (vi 0)], 105)] := by
   rw [hn2]
   exact hb.store0 (i := 0) (vs := [(vi 0), (vi 0), (vi 0), (vu 0), (vs ⟨#[]⟩), (vi 0), (vi 0)]) hs gZ (by kernel_rfl) (by kernel_rfl)
  clear hs hb hn2
  obtain ⟨hs, hb⟩ := hsb
  refine q0 (vb false) (wpL_nil (th_n (wpE_ret (th_r ?_))))
  replace h := h w3 hs
  replace hs := hs.here
  refine resG (.inl rfl) (vs := [(.agg #[(vi 0), (vi 0), (vi 0), (vu 0), (vs ⟨#[]⟩), (vi 0), (vi 0)]), (vb false)]) (v := (.tuple #[(.agg #[(vi 0), (vi 0), (vi 0), (vu 0), (vs ⟨#[]⟩), (vi 0), (vi 0)]), (vb false)])) Try.results197 ⟨(RV.cellA (by kernel_rfl) (Try.isAgg105 _) (Try.sizeOf105 _) rfl (hb.row0 0 7 gZ (by kernel_rfl))), (rvT (by kernel_rfl)), trivial⟩ (by kernel_rfl) ?_
  exact ⟨0, 0, 0, 0, ⟨#[]⟩, 0, 0, false, rfl, h⟩
 ·replace h := h.2 hc1
  refine wpE_skip (th_n (wpE_seq (rg (q0 (vp c1) ?_))))
  obtain ⟨a1, hp1, h⟩ := h
  refine q2 (vp (some a1)) (x_nilCheck (p := c1) (by kernel_rfl) hp1) (q0 (vp (some a1)) ?_)
  obtain ⟨v1, hv1, h⟩ := h
  refine q2 (vp v1) (xl (Try.isAgg32 _) hv1) (q0 (vi r1) ?_)
  refine st_call (want0 rfl) (xc Try.call62) (h.mono ?_)
  rintro e w4 ⟨aB, aH, aM, aJ, aK, aI, aL, r3, rfl, hk, h⟩
  refine ⟨_, rfl, ?_⟩
  obtain ⟨hs, hb⟩ := hk.hh hs hb
  refine q0 (.agg #[(vi aB), (vi aH), (vi aM), (vu aJ), (vs aK), (vi aI), (vi aL)]) (q0 (vb r3) (st_set (want0 rfl) (x_storeA (a := p1) (vs := [(vi aB), (vi aH), (vi aM), (vu aJ), (vs aK), (vi aI), (vi aL)]) (by kernel_rfl) (by kernel_rfl) rfl (Try.sizeOf105 _) rfl (hb.canWs0 0 7 gZ (by kernel_rfl))) ?_))
  intro w5 hn3
  have hsb : Hst w0 H1 w4 H1 w5 ∧ HB H1 w5 [(p1, [(vi aB), (vi aH), (vi aM), (vu aJ), (vs aK), (vi aI), (vi aL)], 105)] := by
   rw [hn3]
   exact hb.store0 (i := 0) (vs := [(vi aB), (vi aH), (vi aM), (vu aJ), (vs aK), (vi aI), (vi aL)]) hs gZ (by kernel_rfl) (by kernel_rfl)
  clear hs hb hn3
  obtain ⟨hs, hb⟩ := hsb
  refine q0 (vb r3) (wpL_nil (th_n (wpE_ret ?_)))
  replace h := h w5 hs
  replace hs := hs.here
  refine resG (.inl rfl) (vs := [(.agg #[(vi aB), (vi aH), (vi aM), (vu aJ), (vs aK), (vi aI), (vi aL)]), (vb r3)]) (v := (.tuple #[(.agg #[(vi aB), (vi aH), (vi aM), (vu aJ), (vs aK), (vi aI), (vi aL)]), (vb r3)])) Try.results197 ⟨(RV.cellA (by kernel_rfl) (Try.isAgg105 _) (Try.sizeOf105 _) rfl (hb.row0 0 7 gZ (by kernel_rfl))), (rvT (by kernel_rfl)), trivial⟩ (by kernel_rfl) ?_
  exact ⟨aB, aH, aM, aJ, aK, aI, aL, r3, rfl, h⟩
def m_recipe_cook_part (c1 : Option Addr) (aF aA : Int) (aC aD : Int) (aE : ByteArray) (second1 : Bool) (w0 : World) (K : Int → Int → World → Prop) : Prop :=
 ∀ (H1 : Nat → Prop) (w1 : World), Hst w0 None w0 H1 w1 →
 Calls Try.prog 197 #[(vp c1), (vi aA)] w1 (fun e w2 => ∃ aB aH : Int, ∃ aM aJ : Int, ∃ aK : ByteArray, ∃ aI aL : Int, ∃ r1 : Bool, e = .returned (.tuple #[(.agg #[(vi aB), (vi aH), (vi aM), (vu aJ), (vs aK), (vi aI), (vi aL)]), (vb r1)]) ∧ 
  Kept H1 w1 w2 ∧
  Br ((!r1) || (aB != 4))
   (∀ (H4 : Nat → Prop) (w6 : World), Hst w0 H1 w2 H4 w6 →
   K 0 90 w6)
   (Br second1
    (∀ (H4 : Nat → Prop) (w6 : World), Hst w0 H1 w2 H4 w6 →
    K aL 0 w6)
    (∀ (H4 : Nat → Prop) (w6 : World), Hst w0 H1 w2 H4 w6 →
    K aI 0 w6)))
theorem w_recipe_cook_part (c1 : Option Addr) (aF aA : Int) (aC aD : Int) (aE : ByteArray) (second1 : Bool) (w0 : World) (K : Int → Int → World → Prop) (h : m_recipe_cook_part c1 aF aA aC aD aE second1 w0 K) :
  Calls Try.prog 147 #[(vp c1), (.agg #[(vi aF), (vi aA), (vi aC), (vu aD), (vs aE)]), (vb second1)] w0 (fun e w' => ∃ r2 r3 : Int, e = .returned (.tuple #[(vi r2), (vi r3)]) ∧ K r2 r3 w') := by
 unfold m_recipe_cook_part at h
 refine calls_of_wpE (args := [(vp c1), (.agg #[(vi aF), (vi aA), (vi aC), (vu aD), (vs aE)]), (vb second1)]) Try.func147 rfl Try.ntmps147 (Nat.le_of_ble_eq_true rfl) ?_
 have hs := Hst.start w0
 have hb := HB.nil None w0
 refine wpE_seq (rg (sn (O := (.cells #[(vi aF), (vi aA), (vi aC), (vu aD), (vs aE)] 103)) xb ?_))
 intro p1 w1 hn1
 obtain ⟨H1, hs, hb⟩ := hs.alloc hb hn1
 refine q0 (vi 0) (q0 (vi 0) (wpL_nil (th_n (wpE_seq (rg (q0 (vp c1) (q0 (vp (some (p1.add 1))) (q2 (vi aA) (xl (Try.isAgg3 _) (hb.c 0 1 gZ)) ?_))))))))
 replace h := h H1 w1 hs
 replace hs := hs.here
 refine st_call (want0 rfl) (xc Try.call197) (h.mono ?_)
 rintro e w2 ⟨aB, aH, aM, aJ, aK, aI, aL, r1, rfl, hk, h⟩
 refine ⟨_, rfl, ?_⟩
 obtain ⟨hs, hb⟩ := hk.hh hs hb
 refine q0 (.tuple #[(.agg #[(vi aB), (vi aH), (vi aM), (vu aJ), (vs aK), (vi aI), (vi aL)]), (vb r1)]) (q0 (.agg #[(vi aB), (vi aH), (vi aM), (vu aJ), (vs aK), (vi aI), (vi aL)]) (q0 (vb r1) (sn (O := (.cells #[(vi 0), (vi 0), (vi 0), (vu 0), (vs ⟨#[]⟩), (vi 0), (vi 0)] 105)) (x_alloc (Try.zeroValue105 _) rfl) ?_)))
 intro p2 w3 hn2
 obtain ⟨H2, hs, hb⟩ := hs.alloc hb hn2
 refine st_set (want0 rfl) (x_storeA (a := p2) (vs := [(vi aB), (vi aH), (vi aM), (vu aJ), (vs aK), (vi aI), (vi aL)]) (by kernel_rfl) (by kernel_rfl) rfl (Try.sizeOf105 _) rfl (hb.canWs0 0 7 gZ (by kernel_rfl))) ?_
 intro w4 hn3
 have hsb : Hst w0 H1 w2 H2 w4 ∧ HB H2 w4 [(p2, [(vi aB), (vi aH), (vi aM), (vu aJ), (vs aK), (vi aI), (vi aL)], 105), (p1, [(vi aF), (vi aA), (vi aC), (vu aD), (vs aE)], 103)] := by
  rw [hn3]
  exact hb.store0 (i := 0) (vs := [(vi aB), (vi aH), (vi aM), (vu aJ), (vs aK), (vi aI), (vi aL)]) hs gZ (by kernel_rfl) (by kernel_rfl)
 clear hs hb hn3
 obtain ⟨hs, hb⟩ := hsb
 refine q0 (vb r1) (wpL_nil (th_n (wpE_seq (wpE_block (wpE_seq ?_)))))
 refine wpE_via (fun ρ wJ => ∃ HJ : Nat → Prop, Hst w0 H1 w2 HJ wJ ∧ HB HJ wJ [(p2, [(vi aB), (vi aH), (vi aM), (vu aJ), (vs aK), (vi aI), (vi aL)], 105), (p1, [(vi aF), (vi aA), (vi aC), (vu aD), (vs aE)], 103)] ∧ Has ρ [(2, (vb second1)), (8, (vp (some p2))), (17, (vb ((!r1) || (aB != 4))))]) ?_ ?_
 ·skip
  refine rg (q0 (vb r1) (q0 (vb (!r1)) (q0 (vb (!r1)) ?_)))
  refine wpL_join 4 (fun ρ wJ => ∃ b3'0 : Bool, ∃ HJ : Nat → Prop, ((!r1) = b3'0) ∧ Hst w0 H1 w2 HJ wJ ∧ HB HJ wJ [(p2, [(vi aB), (vi aH), (vi aM), (vu aJ), (vs aK), (vi aI), (vi aL)], 105), (p1, [(vi aF), (vi aA), (vi aC), (vu aD), (vs aE)], 103)] ∧ Has ρ [(2, (vb second1)), (8, (vp (some p2))), (24, (vb (b3'0 || (aB != 4))))]) ?_ ?_
  ·clear hs hb
   rintro ρ w7 ⟨b3'0, H5, he0, hs, hb, hH⟩
   subst he0
   refine wpL_has hH ?_
   clear hH
   refine q0 (vb ((!r1) || (aB != 4))) (wpL_nil (th_n ?_))
   exact ⟨_, hs, hb, Has.mk (by kernel_rfl)⟩
  ·skip
   rcases Bool.eq_false_or_eq_true (!r1) with hg4 | hg4
   ·skip
    refine sk (yD 20 hg4) (sk (yD 20 hg4) (sk (yD 20 hg4) (q2 (vb true) (xT hg4) (wpL_nil ?_))))
    exact ⟨true, _, hg4, hs, hb, Has.mk (by kernel_rfl)⟩
   ·skip
    refine q1 (vp (some p2)) (want1 rfl (yD 20 hg4)) (stp (v := (vi aB)) (want1 rfl (yD 20 hg4)) (xl (Try.isAgg3 _) (hb.c0 0 gZ)) (q1 (vb (aB != 4)) (want1 rfl (yD 20 hg4)) (q2 (vb (aB != 4)) (xF hg4) (wpL_nil ?_))))
    exact ⟨false, _, hg4, hs, hb, Has.mk (by kernel_rfl)⟩
 ·clear hs hb
  rintro ρ w6 ⟨H4, hs, hb, hH⟩
  refine norm_has hH ?_
  clear hH
  refine th_n ?_
  refine wpE_cond (t := ((!r1) || (aB != 4))) (by kernel_rfl) (fun hc1 => ?_) (fun hc1 => ?_)
  ·replace h := h.1 hc1
   refine wpE_seq (rg (q0 (vi 0) (q0 (vi 90) (wpL_nil (th_n (wpE_ret (bl_r (th_r ?_))))))))
   replace h := h H4 w6 hs
   replace hs := hs.here
   refine res2 (.inl rfl) Try.results147 (v := (vi 0)) (by kernel_rfl) (v' := (vi 90)) (by kernel_rfl) ?_
   exact ⟨0, 90, rfl, h⟩
  ·replace h := h.2 hc1
   refine wpE_seq (rg (q0 (vb second1) (q0 (vb second1) (wpL_nil (th_n ?_)))))
   refine wpE_cond (t := second1) (by kernel_rfl) (fun hc2 => ?_) (fun hc2 => ?_)
   ·replace h := h.1 hc2
    refine wpE_seq (rg (q0 (vp (some (p2.add 6))) (q2 (vi aL) (xl (Try.isAgg38 _) (hb.c 0 6 gZ)) (q0 (vi aL) (q0 (vi 0) (wpL_nil (th_n (wpE_ret (bl_r (th_r ?_))))))))))
    replace h := h H4 w6 hs
    replace hs := hs.here
    refine res2 (.inl rfl) Try.results147 (v := (vi aL)) (by kernel_rfl) (v' := (vi 0)) (by kernel_rfl) ?_
    exact ⟨aL, 0, rfl, h⟩
   ·replace h := h.2 hc2
    refine wpE_skip (bl_n (th_n (wpE_seq (rg (q0 (vp (some (p2.add 5))) (q2 (vi aI) (xl (Try.isAgg38 _) (hb.c 0 5 gZ)) (q0 (vi aI) (q0 (vi 0) (wpL_nil (th_n (wpE_ret ?_)))))))))))
    replace h := h H4 w6 hs
    replace hs := hs.here
    refine res2 (.inl rfl) Try.results147 (v := (vi aI)) (by kernel_rfl) (v' := (vi 0)) (by kernel_rfl) ?_
    exact ⟨aI, 0, rfl, h⟩
def m_recipe_cook_kitchen_7 (aF aA : Int) (aC aD : Int) (aE : ByteArray) (cap1 : Addr) (w0 : World) (K : Int → Int → World → Prop) : Prop :=
 ∀ (H1 : Nat → Prop) (w1 : World), Hst w0 None w0 H1 w1 →
 ∃ v1 : Option Addr, w1.cell? cap1 = some (vp v1) ∧
 Calls Try.prog 147 #[(vp v1), (.agg #[(vi aF), (vi aA), (vi aC), (vu aD), (vs aE)]), (vb false)] w1 (fun e w2 => ∃ r1 r2 : Int, e = .returned (.tuple #[(vi r1), (vi r2)]) ∧ 
  Kept H1 w1 w2 ∧
  K r1 r2 w2)
theorem w_recipe_cook_kitchen_7 (aF aA : Int) (aC aD : Int) (aE : ByteArray) (cap1 : Addr) (w0 : World) (K : Int → Int → World → Prop) (h : m_recipe_cook_kitchen_7 aF aA aC aD aE cap1 w0 K) :
  Calls Try.prog 146 #[(.agg #[(vi aF), (vi aA), (vi aC), (vu aD), (vs aE)]), (vp (some cap1))] w0 (fun e w' => ∃ r3 r4 : Int, e = .returned (.tuple #[(vi r3), (vi r4)]) ∧ K r3 r4 w') := by
 unfold m_recipe_cook_kitchen_7 at h
 refine calls_of_wpE (args := [(.agg #[(vi aF), (vi aA), (vi aC), (vu aD), (vs aE)]), (vp (some cap1))]) Try.func146 rfl Try.ntmps146 (Nat.le_of_ble_eq_true rfl) ?_
 have hs := Hst.start w0
 have hb := HB.nil None w0
 refine wpE_seq (rg (sn (O := (.cells #[(vi aF), (vi aA), (vi aC), (vu aD), (vs aE)] 103)) xb ?_))
 intro p1 w1 hn1
 obtain ⟨H1, hs, hb⟩ := hs.alloc hb hn1
 refine q0 (vi 0) (q0 (vi 0) (wpL_nil (th_n (wpE_seq (rg ?_)))))
 replace h := h H1 w1 hs
 replace hs := hs.here
 obtain ⟨v1, hv1, h⟩ := h
 refine q2 (vp v1) (xl (Try.isAgg169 _) hv1) (q2 (.agg #[(vi aF), (vi aA), (vi aC), (vu aD), (vs aE)]) (x_loadA (a := p1) (vs := [(vi aF), (vi aA), (vi aC), (vu aD), (vs aE)]) (by kernel_rfl) (Try.isAgg103 _) (Try.sizeOf103 _) rfl (hb.row0 0 5 gZ (by kernel_rfl))) ?_)
 refine st_call (want0 rfl) (xc Try.call147) (h.mono ?_)
 rintro e w2 ⟨r1, r2, rfl, hk, h⟩
 refine ⟨_, rfl, ?_⟩
 obtain ⟨hs, hb⟩ := hk.hh hs hb
 refine q0 (vi r1) (q0 (vi r2) (q0 (vi r1) (q0 (vi r2) (wpL_nil (th_n (wpE_ret (res2 (.inl rfl) Try.results146 (v := (vi r1)) (by kernel_rfl) (v' := (vi r2)) (by kernel_rfl) ?_)))))))
 exact ⟨r1, r2, rfl, h⟩
def m_recipe_cook_kitchen_8 (aF aA : Int) (aC aD : Int) (aE : ByteArray) (cap1 : Addr) (w0 : World) (K : Int → Int → World → Prop) : Prop :=
 ∀ (H1 : Nat → Prop) (w1 : World), Hst w0 None w0 H1 w1 →
 ∃ v1 : Option Addr, w1.cell? cap1 = some (vp v1) ∧
 Calls Try.prog 147 #[(vp v1), (.agg #[(vi aF), (vi aA), (vi aC), (vu aD), (vs aE)]), (vb true)] w1 (fun e w2 => ∃ r1 r2 : Int, e = .returned (.tuple #[(vi r1), (vi r2)]) ∧ 
  Kept H1 w1 w2 ∧
  K r1 r2 w2)
theorem w_recipe_cook_kitchen_8 (aF aA : Int) (aC aD : Int) (aE : ByteArray) (cap1 : Addr) (w0 : World) (K : Int → Int → World → Prop) (h : m_recipe_cook_kitchen_8 aF aA aC aD aE cap1 w0 K) :
  Calls Try.prog 148 #[(.agg #[(vi aF), (vi aA), (vi aC), (vu aD), (vs aE)]), (vp (some cap1))] w0 (fun e w' => ∃ r3 r4 : Int, e = .returned (.tuple #[(vi r3), (vi r4)]) ∧ K r3 r4 w') := by
 unfold m_recipe_cook_kitchen_8 at h
 refine calls_of_wpE (args := [(.agg #[(vi aF), (vi aA), (vi aC), (vu aD), (vs aE)]), (vp (some cap1))]) Try.func148 rfl Try.ntmps148 (Nat.le_of_ble_eq_true rfl) ?_
 have hs := Hst.start w0
 have hb := HB.nil None w0
 refine wpE_seq (rg (sn (O := (.cells #[(vi aF), (vi aA), (vi aC), (vu aD), (vs aE)] 103)) xb ?_))
 intro p1 w1 hn1
 obtain ⟨H1, hs, hb⟩ := hs.alloc hb hn1
 refine q0 (vi 0) (q0 (vi 0) (wpL_nil (th_n (wpE_seq (rg ?_)))))
 replace h := h H1 w1 hs
 replace hs := hs.here
 obtain ⟨v1, hv1, h⟩ := h
 refine q2 (vp v1) (xl (Try.isAgg169 _) hv1) (q2 (.agg #[(vi aF), (vi aA), (vi aC), (vu aD), (vs aE)]) (x_loadA (a := p1) (vs := [(vi aF), (vi aA), (vi aC), (vu aD), (vs aE)]) (by kernel_rfl) (Try.isAgg103 _) (Try.sizeOf103 _) rfl (hb.row0 0 5 gZ (by kernel_rfl))) ?_)
 refine st_call (want0 rfl) (xc Try.call147) (h.mono ?_)
 rintro e w2 ⟨r1, r2, rfl, hk, h⟩
 refine ⟨_, rfl, ?_⟩
 obtain ⟨hs, hb⟩ := hk.hh hs hb
 refine q0 (vi r1) (q0 (vi r2) (q0 (vi r1) (q0 (vi r2) (wpL_nil (th_n (wpE_ret (res2 (.inl rfl) Try.results148 (v := (vi r1)) (by kernel_rfl) (v' := (vi r2)) (by kernel_rfl) ?_)))))))
 exact ⟨r1, r2, rfl, h⟩
def m_recipe_cook_shown (c1 : Option Addr) (aF aA : Int) (aC aD : Int) (aE : ByteArray) (w0 : World) (K : Int → Int → World → Prop) : Prop :=
 ∀ (H1 : Nat → Prop) (w1 : World), Hst w0 None w0 H1 w1 →
 Calls Try.prog 197 #[(vp c1), (vi aA)] w1 (fun e w2 => ∃ aB aH : Int, ∃ aM aJ : Int, ∃ aK : ByteArray, ∃ aI aL : Int, ∃ r1 : Bool, e = .returned (.tuple #[(.agg #[(vi aB), (vi aH), (vi aM), (vu aJ), (vs aK), (vi aI), (vi aL)]), (vb r1)]) ∧ 
  Kept H1 w1 w2 ∧
  Br ((!r1) || (((aB != 7) && (aB != 8)) && (aB != 9)))
   (∀ (H5 : Nat → Prop) (w7 : World), Hst w0 H1 w2 H5 w7 →
   K 0 90 w7)
   (∀ (H5 : Nat → Prop) (w7 : World), Hst w0 H1 w2 H5 w7 →
   K aI 0 w7))
theorem w_recipe_cook_shown (c1 : Option Addr) (aF aA : Int) (aC aD : Int) (aE : ByteArray) (w0 : World) (K : Int → Int → World → Prop) (h : m_recipe_cook_shown c1 aF aA aC aD aE w0 K) :
  Calls Try.prog 149 #[(vp c1), (.agg #[(vi aF), (vi aA), (vi aC), (vu aD), (vs aE)])] w0 (fun e w' => ∃ r2 r3 : Int, e = .returned (.tuple #[(vi r2), (vi r3)]) ∧ K r2 r3 w') := by
 unfold m_recipe_cook_shown at h
 refine calls_of_wpE (args := [(vp c1), (.agg #[(vi aF), (vi aA), (vi aC), (vu aD), (vs aE)])]) Try.func149 rfl Try.ntmps149 (Nat.le_of_ble_eq_true rfl) ?_
 have hs := Hst.start w0
 have hb := HB.nil None w0
 refine wpE_seq (rg (sn (O := (.cells #[(vi aF), (vi aA), (vi aC), (vu aD), (vs aE)] 103)) xb ?_))
 intro p1 w1 hn1
 obtain ⟨H1, hs, hb⟩ := hs.alloc hb hn1
 refine q0 (vi 0) (q0 (vi 0) (wpL_nil (th_n (wpE_seq (rg (q0 (vp c1) (q0 (vp (some (p1.add 1))) (q2 (vi aA) (xl (Try.isAgg3 _) (hb.c 0 1 gZ)) ?_))))))))
 replace h := h H1 w1 hs
 replace hs := hs.here
 refine st_call (want0 rfl) (xc Try.call197) (h.mono ?_)
 rintro e w2 ⟨aB, aH, aM, aJ, aK, aI, aL, r1, rfl, hk, h⟩
 refine ⟨_, rfl, ?_⟩
 obtain ⟨hs, hb⟩ := hk.hh hs hb
 refine q0 (.tuple #[(.agg #[(vi aB), (vi aH), (vi aM), (vu aJ), (vs aK), (vi aI), (vi aL)]), (vb r1)]) (q0 (.agg #[(vi aB), (vi aH), (vi aM), (vu aJ), (vs aK), (vi aI), (vi aL)]) (q0 (vb r1) (sn (O := (.cells #[(vi 0), (vi 0), (vi 0), (vu 0), (vs ⟨#[]⟩), (vi 0), (vi 0)] 105)) (x_alloc (Try.zeroValue105 _) rfl) ?_)))
 intro p2 w3 hn2
 obtain ⟨H2, hs, hb⟩ := hs.alloc hb hn2
 refine st_set (want0 rfl) (x_storeA (a := p2) (vs := [(vi aB), (vi aH), (vi aM), (vu aJ), (vs aK), (vi aI), (vi aL)]) (by kernel_rfl) (by kernel_rfl) rfl (Try.sizeOf105 _) rfl (hb.canWs0 0 7 gZ (by kernel_rfl))) ?_
 intro w4 hn3
 have hsb : Hst w0 H1 w2 H2 w4 ∧ HB H2 w4 [(p2, [(vi aB), (vi aH), (vi aM), (vu aJ), (vs aK), (vi aI), (vi aL)], 105), (p1, [(vi aF), (vi aA), (vi aC), (vu aD), (vs aE)], 103)] := by
  rw [hn3]
  exact hb.store0 (i := 0) (vs := [(vi aB), (vi aH), (vi aM), (vu aJ), (vs aK), (vi aI), (vi aL)]) hs gZ (by kernel_rfl) (by kernel_rfl)
 clear hs hb hn3
 obtain ⟨hs, hb⟩ := hsb
 refine q0 (vb r1) (wpL_nil (th_n (wpE_seq (wpE_seq ?_))))
 refine wpE_via (fun ρ wJ => ∃ b3'0 : Bool, ∃ HJ : Nat → Prop, ((!r1) = b3'0) ∧ Hst w0 H1 w2 HJ wJ ∧ HB HJ wJ [(p2, [(vi aB), (vi aH), (vi aM), (vu aJ), (vs aK), (vi aI), (vi aL)], 105), (p1, [(vi aF), (vi aA), (vi aC), (vu aD), (vs aE)], 103)] ∧ Has ρ [(6, (vp (some p2))), (31, (vb (b3'0 || (((aB != 7) && (aB != 8)) && (aB != 9)))))]) ?_ ?_
 ·skip
  refine rg (q0 (vb r1) (q0 (vb (!r1)) (q0 (vb (!r1)) ?_)))
  rcases Bool.eq_false_or_eq_true (!r1) with hg6 | hg6
  ·skip
   refine sk (yD 17 hg6) (sk (yD 17 hg6) (sk (yD 17 hg6) (sk (yD 17 hg6) (st_not (by kernel_rfl) (st_not (by kernel_rfl) (st_not (by kernel_rfl) (sk (yD 17 hg6) (sk (yD 17 hg6) (st_not (by kernel_rfl) (st_not (by kernel_rfl) (st_not (by kernel_rfl) ?_)))))))))))
   refine sk (yD 17 hg6) (q2 (vb true) (xT hg6) (wpL_nil (th_n ?_)))
   exact ⟨true, _, hg6, hs, hb, Has.mk (by kernel_rfl)⟩
  ·skip
   refine q1 (vp (some p2)) (want1 rfl (yD 17 hg6)) (stp (v := (vi aB)) (want1 rfl (yD 17 hg6)) (xl (Try.isAgg3 _) (hb.c0 0 gZ)) (q1 (vb (aB != 7)) (want1 rfl (yD 17 hg6)) (q1 (vb (aB != 7)) (want1 rfl (yD 17 hg6)) ?_)))
   refine wpL_join 4 (fun ρ wJ => ∃ b4'0 : Bool, ∃ HJ : Nat → Prop, ((aB != 7) = b4'0) ∧ Hst w0 H1 w2 HJ wJ ∧ HB HJ wJ [(p2, [(vi aB), (vi aH), (vi aM), (vu aJ), (vs aK), (vi aI), (vi aL)], 105), (p1, [(vi aF), (vi aA), (vi aC), (vu aD), (vs aE)], 103)] ∧ Has ρ [(6, (vp (some p2))), (17, (vb (!r1))), (25, (vb (b4'0 && (aB != 8))))]) ?_ ?_
   ·clear hs hb
    rintro ρ w8 ⟨b4'0, H6, he0, hs, hb, hH⟩
    subst he0
    refine wpL_has hH ?_
    clear hH
    refine q1 (vb ((aB != 7) && (aB != 8))) (want1 rfl (yD 17 hg6)) ?_
    refine wpL_join 4 (fun ρ wJ => ∃ b5'0 : Bool, ∃ HJ : Nat → Prop, (((aB != 7) && (aB != 8)) = b5'0) ∧ Hst w0 H1 w2 HJ wJ ∧ HB HJ wJ [(p2, [(vi aB), (vi aH), (vi aM), (vu aJ), (vs aK), (vi aI), (vi aL)], 105), (p1, [(vi aF), (vi aA), (vi aC), (vu aD), (vs aE)], 103)] ∧ Has ρ [(6, (vp (some p2))), (17, (vb (!r1))), (30, (vb (b5'0 && (aB != 9))))]) ?_ ?_
    ·clear hs hb
     rintro ρ w9 ⟨b5'0, H7, he0, hs, hb, hH⟩
     subst he0
     refine wpL_has hH ?_
     clear hH
     refine q2 (vb (((aB != 7) && (aB != 8)) && (aB != 9))) (xF hg6) (wpL_nil (th_n ?_))
     exact ⟨false, _, hg6, hs, hb, Has.mk (by kernel_rfl)⟩
    ·skip
     rcases Bool.eq_false_or_eq_true ((aB != 7) && (aB != 8)) with hg10 | hg10
     ·skip
      refine q1 (vp (some p2)) (want1 rfl (yD 26 hg10)) (stp (v := (vi aB)) (want1 rfl (yD 26 hg10)) (xl (Try.isAgg3 _) (hb.c0 0 gZ)) (q1 (vb (aB != 9)) (want1 rfl (yD 26 hg10)) (stp (v := (vb (aB != 9))) (want1 rfl (yD 17 hg6)) (xT hg10) (wpL_nil ?_))))
      exact ⟨true, _, hg10, hs, hb, Has.mk (by kernel_rfl)⟩
     ·skip
      refine sk (yD 26 hg10) (sk (yD 26 hg10) (sk (yD 26 hg10) (stp (v := (vb false)) (want1 rfl (yD 17 hg6)) (xF hg10) (wpL_nil ?_))))
      exact ⟨false, _, hg10, hs, hb, Has.mk (by kernel_rfl)⟩
   ·skip
    rcases Bool.eq_false_or_eq_true (aB != 7) with hg8 | hg8
    ·skip
     refine q1 (vp (some p2)) (want1 rfl (yD 21 hg8)) (stp (v := (vi aB)) (want1 rfl (yD 21 hg8)) (xl (Try.isAgg3 _) (hb.c0 0 gZ)) (q1 (vb (aB != 8)) (want1 rfl (yD 21 hg8)) (stp (v := (vb (aB != 8))) (want1 rfl (yD 17 hg6)) (xT hg8) (wpL_nil ?_))))
     exact ⟨true, _, hg8, hs, hb, Has.mk (by kernel_rfl)⟩
    ·skip
     refine sk (yD 21 hg8) (sk (yD 21 hg8) (sk (yD 21 hg8) (stp (v := (vb false)) (want1 rfl (yD 17 hg6)) (xF hg8) (wpL_nil ?_))))
     exact ⟨false, _, hg8, hs, hb, Has.mk (by kernel_rfl)⟩
 ·clear hs hb
  rintro ρ w7 ⟨b3'0, H5, he0, hs, hb, hH⟩
  subst he0
  refine norm_has hH ?_
  clear hH
  refine th_n ?_
  refine wpE_cond (t := ((!r1) || (((aB != 7) && (aB != 8)) && (aB != 9)))) (by kernel_rfl) (fun hc1 => ?_) (fun hc1 => ?_)
  ·replace h := h.1 hc1
   refine wpE_seq (rg (q0 (vi 0) (q0 (vi 90) (wpL_nil (th_n (wpE_ret (th_r ?_)))))))
   replace h := h H5 w7 hs
   replace hs := hs.here
   refine res2 (.inl rfl) Try.results149 (v := (vi 0)) (by kernel_rfl) (v' := (vi 90)) (by kernel_rfl) ?_
   exact ⟨0, 90, rfl, h⟩
  ·replace h := h.2 hc1
   refine wpE_skip (th_n (wpE_seq (rg (q0 (vp (some (p2.add 5))) (q2 (vi aI) (xl (Try.isAgg38 _) (hb.c 0 5 gZ)) (q0 (vi aI) (q0 (vi 0) (wpL_nil (th_n (wpE_ret ?_))))))))))
   replace h := h H5 w7 hs
   replace hs := hs.here
   refine res2 (.inl rfl) Try.results149 (v := (vi aI)) (by kernel_rfl) (v' := (vi 0)) (by kernel_rfl) ?_
   exact ⟨aI, 0, rfl, h⟩
def m_recipe_cook_keyed (c1 : Option Addr) (aF aA : Int) (aC aD : Int) (aE : ByteArray) (how1 : Value) (w0 : World) (K : Int → Int → World → Prop) : Prop :=
 ∀ (H1 : Nat → Prop) (w1 : World), Hst w0 None w0 H1 w1 →
 Calls Try.prog 144 #[(vp c1), (vi aA)] w1 (fun e w2 => ∃ r1 : Int, ∃ r2 : Bool, e = .returned (.tuple #[(vi r1), (vb r2)]) ∧ 
  Kept H1 w1 w2 ∧
  Calls Try.prog 197 #[(vp c1), (vi aC)] w2 (fun e w3 => ∃ aB aH : Int, ∃ aM aJ : Int, ∃ aK : ByteArray, ∃ aI aL : Int, ∃ r3 : Bool, e = .returned (.tuple #[(.agg #[(vi aB), (vi aH), (vi aM), (vu aJ), (vs aK), (vi aI), (vi aL)]), (vb r3)]) ∧ 
   Kept H1 w2 w3 ∧
   Br (((!r2) || (!r3)) || (aB != 6))
    (∀ (H4 : Nat → Prop) (w7 : World), Hst w0 H1 w3 H4 w7 →
    K 0 90 w7)
    (∃ (f1 : FuncId) (fs1 cs1 : Array Value), how1 = .func (.func f1) fs1 cs1 ∧
    ∀ (H4 : Nat → Prop) (w7 : World), Hst w0 H1 w3 H4 w7 →
    (∀ args w, (callFunc f1 args).run Try.prog w = .ok (.enter f1 args) w) ∧ Calls Try.prog f1 (fs1 ++ #[(vi aH), (vi r1)] ++ cs1) w7 (fun e w9 => ∃ r4 r5 : Int, e = .returned (.tuple #[(vi r4), (vi r5)]) ∧ 
     Kept H4 w7 w9 ∧
     K r4 r5 w9))))
theorem w_recipe_cook_keyed (c1 : Option Addr) (aF aA : Int) (aC aD : Int) (aE : ByteArray) (how1 : Value) (w0 : World) (K : Int → Int → World → Prop) (h : m_recipe_cook_keyed c1 aF aA aC aD aE how1 w0 K) :
  Calls Try.prog 151 #[(vp c1), (.agg #[(vi aF), (vi aA), (vi aC), (vu aD), (vs aE)]), how1] w0 (fun e w' => ∃ r6 r7 : Int, e = .returned (.tuple #[(vi r6), (vi r7)]) ∧ K r6 r7 w') := by
 unfold m_recipe_cook_keyed at h
 refine calls_of_wpE (args := [(vp c1), (.agg #[(vi aF), (vi aA), (vi aC), (vu aD), (vs aE)]), how1]) Try.func151 rfl Try.ntmps151 (Nat.le_of_ble_eq_true rfl) ?_
 have hs := Hst.start w0
 have hb := HB.nil None w0
 refine wpE_seq (rg (sn (O := (.cells #[(vi aF), (vi aA), (vi aC), (vu aD), (vs aE)] 103)) xb ?_))
 intro p1 w1 hn1
 obtain ⟨H1, hs, hb⟩ := hs.alloc hb hn1
 refine q0 (vi 0) (q0 (vi 0) (wpL_nil (th_n (wpE_seq (rg (q0 (vp c1) (q0 (vp (some (p1.add 1))) (q2 (vi aA) (xl (Try.isAgg3 _) (hb.c 0 1 gZ)) ?_))))))))
 replace h := h H1 w1 hs
 replace hs := hs.here
 refine st_call (want0 rfl) (xc Try.call144) (h.mono ?_)
 rintro e w2 ⟨r1, r2, rfl, hk, h⟩
 refine ⟨_, rfl, ?_⟩
 obtain ⟨hs, hb⟩ := hk.hh hs hb
 refine q0 (.tuple #[(vi r1), (vb r2)]) (q0 (vi r1) (q0 (vb r2) (q0 (vi r1) (q0 (vb r2) (wpL_nil (th_n (wpE_seq (rg (q0 (vp c1) (q0 (vp (some (p1.add 2))) (q2 (vi aC) (xl (Try.isAgg3 _) (hb.c 0 2 gZ)) ?_)))))))))))
 refine st_call (want0 rfl) (xc Try.call197) (h.mono ?_)
 rintro e w3 ⟨aB, aH, aM, aJ, aK, aI, aL, r3, rfl, hk, h⟩
 refine ⟨_, rfl, ?_⟩
 obtain ⟨hs, hb⟩ := hk.hh hs hb
 refine q0 (.tuple #[(.agg #[(vi aB), (vi aH), (vi aM), (vu aJ), (vs aK), (vi aI), (vi aL)]), (vb r3)]) (q0 (.agg #[(vi aB), (vi aH), (vi aM), (vu aJ), (vs aK), (vi aI), (vi aL)]) (q0 (vb r3) (sn (O := (.cells #[(vi 0), (vi 0), (vi 0), (vu 0), (vs ⟨#[]⟩), (vi 0), (vi 0)] 105)) (x_alloc (Try.zeroValue105 _) rfl) ?_)))
 intro p2 w4 hn2
 obtain ⟨H2, hs, hb⟩ := hs.alloc hb hn2
 refine st_set (want0 rfl) (x_storeA (a := p2) (vs := [(vi aB), (vi aH), (vi aM), (vu aJ), (vs aK), (vi aI), (vi aL)]) (by kernel_rfl) (by kernel_rfl) rfl (Try.sizeOf105 _) rfl (hb.canWs0 0 7 gZ (by kernel_rfl))) ?_
 intro w5 hn3
 have hsb : Hst w0 H1 w3 H2 w5 ∧ HB H2 w5 [(p2, [(vi aB), (vi aH), (vi aM), (vu aJ), (vs aK), (vi aI), (vi aL)], 105), (p1, [(vi aF), (vi aA), (vi aC), (vu aD), (vs aE)], 103)] := by
  rw [hn3]
  exact hb.store0 (i := 0) (vs := [(vi aB), (vi aH), (vi aM), (vu aJ), (vs aK), (vi aI), (vi aL)]) hs gZ (by kernel_rfl) (by kernel_rfl)
 clear hs hb hn3
 obtain ⟨hs, hb⟩ := hsb
 refine q0 (vb r3) (wpL_nil (th_n (wpE_seq (wpE_seq ?_))))
 refine wpE_via (fun ρ wJ => ∃ b2'0 : Bool, ∃ HJ : Nat → Prop, (((!r2) || (!r3)) = b2'0) ∧ Hst w0 H1 w3 HJ wJ ∧ HB HJ wJ [(p2, [(vi aB), (vi aH), (vi aM), (vu aJ), (vs aK), (vi aI), (vi aL)], 105), (p1, [(vi aF), (vi aA), (vi aC), (vu aD), (vs aE)], 103)] ∧ Has ρ [(2, how1), (8, (vi r1)), (10, (vp (some p2))), (36, (vb (b2'0 || (aB != 6))))]) ?_ ?_
 ·skip
  refine rg (q0 (vb r2) (q0 (vb (!r2)) (q0 (vb (!r2)) ?_)))
  refine wpL_join 3 (fun ρ wJ => ∃ b3'0 : Bool, ∃ HJ : Nat → Prop, ((!r2) = b3'0) ∧ Hst w0 H1 w3 HJ wJ ∧ HB HJ wJ [(p2, [(vi aB), (vi aH), (vi aM), (vu aJ), (vs aK), (vi aI), (vi aL)], 105), (p1, [(vi aF), (vi aA), (vi aC), (vu aD), (vs aE)], 103)] ∧ Has ρ [(2, how1), (8, (vi r1)), (10, (vp (some p2))), (31, (vb (b3'0 || (!r3))))]) ?_ ?_
  ·clear hs hb
   rintro ρ w8 ⟨b3'0, H5, he0, hs, hb, hH⟩
   subst he0
   refine wpL_has hH ?_
   clear hH
   refine q0 (vb ((!r2) || (!r3))) ?_
   rcases Bool.eq_false_or_eq_true ((!r2) || (!r3)) with hg6 | hg6
   ·skip
    refine sk (yD 32 hg6) (sk (yD 32 hg6) (sk (yD 32 hg6) (q2 (vb true) (xT hg6) (wpL_nil (th_n ?_)))))
    exact ⟨true, _, hg6, hs, hb, Has.mk (by kernel_rfl)⟩
   ·skip
    refine q1 (vp (some p2)) (want1 rfl (yD 32 hg6)) (stp (v := (vi aB)) (want1 rfl (yD 32 hg6)) (xl (Try.isAgg3 _) (hb.c0 0 gZ)) (q1 (vb (aB != 6)) (want1 rfl (yD 32 hg6)) (q2 (vb (aB != 6)) (xF hg6) (wpL_nil (th_n ?_)))))
    exact ⟨false, _, hg6, hs, hb, Has.mk (by kernel_rfl)⟩
  ·skip
   rcases Bool.eq_false_or_eq_true (!r2) with hg5 | hg5
   ·skip
    refine sk (yD 28 hg5) (sk (yD 28 hg5) (q2 (vb true) (xT hg5) (wpL_nil ?_)))
    exact ⟨true, _, hg5, hs, hb, Has.mk (by kernel_rfl)⟩
   ·skip
    refine q1 (vb r3) (want1 rfl (yD 28 hg5)) (q1 (vb (!r3)) (want1 rfl (yD 28 hg5)) (q2 (vb (!r3)) (xF hg5) (wpL_nil ?_)))
    exact ⟨false, _, hg5, hs, hb, Has.mk (by kernel_rfl)⟩
 ·clear hs hb
  rintro ρ w7 ⟨b2'0, H4, he0, hs, hb, hH⟩
  subst he0
  refine norm_has hH ?_
  clear hH
  refine th_n ?_
  refine wpE_cond (t := (((!r2) || (!r3)) || (aB != 6))) (by kernel_rfl) (fun hc1 => ?_) (fun hc1 => ?_)
  ·replace h := h.1 hc1
   refine wpE_seq (rg (q0 (vi 0) (q0 (vi 90) (wpL_nil (th_n (wpE_ret (th_r ?_)))))))
   replace h := h H4 w7 hs
   replace hs := hs.here
   refine res2 (.inl rfl) Try.results151 (v := (vi 0)) (by kernel_rfl) (v' := (vi 90)) (by kernel_rfl) ?_
   exact ⟨0, 90, rfl, h⟩
  ·replace h := h.2 hc1
   refine wpE_skip (th_n (wpE_seq (rg (q0 how1 (q0 (vp (some (p2.add 1))) (q2 (vi aH) (xl (Try.isAgg3 _) (hb.c 0 1 gZ)) (q0 (vi r1) ?_)))))))
   obtain ⟨f1, fs1, cs1, hp1, h⟩ := h
   replace h := h H4 w7 hs
   replace hs := hs.here
   obtain ⟨hf1, h⟩ := h
   refine st_call (want0 rfl) (x_callmE (fs := fs1) (caps := cs1) (args := #[(vi aH), (vi r1)]) (by kernel_rfl) hp1 hf1 (by kernel_rfl) rfl) (h.mono ?_)
   rintro e w9 ⟨r4, r5, rfl, hk, h⟩
   refine ⟨_, rfl, ?_⟩
   obtain ⟨hs, hb⟩ := hk.hh hs hb
   refine q0 (vi r4) (q0 (vi r5) (q0 (vi r4) (q0 (vi r5) (wpL_nil (th_n (wpE_ret (res2 (.inl rfl) Try.results151 (v := (vi r4)) (by kernel_rfl) (v' := (vi r5)) (by kernel_rfl) ?_)))))))
   exact ⟨r4, r5, rfl, h⟩
def m_recipe_cook_kitchen_9 (aF aA : Int) (aC aD : Int) (aE : ByteArray) (cap1 cap2 : Addr) (w0 : World) (K : Int → Int → World → Prop) : Prop :=
 ∀ (H1 : Nat → Prop) (w1 : World), Hst w0 None w0 H1 w1 →
 ∃ v1 : Option Addr, w1.cell? cap1 = some (vp v1) ∧
 ∃ v2 : Option Addr, w1.cell? cap2 = some (vp v2) ∧
 Calls Try.prog 151 #[(vp v1), (.agg #[(vi aF), (vi aA), (vi aC), (vu aD), (vs aE)]), (.func (.func 101) #[(vp v2)] #[])] w1 (fun e w2 => ∃ r1 r2 : Int, e = .returned (.tuple #[(vi r1), (vi r2)]) ∧ 
  Kept H1 w1 w2 ∧
  K r1 r2 w2)
theorem w_recipe_cook_kitchen_9 (aF aA : Int) (aC aD : Int) (aE : ByteArray) (cap1 cap2 : Addr) (w0 : World) (K : Int → Int → World → Prop) (h : m_recipe_cook_kitchen_9 aF aA aC aD aE cap1 cap2 w0 K) :
  Calls Try.prog 150 #[(.agg #[(vi aF), (vi aA), (vi aC), (vu aD), (vs aE)]), (vp (some cap1)), (vp (some cap2))] w0 (fun e w' => ∃ r3 r4 : Int, e = .returned (.tuple #[(vi r3), (vi r4)]) ∧ K r3 r4 w') := by
 unfold m_recipe_cook_kitchen_9 at h
 refine calls_of_wpE (args := [(.agg #[(vi aF), (vi aA), (vi aC), (vu aD), (vs aE)]), (vp (some cap1)), (vp (some cap2))]) Try.func150 rfl Try.ntmps150 (Nat.le_of_ble_eq_true rfl) ?_
 have hs := Hst.start w0
 have hb := HB.nil None w0
 refine wpE_seq (rg (sn (O := (.cells #[(vi aF), (vi aA), (vi aC), (vu aD), (vs aE)] 103)) xb ?_))
 intro p1 w1 hn1
 obtain ⟨H1, hs, hb⟩ := hs.alloc hb hn1
 refine q0 (vi 0) (q0 (vi 0) (wpL_nil (th_n (wpE_seq (rg ?_)))))
 replace h := h H1 w1 hs
 replace hs := hs.here
 obtain ⟨v1, hv2, h⟩ := h
 refine q2 (vp v1) (xl (Try.isAgg169 _) hv2) (q2 (.agg #[(vi aF), (vi aA), (vi aC), (vu aD), (vs aE)]) (x_loadA (a := p1) (vs := [(vi aF), (vi aA), (vi aC), (vu aD), (vs aE)]) (by kernel_rfl) (Try.isAgg103 _) (Try.sizeOf103 _) rfl (hb.row0 0 5 gZ (by kernel_rfl))) ?_)
 obtain ⟨v2, hv1, h⟩ := h
 refine q2 (vp v2) (xl (Try.isAgg32 _) hv1) (q0 (.func (.func 101) #[(vp v2)] #[]) ?_)
 refine st_call (want0 rfl) (xc Try.call151) (h.mono ?_)
 rintro e w2 ⟨r1, r2, rfl, hk, h⟩
 refine ⟨_, rfl, ?_⟩
 obtain ⟨hs, hb⟩ := hk.hh hs hb
 refine q0 (vi r1) (q0 (vi r2) (q0 (vi r1) (q0 (vi r2) (wpL_nil (th_n (wpE_ret (res2 (.inl rfl) Try.results150 (v := (vi r1)) (by kernel_rfl) (v' := (vi r2)) (by kernel_rfl) ?_)))))))
 exact ⟨r1, r2, rfl, h⟩
def m_recipe_cook_kitchen_10 (aF aA : Int) (aC aD : Int) (aE : ByteArray) (cap1 cap2 : Addr) (w0 : World) (K : Int → Int → World → Prop) : Prop :=
 ∀ (p1 : Addr) (w1 : World), New w0 (.cells #[(vi aF), (vi aA), (vi aC), (vu aD), (vs aE)] 103) p1 w1 →
 ∃ v1 : Option Addr, w1.cell? cap1 = some (vp v1) ∧
 ∃ aR aP : Int, ∃ aQ aS : Int, ∃ aT : ByteArray, Row w1 p1 [(vi aR), (vi aP), (vi aQ), (vu aS), (vs aT)] ∧
 Calls Try.prog 151 #[(vp v1), (.agg #[(vi aR), (vi aP), (vi aQ), (vu aS), (vs aT)]), (.func (.func 153) #[] #[(vp (some cap2)), (vp (some p1))])] w1 (fun e w2 => ∃ r1 r2 : Int, e = .returned (.tuple #[(vi r1), (vi r2)]) ∧ 
  K r1 r2 w2)
theorem w_recipe_cook_kitchen_10 (aF aA : Int) (aC aD : Int) (aE : ByteArray) (cap1 cap2 : Addr) (w0 : World) (K : Int → Int → World → Prop) (h : m_recipe_cook_kitchen_10 aF aA aC aD aE cap1 cap2 w0 K) :
  Calls Try.prog 152 #[(.agg #[(vi aF), (vi aA), (vi aC), (vu aD), (vs aE)]), (vp (some cap1)), (vp (some cap2))] w0 (fun e w' => ∃ r3 r4 : Int, e = .returned (.tuple #[(vi r3), (vi r4)]) ∧ K r3 r4 w') := by
 unfold m_recipe_cook_kitchen_10 at h
 refine calls_of_wpE (args := [(.agg #[(vi aF), (vi aA), (vi aC), (vu aD), (vs aE)]), (vp (some cap1)), (vp (some cap2))]) Try.func152 rfl Try.ntmps152 (Nat.le_of_ble_eq_true rfl) (wpE_seq (rg (sn (O := (.cells #[(vi aF), (vi aA), (vi aC), (vu aD), (vs aE)] 103)) xb ?_)))
 intro p1 w1 hn1
 replace h := h p1 w1 hn1
 refine q0 (vi 0) (q0 (vi 0) (wpL_nil (th_n (wpE_seq (rg ?_)))))
 obtain ⟨v1, hv2, h⟩ := h
 refine q2 (vp v1) (xl (Try.isAgg169 _) hv2) ?_
 obtain ⟨aR, aP, aQ, aS, aT, hv1, h⟩ := h
 refine q2 (.agg #[(vi aR), (vi aP), (vi aQ), (vu aS), (vs aT)]) (x_loadA (a := p1) (vs := [(vi aR), (vi aP), (vi aQ), (vu aS), (vs aT)]) (by kernel_rfl) (Try.isAgg103 _) (Try.sizeOf103 _) rfl hv1) (q0 (.func (.func 153) #[] #[(vp (some cap2)), (vp (some p1))]) ?_)
 refine st_call (want0 rfl) (xc Try.call151) (h.mono ?_)
 rintro e w2 ⟨r1, r2, rfl, h⟩
 refine ⟨_, rfl, ?_⟩
 refine q0 (vi r1) (q0 (vi r2) (q0 (vi r1) (q0 (vi r2) (wpL_nil (th_n (wpE_ret (res2 (.inl rfl) Try.results152 (v := (vi r1)) (by kernel_rfl) (v' := (vi r2)) (by kernel_rfl) ?_)))))))
 exact ⟨r1, r2, rfl, h⟩
def s_recipe_name (n1 : Int) : Int :=
 (cond (decide (n1 > 2147483648)) (-1) (IntKind.i64.wrap n1))
theorem pw_recipe_name (n1 : Int) (w0 : World) :
  Calls Try.prog 154 #[(vu n1)] w0 (fun e w' => ∃ b'0 : Bool, ((decide (n1 > 2147483648)) = b'0) ∧ (e = .returned (vi (cond b'0 (-1) (IntKind.i64.wrap n1)))) ∧ Pure w0 w') := by
 refine calls_of_wpE (args := [(vu n1)]) Try.func154 rfl Try.ntmps154 (Nat.le_of_ble_eq_true rfl) (wpE_seq (rg (q0 (vi 0) (wpL_nil (th_n (wpE_seq (wpE_seq (rg (q0 (vu n1) (q0 (vb (decide (n1 > 2147483648))) (wpL_nil ?_)))))))))))
 refine th_n ?_
 refine wpE_cond (t := (decide (n1 > 2147483648))) (by kernel_rfl) (fun hc1 => ?_) (fun hc1 => ?_)
 ·skip
  refine wpE_seq (rg (q0 (vi (-1)) (wpL_nil (th_n (wpE_ret (th_r (res1 (.inl rfl) Try.results154 (v := (vi (-1))) (by kernel_rfl) ?_)))))))
  exact ⟨true, hc1, by kernel_rfl, Ext.refl _⟩
 ·skip
  refine wpE_skip (th_n (wpE_seq (rg (q0 (vu n1) (q0 (vi (IntKind.i64.wrap n1)) (q0 (vi (IntKind.i64.wrap n1)) (wpL_nil (th_n (wpE_ret (res1 (.inl rfl) Try.results154 (v := (vi (IntKind.i64.wrap n1))) (by kernel_rfl) ?_))))))))))
  exact ⟨false, hc1, by kernel_rfl, Ext.refl _⟩
theorem p_recipe_name (n1 : Int) (w0 : World) : Calls Try.prog 154 #[(.int .u64 n1)] w0 (fun e w' => e = .returned (.int .i64 (s_recipe_name n1)) ∧ Pure w0 w') := by
 refine (pw_recipe_name n1 w0).mono ?_
 rintro e w' ⟨b'0, e0, h, E⟩
 subst e0
 exact ⟨h, E⟩
def m_recipe_cook_kitchen_10_1 (who1 a1 : Int) (cap1 cap2 : Addr) (w0 : World) (K : Int → Int → World → Prop) : Prop :=
 ∃ C1 : World → Prop, C1 w0.drew ∧ ∀ w1, w1 = w0.drew →
 ∃ v1 : Option Addr, (∀ w', C1 w' → w'.cell? cap1 = some (vp v1)) ∧
 ∃ v2 : Int, (∀ w', C1 w' → w'.cell? (cap2.add 3) = some (vu v2)) ∧
 Calls Try.prog 154 #[(vu v2)] w1 (fun e w2 => ∃ r1 : Int, e = .returned (vi r1) ∧ C1 w2 ∧ 
  Kept None w1 w2 ∧
  Calls Try.prog 95 #[(vp v1), (vi who1), (vi r1), (vi a1)] w2 (fun e w3 => ∃ r2 r3 : Int, e = .returned (.tuple #[(vi r2), (vi r3)]) ∧ C1 w3 ∧ 
   Kept None w2 w3 ∧
   K r2 r3 w3))
theorem w_recipe_cook_kitchen_10_1 (who1 a1 : Int) (cap1 cap2 : Addr) (w0 : World) (K : Int → Int → World → Prop) (h : m_recipe_cook_kitchen_10_1 who1 a1 cap1 cap2 w0 K) :
  Calls Try.prog 153 #[(vi who1), (vi a1), (vp (some cap1)), (vp (some cap2))] w0 (fun e w' => ∃ r4 r5 : Int, e = .returned (.tuple #[(vi r4), (vi r5)]) ∧ K r4 r5 w') := by
 unfold m_recipe_cook_kitchen_10_1 at h
 refine calls_of_wpE (args := [(vi who1), (vi a1), (vp (some cap1)), (vp (some cap2))]) Try.func153 rfl Try.ntmps153 (Nat.le_of_ble_eq_true rfl) ?_
 have hs := Hst.start w0
 have hb := HB.nil None w0
 refine wpE_seq (rg (q0 (vi 0) (q0 (vi 0) (wpL_nil (th_n (wpE_seq ?_))))))
 obtain ⟨C1, hC, h⟩ := h
 refine wpE_drawnC C1 [4, 6] [] (by kernel_rfl) (by kernel_rfl) (by kernel_rfl) (by kernel_rfl) hC ?_
 clear hC
 intro w1 hw1
 replace h := h w1 hw1
 replace hs : Hst w0 None w0 None w1 := by rw [hw1]; exact hs.drew
 replace hb : HB None w1 [] := by rw [hw1]; exact hb.drew
 replace hs := hs.here
 refine qgo (k := 0) (by kernel_rfl) ?_
 obtain ⟨v1, hv2, h⟩ := h
 refine sx (v := (vp v1)) Kp0 (want0 rfl) (by kernel_rfl) (fun w' hw' => (xl (Try.isAgg32 _) (hv2 w' hw'))) (qx 1 (vi who1) Kp1 (qx 2 (vp (some (cap2.add 3))) Kp2 (qgo (k := 3) (by kernel_rfl) ?_)))
 obtain ⟨v2, hv1, h⟩ := h
 refine sx (v := (vu v2)) Kp3 (want0 rfl) (by kernel_rfl) (fun w' hw' => (xl (Try.isAgg44 _) (hv1 w' hw'))) (qx 5 (vi a1) Kp5 (lgo (k := 4) (by kernel_rfl) ?_))
 refine sl_call Kp4 (want0 rfl) (by kernel_rfl) (xc Try.call154) (h.mono ?_)
 rintro e w2 ⟨r1, rfl, hC, hk, h⟩
 refine ⟨_, rfl, .inr hC, ?_⟩
 obtain ⟨hs, hb⟩ := hk.hh hs hb
 refine lgo (k := 6) (by kernel_rfl) ?_
 refine sl_call Kp6 (want0 rfl) (by kernel_rfl) (xc Try.call95) (h.mono ?_)
 rintro e w3 ⟨r2, r3, rfl, hC, hk, h⟩
 refine ⟨_, rfl, .inr hC, ?_⟩
 obtain ⟨hs, hb⟩ := hk.hh hs hb
 refine qx 7 (vi r2) Kp7 (qx 8 (vi r3) Kp8 (qx 9 (vi r2) Kp9 (qx 10 (vi r3) (pickA (S8 (pickS (pickS pickZ)))) (wpX_nil (by kernel_rfl) (th_n (wpE_ret (res2 (.inl rfl) Try.results153 (v := (vi r2)) (by kernel_rfl) (v' := (vi r3)) (by kernel_rfl) ?_)))))))
 exact ⟨r2, r3, rfl, h⟩
def m_recipe_cook_kitchen_11 (aF aA : Int) (aC aD : Int) (aE : ByteArray) (cap1 cap2 : Addr) (w0 : World) (K : Int → Int → World → Prop) : Prop :=
 ∀ (p1 : Addr) (w1 : World), New w0 (.cells #[(vi aF), (vi aA), (vi aC), (vu aD), (vs aE)] 103) p1 w1 →
 ∃ v1 : Option Addr, w1.cell? cap1 = some (vp v1) ∧
 ∃ aR aP : Int, ∃ aQ aS : Int, ∃ aT : ByteArray, Row w1 p1 [(vi aR), (vi aP), (vi aQ), (vu aS), (vs aT)] ∧
 Calls Try.prog 151 #[(vp v1), (.agg #[(vi aR), (vi aP), (vi aQ), (vu aS), (vs aT)]), (.func (.func 156) #[] #[(vp (some cap2)), (vp (some p1))])] w1 (fun e w2 => ∃ r1 r2 : Int, e = .returned (.tuple #[(vi r1), (vi r2)]) ∧ 
  K r1 r2 w2)
theorem w_recipe_cook_kitchen_11 (aF aA : Int) (aC aD : Int) (aE : ByteArray) (cap1 cap2 : Addr) (w0 : World) (K : Int → Int → World → Prop) (h : m_recipe_cook_kitchen_11 aF aA aC aD aE cap1 cap2 w0 K) :
  Calls Try.prog 155 #[(.agg #[(vi aF), (vi aA), (vi aC), (vu aD), (vs aE)]), (vp (some cap1)), (vp (some cap2))] w0 (fun e w' => ∃ r3 r4 : Int, e = .returned (.tuple #[(vi r3), (vi r4)]) ∧ K r3 r4 w') := by
 unfold m_recipe_cook_kitchen_11 at h
 refine calls_of_wpE (args := [(.agg #[(vi aF), (vi aA), (vi aC), (vu aD), (vs aE)]), (vp (some cap1)), (vp (some cap2))]) Try.func155 rfl Try.ntmps155 (Nat.le_of_ble_eq_true rfl) (wpE_seq (rg (sn (O := (.cells #[(vi aF), (vi aA), (vi aC), (vu aD), (vs aE)] 103)) xb ?_)))
 intro p1 w1 hn1
 replace h := h p1 w1 hn1
 refine q0 (vi 0) (q0 (vi 0) (wpL_nil (th_n (wpE_seq (rg ?_)))))
 obtain ⟨v1, hv2, h⟩ := h
 refine q2 (vp v1) (xl (Try.isAgg169 _) hv2) ?_
 obtain ⟨aR, aP, aQ, aS, aT, hv1, h⟩ := h
 refine q2 (.agg #[(vi aR), (vi aP), (vi aQ), (vu aS), (vs aT)]) (x_loadA (a := p1) (vs := [(vi aR), (vi aP), (vi aQ), (vu aS), (vs aT)]) (by kernel_rfl) (Try.isAgg103 _) (Try.sizeOf103 _) rfl hv1) (q0 (.func (.func 156) #[] #[(vp (some cap2)), (vp (some p1))]) ?_)
 refine st_call (want0 rfl) (xc Try.call151) (h.mono ?_)
 rintro e w2 ⟨r1, r2, rfl, h⟩
 refine ⟨_, rfl, ?_⟩
 refine q0 (vi r1) (q0 (vi r2) (q0 (vi r1) (q0 (vi r2) (wpL_nil (th_n (wpE_ret (res2 (.inl rfl) Try.results155 (v := (vi r1)) (by kernel_rfl) (v' := (vi r2)) (by kernel_rfl) ?_)))))))
 exact ⟨r1, r2, rfl, h⟩
def m_recipe_cook_kitchen_11_1 (who1 a1 : Int) (cap1 cap2 : Addr) (w0 : World) (K : Int → Int → World → Prop) : Prop :=
 ∃ C1 : World → Prop, C1 w0.drew ∧ ∀ w1, w1 = w0.drew →
 ∃ v1 : Option Addr, (∀ w', C1 w' → w'.cell? cap1 = some (vp v1)) ∧
 ∃ v2 : Int, (∀ w', C1 w' → w'.cell? (cap2.add 3) = some (vu v2)) ∧
 Calls Try.prog 154 #[(vu v2)] w1 (fun e w2 => ∃ r1 : Int, e = .returned (vi r1) ∧ C1 w2 ∧ 
  Kept None w1 w2 ∧
  Calls Try.prog 96 #[(vp v1), (vi r1), (vi who1), (vi a1)] w2 (fun e w3 => ∃ r2 r3 : Int, e = .returned (.tuple #[(vi r2), (vi r3)]) ∧ C1 w3 ∧ 
   Kept None w2 w3 ∧
   K r2 r3 w3))
theorem w_recipe_cook_kitchen_11_1 (who1 a1 : Int) (cap1 cap2 : Addr) (w0 : World) (K : Int → Int → World → Prop) (h : m_recipe_cook_kitchen_11_1 who1 a1 cap1 cap2 w0 K) :
  Calls Try.prog 156 #[(vi who1), (vi a1), (vp (some cap1)), (vp (some cap2))] w0 (fun e w' => ∃ r4 r5 : Int, e = .returned (.tuple #[(vi r4), (vi r5)]) ∧ K r4 r5 w') := by
 unfold m_recipe_cook_kitchen_11_1 at h
 refine calls_of_wpE (args := [(vi who1), (vi a1), (vp (some cap1)), (vp (some cap2))]) Try.func156 rfl Try.ntmps156 (Nat.le_of_ble_eq_true rfl) ?_
 have hs := Hst.start w0
 have hb := HB.nil None w0
 refine wpE_seq (rg (q0 (vi 0) (q0 (vi 0) (wpL_nil (th_n (wpE_seq ?_))))))
 obtain ⟨C1, hC, h⟩ := h
 refine wpE_drawnC C1 [3, 6] [] (by kernel_rfl) (by kernel_rfl) (by kernel_rfl) (by kernel_rfl) hC ?_
 clear hC
 intro w1 hw1
 replace h := h w1 hw1
 replace hs : Hst w0 None w0 None w1 := by rw [hw1]; exact hs.drew
 replace hb : HB None w1 [] := by rw [hw1]; exact hb.drew
 replace hs := hs.here
 refine qgo (k := 0) (by kernel_rfl) ?_
 obtain ⟨v1, hv2, h⟩ := h
 refine sx (v := (vp v1)) Kp0 (want0 rfl) (by kernel_rfl) (fun w' hw' => (xl (Try.isAgg32 _) (hv2 w' hw'))) (qx 1 (vp (some (cap2.add 3))) Kp1 (qgo (k := 2) (by kernel_rfl) ?_))
 obtain ⟨v2, hv1, h⟩ := h
 refine sx (v := (vu v2)) Kp2 (want0 rfl) (by kernel_rfl) (fun w' hw' => (xl (Try.isAgg44 _) (hv1 w' hw'))) (qx 4 (vi who1) Kp4 (qx 5 (vi a1) Kp5 (lgo (k := 3) (by kernel_rfl) ?_)))
 refine sl_call Kp3 (want0 rfl) (by kernel_rfl) (xc Try.call154) (h.mono ?_)
 rintro e w2 ⟨r1, rfl, hC, hk, h⟩
 refine ⟨_, rfl, .inr hC, ?_⟩
 obtain ⟨hs, hb⟩ := hk.hh hs hb
 refine lgo (k := 6) (by kernel_rfl) ?_
 refine sl_call Kp6 (want0 rfl) (by kernel_rfl) (xc Try.call96) (h.mono ?_)
 rintro e w3 ⟨r2, r3, rfl, hC, hk, h⟩
 refine ⟨_, rfl, .inr hC, ?_⟩
 obtain ⟨hs, hb⟩ := hk.hh hs hb
 refine qx 7 (vi r2) Kp7 (qx 8 (vi r3) Kp8 (qx 9 (vi r2) Kp9 (qx 10 (vi r3) (pickA (S8 (pickS (pickS pickZ)))) (wpX_nil (by kernel_rfl) (th_n (wpE_ret (res2 (.inl rfl) Try.results156 (v := (vi r2)) (by kernel_rfl) (v' := (vi r3)) (by kernel_rfl) ?_)))))))
 exact ⟨r2, r3, rfl, h⟩
end Go.Proofs
end
section
open Go Go.SE
namespace Go.Proofs
attribute [local irreducible] Calls
abbrev DoPost (p : Addr) (F : Nat → Prop) (w : World) (R : Sp.Res) (e : Ending) (w' : World) : Prop :=
 ∃ r1 : Int, ∃ r2 : Int, e = .returned (.tuple #[.int .i64 r1, .int .i64 r2]) ∧ ((r1, r2) = (R.1, R.2.1) ∧ ∃ F', PoolAt w' p R.2.2 F' ∧ Ext F w w' ∧ ∀ b, F' b → F b ∨ w.heap.size ≤ b)
section
variable (p : Addr) (w0 : World) {L : Sp.Pool} {F : Nat → Prop} (hP : PoolAt w0 p L F) (hok : Sp.Ok L)
include hP hok
theorem c_Prom (n t a : Int) : Calls Try.prog 95 #[.pointer (some p), .int .i64 n, .int .i64 t, .int .i64 a] w0 (MakePost p L F w0 ⟨8, n, t, 0, ⟨#[]⟩, a, 0⟩) := by
 refine w_term_Pool_Prom _ _ _ _ w0 (fun r1 r2 w' => (r1, r2) = ((Sp.make L ⟨8, n, t, 0, ⟨#[]⟩, a, 0⟩).1, (Sp.make L ⟨8, n, t, 0, ⟨#[]⟩, a, 0⟩).2.1) ∧ ∃ F', PoolAt w' p (Sp.make L ⟨8, n, t, 0, ⟨#[]⟩, a, 0⟩).2.2 F' ∧ Ext F w0 w' ∧ ∀ b, F' b → F b ∨ w0.heap.size ≤ b) ?_
 unfold m_term_Pool_Prom
 refine (c_Make p _ _ _ _ _ _ _ w0 hP hok).mono ?_
 rintro _ w1 ⟨r1, r2, rfl, h⟩
 exact ⟨r1, r2, rfl, h⟩
theorem c_Fake (n t a : Int) : Calls Try.prog 96 #[.pointer (some p), .int .i64 n, .int .i64 t, .int .i64 a] w0 (MakePost p L F w0 ⟨9, n, t, 0, ⟨#[]⟩, a, 0⟩) := by
 refine w_term_Pool_Fake _ _ _ _ w0 (fun r1 r2 w' => (r1, r2) = ((Sp.make L ⟨9, n, t, 0, ⟨#[]⟩, a, 0⟩).1, (Sp.make L ⟨9, n, t, 0, ⟨#[]⟩, a, 0⟩).2.1) ∧ ∃ F', PoolAt w' p (Sp.make L ⟨9, n, t, 0, ⟨#[]⟩, a, 0⟩).2.2 F' ∧ Ext F w0 w' ∧ ∀ b, F' b → F b ∨ w0.heap.size ≤ b) ?_
 unfold m_term_Pool_Fake
 refine (c_Make p _ _ _ _ _ _ _ w0 hP hok).mono ?_
 rintro _ w1 ⟨r1, r2, rfl, h⟩
 exact ⟨r1, r2, rfl, h⟩
theorem c_Data (x : ByteArray) : Calls Try.prog 142 #[.pointer (some p), .string x] w0 (MakePost p L F w0 ⟨3, 0, 0, 0, x, 0, 0⟩) := by
 refine w_term_Pool_Data _ _ w0 (fun r1 r2 w' => (r1, r2) = ((Sp.make L ⟨3, 0, 0, 0, x, 0, 0⟩).1, (Sp.make L ⟨3, 0, 0, 0, x, 0, 0⟩).2.1) ∧ ∃ F', PoolAt w' p (Sp.make L ⟨3, 0, 0, 0, x, 0, 0⟩).2.2 F' ∧ Ext F w0 w' ∧ ∀ b, F' b → F b ∨ w0.heap.size ≤ b) ?_
 unfold m_term_Pool_Data
 refine (c_Make p _ _ _ _ _ _ _ w0 hP hok).mono ?_
 rintro _ w1 ⟨r1, r2, rfl, h⟩
 exact ⟨r1, r2, rfl, h⟩
end
def oprow (o : Sp.Op) : List Value := [.int .i64 o.code, .int .i64 o.a, .int .i64 o.b, .int .u64 o.num, .string o.text]
def opv (o : Sp.Op) : Value := .agg #[.int .i64 o.code, .int .i64 o.a, .int .i64 o.b, .int .u64 o.num, .string o.text]
structure CookS (w : World) (c p : Addr) (sg sm : Sl) (G M : List Int) : Prop where
 box : Box w c [.pointer (some p), sg.v, sm.v] 171
 giv : Rws w 38 1 sg (tmr G)
 made : Rws w 38 1 sm (tmr M)
def CookF (c : Addr) (sg sm : Sl) (b : Nat) : Prop := b = c.block ∨ sg.blk b ∨ sm.blk b
section
variable {w w' : World} {c p : Addr} {sg sm : Sl} {G M : List Int}
theorem CookS.ext {X : Nat → Prop} (h : CookS w c p sg sm G M) (hE : Ext X w w') (hd : ∀ b, CookF c sg sm b → ¬ X b) : CookS w' c p sg sm G M :=
 ⟨h.box.ext hE (hd _ (.inl rfl)), h.giv.ext hE (fun b hb => hd _ (.inr (.inl hb))), h.made.ext hE (fun b hb => hd _ (.inr (.inr hb)))⟩
theorem CookS.pure (h : CookS w c p sg sm G M) (hE : Pure w w') : CookS w' c p sg sm G M := h.ext hE (fun _ _ h => h)
theorem CookS.lt (h : CookS w c p sg sm G M) {b : Nat} (hb : CookF c sg sm b) : b < w.heap.size := by
 rcases hb with rfl | hb | hb
 ·exact h.box.lt
 ·exact h.giv.lt hb
 ·exact h.made.lt hb
end
theorem tms_nth {w : World} {e : TypeId} {s : Sl} {ts : List Int} (h : Rws w e 1 s (tmr ts)) {i t : Int} (hi : Sp.atM ts i = some t) : ∃ a, At s i 1 a ∧ w.cell? a = some (.int .i64 t) := by
 obtain ⟨h0, h1, rfl⟩ := Sp.atM_some hi
 obtain ⟨a, h2, h3, _⟩ := h.at h0 (by simpa [tmr] using h1)
 exact ⟨a, h2, row_cell (by simpa [tmr] using h3)⟩
section
variable {w0 : World} {c p : Addr} {sg sm : Sl} {G M : List Int} (hC : CookS w0 c p sg sm G M)
include hC
theorem c_cook_at (i : Int) : Calls Try.prog 144 #[.pointer (some c), .int .i64 i] w0 (fun e w' => ∃ r : Int, ∃ ok : Bool, e = .returned (.tuple #[.int .i64 r, .bool ok]) ∧ ((match Sp.atM M i with | none => r = 0 ∧ ok = false | some t => r = t ∧ ok = true) ∧ w' = w0)) := by
 refine w_recipe_cook_at _ _ w0 (fun r ok w' => (match Sp.atM M i with | none => r = 0 ∧ ok = false | some t => r = t ∧ ok = true) ∧ w' = w0) ?_
 unfold m_recipe_cook_at
 have hl : sm.len = M.length := by rw [hC.made.len, tmr_len]
 refine ⟨fun h => ?_, fun h => ?_⟩
 ·rw [Sp.atM_out (.inl (of_decide_eq_true h))]; exact ⟨⟨rfl, rfl⟩, rfl⟩
 ·have h := of_decide_eq_false h
  refine ⟨c, rfl, sm, hC.box.cell rfl, fun h1 => ?_, fun h1 => ?_⟩
  ·rw [Sp.atM_out (.inr (by have := of_decide_eq_true h1; omega))]; exact ⟨⟨rfl, rfl⟩, rfl⟩
  ·have h1 := of_decide_eq_false h1
   have e : Sp.atM M i = some (M[i.toNat]'(by omega)) := Sp.atM_in (by omega) (by omega)
   obtain ⟨a, ha, hc⟩ := tms_nth hC.made e
   refine ⟨c, rfl, sm, hC.box.cell rfl, a, ha, _, hc, ?_⟩
   rw [e]; exact ⟨⟨rfl, rfl⟩, rfl⟩
variable {L : Sp.Pool} {F : Nat → Prop} (hP : PoolAt w0 p L F) (hok : Sp.Ok L)
include hP hok
theorem c_cook_node (i : Int) : Calls Try.prog 197 #[.pointer (some c), .int .i64 i] w0
  (fun e w' => ∃ k : Int, ∃ f : Int, ∃ t' : Int, ∃ u : Int, ∃ x : ByteArray, ∃ a : Int, ∃ b : Int, ∃ r : Bool, e = .returned (.tuple #[.agg #[.int .i64 k, .int .i64 f, .int .i64 t', .int .u64 u, .string x, .int .i64 a, .int .i64 b], .bool r]) ∧ (((⟨k, f, t', u, x, a, b⟩ : Sp.Node) = Sp.nodeAt L M i ∧ (r = false → Sp.nodeAt L M i = Sp.noNode)) ∧ Pure w0 w')) := by
 refine w_recipe_cook_node _ _ w0 (fun k f t' u x a b r w' => ((⟨k, f, t', u, x, a, b⟩ : Sp.Node) = Sp.nodeAt L M i ∧ (r = false → Sp.nodeAt L M i = Sp.noNode)) ∧ Pure w0 w') ?_
 unfold m_recipe_cook_node
 intro H1 w1 hs1
 have E1 := hs1.first
 refine (c_cook_at (hC.pure E1) i).mono ?_
 rintro _ _ ⟨r, ok, rfl, hr, rfl⟩
 refine ⟨_, _, rfl, Kept.refl _, ?_⟩
 unfold Sp.nodeAt
 cases ht : Sp.atM M i with
 | none =>
  rw [ht] at hr; obtain ⟨rfl, rfl⟩ := hr
  exact Br.t rfl (fun w3 hs3 => ⟨⟨rfl, fun _ => rfl⟩, E1.hst hs3⟩)
 | some t =>
  rw [ht] at hr; obtain ⟨rfl, rfl⟩ := hr
  refine Br.f rfl ⟨c, rfl, some p, (hC.pure E1).box.cell0, ?_⟩
  refine (c_Node p r _ (hP.pure E1) hok).mono ?_
  rintro _ w4 ⟨k, f, t', u, x, a, b, o, rfl, ⟨h1, h2⟩, E4⟩
  refine ⟨_, _, _, _, _, _, _, _, rfl, E4.keptP, fun w5 hs5 => ⟨⟨h1, fun ho => ?_⟩, (E1.trans E4).hst hs5⟩⟩
  exact Sp.nodeOf_out (h2.symm.trans ho)
theorem c_cook_part (o : Sp.Op) (s : Bool) : Calls Try.prog 147 #[.pointer (some c), opv o, .bool s] w0 (DoPost p F w0 (Sp.partOp L M o s)) := by
 obtain ⟨co, oa, ob, on, ox⟩ := o
 refine w_recipe_cook_part _ _ _ _ _ _ _ w0 (fun r1 r2 w' => (r1, r2) = ((Sp.partOp L M ⟨co, oa, ob, on, ox⟩ s).1, (Sp.partOp L M ⟨co, oa, ob, on, ox⟩ s).2.1) ∧ ∃ F', PoolAt w' p (Sp.partOp L M ⟨co, oa, ob, on, ox⟩ s).2.2 F' ∧ Ext F w0 w' ∧ ∀ b, F' b → F b ∨ w0.heap.size ≤ b) ?_
 unfold m_recipe_cook_part
 intro H1 w1 hs1
 have E1 := hs1.first
 refine (c_cook_node (hC.pure E1) (hP.pure E1) hok oa).mono ?_
 rintro _ w2 ⟨k, f, t', u, x, a, b, r, rfl, ⟨hn, hr⟩, E2⟩
 refine ⟨_, _, _, _, _, _, _, _, rfl, E2.keptP, ?_⟩
 have fin : ∀ {H' w'}, Hst w0 H1 w2 H' w' → ∃ F', PoolAt w' p L F' ∧ Ext F w0 w' ∧ ∀ b, F' b → F b ∨ w0.heap.size ≤ b := fun hs => by
  have E := (E1.trans E2).hst hs
  exact ⟨F, hP.pure E, E.pure, fun b hb => .inl hb⟩
 unfold Sp.partOp
 simp only
 rw [← hn] at hr ⊢
 refine ⟨fun h => fun H w hs => ?_, fun h => ?_⟩
 ·rw [if_neg]
  ·exact ⟨rfl, fin hs⟩
  ·intro h4
   simp only at h4
   subst h4
   have : r = false := by simpa using h
   have := hr this
   simp [Sp.noNode] at this
 ·have hk : k = 4 := by
   rw [Bool.or_eq_false_iff] at h
   simpa using h.2
  rw [if_pos hk]
  refine ⟨fun h => ?_, fun h => ?_⟩ <;> subst h <;> exact fun H w hs => ⟨rfl, fin hs⟩
theorem c_cook_shown (o : Sp.Op) : Calls Try.prog 149 #[.pointer (some c), opv o] w0 (DoPost p F w0 (Sp.shownOp L M o)) := by
 obtain ⟨co, oa, ob, on, ox⟩ := o
 refine w_recipe_cook_shown _ _ _ _ _ _ w0 (fun r1 r2 w' => (r1, r2) = ((Sp.shownOp L M ⟨co, oa, ob, on, ox⟩).1, (Sp.shownOp L M ⟨co, oa, ob, on, ox⟩).2.1) ∧ ∃ F', PoolAt w' p (Sp.shownOp L M ⟨co, oa, ob, on, ox⟩).2.2 F' ∧ Ext F w0 w' ∧ ∀ b, F' b → F b ∨ w0.heap.size ≤ b) ?_
 unfold m_recipe_cook_shown
 intro H1 w1 hs1
 have E1 := hs1.first
 refine (c_cook_node (hC.pure E1) (hP.pure E1) hok oa).mono ?_
 rintro _ w2 ⟨k, f, t', u, x, a, b, r, rfl, ⟨hn, hr⟩, E2⟩
 refine ⟨_, _, _, _, _, _, _, _, rfl, E2.keptP, ?_⟩
 have fin : ∀ {H' w'}, Hst w0 H1 w2 H' w' → ∃ F', PoolAt w' p L F' ∧ Ext F w0 w' ∧ ∀ b, F' b → F b ∨ w0.heap.size ≤ b := fun hs => by
  have E := (E1.trans E2).hst hs
  exact ⟨F, hP.pure E, E.pure, fun b hb => .inl hb⟩
 unfold Sp.shownOp
 simp only
 rw [← hn] at hr ⊢
 have hsk : Sp.showsK k = !((((k : Int) != 7) && ((k : Int) != 8)) && ((k : Int) != 9)) := by
  unfold Sp.showsK
  by_cases h7 : k = 7 <;> by_cases h8 : k = 8 <;> by_cases h9 : k = 9 <;> simp [bne, h7, h8, h9]
 refine ⟨fun h => fun H w hs => ?_, fun h => fun H w hs => ?_⟩
 ·rw [if_neg]
  ·exact ⟨rfl, fin hs⟩
  ·intro h4
   simp only at h4
   rw [hsk] at h4
   have h4' : ((((k : Int) != 7) && ((k : Int) != 8)) && ((k : Int) != 9)) = false := by simpa only [Bool.not_eq_true'] using h4
   rw [h4', Bool.or_false] at h
   have hrf : r = false := by simpa using h
   have hz := hr hrf
   simp only [Sp.noNode, Sp.Node.mk.injEq] at hz
   rw [hz.1] at h4'
   revert h4'; decide
 ·have hk : Sp.showsK k = true := by
   rw [Bool.or_eq_false_iff] at h
   rw [hsk, h.2]; rfl
  rw [if_pos hk]
  exact ⟨rfl, fin hs⟩
theorem c_cook_keyed (o : Sp.Op) (f1 : FuncId) (fs cs : Array Value) (mk : Int → Int → Sp.Node) (hf : ∀ args w, (callFunc f1 args).run Try.prog w = .ok (.enter f1 args) w)
  (how : ∀ (k a : Int) (w1 : World), Pure w0 w1 → Calls Try.prog f1 (fs ++ #[.int .i64 k, .int .i64 a] ++ cs) w1 (MakePost p L F w1 (mk k a))) :
  Calls Try.prog 151 #[.pointer (some c), opv o, .func (.func f1) fs cs] w0 (DoPost p F w0 (Sp.keyedOp L M o mk)) := by
 obtain ⟨co, oa, ob, on, ox⟩ := o
 refine w_recipe_cook_keyed _ _ _ _ _ _ _ w0 (fun r1 r2 w' => (r1, r2) = ((Sp.keyedOp L M ⟨co, oa, ob, on, ox⟩ mk).1, (Sp.keyedOp L M ⟨co, oa, ob, on, ox⟩ mk).2.1) ∧ ∃ F', PoolAt w' p (Sp.keyedOp L M ⟨co, oa, ob, on, ox⟩ mk).2.2 F' ∧ Ext F w0 w' ∧ ∀ b, F' b → F b ∨ w0.heap.size ≤ b) ?_
 unfold m_recipe_cook_keyed
 intro H1 w1 hs1
 have E1 := hs1.first
 refine (c_cook_at (hC.pure E1) oa).mono ?_
 rintro _ _ ⟨ra, oka, rfl, hra, rfl⟩
 refine ⟨_, _, rfl, Kept.refl _, ?_⟩
 refine (c_cook_node (hC.pure E1) (hP.pure E1) hok ob).mono ?_
 rintro _ w2 ⟨k, f, t', u, x, a, b, r, rfl, ⟨hn, hr⟩, E2⟩
 refine ⟨_, _, _, _, _, _, _, _, rfl, E2.keptP, ?_⟩
 have fin : ∀ {H' w'}, Hst w0 H1 w2 H' w' → ∃ F', PoolAt w' p L F' ∧ Ext F w0 w' ∧ ∀ b, F' b → F b ∨ w0.heap.size ≤ b := fun hs => by
  have E := (E1.trans E2).hst hs
  exact ⟨F, hP.pure E, E.pure, fun b hb => .inl hb⟩
 unfold Sp.keyedOp
 simp only
 rw [← hn] at hr ⊢
 have hrk : k = 6 → r = true := fun h6 => by
  cases r with
  | true => rfl
  | false => have := hr rfl; simp only [Sp.noNode, Sp.Node.mk.injEq] at this; omega
 cases ht : Sp.atM M oa with
 | none =>
  rw [ht] at hra; obtain ⟨rfl, rfl⟩ := hra
  exact Br.t (by simp) (fun H w hs => ⟨rfl, fin hs⟩)
 | some t =>
  rw [ht] at hra; obtain ⟨rfl, rfl⟩ := hra
  simp only
  refine ⟨fun h => fun H w hs => ?_, fun h => ?_⟩
  ·rw [if_neg]
   ·exact ⟨rfl, fin hs⟩
   ·intro h6
    rw [hrk h6, h6] at h
    revert h; decide
  ·have hk : k = 6 := by
    rw [Bool.or_eq_false_iff] at h
    simpa using h.2
   rw [if_pos hk]
   refine ⟨f1, fs, cs, rfl, fun H w hs => ⟨hf, ?_⟩⟩
   have E := (E1.trans E2).hst hs
   refine (how f ra w E).mono ?_
   rintro _ w9 ⟨r4, r5, rfl, h1, F', hP', X, hF'⟩
   exact ⟨r4, r5, rfl, X.kept (fun b hb hx => by have := hs.old b hb; have := hP.lt hx; omega), h1, F', hP', (E.pure (F := F)).trans X, fun b hb => (hF' b hb).imp_right (fun h => by have := E.size; omega)⟩
end
end Go.Proofs
end
section
open Go Go.SE
namespace Go.Proofs
attribute [local irreducible] Calls
def dishes (c c1 c2 : Addr) : List (Int × Value) :=
 [(0, .func (.func 138) #[] #[.pointer (some c1)]), (1, .func (.func 139) #[] #[.pointer (some c2)]), (2, .func (.func 140) #[] #[.pointer (some c2)]),
  (3, .func (.func 141) #[] #[.pointer (some c2)]), (4, .func (.func 143) #[] #[.pointer (some c1), .pointer (some c2)]), (5, .func (.func 145) #[] #[.pointer (some c1), .pointer (some c2)]),
  (6, .func (.func 146) #[] #[.pointer (some c1)]), (7, .func (.func 148) #[] #[.pointer (some c1)]), (8, .func (.func 149) #[.pointer (some c)] #[]),
  (9, .func (.func 150) #[] #[.pointer (some c1), .pointer (some c2)]), (10, .func (.func 152) #[] #[.pointer (some c1), .pointer (some c2)]), (11, .func (.func 155) #[] #[.pointer (some c1), .pointer (some c2)])]
section
variable {w0 : World} {c p c1 c2 : Addr} {sg sm : Sl} {G M : List Int} (hC : CookS w0 c p sg sm G M)
variable (h1 : w0.cell? c1 = some (.pointer (some c))) (h2 : w0.cell? c2 = some (.pointer (some p)))
variable {L : Sp.Pool} {F : Nat → Prop} (hP : PoolAt w0 p L F) (hok : Sp.Ok L)
abbrev DoK (p : Addr) (F : Nat → Prop) (w : World) (R : Sp.Res) (r1 r2 : Int) (w' : World) : Prop := (r1, r2) = (R.1, R.2.1) ∧ ∃ F', PoolAt w' p R.2.2 F' ∧ Ext F w w' ∧ ∀ b, F' b → F b ∨ w.heap.size ≤ b
theorem DoK.pre {p : Addr} {F : Nat → Prop} {w w1 w' : World} {R : Sp.Res} {r1 r2 : Int} (E : Pure w w1) (h : DoK p F w1 R r1 r2 w') : DoK p F w R r1 r2 w' := by
 obtain ⟨h1, F', h2, h3, h4⟩ := h
 exact ⟨h1, F', h2, E.pure.trans h3, fun b hb => (h4 b hb).imp_right (fun h => by have := E.size; omega)⟩
include hC h1 hP in
theorem c_dish0 (o : Sp.Op) : Calls Try.prog 138 #[opv o, .pointer (some c1)] w0 (DoPost p F w0 (Sp.knownOp L G o)) := by
 obtain ⟨co, oa, ob, on, ox⟩ := o
 refine w_recipe_cook_kitchen_1 co oa ob on ox _ w0 (DoK p F w0 (Sp.knownOp L G ⟨co, oa, ob, on, ox⟩)) ?_
 unfold m_recipe_cook_kitchen_1
 have hl : sg.len = G.length := by rw [hC.giv.len, tmr_len]
 have no : ∀ H w, Hst w0 None w0 H w → Sp.atM G oa = none → DoK p F w0 (Sp.knownOp L G ⟨co, oa, ob, on, ox⟩) 0 90 w := fun H w hs hn => by
  have e : Sp.knownOp L G ⟨co, oa, ob, on, ox⟩ = Sp.noOp L := by unfold Sp.knownOp; simp only; rw [hn]
  rw [e]
  exact ⟨rfl, F, hP.pure hs.first, hs.first.pure, fun b hb => .inl hb⟩
 refine ⟨fun h => fun H w hs => ?_, fun h => fun H w hs => ?_⟩
 ·unfold m_recipe_cook_kitchen_1_j1
  exact Br.t rfl (no H w hs (Sp.atM_out (.inl (of_decide_eq_true h))))
 ·have h := of_decide_eq_false h
  have C := hC.pure hs.first
  refine ⟨some c, (hs.first).cell h1 (fun h => h), c, rfl, sg, C.box.cell rfl, ?_⟩
  unfold m_recipe_cook_kitchen_1_j1
  refine ⟨fun h3 => no H w hs (Sp.atM_out (.inr (by have := of_decide_eq_true h3; omega))), fun h3 => ?_⟩
  have h3 := of_decide_eq_false h3
  intro w2 hs2
  have E2 := hs.first.hst hs2
  have C2 := hC.pure E2
  have e : Sp.atM G oa = some (G[oa.toNat]'(by omega)) := Sp.atM_in (by omega) (by omega)
  obtain ⟨a, ha, hc⟩ := tms_nth C2.giv e
  refine ⟨some c, E2.cell h1 (fun h => h), c, rfl, sg, C2.box.cell rfl, a, ha, _, hc, ?_⟩
  have e2 : Sp.knownOp L G ⟨co, oa, ob, on, ox⟩ = (G[oa.toNat]'(by omega), 0, L) := by unfold Sp.knownOp; simp only; rw [e]
  rw [e2]
  exact ⟨rfl, F, hP.pure E2, E2.pure, fun b hb => .inl hb⟩
include h2 hP hok in
theorem c_dish1 (o : Sp.Op) : Calls Try.prog 139 #[opv o, .pointer (some c2)] w0 (DoPost p F w0 (Sp.make L ⟨1, o.a, 0, 0, ⟨#[]⟩, 0, 0⟩)) := by
 obtain ⟨co, oa, ob, on, ox⟩ := o
 refine w_recipe_cook_kitchen_2 _ _ _ _ _ _ w0 (DoK p F w0 (Sp.make L ⟨1, oa, 0, 0, ⟨#[]⟩, 0, 0⟩)) ?_
 unfold m_recipe_cook_kitchen_2
 intro H1 w1 hs1
 refine ⟨some p, hs1.first.cell h2 (fun h => h), ?_⟩
 refine (c_Name p w1 (hP.pure hs1.first) hok oa).mono ?_
 rintro _ w2 ⟨r1, r2, rfl, h⟩
 exact ⟨r1, r2, rfl, h.2.elim (fun F' h => h.2.1.kept (fun b hb hx => by have := hs1.old b hb; have := hP.lt hx; omega)), DoK.pre hs1.first h⟩
include h2 hP hok in
theorem c_dish2 (o : Sp.Op) : Calls Try.prog 140 #[opv o, .pointer (some c2)] w0 (DoPost p F w0 (Sp.make L ⟨2, 0, 0, o.num, ⟨#[]⟩, 0, 0⟩)) := by
 obtain ⟨co, oa, ob, on, ox⟩ := o
 refine w_recipe_cook_kitchen_3 _ _ _ _ _ _ w0 (DoK p F w0 (Sp.make L ⟨2, 0, 0, on, ⟨#[]⟩, 0, 0⟩)) ?_
 unfold m_recipe_cook_kitchen_3
 intro H1 w1 hs1
 refine ⟨some p, hs1.first.cell h2 (fun h => h), ?_⟩
 refine (c_Num p w1 (hP.pure hs1.first) hok on).mono ?_
 rintro _ w2 ⟨r1, r2, rfl, h⟩
 exact ⟨r1, r2, rfl, h.2.elim (fun F' h => h.2.1.kept (fun b hb hx => by have := hs1.old b hb; have := hP.lt hx; omega)), DoK.pre hs1.first h⟩
include h2 hP hok in
theorem c_dish3 (o : Sp.Op) : Calls Try.prog 141 #[opv o, .pointer (some c2)] w0 (DoPost p F w0 (Sp.make L ⟨3, 0, 0, 0, o.text, 0, 0⟩)) := by
 obtain ⟨co, oa, ob, on, ox⟩ := o
 refine w_recipe_cook_kitchen_4 _ _ _ _ _ _ w0 (DoK p F w0 (Sp.make L ⟨3, 0, 0, 0, ox, 0, 0⟩)) ?_
 unfold m_recipe_cook_kitchen_4
 intro H1 w1 hs1
 refine ⟨some p, hs1.first.cell h2 (fun h => h), ?_⟩
 refine (c_Data p w1 (hP.pure hs1.first) hok ox).mono ?_
 rintro _ w2 ⟨r1, r2, rfl, h⟩
 exact ⟨r1, r2, rfl, h.2.elim (fun F' h => h.2.1.kept (fun b hb hx => by have := hs1.old b hb; have := hP.lt hx; omega)), DoK.pre hs1.first h⟩
include hC h1 h2 hP hok in
theorem c_dish4 (o : Sp.Op) : Calls Try.prog 143 #[opv o, .pointer (some c1), .pointer (some c2)] w0 (DoPost p F w0 (Sp.pairOp L M o)) := by
 obtain ⟨co, oa, ob, on, ox⟩ := o
 refine w_recipe_cook_kitchen_5 _ _ _ _ _ _ _ w0 (DoK p F w0 (Sp.pairOp L M ⟨co, oa, ob, on, ox⟩)) ?_
 unfold m_recipe_cook_kitchen_5
 intro H1 w1 hs1
 have E1 := hs1.first
 refine ⟨some c, E1.cell h1 (fun h => h), ?_⟩
 refine (c_cook_at (hC.pure E1) oa).mono ?_
 rintro _ w1 ⟨ra, oka, rfl, hra, rfl⟩
 refine ⟨_, _, rfl, Kept.refl _, some c, E1.cell h1 (fun h => h), ?_⟩
 refine (c_cook_at (hC.pure E1) ob).mono ?_
 rintro _ w1 ⟨rb, okb, rfl, hrb, rfl⟩
 refine ⟨_, _, rfl, Kept.refl _, ?_⟩
 unfold Sp.pairOp
 simp only
 have no : ∀ H w, Hst w0 H1 w1 H w → DoK p F w0 (Sp.noOp L) 0 90 w := fun H w hs => ⟨rfl, F, hP.pure (E1.hst hs), (E1.hst hs).pure, fun b hb => .inl hb⟩
 cases hta : Sp.atM M oa with
 | none =>
  rw [hta] at hra; obtain ⟨rfl, rfl⟩ := hra
  exact Br.t (by simp) (fun H w hs => no H w hs)
 | some a =>
  rw [hta] at hra; obtain ⟨rfl, rfl⟩ := hra
  simp only
  cases htb : Sp.atM M ob with
  | none =>
   rw [htb] at hrb; obtain ⟨rfl, rfl⟩ := hrb
   exact Br.t (by simp) (fun H w hs => no H w hs)
  | some b =>
   rw [htb] at hrb; obtain ⟨rfl, rfl⟩ := hrb
   simp only
   refine Br.f rfl (fun H w hs => ⟨some p, (E1.hst hs).cell h2 (fun h => h), ?_⟩)
   refine (c_Pair p w (hP.pure (E1.hst hs)) hok ra rb).mono ?_
   rintro _ w2 ⟨r1, r2, rfl, h⟩
   exact ⟨r1, r2, rfl, h.2.elim (fun F' h => h.2.1.kept (fun b hb hx => by have := hs.old b hb; have := hP.lt hx; omega)), DoK.pre (E1.hst hs) h⟩
include hC h1 h2 hP hok in
theorem c_dish5 (o : Sp.Op) : Calls Try.prog 145 #[opv o, .pointer (some c1), .pointer (some c2)] w0 (DoPost p F w0 (Sp.hashOp L M o)) := by
 obtain ⟨co, oa, ob, on, ox⟩ := o
 refine w_recipe_cook_kitchen_6 _ _ _ _ _ _ _ w0 (DoK p F w0 (Sp.hashOp L M ⟨co, oa, ob, on, ox⟩)) ?_
 unfold m_recipe_cook_kitchen_6
 intro H1 w1 hs1
 have E1 := hs1.first
 refine ⟨some c, E1.cell h1 (fun h => h), ?_⟩
 refine (c_cook_at (hC.pure E1) oa).mono ?_
 rintro _ w1 ⟨ra, oka, rfl, hra, rfl⟩
 refine ⟨_, _, rfl, Kept.refl _, ?_⟩
 unfold Sp.hashOp
 simp only
 cases hta : Sp.atM M oa with
 | none =>
  rw [hta] at hra; obtain ⟨rfl, rfl⟩ := hra
  exact Br.t rfl ⟨rfl, F, hP.pure E1, E1.pure, fun b hb => .inl hb⟩
 | some a =>
  rw [hta] at hra; obtain ⟨rfl, rfl⟩ := hra
  simp only
  refine Br.f rfl ⟨some p, E1.cell h2 (fun h => h), ?_⟩
  refine (c_Hash p _ (hP.pure E1) hok ra).mono ?_
  rintro _ w2 ⟨r1, r2, rfl, h⟩
  exact ⟨r1, r2, rfl, h.2.elim (fun F' h => h.2.1.kept (fun b hb hx => by have := hs1.old b hb; have := hP.lt hx; omega)), DoK.pre E1 h⟩
include hC h1 hP hok in
theorem c_dish6 (o : Sp.Op) : Calls Try.prog 146 #[opv o, .pointer (some c1)] w0 (DoPost p F w0 (Sp.partOp L M o false)) := by
 obtain ⟨co, oa, ob, on, ox⟩ := o
 refine w_recipe_cook_kitchen_7 _ _ _ _ _ _ w0 (DoK p F w0 (Sp.partOp L M ⟨co, oa, ob, on, ox⟩ false)) ?_
 unfold m_recipe_cook_kitchen_7
 intro H1 w1 hs1
 have E1 := hs1.first
 refine ⟨some c, E1.cell h1 (fun h => h), ?_⟩
 refine (c_cook_part (hC.pure E1) (hP.pure E1) hok ⟨co, oa, ob, on, ox⟩ false).mono ?_
 rintro _ w2 ⟨r1, r2, rfl, h⟩
 exact ⟨r1, r2, rfl, h.2.elim (fun F' h => h.2.1.kept (fun b hb hx => by have := hs1.old b hb; have := hP.lt hx; omega)), DoK.pre E1 h⟩
include hC h1 hP hok in
theorem c_dish7 (o : Sp.Op) : Calls Try.prog 148 #[opv o, .pointer (some c1)] w0 (DoPost p F w0 (Sp.partOp L M o true)) := by
 obtain ⟨co, oa, ob, on, ox⟩ := o
 refine w_recipe_cook_kitchen_8 _ _ _ _ _ _ w0 (DoK p F w0 (Sp.partOp L M ⟨co, oa, ob, on, ox⟩ true)) ?_
 unfold m_recipe_cook_kitchen_8
 intro H1 w1 hs1
 have E1 := hs1.first
 refine ⟨some c, E1.cell h1 (fun h => h), ?_⟩
 refine (c_cook_part (hC.pure E1) (hP.pure E1) hok ⟨co, oa, ob, on, ox⟩ true).mono ?_
 rintro _ w2 ⟨r1, r2, rfl, h⟩
 exact ⟨r1, r2, rfl, h.2.elim (fun F' h => h.2.1.kept (fun b hb hx => by have := hs1.old b hb; have := hP.lt hx; omega)), DoK.pre E1 h⟩
include hC h1 h2 hP hok in
theorem c_dish9 (o : Sp.Op) : Calls Try.prog 150 #[opv o, .pointer (some c1), .pointer (some c2)] w0 (DoPost p F w0 (Sp.keyedOp L M o (fun k a => ⟨7, k, 0, 0, ⟨#[]⟩, a, 0⟩))) := by
 obtain ⟨co, oa, ob, on, ox⟩ := o
 refine w_recipe_cook_kitchen_9 _ _ _ _ _ _ _ w0 (DoK p F w0 (Sp.keyedOp L M ⟨co, oa, ob, on, ox⟩ (fun k a => ⟨7, k, 0, 0, ⟨#[]⟩, a, 0⟩))) ?_
 unfold m_recipe_cook_kitchen_9
 intro H1 w1 hs1
 have E1 := hs1.first
 refine ⟨some c, E1.cell h1 (fun h => h), some p, E1.cell h2 (fun h => h), ?_⟩
 refine (c_cook_keyed (hC.pure E1) (hP.pure E1) hok ⟨co, oa, ob, on, ox⟩ 101 #[.pointer (some p)] #[] (fun k a => ⟨7, k, 0, 0, ⟨#[]⟩, a, 0⟩) Try.call101 (fun k a w' E' => ?_)).mono ?_
 ·exact c_Sign p w' ((hP.pure E1).pure E') hok k a
 rintro _ w2 ⟨r1, r2, rfl, h⟩
 exact ⟨r1, r2, rfl, h.2.elim (fun F' h => h.2.1.kept (fun b hb hx => by have := hs1.old b hb; have := hP.lt hx; omega)), DoK.pre E1 h⟩
variable (hd : ¬ F c2.block)
include hC h1 h2 hP hok hd in
theorem c_dish10 (o : Sp.Op) : Calls Try.prog 152 #[opv o, .pointer (some c1), .pointer (some c2)] w0 (DoPost p F w0 (Sp.keyedOp L M o (fun k a => ⟨8, k, Sp.nameOf o.num, 0, ⟨#[]⟩, a, 0⟩))) := by
 obtain ⟨co, oa, ob, on, ox⟩ := o
 refine w_recipe_cook_kitchen_10 co oa ob on ox _ _ w0 (DoK p F w0 (Sp.keyedOp L M ⟨co, oa, ob, on, ox⟩ (fun k a => ⟨8, k, Sp.nameOf on, 0, ⟨#[]⟩, a, 0⟩))) ?_
 unfold m_recipe_cook_kitchen_10
 intro p1 w1 hn1
 have E1 : Pure w0 w1 := Ext.new hn1
 have B1 := Box.of_new hn1
 refine ⟨some c, E1.cell h1 (fun h => h), _, _, _, _, _, B1.row, ?_⟩
 refine (c_cook_keyed (hC.pure E1) (hP.pure E1) hok ⟨co, oa, ob, on, ox⟩ 153 #[] #[.pointer (some c2), .pointer (some p1)] (fun k a => ⟨8, k, Sp.nameOf on, 0, ⟨#[]⟩, a, 0⟩) Try.call153 (fun k a w' E' => ?_)).mono ?_
 ·refine w_recipe_cook_kitchen_10_1 k a _ _ w' (DoK p F w' (Sp.make L ⟨8, k, Sp.nameOf on, 0, ⟨#[]⟩, a, 0⟩)) ?_
  unfold m_recipe_cook_kitchen_10_1
  have hcc : w'.cell? c2 = some (.pointer (some p)) := (E1.trans E').cell h2 (fun h => h)
  have hcp : w'.cell? (p1.add 3) = some (.int .u64 on) := (B1.pure E').cell rfl
  have hpf : ¬ F (p1.add 3).block := fun h => by rw [add_block] at h; have := hP.lt h; have := hn1.at_size; omega
  have Ed : Pure w' w'.drew := Ext.drew w'
  have keep : ∀ {X : Nat → Prop} {a b : World}, (a.cell? c2 = some (.pointer (some p)) ∧ a.cell? (p1.add 3) = some (.int .u64 on)) → Ext X a b → (∀ b, X b → F b) → b.cell? c2 = some (.pointer (some p)) ∧ b.cell? (p1.add 3) = some (.int .u64 on) := fun h E hx => ⟨E.cell h.1 (fun hh => hd (hx _ hh)), E.cell h.2 (fun hh => hpf (hx _ hh))⟩
  have C1 := keep ⟨hcc, hcp⟩ Ed (fun _ h => h.elim)
  refine ⟨fun w => w.cell? c2 = some (.pointer (some p)) ∧ w.cell? (p1.add 3) = some (.int .u64 on), C1, ?_⟩
  rintro _ rfl
  refine ⟨some p, fun _ h => h.1, on, fun _ h => h.2, ?_⟩
  refine (p_recipe_name on _).mono ?_
  rintro _ w2 ⟨rfl, E2⟩
  have C2 := keep C1 E2 (fun _ h => h.elim)
  refine ⟨_, rfl, C2, E2.keptP, ?_⟩
  refine (c_Prom p w2 (hP.pure (((E1.trans E').trans Ed).trans E2)) hok k (s_recipe_name on) a).mono ?_
  rintro _ w3 ⟨r1, r2, rfl, h⟩
  exact ⟨r1, r2, rfl, h.2.elim (fun F' h => keep C2 h.2.1 (fun _ h => h)), h.2.elim (fun F' h => h.2.1.kept (fun b hb hx => hb.elim)), DoK.pre (Ed.trans E2) h⟩
 rintro _ w2 ⟨r1, r2, rfl, h⟩
 exact ⟨r1, r2, rfl, DoK.pre E1 h⟩
include hC h1 h2 hP hok hd in
theorem c_dish11 (o : Sp.Op) : Calls Try.prog 155 #[opv o, .pointer (some c1), .pointer (some c2)] w0 (DoPost p F w0 (Sp.keyedOp L M o (fun k a => ⟨9, Sp.nameOf o.num, k, 0, ⟨#[]⟩, a, 0⟩))) := by
 obtain ⟨co, oa, ob, on, ox⟩ := o
 refine w_recipe_cook_kitchen_11 co oa ob on ox _ _ w0 (DoK p F w0 (Sp.keyedOp L M ⟨co, oa, ob, on, ox⟩ (fun k a => ⟨9, Sp.nameOf on, k, 0, ⟨#[]⟩, a, 0⟩))) ?_
 unfold m_recipe_cook_kitchen_11
 intro p1 w1 hn1
 have E1 : Pure w0 w1 := Ext.new hn1
 have B1 := Box.of_new hn1
 refine ⟨some c, E1.cell h1 (fun h => h), _, _, _, _, _, B1.row, ?_⟩
 refine (c_cook_keyed (hC.pure E1) (hP.pure E1) hok ⟨co, oa, ob, on, ox⟩ 156 #[] #[.pointer (some c2), .pointer (some p1)] (fun k a => ⟨9, Sp.nameOf on, k, 0, ⟨#[]⟩, a, 0⟩) Try.call156 (fun k a w' E' => ?_)).mono ?_
 ·refine w_recipe_cook_kitchen_11_1 k a _ _ w' (DoK p F w' (Sp.make L ⟨9, Sp.nameOf on, k, 0, ⟨#[]⟩, a, 0⟩)) ?_
  unfold m_recipe_cook_kitchen_11_1
  have hcc : w'.cell? c2 = some (.pointer (some p)) := (E1.trans E').cell h2 (fun h => h)
  have hcp : w'.cell? (p1.add 3) = some (.int .u64 on) := (B1.pure E').cell rfl
  have hpf : ¬ F (p1.add 3).block := fun h => by rw [add_block] at h; have := hP.lt h; have := hn1.at_size; omega
  have Ed : Pure w' w'.drew := Ext.drew w'
  have keep : ∀ {X : Nat → Prop} {a b : World}, (a.cell? c2 = some (.pointer (some p)) ∧ a.cell? (p1.add 3) = some (.int .u64 on)) → Ext X a b → (∀ b, X b → F b) → b.cell? c2 = some (.pointer (some p)) ∧ b.cell? (p1.add 3) = some (.int .u64 on) := fun h E hx => ⟨E.cell h.1 (fun hh => hd (hx _ hh)), E.cell h.2 (fun hh => hpf (hx _ hh))⟩
  have C1 := keep ⟨hcc, hcp⟩ Ed (fun _ h => h.elim)
  refine ⟨fun w => w.cell? c2 = some (.pointer (some p)) ∧ w.cell? (p1.add 3) = some (.int .u64 on), C1, ?_⟩
  rintro _ rfl
  refine ⟨some p, fun _ h => h.1, on, fun _ h => h.2, ?_⟩
  refine (p_recipe_name on _).mono ?_
  rintro _ w2 ⟨rfl, E2⟩
  have C2 := keep C1 E2 (fun _ h => h.elim)
  refine ⟨_, rfl, C2, E2.keptP, ?_⟩
  refine (c_Fake p w2 (hP.pure (((E1.trans E').trans Ed).trans E2)) hok (s_recipe_name on) k a).mono ?_
  rintro _ w3 ⟨r1, r2, rfl, h⟩
  exact ⟨r1, r2, rfl, h.2.elim (fun F' h => keep C2 h.2.1 (fun _ h => h)), h.2.elim (fun F' h => h.2.1.kept (fun b hb hx => hb.elim)), DoK.pre (Ed.trans E2) h⟩
 rintro _ w2 ⟨r1, r2, rfl, h⟩
 exact ⟨r1, r2, rfl, DoK.pre E1 h⟩
include hC h1 h2 hP hok hd in
theorem c_dish (o : Sp.Op) : (SE.look (dishes c c1 c2) o.code = none → Sp.doOp L G M o = Sp.noOp L) ∧
  ∀ v, SE.look (dishes c c1 c2) o.code = some v → ∃ (f : FuncId) (fs cs : Array Value), v = .func (.func f) fs cs ∧ (∀ args w, (callFunc f args).run Try.prog w = .ok (.enter f args) w) ∧ Calls Try.prog f (fs ++ #[opv o] ++ cs) w0 (DoPost p F w0 (Sp.doOp L G M o)) := by
 have d0 := c_dish0 hC h1 hP o
 have d1 := c_dish1 h2 hP hok o
 have d2 := c_dish2 h2 hP hok o
 have d3 := c_dish3 h2 hP hok o
 have d4 := c_dish4 hC h1 h2 hP hok o
 have d5 := c_dish5 hC h1 h2 hP hok o
 have d6 := c_dish6 hC h1 hP hok o
 have d7 := c_dish7 hC h1 hP hok o
 have d8 := c_cook_shown hC hP hok o
 have d9 := c_dish9 hC h1 h2 hP hok o
 have d10 := c_dish10 hC h1 h2 hP hok hd o
 have d11 := c_dish11 hC h1 h2 hP hok hd o
 generalize hk : o.code = k
 unfold Sp.doOp dishes
 rw [hk]
 have step : ∀ (n : Int) (u : Value) (M' : List (Int × Value)) (R R' : Sp.Res), (∃ (f : FuncId) (fs cs : Array Value), u = .func (.func f) fs cs ∧ (∀ args w, (callFunc f args).run Try.prog w = .ok (.enter f args) w) ∧ Calls Try.prog f (fs ++ #[opv o] ++ cs) w0 (DoPost p F w0 R)) →
   ((SE.look M' k = none → R' = Sp.noOp L) ∧ ∀ v, SE.look M' k = some v → ∃ (f : FuncId) (fs cs : Array Value), v = .func (.func f) fs cs ∧ (∀ args w, (callFunc f args).run Try.prog w = .ok (.enter f args) w) ∧ Calls Try.prog f (fs ++ #[opv o] ++ cs) w0 (DoPost p F w0 R')) →
   ((SE.look ((n, u) :: M') k = none → (if k = n then R else R') = Sp.noOp L) ∧ ∀ v, SE.look ((n, u) :: M') k = some v → ∃ (f : FuncId) (fs cs : Array Value), v = .func (.func f) fs cs ∧ (∀ args w, (callFunc f args).run Try.prog w = .ok (.enter f args) w) ∧ Calls Try.prog f (fs ++ #[opv o] ++ cs) w0 (DoPost p F w0 (if k = n then R else R'))) := by
  intro n u M' R R' h h'
  rw [SE.look]
  by_cases e : k = n
  ·rw [if_pos e.symm, if_pos e]
   exact ⟨fun h => (by cases h), fun v hv => by cases hv; exact h⟩
  ·rw [if_neg (fun e' => e e'.symm), if_neg e]
   exact h'
 refine step 0 _ _ _ _ ⟨_, _, _, rfl, Try.call138, d0⟩ ?_
 refine step 1 _ _ _ _ ⟨_, _, _, rfl, Try.call139, d1⟩ ?_
 refine step 2 _ _ _ _ ⟨_, _, _, rfl, Try.call140, d2⟩ ?_
 refine step 3 _ _ _ _ ⟨_, _, _, rfl, Try.call141, d3⟩ ?_
 refine step 4 _ _ _ _ ⟨_, _, _, rfl, Try.call143, d4⟩ ?_
 refine step 5 _ _ _ _ ⟨_, _, _, rfl, Try.call145, d5⟩ ?_
 refine step 6 _ _ _ _ ⟨_, _, _, rfl, Try.call146, d6⟩ ?_
 refine step 7 _ _ _ _ ⟨_, _, _, rfl, Try.call148, d7⟩ ?_
 refine step 8 _ _ _ _ ⟨_, _, _, rfl, Try.call149, d8⟩ ?_
 refine step 9 _ _ _ _ ⟨_, _, _, rfl, Try.call150, d9⟩ ?_
 refine step 10 _ _ _ _ ⟨_, _, _, rfl, Try.call152, d10⟩ ?_
 refine step 11 _ _ _ _ ⟨_, _, _, rfl, Try.call155, d11⟩ ?_
 exact ⟨fun _ => rfl, fun v hv => by cases hv⟩
end
theorem c_cook_kitchen {w0 : World} {c p : Addr} {sg sm : Sl} {G M : List Int} (hC : CookS w0 c p sg sm G M) : Calls Try.prog 114 #[.pointer (some c)] w0
  (fun e w' => ∃ r : Option Nat, e = .returned (.map r) ∧ ∃ m c1 c2, r = some m ∧ IMap id w' m (dishes c c1 c2) ∧ Box w' c1 [.pointer (some c)] 169 ∧ Box w' c2 [.pointer (some p)] 32 ∧ m ≠ c1.block ∧ m ≠ c2.block ∧ w0.heap.size ≤ m ∧ w0.heap.size ≤ c1.block ∧ w0.heap.size ≤ c2.block ∧ Pure w0 w') := by
 refine w_recipe_cook_kitchen _ w0 (fun r w' => ∃ m c1 c2, r = some m ∧ IMap id w' m (dishes c c1 c2) ∧ Box w' c1 [.pointer (some c)] 169 ∧ Box w' c2 [.pointer (some p)] 32 ∧ m ≠ c1.block ∧ m ≠ c2.block ∧ w0.heap.size ≤ m ∧ w0.heap.size ≤ c1.block ∧ w0.heap.size ≤ c2.block ∧ Pure w0 w') ?_
 unfold m_recipe_cook_kitchen
 intro p1 w1 n1
 have E1 : Pure w0 w1 := Ext.new n1
 have B1 := Box.of_new n1
 refine ⟨some c, B1.cell0, c, rfl, some p, (hC.pure E1).box.cell0, ?_⟩
 intro p2 w2 n2
 have E2 : Pure w1 w2 := Ext.new n2
 have B2 := Box.of_new n2
 refine ⟨B2.canW0 (by simp), ?_⟩
 intro w3 hw3
 have E3 : Ext (· = p2.block) w2 w3 := by rw [hw3]; exact Ext.setCell p2 _
 have B2' : Box w3 p2 [.pointer (some p)] 32 := by rw [hw3]; exact B2.set0
 clear hw3
 have z1 := n1.at_size
 have z2 := n2.at_size
 have s1 := E1.size
 have s2 := E2.size
 have s3 := E3.size
 have l1 := B1.lt
 have l2 := B2.lt
 have B1' := (B1.pure E2).ext E3 (show ¬ p1.block = p2.block by omega)
 have E03 : Pure w0 w3 := (E1.trans E2).own (by omega) E3
 intro p3 w4 n4
 have E4 : Pure w3 w4 := Ext.new n4
 have z4 := n4.at_size
 have M0 : IMap id w4 p3.block [] := IMap.of_new n4
 have put : ∀ {w : World} {M : List (Int × Value)} (k : Int) (v : Value), IMap id w p3.block M → SE.look M k = none → ∃ w', (Instr.mapUpdate 172 (.map (some p3.block)) (.int .i64 k) v).run Try.prog w = .ok () w' ∧ IMap id w' p3.block (M ++ [(k, v)]) ∧ Ext (· = p3.block) w w' := fun k v h hn => h.put (P := Try.prog) (T := 172) (K := 3) Try.underlying172 Try.underlying3 hn v
 obtain ⟨w5, r5, M5, X5⟩ := put 0 (.func (.func 138) #[] #[.pointer (some p1)]) M0 rfl
 refine ⟨w5, r5, ?_⟩
 obtain ⟨w6, r6, M6, X6⟩ := put 1 (.func (.func 139) #[] #[.pointer (some p2)]) M5 rfl
 refine ⟨w6, r6, ?_⟩
 obtain ⟨w7, r7, M7, X7⟩ := put 2 (.func (.func 140) #[] #[.pointer (some p2)]) M6 rfl
 refine ⟨w7, r7, ?_⟩
 obtain ⟨w8, r8, M8, X8⟩ := put 3 (.func (.func 141) #[] #[.pointer (some p2)]) M7 rfl
 refine ⟨w8, r8, ?_⟩
 obtain ⟨w9, r9, M9, X9⟩ := put 4 (.func (.func 143) #[] #[.pointer (some p1), .pointer (some p2)]) M8 rfl
 refine ⟨w9, r9, ?_⟩
 obtain ⟨w10, r10, M10, X10⟩ := put 5 (.func (.func 145) #[] #[.pointer (some p1), .pointer (some p2)]) M9 rfl
 refine ⟨w10, r10, ?_⟩
 obtain ⟨w11, r11, M11, X11⟩ := put 6 (.func (.func 146) #[] #[.pointer (some p1)]) M10 rfl
 refine ⟨w11, r11, ?_⟩
 obtain ⟨w12, r12, M12, X12⟩ := put 7 (.func (.func 148) #[] #[.pointer (some p1)]) M11 rfl
 have X4 : Ext (· = p3.block) w4 w12 := ((((((X5.trans X6).trans X7).trans X8).trans X9).trans X10).trans X11).trans X12
 have B12 := (B1'.pure E4).ext X4 (show ¬ p1.block = p3.block by omega)
 refine ⟨w12, r12, some c, B12.cell0, ?_⟩
 obtain ⟨w13, r13, M13, X13⟩ := put 8 (.func (.func 149) #[.pointer (some c)] #[]) M12 rfl
 refine ⟨w13, r13, ?_⟩
 obtain ⟨w14, r14, M14, X14⟩ := put 9 (.func (.func 150) #[] #[.pointer (some p1), .pointer (some p2)]) M13 rfl
 refine ⟨w14, r14, ?_⟩
 obtain ⟨w15, r15, M15, X15⟩ := put 10 (.func (.func 152) #[] #[.pointer (some p1), .pointer (some p2)]) M14 rfl
 refine ⟨w15, r15, ?_⟩
 obtain ⟨w16, r16, M16, X16⟩ := put 11 (.func (.func 155) #[] #[.pointer (some p1), .pointer (some p2)]) M15 rfl
 have X := ((X4.trans X13).trans X14).trans (X15.trans X16)
 refine ⟨w16, r16, p3.block, p1, p2, rfl, M16, (B1'.pure E4).ext X (show ¬ p1.block = p3.block by omega), (B2'.pure E4).ext X (show ¬ p2.block = p3.block by omega), by omega, by omega, by omega, by omega, by omega, (E03.trans E4).own (by omega) X⟩
end Go.Proofs
end
section
open Go Go.SE
namespace Go.Proofs
attribute [local irreducible] Calls
structure RunS (w0 : World) (H : Nat → Prop) (w : World) (c p c1 c2 : Addr) (m : Nat) (sg sm : Sl) (G M : List Int) (L : Sp.Pool) (F F1 : Nat → Prop) : Prop where
 ck : CookS w c p sg sm G M
 mp : IMap id w m (dishes c c1 c2)
 b1 : Box w c1 [.pointer (some c)] 169
 b2 : Box w c2 [.pointer (some p)] 32
 pool : PoolAt w p L F1
 fr : Ext F w0 w
 hs : Hst w0 H w H w
 oP : ∀ b, F1 b → (F b ∨ w0.heap.size ≤ b) ∧ ¬ H b
 oc : w0.heap.size ≤ c.block ∧ ¬ H c.block ∧ ¬ F1 c.block
 o1 : w0.heap.size ≤ c1.block ∧ ¬ H c1.block ∧ ¬ F1 c1.block ∧ c1.block ≠ c.block
 o2 : w0.heap.size ≤ c2.block ∧ ¬ H c2.block ∧ ¬ F1 c2.block ∧ c2.block ≠ c.block
 om : w0.heap.size ≤ m ∧ ¬ H m ∧ ¬ F1 m ∧ m ≠ c.block
 og : ∀ b, sg.blk b → w0.heap.size ≤ b ∧ ¬ H b ∧ ¬ F1 b ∧ b ≠ c.block
 os : ∀ b, sm.blk b → w0.heap.size ≤ b ∧ ¬ H b ∧ ¬ F1 b ∧ b ≠ c.block ∧ b ≠ c1.block ∧ b ≠ c2.block ∧ b ≠ m ∧ ¬ sg.blk b
section
variable {w0 w w' : World} {H H' : Nat → Prop} {c p c1 c2 : Addr} {m : Nat} {sg sm : Sl} {G M : List Int} {L L' : Sp.Pool} {F F1 F2 : Nat → Prop}
theorem RunS.hst (h : RunS w0 H w c p c1 c2 m sg sm G M L F F1) (hs : Hst w0 H w H' w') : RunS w0 H' w' c p c1 c2 m sg sm G M L F F1 := by
 have xc := hs.disj (G := fun b => CookF c sg sm b) (fun b hb => ⟨h.ck.lt hb, by rcases hb with rfl | hb | hb; exact h.oc.2.1; exact (h.og b hb).2.1; exact (h.os b hb).2.1⟩)
 have xP := hs.disj (G := F1) (fun b hb => ⟨h.pool.lt hb, (h.oP b hb).2⟩)
 have x1 := hs.disj (G := (· = c1.block)) (fun b hb => by subst hb; exact ⟨h.b1.lt, h.o1.2.1⟩) _ rfl
 have x2 := hs.disj (G := (· = c2.block)) (fun b hb => by subst hb; exact ⟨h.b2.lt, h.o2.2.1⟩) _ rfl
 have xm := hs.disj (G := (· = m)) (fun b hb => by subst hb; exact ⟨h.mp.lt, h.om.2.1⟩) _ rfl
 exact ⟨h.ck.ext hs.ext xc, h.mp.ext hs.ext xm, h.b1.ext hs.ext x1, h.b2.ext hs.ext x2, h.pool.ext hs.ext xP, h.fr.hst hs, hs.here, fun b hb => ⟨(h.oP b hb).1, xP b hb⟩, ⟨h.oc.1, xc _ (.inl rfl), h.oc.2.2⟩, ⟨h.o1.1, x1, h.o1.2.2⟩, ⟨h.o2.1, x2, h.o2.2.2⟩, ⟨h.om.1, xm, h.om.2.2⟩,
  fun b hb => ⟨(h.og b hb).1, xc b (.inr (.inl hb)), (h.og b hb).2.2⟩, fun b hb => ⟨(h.os b hb).1, xc b (.inr (.inr hb)), (h.os b hb).2.2⟩⟩
theorem RunS.make (h : RunS w0 H w c p c1 c2 m sg sm G M L F F1) (hP : PoolAt w' p L' F2) (E : Ext F1 w w') (hF : ∀ b, F2 b → F1 b ∨ w.heap.size ≤ b) : Kept H w w' ∧ RunS w0 H w' c p c1 c2 m sg sm G M L' F F2 := by
 have hk : Kept H w w' := E.kept (fun b hb hf => (h.oP b hf).2 hb)
 have z : w0.heap.size ≤ w.heap.size := h.fr.size
 have nf : ∀ b, b < w.heap.size → ¬ F1 b → ¬ F2 b := fun b hb h1 h2 => (hF b h2).elim h1 (fun h3 => by omega)
 refine ⟨hk, h.ck.ext E (fun b hb => by rcases hb with rfl | hb | hb; exact h.oc.2.2; exact (h.og b hb).2.2.1; exact (h.os b hb).2.2.1), h.mp.ext E h.om.2.2.1, h.b1.ext E h.o1.2.2.1, h.b2.ext E h.o2.2.2.1, hP, ?_, h.hs.again hk, fun b hb => ?_, ⟨h.oc.1, h.oc.2.1, nf _ h.ck.box.lt h.oc.2.2⟩, ⟨h.o1.1, h.o1.2.1, nf _ h.b1.lt h.o1.2.2.1, h.o1.2.2.2⟩, ⟨h.o2.1, h.o2.2.1, nf _ h.b2.lt h.o2.2.2.1, h.o2.2.2.2⟩, ⟨h.om.1, h.om.2.1, nf _ h.mp.lt h.om.2.2.1, h.om.2.2.2⟩,
  fun b hb => ⟨(h.og b hb).1, (h.og b hb).2.1, nf _ (h.ck.giv.lt hb) (h.og b hb).2.2.1, (h.og b hb).2.2.2⟩, fun b hb => ⟨(h.os b hb).1, (h.os b hb).2.1, nf _ (h.ck.made.lt hb) (h.os b hb).2.2.1, (h.os b hb).2.2.2⟩⟩
 ·exact h.fr.trans' E (fun i hi hb => (h.oP i hb).1.elim id (fun h => by omega))
 ·rcases hF b hb with h1 | h1
  ·exact h.oP b h1
  ·exact ⟨.inr (by omega), fun hh => by have := h.hs.lt b hh; omega⟩
theorem RunS.app (h : RunS w0 H w c p c1 c2 m sg sm G M L F F1) {t : Int} {q : Addr} {w1 : World} (hq : New w (.cells #[.int .i64 t] 38) q w1) (hn : M.length ≤ 1000000) : ∃ s1 w2, (Builtin.append_ #[30, 30] 30 #[sm.v, (Sl.mk (some q) 1 1).v]).run Try.prog w1 = .ok s1.v w2 ∧ Kept H w1 w2 ∧ CanW w2 (c.add 2) ∧
  RunS w0 H (w2.setCell (c.add 2) s1.v) c p c1 c2 m sg s1 G (M ++ [t]) L F F1 := by
 have E1 : Pure w w1 := Ext.new hq
 obtain ⟨s1, w2, hr, hR, hE, hb⟩ := (h.ck.made.pure E1).append (P := Try.prog) (ty := 30) (c := 1) slT_tm (r := [.int .i64 t]) (Box.of_new hq).row rfl rfl (by rw [tmr_len]; omega) (by rw [tmr_len]; simp [maxLen]; omega)
 have hk : Kept H w1 w2 := hE.kept (fun b hb hs => (h.os b hs).2.1 hb)
 have hbx := (h.ck.box.pure E1).ext hE (fun hs => (h.os _ hs).2.2.2.1 rfl)
 have z1 := E1.size
 have z2 := hE.size
 have z : w0.heap.size ≤ w.heap.size := h.fr.size
 have E3 := Ext.setCell (w := w2) (c.add 2) s1.v
 rw [add_block] at E3
 have hs1 : ∀ b, s1.blk b → w0.heap.size ≤ b ∧ ¬ H b ∧ ¬ F1 b ∧ b ≠ c.block ∧ b ≠ c1.block ∧ b ≠ c2.block ∧ b ≠ m ∧ ¬ sg.blk b := fun b hb' => by
  rcases hb b hb' with h1 | h1
  ·exact h.os b h1
  ·have a0 := h.ck.box.lt; have a1 := h.b1.lt; have a2 := h.b2.lt; have a3 := h.mp.lt
   exact ⟨by omega, fun hh => by have := h.hs.lt b hh; omega, fun hh => by have := h.pool.lt hh; omega, by omega, by omega, by omega, by omega, fun hh => by have := h.ck.giv.lt hh; omega⟩
 refine ⟨s1, w2, hr, hk, hbx.canW (by simp), ⟨hbx.set 2 s1.v, ((h.ck.giv.pure E1).ext hE (fun b hb hs => (h.os b hs).2.2.2.2.2.2.2 hb)).ext E3 (fun b hb e => (h.og b hb).2.2.2 e), ?_⟩, ((h.mp.pure E1).ext hE (fun hs => (h.os _ hs).2.2.2.2.2.2.1 rfl)).ext E3 h.om.2.2.2, ((h.b1.pure E1).ext hE (fun hs => (h.os _ hs).2.2.2.2.1 rfl)).ext E3 h.o1.2.2.2, ((h.b2.pure E1).ext hE (fun hs => (h.os _ hs).2.2.2.2.2.1 rfl)).ext E3 h.o2.2.2.2,
  ((h.pool.pure E1).ext hE (fun b hb hs => (h.os b hs).2.2.1 hb)).ext E3 (fun b hb e => h.oc.2.2 (e ▸ hb)), ?_, (h.hs.again (E1.keptP)).again hk |>.again (E3.kept (fun b hb e => h.oc.2.1 (e ▸ hb))), h.oP, h.oc, h.o1, h.o2, h.om, h.og, hs1⟩
 ·rw [show tmr (M ++ [t]) = tmr M ++ [[.int .i64 t]] by simp [tmr]]
  exact hR.ext E3 (fun b hb e => (hs1 b hb).2.2.2.1 e)
 ·exact ((h.fr.thenPure E1).trans' hE (fun i hi hs => by have := (h.os i hs).1; omega)).trans' E3 (fun i hi e => by have := h.oc.1; omega)
end
structure RanK (w0 : World) (p : Addr) (F : Nat → Prop) (R : List Int × Int × Sp.Pool) (s : Sl) (r2 : Int) (w' : World) : Prop where
 err : r2 = R.2.1
 pool : ∃ F', PoolAt w' p R.2.2 F' ∧ (∀ b, F' b → F b ∨ w0.heap.size ≤ b) ∧ ∀ b, s.blk b → ¬ F' b
 rows : Rws w' 38 1 s (tmr R.1)
 own : ∀ b, s.blk b → w0.heap.size ≤ b
 fr : Ext F w0 w'
theorem RunS.done {w0 w : World} {H : Nat → Prop} {c p c1 c2 : Addr} {m : Nat} {sg sm : Sl} {G M : List Int} {L : Sp.Pool} {F F1 : Nat → Prop} (h : RunS w0 H w c p c1 c2 m sg sm G M L F F1) {R : List Int × Int × Sp.Pool} {e : Int} (hR : R = (M, e, L)) : RanK w0 p F R sm e w := by
 subst hR
 exact ⟨rfl, ⟨F1, h.pool, fun b hb => (h.oP b hb).1, fun b hb => (h.os b hb).2.2.1⟩, h.ck.made, fun b hb => (h.os b hb).1, h.fr⟩
theorem c_recipe_run {Sl0 : Nat → Prop} (p k : Addr) (sl : Sl) (l : List Sp.Op) (w0 : World) {L : Sp.Pool} {G : List Int} {S : List Sp.Way} {F FK : Nat → Prop} (hW : Sp.Wf L) (hP : PoolAt w0 p L F) (hK : KnowAt w0 k p G S FK) (hl : Lst Sl0 w0 5 sl (l.map oprow)) (hS0 : ∀ b, Sl0 b → b < w0.heap.size ∧ ¬ F b) (hG : G.length ≤ 1000000) (hn : l.length ≤ 1000) :
  Calls Try.prog 66 #[.pointer (some p), .pointer (some k), sl.v] w0 (fun e w' => ∃ s : Sl, ∃ r2 : Int, e = .returned (.tuple #[s.v, .int .i64 r2]) ∧ RanK w0 p F (Sp.runOps L G [] l) s r2 w') := by
 refine w_recipe_run _ _ _ w0 (fun s r2 w' => RanK w0 p F (Sp.runOps L G [] l) s r2 w') ?_
 unfold m_recipe_run
 refine (c_ded_Given k p w0 hK hG).mono ?_
 rintro _ w1 ⟨sg, rfl, hg⟩
 refine ⟨sg, rfl, hg.kept, ?_⟩
 intro c w2 n2
 have E2 : Pure w1 w2 := Ext.new n2
 have B2 := Box.of_new n2
 have hnil : ∀ b, ¬ Sl.nil.blk b := fun b hb => by obtain ⟨a, h, _⟩ := hb; cases h
 have C2 : CookS w2 c p sg Sl.nil G [] := ⟨B2, hg.rows.pure E2, Rws.nil _ _ _⟩
 refine (c_cook_kitchen C2).mono ?_
 rintro _ w3 ⟨_, rfl, m, c1, c2, rfl, hM, hb1, hb2, hm1, hm2, z1, z2, z3, E3⟩
 refine ⟨_, rfl, E3.keptP, ?_⟩
 have E03 : Pure w0 w3 := (hg.pure.trans E2).trans E3
 have q0 := hg.pure.size
 have q1 := n2.at_size
 have q2 := E2.size
 have q3 := E3.size
 have q4 := B2.lt
 have R3 : RunS w0 None w3 c p c1 c2 m sg Sl.nil G [] L F F := by
  refine ⟨C2.pure E3, hM, hb1, hb2, hP.pure E03, E03.pure, (Hst.start w0).again E03.keptP, fun b hb => ⟨.inl hb, fun h => h⟩, ⟨by omega, fun h => h, fun h => by have := hP.lt h; omega⟩, ⟨by omega, fun h => h, fun h => by have := hP.lt h; omega, by omega⟩, ⟨by omega, fun h => h, fun h => by have := hP.lt h; omega, by omega⟩, ⟨by omega, fun h => h, fun h => by have := hP.lt h; omega, by omega⟩, fun b hb => ⟨hg.own b hb, fun h => h, fun h => by have := hP.lt h; have := hg.own b hb; omega, ?_⟩, fun b hb => (hnil b hb).elim⟩
  have := hg.rows.lt hb; omega
 refine ⟨fun x H w => ∃ (j : Nat) (M : List Int) (L1 : Sp.Pool) (sm : Sl) (F1 : Nat → Prop), x = j ∧ j ≤ l.length ∧ M.length = j ∧ Sp.Wf L1 ∧ Sp.runOps L G [] l = Sp.runOps L1 G M (l.drop j) ∧ RunS w0 H w c p c1 c2 m sg sm G M L1 F F1, fun x _ => ((l.length : Int) - x).toNat, ⟨0, [], L, Sl.nil, F, rfl, Nat.zero_le _, rfl, hW, rfl, R3⟩, ?_⟩
 rintro _ H w _ ⟨j, M, L1, sm, F1, rfl, hj, hMj, hW1, hrun, R⟩
 unfold m_recipe_run_l1
 have hll : sl.len = l.length := by rw [hl.len]; simp
 refine ⟨fun h => ?_, fun h => ?_⟩
 ·have hlt := lt_of_dec hll h
  obtain ⟨a, hat, hSa, hrow⟩ := hl.nth hlt
  have hrow' : Row w a (oprow l[j]) := R.fr.row hrow (hS0 _ hSa).2
  refine ⟨a, hat, l[j].code, l[j].a, l[j].b, l[j].num, l[j].text, hrow', ?_⟩
  intro H1 w5 hs5
  have R5 := R.hst hs5
  rw [Sp.runOps_step hlt] at hrun
  have hok1 := hW1.ok
  have dish := c_dish R5.ck R5.b1.cell0 R5.b2.cell0 R5.pool hok1 R5.o2.2.2.1 l[j]
  generalize l[j] = o at *
  rcases R5.mp.get (P := Try.prog) (T := 172) Try.underlying172 Try.underlying3 (Try.zeroValue175 _) o.code true with ⟨g1, g2⟩ | ⟨v, g1, g2⟩
  ·refine ⟨_, _, g2, Br.t rfl ⟨sm, R5.ck.box.cell rfl, ?_⟩⟩
   rw [dish.1 g1] at hrun
   exact R5.done hrun
  ·obtain ⟨f1, fs, cs, rfl, hf, hc⟩ := dish.2 v g1
   refine ⟨_, _, g2, Br.f rfl ⟨f1, fs, cs, rfl, hf, ?_⟩⟩
   refine hc.mono ?_
   rintro _ w6 ⟨r3, r4, rfl, hr, F2, hP2, X2, hF2⟩
   obtain ⟨k6, R6⟩ := R5.make hP2 X2 hF2
   have hW2 := Sp.doOp_wf hW1 G M o
   generalize Sp.doOp L1 G M o = D at *
   obtain ⟨d1, d2, L2⟩ := D
   simp only [Prod.mk.injEq] at hr
   obtain ⟨rfl, rfl⟩ := hr
   simp only at hrun R6 hW2
   refine ⟨_, _, rfl, k6, fun h => ?_, fun h => ?_⟩
   ·rw [if_pos (by simpa using h)] at hrun
    exact ⟨sm, R6.ck.box.cell rfl, R6.done hrun⟩
   ·rw [if_neg (by simpa using h)] at hrun
    refine ⟨sm, R6.ck.box.cell rfl, ?_⟩
    intro q w7 n7
    obtain ⟨s1, w8, hr8, k8, cw, R9⟩ := R6.app n7 (by omega)
    refine ⟨s1, w8, hr8, k8, cw, by rw [add_block]; exact R6.oc.2.1, ?_⟩
    rintro _ rfl
    rw [wrap_succ hlt (by omega)]
    exact ⟨⟨j + 1, M ++ [_], L2, s1, F2, rfl, hlt, by simp [hMj], hW2, hrun, R9⟩, lt_dec hlt⟩
 ·have hge := eq_of_dec hll hj h
  subst hge
  refine ⟨sm, R.ck.box.cell rfl, R.done ?_⟩
  rw [hrun, List.drop_length]; rfl
theorem refuses_eq {p k : Addr} {sl : Sl} {n : Nat} (h : sl.len = n) : s_recipe_refuses (some p) (some k) sl = (if n > 256 then 6 else if n = 0 then 3 else 0) := by
 unfold s_recipe_refuses
 rw [h]
 simp only [Option.isNone_some, Bool.or_self, cond_false]
 by_cases h1 : n > 256
 ·rw [if_pos h1, decide_eq_true (by omega)]; rfl
 ·rw [if_neg h1, decide_eq_false (by omega)]
  by_cases h2 : n = 0
  ·subst h2; rfl
  ·rw [if_neg h2, show (((n : Int) == 0) = false) from by simpa using h2]; rfl
abbrev EvalK (w0 : World) (p : Addr) (F : Nat → Prop) (R : Int × Int × Int × Sp.Pool) (r1 r2 r3 : Int) (w' : World) : Prop := (r1, r2, r3) = (R.1, R.2.1, R.2.2.1) ∧ ∃ F', PoolAt w' p R.2.2.2 F' ∧ Ext F w0 w' ∧ ∀ b, F' b → F b ∨ w0.heap.size ≤ b
section
variable {Sl0 : Nat → Prop} (p k : Addr) (sl : Sl) (l : List Sp.Op) (w0 : World) {L : Sp.Pool} {G : List Int} {S : List Sp.Way} {F FK : Nat → Prop} (hW : Sp.Wf L) (hP : PoolAt w0 p L F) (hK : KnowAt w0 k p G S FK) (hl : Lst Sl0 w0 5 sl (l.map oprow)) (hS0 : ∀ b, Sl0 b → b < w0.heap.size ∧ ¬ F b) (hG : G.length ≤ 1000000) (hn : l.length ≤ 1000)
include hW hP hK hl hS0 hG hn
theorem c_recipe_Eval : Calls Try.prog 18 #[.pointer (some p), .pointer (some k), sl.v] w0 (fun e w' => ∃ r1 : Int, ∃ r2 : Int, ∃ r3 : Int, e = .returned (.tuple #[.int .i64 r1, .int .i64 r2, .int .i64 r3]) ∧ EvalK w0 p F (Sp.evalOps L G l) r1 r2 r3 w') := by
 refine w_recipe_Eval _ _ _ w0 (EvalK w0 p F (Sp.evalOps L G l)) ?_
 unfold m_recipe_Eval
 have hll : sl.len = l.length := by rw [hl.len]; simp
 rw [refuses_eq hll]
 unfold Sp.evalOps
 by_cases h1 : l.length > 256
 ·rw [if_pos h1, if_pos h1]
  exact Br.t rfl (fun w1 hs1 => ⟨rfl, F, hP.pure hs1.first, hs1.first.pure, fun b hb => .inl hb⟩)
 rw [if_neg h1, if_neg h1]
 by_cases h2 : l.length = 0
 ·rw [if_pos h2, if_pos h2]
  exact Br.t rfl (fun w1 hs1 => ⟨rfl, F, hP.pure hs1.first, hs1.first.pure, fun b hb => .inl hb⟩)
 rw [if_neg h2, if_neg h2]
 refine Br.f rfl (fun w1 hs1 => ?_)
 have E1 := hs1.first
 refine (c_recipe_run p k sl l w1 hW (hP.pure E1) (hK.pure E1) (hl.pure E1) (fun b hb => ⟨by have := (hS0 b hb).1; have := E1.size; omega, (hS0 b hb).2⟩) hG hn).mono ?_
 rintro _ w2 ⟨s, r2, rfl, hR⟩
 obtain ⟨he, ⟨F', hP', hF', hdj⟩, hrows, hown, X⟩ := hR
 refine ⟨s, r2, rfl, X.kept (fun b hb => hb.elim), ?_⟩
 have hlen := Sp.runOps_len G l L []
 have fin : ∃ F', PoolAt w2 p (Sp.runOps L G [] l).2.2 F' ∧ Ext F w0 w2 ∧ ∀ b, F' b → F b ∨ w0.heap.size ≤ b := ⟨F', hP', E1.pure.trans X, fun b hb => (hF' b hb).imp_right (fun h => by have := E1.size; omega)⟩
 generalize Sp.runOps L G [] l = R at *
 obtain ⟨M, e, L2⟩ := R
 simp only at he hrows hlen fin hP'
 subst he
 simp only [List.length_nil, Nat.zero_add] at hlen
 have hsl : s.len = M.length := by rw [hrows.len, tmr_len]
 refine ⟨fun h => ?_, fun h => ?_⟩
 ·rw [if_pos (by simpa using h)]
  exact ⟨by rw [hsl], fin⟩
 ·have h0 : r2 = 0 := by simpa using h
  rw [if_neg (by simpa using h0)]
  have hM := hlen.2 h0
  have hne : M ≠ [] := fun e => by rw [e] at hM; simp at hM; omega
  rw [show IntKind.i64.wrap ((s.len : Int) - 1) = (((l.length - 1 : Nat)) : Int) by rw [hsl, hM, IntWalk.i64_in _ (by omega)]; omega]
  have hat : Sp.atM M ((l.length - 1 : Nat) : Int) = some (M.getLast hne) := by
   rw [Sp.atM_in (by omega) (by omega)]
   simp [List.getLast_eq_getElem, hM]
  obtain ⟨a, ha, hc⟩ := tms_nth hrows hat
  refine ⟨a, ha, _, hc, ?_, fin⟩
  rw [List.getLast?_eq_some_getLast hne]; rfl
end
end Go.Proofs
end
section
open Go Go.SE
namespace Go.Sp
def Dep (L : Pool) (S : List Way) (t y : Int) : Prop :=
 (∃ v ∈ S, v.t = t ∧ v.rule ≠ 0 ∧ y = v.frm) ∨ (t ∉ wkeys S ∧ 0 < y ∧ (y = (madeS L S t).1 ∨ y = (madeS L S t).2.1))
inductive Dp (L : Pool) (S : List Way) : Int → Int → Prop
 | refl (t : Int) : Dp L S t t
 | step {t y z : Int} : Dep L S t y → Dp L S y z → Dp L S t z
theorem Dep.made {L : Pool} {S : List Way} {t y a b : Int} {f m : Bool} (h : madeS L S t = (a, b, f, m)) (ht : t ∉ wkeys S) : Dep L S t y ↔ 0 < y ∧ (y = a ∨ y = b) := by
 unfold Dep
 rw [h]
 constructor
 ·rintro (⟨v, hv, rfl, _⟩ | ⟨_, h⟩)
  ·exact absurd (List.mem_map.2 ⟨v, hv, rfl⟩) ht
  ·exact h
 ·exact fun h => .inr ⟨ht, h⟩
theorem Dep.way {L : Pool} {S : List Way} {t y r f : Int} (hn : (wkeys S).Nodup) (hl : SE.look (S.map fun v => (v.t, (v.rule, v.frm))) t = some (r, f)) : Dep L S t y ↔ r ≠ 0 ∧ y = f := by
 have hm := look_mem hl
 obtain ⟨v, hv, e⟩ := List.mem_map.1 hm
 simp only [Prod.mk.injEq] at e
 obtain ⟨rfl, rfl, rfl⟩ := e
 have hk : v.t ∈ wkeys S := List.mem_map.2 ⟨v, hv, rfl⟩
 unfold Dep
 constructor
 ·rintro (⟨u, hu, e, hr, rfl⟩ | ⟨h, _⟩)
  ·have hnd : ((S.map fun v => (v.t, (v.rule, v.frm))).map Prod.fst).Nodup := by rw [List.map_map]; exact hn
   have h2 := look_of_mem hnd (List.mem_map.2 ⟨u, hu, rfl⟩)
   rw [e, hl] at h2
   simp only [Option.some.injEq, Prod.mk.injEq] at h2
   exact ⟨by rw [h2.1]; exact hr, h2.2.symm⟩
  ·exact absurd hk h
 ·rintro ⟨h1, rfl⟩
  exact .inl ⟨v, hv, rfl, h1, rfl⟩
theorem Dp.all {L : Pool} {S : List Way} {M : List Step} (hc : ∀ s ∈ M, ∀ y, Dep L S s.t y → y ∈ M.map Step.t) {t x : Int} (ht : t ∈ M.map Step.t) (h : Dp L S t x) : x ∈ M.map Step.t := by
 induction h with
 | refl => exact ht
 | step hd _ ih =>
  obtain ⟨s, hs, rfl⟩ := List.mem_map.1 ht
  exact ih (hc s hs _ hd)
theorem nodup_len {l m : List Int} (hl : l.Nodup) (hs : ∀ x ∈ l, x ∈ m) : l.length ≤ m.length := by
 induction l generalizing m with
 | nil => simp
 | cons a l ih =>
  rw [List.nodup_cons] at hl
  have ha := hs a (by simp)
  have := ih (m := m.erase a) hl.2 (fun x hx => (List.mem_erase_of_ne (fun e => hl.1 (by rw [← e]; exact hx))).2 (hs x (by simp [hx])))
  rw [List.length_erase_of_mem ha] at this
  have := List.length_pos_of_mem ha
  rw [List.length_cons]; omega
end Go.Sp
namespace Go.Proofs
attribute [local irreducible] Calls
def strow (s : Sp.Step) : List Value := [.int .i64 s.rule, .int .i64 s.a, .int .i64 s.b, .int .i64 s.t]
theorem slT_step : SlType Try.prog 73 136 4 32 := by
 refine ⟨Try.underlying73, ⟨Try.t136, _, by kernel_rfl, (by kernel_rfl : Try.t136.zero = some (.agg #[.int .i64 0, .int .i64 0, .int .i64 0, .int .i64 0])), by kernel_rfl, by kernel_rfl, rfl⟩, by omega⟩
def tru (_ : Unit) : Value := .bool true
def bmap (B : List Int) : List (Int × Unit) := B.map fun t => (t, ())
theorem bmap_keys (B : List Int) : (bmap B).map Prod.fst = B := by
 unfold bmap; rw [List.map_map]; exact List.map_id' B
theorem bmap_snoc (B : List Int) (t : Int) : bmap (B ++ [t]) = bmap B ++ [(t, ())] := by simp [bmap]
def PW (ma mb : Nat) (c5 : Addr) (sl : Sl) (b : Nat) : Prop := b = ma ∨ b = mb ∨ b = c5.block ∨ sl.blk b
def says (f : FuncId) (c1 c2 c3 c4 c5 : Addr) : Value := .func (.func f) #[] #[.pointer (some c1), .pointer (some c2), .pointer (some c3), .pointer (some c4), .pointer (some c5)]
structure PrfAt (w : World) (k : Addr) (c1 c2 c3 c4 c5 : Addr) (ma mb : Nat) (sl : Sl) (l : List Sp.Step) (B : List Int) : Prop where
 a1 : w.cell? c1 = some (.map (some ma))
 a2 : w.cell? c2 = some (.map (some mb))
 a3 : w.cell? c3 = some (.pointer (some k))
 a4 : w.cell? c4 = some (says 84 c1 c2 c3 c4 c5)
 a5 : Box w c5 [sl.v] 73
 am : IMap ikey w ma (Sp.amap l)
 bm : IMap tru w mb (bmap B)
 ls : Rws w 136 4 sl (l.map strow)
 d : ∀ b, PW ma mb c5 sl b → b ≠ c1.block ∧ b ≠ c2.block ∧ b ≠ c3.block ∧ b ≠ c4.block
 n1 : ma ≠ mb
 n2 : ma ≠ c5.block
 n3 : mb ≠ c5.block
 n4 : ¬ sl.blk ma
 n5 : ¬ sl.blk mb
 n6 : ¬ sl.blk c5.block
structure SaysAt (w : World) (k p : Addr) (c1 c2 c3 c4 c5 : Addr) (ma mb : Nat) (L : Sp.Pool) (G : List Int) (S : List Sp.Way) (F FP : Nat → Prop) (sl : Sl) (l : List Sp.Step) (B : List Int) : Prop where
 prf : PrfAt w k c1 c2 c3 c4 c5 ma mb sl l B
 know : KnowAt w k p G S F
 pool : PoolAt w p L FP
 dF : ∀ b, F b → ¬ PW ma mb c5 sl b
 dP : ∀ b, FP b → ¬ PW ma mb c5 sl b
section
variable {w w' : World} {k p c1 c2 c3 c4 c5 : Addr} {ma mb : Nat} {L : Sp.Pool} {G : List Int} {S : List Sp.Way} {F FP : Nat → Prop} {sl : Sl} {l : List Sp.Step} {B : List Int}
theorem PrfAt.ext {X : Nat → Prop} (h : PrfAt w k c1 c2 c3 c4 c5 ma mb sl l B) (hE : Ext X w w') (h1 : ∀ b, PW ma mb c5 sl b → ¬ X b) (x1 : ¬ X c1.block) (x2 : ¬ X c2.block) (x3 : ¬ X c3.block) (x4 : ¬ X c4.block) : PrfAt w' k c1 c2 c3 c4 c5 ma mb sl l B :=
 ⟨hE.cell h.a1 x1, hE.cell h.a2 x2, hE.cell h.a3 x3, hE.cell h.a4 x4, h.a5.ext hE (h1 _ (.inr (.inr (.inl rfl)))), h.am.ext hE (h1 _ (.inl rfl)), h.bm.ext hE (h1 _ (.inr (.inl rfl))), h.ls.ext hE (fun b hb => h1 b (.inr (.inr (.inr hb)))), h.d, h.n1, h.n2, h.n3, h.n4, h.n5, h.n6⟩
theorem PrfAt.lt (h : PrfAt w k c1 c2 c3 c4 c5 ma mb sl l B) {b : Nat} (hb : PW ma mb c5 sl b) : b < w.heap.size := by
 rcases hb with rfl | rfl | rfl | hb
 ·exact h.am.lt
 ·exact h.bm.lt
 ·exact h.a5.lt
 ·exact h.ls.lt hb
theorem SaysAt.ext {X : Nat → Prop} {n : Nat} (h : SaysAt w k p c1 c2 c3 c4 c5 ma mb L G S F FP sl l B) (hE : Ext X w w') (hn : ∀ b, X b → n ≤ b) (z1 : ∀ b, PW ma mb c5 sl b → b < n ∨ ¬ X b) (zc : c1.block < n ∧ c2.block < n ∧ c3.block < n ∧ c4.block < n) (zF : ∀ b, F b → b < n) (zP : ∀ b, FP b → b < n) : SaysAt w' k p c1 c2 c3 c4 c5 ma mb L G S F FP sl l B := by
 have hx : ∀ b, b < n → ¬ X b := fun b hb hX => by have := hn b hX; omega
 exact ⟨h.prf.ext hE (fun b hb => (z1 b hb).elim (hx b) id) (hx _ zc.1) (hx _ zc.2.1) (hx _ zc.2.2.1) (hx _ zc.2.2.2), h.know.ext hE (fun b hb => hx b (zF b hb)), h.pool.ext hE (fun b hb => hx b (zP b hb)), h.dF, h.dP⟩
theorem SaysAt.pure (h : SaysAt w k p c1 c2 c3 c4 c5 ma mb L G S F FP sl l B) (E : Pure w w') : SaysAt w' k p c1 c2 c3 c4 c5 ma mb L G S F FP sl l B :=
 ⟨h.prf.ext E (fun _ _ h => h) (fun h => h) (fun h => h) (fun h => h) (fun h => h), h.know.pure E, h.pool.pure E, h.dF, h.dP⟩
theorem SaysAt.zc (h : SaysAt w k p c1 c2 c3 c4 c5 ma mb L G S F FP sl l B) : c1.block < w.heap.size ∧ c2.block < w.heap.size ∧ c3.block < w.heap.size ∧ c4.block < w.heap.size :=
 ⟨World.block_lt_of_cell? w _ h.prf.a1, World.block_lt_of_cell? w _ h.prf.a2, World.block_lt_of_cell? w _ h.prf.a3, World.block_lt_of_cell? w _ h.prf.a4⟩
theorem PrfAt.bar (h : PrfAt w k c1 c2 c3 c4 c5 ma mb sl l B) (t : Int) : ∃ w', (Instr.mapUpdate 132 (.map (some mb)) (.int .i64 t) (.bool true)).run Try.prog w = .ok () w' ∧ (∃ B', (B' = B ∨ B' = B ++ [t]) ∧ PrfAt w' k c1 c2 c3 c4 c5 ma mb sl l B') ∧ Ext (· = mb) w w' := by
 have hd := h.d mb (.inr (.inl rfl))
 have back : ∀ {w' : World} {B' : List Int}, IMap tru w' mb (bmap B') → Ext (· = mb) w w' → PrfAt w' k c1 c2 c3 c4 c5 ma mb sl l B' := fun hI hE =>
  ⟨hE.cell h.a1 (fun e => hd.1 e.symm), hE.cell h.a2 (fun e => hd.2.1 e.symm), hE.cell h.a3 (fun e => hd.2.2.1 e.symm), hE.cell h.a4 (fun e => hd.2.2.2 e.symm), h.a5.ext hE (fun e => h.n3 e.symm), h.am.ext hE h.n1, hI, h.ls.ext hE (fun b hb e => h.n5 (e ▸ hb)), h.d, h.n1, h.n2, h.n3, h.n4, h.n5, h.n6⟩
 cases hl : SE.look (bmap B) t with
 | none =>
  obtain ⟨w', h1, h2, h3⟩ := h.bm.put (P := Try.prog) (T := 132) Try.underlying132 Try.underlying38 hl ()
  exact ⟨w', h1, ⟨_, .inr rfl, back (by rw [bmap_snoc]; exact h2) h3⟩, h3⟩
 | some v =>
  cases v
  obtain ⟨w', h1, h2, h3⟩ := h.bm.again (P := Try.prog) (T := 132) Try.underlying132 Try.underlying38 hl
  exact ⟨w', h1, ⟨_, .inl rfl, back h2 h3⟩, h3⟩
theorem PrfAt.barred (h : PrfAt w k c1 c2 c3 c4 c5 ma mb sl l B) (t : Int) : (Instr.lookup 132 (.map (some mb)) (.int .i64 t) false).run Try.prog w = .ok (.bool (decide (t ∈ B))) w := by
 rcases h.bm.get (P := Try.prog) (T := 132) Try.underlying132 Try.underlying38 (Try.zeroValue4 _) t false with ⟨h1, h2⟩ | ⟨v, h1, h2⟩
 ·have hn : t ∉ B := by have := look_none.1 h1; rwa [bmap_keys] at this
  rw [decide_eq_false hn]; exact h2
 ·have hy : t ∈ B := by have := look_mem h1; rw [← bmap_keys B]; exact List.mem_map.2 ⟨_, this, rfl⟩
  rw [decide_eq_true hy]; exact h2
end
structure SaysRet (w0 : World) (k p : Addr) (c1 c2 c3 c4 c5 : Addr) (ma mb : Nat) (L : Sp.Pool) (G : List Int) (S : List Sp.Way) (F FP : Nat → Prop) (sl : Sl) (l : List Sp.Step) (t r : Int) (ok : Bool) (w' : World) (sl' : Sl) (M : List Sp.Step) (B' : List Int) : Prop where
 st : SaysAt w' k p c1 c2 c3 c4 c5 ma mb L G S F FP sl' (l ++ M) B'
 prf : Sp.PrfOk L G (fun x => x ∈ Sp.wkeys S) (l ++ M) B'
 new : ∀ s ∈ M, Sp.rank S s.t ≤ Sp.rank S t ∧ (Sp.Sub L t s.t ∨ s.t ∈ Sp.wkeys S)
 idx : ok = true → ∃ i, r = ((i : Nat) : Int) ∧ ∃ hi : i < (l ++ M).length, (l ++ M)[i].t = t
 drv : ok = true ↔ Sp.Drv L (fun x => x ∈ Sp.wkeys S) t
 ext : Ext (PW ma mb c5 sl) w0 w'
 own : ∀ b, sl'.blk b → sl.blk b ∨ w0.heap.size ≤ b
 last : ok = true → M = [] ∨ Sp.tAt (l ++ M) (((l ++ M).length : Int) - 1) = t
 dp : ∀ s ∈ M, Sp.Dp L S t s.t
 cl : ∀ s ∈ M, ∀ y, Sp.Dep L S s.t y → y ∈ (l ++ M).map Sp.Step.t
structure SaysCur (w0 : World) (H : Nat → Prop) (w : World) (k p : Addr) (c1 c2 c3 c4 c5 : Addr) (ma mb : Nat) (L : Sp.Pool) (G : List Int) (S : List Sp.Way) (F FP : Nat → Prop) (sl : Sl) (l : List Sp.Step) (t : Int) (sl1 : Sl) (M B : _) : Prop where
 st : SaysAt w k p c1 c2 c3 c4 c5 ma mb L G S F FP sl1 (l ++ M) B
 prf : Sp.PrfOk L G (fun x => x ∈ Sp.wkeys S) (l ++ M) B
 new : ∀ s ∈ M, Sp.rank S s.t < Sp.rank S t ∧ (Sp.Sub L t s.t ∨ s.t ∈ Sp.wkeys S)
 ext : Ext (PW ma mb c5 sl) w0 w
 own : ∀ b, sl1.blk b → sl.blk b ∨ w0.heap.size ≤ b
 vis : ∀ b, sl1.blk b → ¬ H b
 hs : Hst w0 H w H w
 dp : ∀ s ∈ M, Sp.Dp L S t s.t
 cl : ∀ s ∈ M, ∀ y, Sp.Dep L S s.t y → y ∈ (l ++ M).map Sp.Step.t
section
variable {w0 w w' : World} {H H' : Nat → Prop} {k p c1 c2 c3 c4 c5 : Addr} {ma mb : Nat} {L : Sp.Pool} {G : List Int} {S : List Sp.Way} {F FP : Nat → Prop} {sl sl1 sl2 : Sl} {l M M2 : List Sp.Step} {B0 B B2 : List Int} {t : Int}
theorem PW.old (h : SaysAt w0 k p c1 c2 c3 c4 c5 ma mb L G S F FP sl l B0) (ho : ∀ b, sl1.blk b → sl.blk b ∨ w0.heap.size ≤ b) : ∀ b, PW ma mb c5 sl1 b → b < w0.heap.size → PW ma mb c5 sl b := by
 rintro b (hb | hb | hb | hb) hlt
 ·exact .inl hb
 ·exact .inr (.inl hb)
 ·exact .inr (.inr (.inl hb))
 ·exact (ho b hb).elim (fun h => .inr (.inr (.inr h))) (fun h => by omega)
theorem SaysCur.nh (h : SaysCur w0 H w k p c1 c2 c3 c4 c5 ma mb L G S F FP sl l t sl1 M B) (h0 : SaysAt w0 k p c1 c2 c3 c4 c5 ma mb L G S F FP sl l B0) : ∀ b, PW ma mb c5 sl1 b → ¬ H b := by
 have old : ∀ b, b < w0.heap.size → ¬ H b := fun b hb hh => by have := h.hs.old b hh; omega
 rintro b (rfl | rfl | rfl | hb)
 ·exact old _ (h0.prf.lt (.inl rfl))
 ·exact old _ (h0.prf.lt (.inr (.inl rfl)))
 ·exact old _ (h0.prf.lt (.inr (.inr (.inl rfl))))
 ·exact h.vis b hb
theorem SaysCur.hst (h : SaysCur w0 H w k p c1 c2 c3 c4 c5 ma mb L G S F FP sl l t sl1 M B) (h0 : SaysAt w0 k p c1 c2 c3 c4 c5 ma mb L G S F FP sl l B0) (hs : Hst w0 H w H' w') : SaysCur w0 H' w' k p c1 c2 c3 c4 c5 ma mb L G S F FP sl l t sl1 M B := by
 have dj := hs.disj (G := PW ma mb c5 sl1) (fun b hb => ⟨h.st.prf.lt hb, h.nh h0 b hb⟩)
 exact ⟨h.st.ext hs.ext hs.old (fun b hb => .inr (dj b hb)) h0.zc (fun b hb => h0.know.lt hb) (fun b hb => h0.pool.lt hb), h.prf, h.new, h.ext.hst hs, h.own, fun b hb => dj b (.inr (.inr (.inr hb))), hs.here, h.dp, h.cl⟩
theorem SaysCur.step {u r : Int} {ok : Bool} (h : SaysCur w0 H w k p c1 c2 c3 c4 c5 ma mb L G S F FP sl l t sl1 M B) (h0 : SaysAt w0 k p c1 c2 c3 c4 c5 ma mb L G S F FP sl l B0) (hr : SaysRet w k p c1 c2 c3 c4 c5 ma mb L G S F FP sl1 (l ++ M) u r ok w' sl2 M2 B2) (hu : Sp.rank S u < Sp.rank S t) (hsub : Sp.Sub L t u ∨ u ∈ Sp.wkeys S) (hcl : ∀ x, u ∈ Sp.wkeys S → Sp.rank S x ≤ Sp.rank S u → x ∈ Sp.wkeys S) (hdep : Sp.Dep L S t u) :
  Kept H w w' ∧ SaysCur w0 H w' k p c1 c2 c3 c4 c5 ma mb L G S F FP sl l t sl2 (M ++ M2) B2 := by
 have hk : Kept H w w' := hr.ext.kept (fun b hb hx => h.nh h0 b hx hb)
 refine ⟨hk, by rw [← List.append_assoc]; exact hr.st, by rw [← List.append_assoc]; exact hr.prf, fun s hs => ?_, h.ext.trans' hr.ext (fun i hi hb => PW.old h0 h.own i hb hi), fun b hb => ?_, fun b hb hh => ?_, h.hs.again hk, fun s hs => ?_, fun s hs y hy => ?_⟩
 ·rcases List.mem_append.1 hs with hs | hs
  ·exact h.new s hs
  ·obtain ⟨q1, q2⟩ := hr.new s hs
   refine ⟨by omega, ?_⟩
   rcases q2 with q2 | q2
   ·rcases hsub with h1 | h1
    ·exact .inl (h1.trans q2)
    ·exact .inr (hcl _ h1 q1)
   ·exact .inr q2
 ·rcases hr.own b hb with h1 | h1
  ·exact h.own b h1
  ·right; have := h.ext.size; omega
 ·rcases hr.own b hb with h1 | h1
  ·exact h.vis b h1 hh
  ·have := h.hs.lt b hh; omega
 ·rcases List.mem_append.1 hs with hs | hs
  ·exact h.dp s hs
  ·exact .step hdep (hr.dp s hs)
 ·rw [← List.append_assoc]
  rcases List.mem_append.1 hs with hs | hs
  ·rw [List.map_append]; exact List.mem_append_left _ (h.cl s hs y hy)
  ·exact hr.cl s hs y hy
end
theorem rank_seen_le {S : List Sp.Way} {u x : Int} (hu : u ∈ Sp.wkeys S) (h : Sp.rank S x ≤ Sp.rank S u) : x ∈ Sp.wkeys S := by
 refine Classical.byContradiction fun hx => ?_
 have := Sp.rank_seen hu
 rw [Sp.rank_un hx] at h
 omega
end Go.Proofs
end
section
open Go Go.SE
namespace Go.Proofs
attribute [local irreducible] Calls
theorem c_says (k p c1 c2 c3 c4 c5 : Addr) (ma mb : Nat) {L : Sp.Pool} {G : List Int} {S : List Sp.Way} {F FP : Nat → Prop} (hW : Sp.Wf L) (hk : Sp.KnowOk L G S) : ∀ (n : Nat) (t : Int) (w0 : World) (sl : Sl) (l : List Sp.Step) (B : List Int), Sp.rank S t < n →
  SaysAt w0 k p c1 c2 c3 c4 c5 ma mb L G S F FP sl l B → Sp.PrfOk L G (fun x => x ∈ Sp.wkeys S) l B →
  Calls Try.prog 84 #[.int .i64 t, .pointer (some c1), .pointer (some c2), .pointer (some c3), .pointer (some c4), .pointer (some c5)] w0 (fun e w' => ∃ r : Int, ∃ ok : Bool, e = .returned (.tuple #[.int .i64 r, .bool ok]) ∧ ∃ sl' M B', SaysRet w0 k p c1 c2 c3 c4 c5 ma mb L G S F FP sl l t r ok w' sl' M B') := by
 intro n
 induction n with
 | zero => intro t w0 sl l B h; omega
 | succ n ih =>
 intro t w0 sl l B hrk h0 hp0
 suffices key : ∀ K : Int → Bool → World → Prop, (∀ r ok w' sl' M B', SaysRet w0 k p c1 c2 c3 c4 c5 ma mb L G S F FP sl l t r ok w' sl' M B' → K r ok w') → m_deduce_Know_Proof_1 t c1 c2 c3 c4 c5 w0 K from
  w_deduce_Know_Proof_1 _ _ _ _ _ _ w0 _ (key _ (fun r ok w' sl' M B' h => ⟨sl', M, B', h⟩))
 intro K hK
 have hKs : ∀ r u t, u ∈ Sp.wkeys S → Sp.Arises L r u t → t ∈ Sp.wkeys S := fun r u t hu ha => hk.closed u hu r t ha
 unfold m_deduce_Know_Proof_1
 rcases h0.prf.am.get (P := Try.prog) (T := 131) Try.underlying131 Try.underlying38 (Try.zeroValue3 _) t true with ⟨hl, hrun⟩ | ⟨v, hl, hrun⟩
 case inr =>
  obtain ⟨i, hi, rfl, hit⟩ := Sp.amap_look hl
  refine ⟨_, h0.prf.a1, _, true, hrun, Br.t rfl (hK _ _ w0 sl [] B ⟨by simpa using h0, by simpa using hp0, by simp, fun _ => ⟨i, rfl, by simpa using hi, by simpa using hit⟩, ⟨fun _ => hit ▸ hp0.drv _ (List.getElem_mem hi), fun _ => rfl⟩, Ext.refl _, fun b hb => .inl hb, fun _ => .inl rfl, by simp, by simp⟩)⟩
 case inl =>
 have htl : t ∉ l.map Sp.Step.t := Sp.amap_none.1 hl
 refine ⟨_, h0.prf.a1, _, false, hrun, Br.f rfl ?_⟩
 intro H1 w2 hs2
 have old : ∀ {H : Nat → Prop} {w : World}, Hst w0 H w H w → ∀ b, b < w0.heap.size → ¬ H b := fun hs b hb hh => by have := hs.old b hh; omega
 have C0 : SaysCur w0 None w0 k p c1 c2 c3 c4 c5 ma mb L G S F FP sl l t sl [] B := ⟨by simpa using h0, by simpa using hp0, by simp, Ext.refl _, fun b hb => .inl hb, fun b _ h => h, Hst.start w0, by simp, by simp⟩
 have C2 := C0.hst h0 hs2
 have c5h : ∀ {H : Nat → Prop} {w : World} {sl1 : Sl} {M B1 : _}, SaysCur w0 H w k p c1 c2 c3 c4 c5 ma mb L G S F FP sl l t sl1 M B1 → ¬ H c5.block := fun C => C.nh h0 _ (.inr (.inr (.inl rfl)))
 have J1f : ∀ (r a b : Int) (H : Nat → Prop) (w : World) (sl1 : Sl) (M : List Sp.Step) (B1 : List Int), SaysCur w0 H w k p c1 c2 c3 c4 c5 ma mb L G S F FP sl l t sl1 M B1 → ¬ Sp.Drv L (fun x => x ∈ Sp.wkeys S) t → m_deduce_Know_Proof_1_j1 t c1 c2 c5 false r a b t H w K := by
  intro r a b H w sl1 M B1 C hnd
  unfold m_deduce_Know_Proof_1_j1
  refine Br.t rfl ?_
  obtain ⟨w5, hr5, ⟨B', hB', P5⟩, E5⟩ := C.st.prf.bar t
  have hmb := C.nh h0 mb (.inr (.inl rfl))
  have hpb : Sp.PrfOk L G (fun x => x ∈ Sp.wkeys S) (l ++ M) B' := by
   rcases hB' with rfl | rfl
   ·exact C.prf
   ·exact C.prf.bars hnd
  refine ⟨_, C.st.prf.a2, w5, hr5, E5.kept (fun b hb e => hmb (e ▸ hb)), hK 0 false w5 sl1 M B' ⟨⟨P5, C.st.know.ext E5 (fun b hb e => C.st.dF b hb (.inr (.inl e))), C.st.pool.ext E5 (fun b hb e => C.st.dP b hb (.inr (.inl e))), C.st.dF, C.st.dP⟩, hpb, fun s hs => ⟨Nat.le_of_lt (C.new s hs).1, (C.new s hs).2⟩, (fun h => by cases h), ⟨(fun h => by cases h), fun h => absurd h hnd⟩, C.ext.trans' E5 (fun i hi e => .inr (.inl e)), C.own, (fun h => by cases h), C.dp, C.cl⟩⟩
 have J1t : ∀ (r a b : Int) (H : Nat → Prop) (w : World) (sl1 : Sl) (M : List Sp.Step) (B1 : List Int), SaysCur w0 H w k p c1 c2 c3 c4 c5 ma mb L G S F FP sl l t sl1 M B1 → Sp.fol L G (l ++ M) ⟨r, a, b, t⟩ = true → Sp.Drv L (fun x => x ∈ Sp.wkeys S) t → (∀ y, Sp.Dep L S t y → y ∈ (l ++ M).map Sp.Step.t) → m_deduce_Know_Proof_1_j1 t c1 c2 c5 true r a b t H w K := by
  intro r a b H w sl1 M B1 C hfol hdt hdp
  unfold m_deduce_Know_Proof_1_j1
  refine Br.f rfl ?_
  have hsl : sl1.len = (l ++ M).length := by rw [C.st.prf.ls.len]; simp
  have hfew := C.prf.few
  have hL6 := hW.ok.few
  have htn : t ∉ (l ++ M).map Sp.Step.t := by
   rw [List.map_append, List.mem_append]
   rintro (h | h)
   ·exact htl h
   ·obtain ⟨s, hs, e⟩ := List.mem_map.1 h
    have := (C.new s hs).1
    rw [e] at this; omega
  have hlk := Sp.amap_none.2 htn
  obtain ⟨w5, hr5, I5, E5⟩ := C.st.prf.am.put (P := Try.prog) (T := 131) Try.underlying131 Try.underlying38 hlk ((l ++ M).length : Int)
  have hma := C.nh h0 ma (.inl rfl)
  have da := C.st.prf.d ma (.inl rfl)
  have b5 : Box w5 c5 [sl1.v] 73 := C.st.prf.a5.ext E5 (fun e => C.st.prf.n2 e.symm)
  refine ⟨_, C.st.prf.a1, sl1, C.st.prf.a5.cell0, w5, by rw [hsl]; exact hr5, E5.kept (fun b hb e => hma (e ▸ hb)), sl1, b5.cell0, ?_⟩
  intro p3 w7 h7
  have E7 : Pure w5 w7 := Ext.new h7
  have ls7 := (C.st.prf.ls.ext E5 (fun b hb e => C.st.prf.n4 (e ▸ hb))).pure E7
  obtain ⟨s1, w8, hr8, R8, X8, f8⟩ := ls7.append (P := Try.prog) (ty := 73) (c := 1) slT_step (r := strow ⟨r, a, b, t⟩) (Box.of_new h7).row rfl rfl (by simp at hfew ⊢; omega) (by simp [maxLen] at hfew ⊢; omega)
  have b8 : Box w8 c5 [sl1.v] 73 := (b5.pure E7).ext X8 C.st.prf.n6
  refine ⟨s1, w8, hr8, X8.kept (fun b hb hx => C.vis b hx hb), b8.canW0 (by simp), c5h C, ?_⟩
  rintro _ rfl
  have E9 := Ext.setCell (w := w8) c5 s1.v
  have z5 : w.heap.size ≤ w7.heap.size := by have := E5.size; have := E7.size; omega
  have f8' : ∀ b, s1.blk b → sl1.blk b ∨ w.heap.size ≤ b := fun b hb => (f8 b hb).imp_right (fun h => by omega)
  have X : Ext (PW ma mb c5 sl1) w (w8.setCell c5 s1.v) := (((E5.mono (fun b _ e => .inl e)).trans (E7.pure (F := PW ma mb c5 sl1))).trans (X8.mono (fun b _ h => .inr (.inr (.inr h))))).trans (E9.mono (fun b _ e => .inr (.inr (.inl e))))
  have nx : ∀ {b}, (b = c1.block ∨ b = c2.block ∨ b = c3.block ∨ b = c4.block) → ¬ PW ma mb c5 sl1 b := fun hb hx => by
   obtain ⟨d1, d2, d3, d4⟩ := C.st.prf.d _ hx
   rcases hb with h | h | h | h
   ·exact d1 h
   ·exact d2 h
   ·exact d3 h
   ·exact d4 h
  have lt1 : ∀ {b}, PW ma mb c5 sl1 b → b < w.heap.size := fun hb => C.st.prf.lt hb
  have I9 : IMap ikey (w8.setCell c5 s1.v) ma (Sp.amap ((l ++ M) ++ [⟨r, a, b, t⟩])) := by
   rw [Sp.amap_snoc]
   exact ((I5.pure E7).ext X8 C.st.prf.n4).ext E9 C.st.prf.n2
  have P9 : PrfAt (w8.setCell c5 s1.v) k c1 c2 c3 c4 c5 ma mb s1 ((l ++ M) ++ [⟨r, a, b, t⟩]) B1 := by
   refine ⟨X.cell C.st.prf.a1 (nx (.inl rfl)), X.cell C.st.prf.a2 (nx (.inr (.inl rfl))), X.cell C.st.prf.a3 (nx (.inr (.inr (.inl rfl)))), X.cell C.st.prf.a4 (nx (.inr (.inr (.inr rfl)))), b8.set0, I9, ?_, ?_, ?_, C.st.prf.n1, C.st.prf.n2, C.st.prf.n3, ?_, ?_, ?_⟩
   ·have := ((C.st.prf.bm.ext E5 (fun e => C.st.prf.n1 e.symm)).pure E7).ext X8 C.st.prf.n5
    exact this.ext E9 C.st.prf.n3
   ·have hne : ∀ b, s1.blk b → b ≠ c5.block := fun b hb e => by
     rcases f8' b hb with h | h
     ·exact C.st.prf.n6 (e ▸ h)
     ·have := lt1 (.inr (.inr (.inl rfl))); omega
    have := R8.ext E9 hne
    simpa using this
   ·rintro b (hb | hb | hb | hb)
    ·exact C.st.prf.d b (.inl hb)
    ·exact C.st.prf.d b (.inr (.inl hb))
    ·exact C.st.prf.d b (.inr (.inr (.inl hb)))
    ·rcases f8' b hb with h | h
     ·exact C.st.prf.d b (.inr (.inr (.inr h)))
     ·have := C.st.zc; omega
   ·intro hb; rcases f8' _ hb with h | h
    ·exact C.st.prf.n4 h
    ·have := lt1 (.inl rfl); omega
   ·intro hb; rcases f8' _ hb with h | h
    ·exact C.st.prf.n5 h
    ·have := lt1 (.inr (.inl rfl)); omega
   ·intro hb; rcases f8' _ hb with h | h
    ·exact C.st.prf.n6 h
    ·have := lt1 (.inr (.inr (.inl rfl))); omega
  have hlk9 : SE.look (Sp.amap ((l ++ M) ++ [⟨r, a, b, t⟩])) t = some ((l ++ M).length : Int) := by
   rw [Sp.amap_snoc, look_snoc (by rw [Sp.amap_keys]; exact htn), if_pos rfl]
  rcases I9.get (P := Try.prog) (T := 131) Try.underlying131 Try.underlying38 (Try.zeroValue3 _) t false with ⟨hx, _⟩ | ⟨v, hv, hrun9⟩
  ·rw [hx] at hlk9; cases hlk9
  ·rw [hv] at hlk9; cases hlk9
   have dg : ∀ {Z : Nat → Prop}, (∀ b, Z b → b < w.heap.size) → (∀ b, Z b → ¬ PW ma mb c5 sl1 b) → ∀ b, Z b → ¬ PW ma mb c5 s1 b := fun hz h b hb hx => by
    rcases hx with hx | hx | hx | hx
    ·exact h b hb (.inl hx)
    ·exact h b hb (.inr (.inl hx))
    ·exact h b hb (.inr (.inr (.inl hx)))
    ·rcases f8' b hx with h' | h'
     ·exact h b hb (.inr (.inr (.inr h')))
     ·have := hz b hb; omega
   refine ⟨_, P9.a1, _, hrun9, hK _ true _ s1 (M ++ [⟨r, a, b, t⟩]) B1 ⟨⟨by rw [← List.append_assoc]; exact P9, C.st.know.ext X (fun b hb => C.st.dF b hb), C.st.pool.ext X (fun b hb => C.st.dP b hb), dg (fun b hb => C.st.know.lt hb) C.st.dF, dg (fun b hb => C.st.pool.lt hb) C.st.dP⟩, by rw [← List.append_assoc]; exact C.prf.snoc hfol htn hdt, fun s hs => ?_, fun _ => ⟨(l ++ M).length, rfl, by simp, by simp⟩, ⟨fun _ => hdt, fun _ => rfl⟩, C.ext.trans' X (fun i hi hb => PW.old h0 C.own i hb hi), fun b hb => ?_, fun _ => .inr ?_, fun s hs => ?_, fun s hs y hy => ?_⟩⟩
   ·rcases List.mem_append.1 hs with hs | hs
    ·exact ⟨Nat.le_of_lt (C.new s hs).1, (C.new s hs).2⟩
    ·simp at hs; subst hs; exact ⟨Nat.le_refl _, .inl (.refl t)⟩
   ·rcases f8' b hb with h | h
    ·exact C.own b h
    ·right; have := C.ext.size; omega
   ·rw [← List.append_assoc]
    have e : ((((l ++ M) ++ [(⟨r, a, b, t⟩ : Sp.Step)]).length : Int) - 1) = ((l ++ M).length : Int) := by simp; omega
    rw [e, Sp.tAt_of (by simp)]
    simp
   ·rcases List.mem_append.1 hs with hs | hs
    ·exact C.dp s hs
    ·simp at hs; subst hs; exact .refl t
   ·rw [← List.append_assoc, List.map_append]
    refine List.mem_append_left _ ?_
    rcases List.mem_append.1 hs with hs | hs
    ·exact C.cl s hs y hy
    ·simp at hs; subst hs; exact hdp y hy
 have hcall : ∀ (u : Int) (H : Nat → Prop) (w : World) (sl1 : Sl) (M : List Sp.Step) (B1 : List Int), SaysCur w0 H w k p c1 c2 c3 c4 c5 ma mb L G S F FP sl l t sl1 M B1 → Sp.rank S u < Sp.rank S t → (Sp.Sub L t u ∨ u ∈ Sp.wkeys S) → Sp.Dep L S t u → ∀ (Q : Int → Bool → World → Prop),
   (∀ (r : Int) (ok : Bool) (w' : World) (sl2 : Sl) (M2 : List Sp.Step) (B2 : List Int), SaysCur w0 H w' k p c1 c2 c3 c4 c5 ma mb L G S F FP sl l t sl2 (M ++ M2) B2 → (ok = true ↔ Sp.Drv L (fun x => x ∈ Sp.wkeys S) u) → (ok = true → ∃ i, r = ((i : Nat) : Int) ∧ ∃ hi : i < (l ++ (M ++ M2)).length, (l ++ (M ++ M2))[i].t = u) → Kept H w w' → Q r ok w') →
   ∃ v13 : Value, w.cell? c4 = some v13 ∧ ∃ (f1 : FuncId) (fs1 cs1 : Array Value), v13 = .func (.func f1) fs1 cs1 ∧ (∀ args w, (callFunc f1 args).run Try.prog w = .ok (.enter f1 args) w) ∧ Calls Try.prog f1 (fs1 ++ #[(.int .i64 u)] ++ cs1) w (fun e w' => ∃ r1 : Int, ∃ r2 : Bool, e = .returned (.tuple #[(.int .i64 r1), (.bool r2)]) ∧ Kept H w w' ∧ Q r1 r2 w') := by
  intro u H w sl1 M B1 C hu hsub hdep Q hQ
  refine ⟨_, C.st.prf.a4, 84, #[], _, rfl, Try.call84, ?_⟩
  refine (ih u w sl1 (l ++ M) B1 (by omega) C.st C.prf).mono ?_
  rintro _ w' ⟨r, ok, rfl, sl2, M2, B2, hret⟩
  obtain ⟨hkp, C2⟩ := C.step h0 hret hu hsub (fun x hu hx => rank_seen_le hu hx) hdep
  refine ⟨r, ok, rfl, hkp, hQ r ok w' sl2 M2 B2 C2 hret.drv (fun h => ?_) hkp⟩
  obtain ⟨i, e, hi, hit⟩ := hret.idx h
  refine ⟨i, e, by rw [← List.append_assoc]; exact hi, ?_⟩
  simpa [List.append_assoc] using hit
 obtain ⟨sg, m, sk, k2, hF2⟩ := C2.st.know
 obtain ⟨vr, vf, hlook, hway⟩ := k2.look t
 refine ⟨_, C2.st.prf.a2, _, C2.st.prf.barred t, _, C2.st.prf.a3, k, rfl, _, k2.box.cell rfl, vr, vf, _, hlook, fun hc => ?_, fun hc => ?_⟩
 ·-- it is seen
  have hts : t ∈ Sp.wkeys S := by simpa using hc
  have hdt : Sp.Drv L (fun x => x ∈ Sp.wkeys S) t := .seen hts
  have hnB : decide (t ∈ B) = false := decide_eq_false (fun hb => hp0.bar t hb hdt)
  have hin := hk.inp t hts
  have hin' : ¬ Sp.inP L t = false := by simp [hin]
  rw [hnB]
  rcases Sp.way_of hk.toWaysOk (look_mem (hway hts)) with ⟨rfl, rfl, hg⟩ | ⟨hne, hari, hfs, hrf⟩
  ·refine ⟨fun h => by simp at h, fun _ => ?_⟩
   intro H2 w10 hs10
   have C10 := C2.hst h0 hs10
   refine J1t 0 0 0 H2 w10 sl [] B C10 ?_ hdt (fun y hy => absurd rfl ((Sp.Dep.way hk.nodup (hway hts)).1 hy).1)
   unfold Sp.fol; rw [if_neg hin', if_pos rfl]; simp [hg]
  ·refine ⟨fun _ => ?_, fun h => absurd (by simpa using h) hne⟩
   intro H2 w10 hs10
   have C10 := C2.hst h0 hs10
   refine hcall vf H2 w10 sl [] B C10 hrf (.inr hfs) ((Sp.Dep.way hk.nodup (hway hts)).2 ⟨hne, rfl⟩) _ ?_
   intro r1 ok w11 sl2 M2 B2 C11 hd11 hi11 _ w12 hs12
   have C12 := C11.hst h0 hs12
   obtain ⟨i, rfl, hi, hit⟩ := hi11 (hd11.2 (.seen hfs))
   refine J1t vr i 0 H2 w12 sl2 _ B2 C12 ?_ hdt (fun y hy => by rw [((Sp.Dep.way hk.nodup (hway hts)).1 hy).2]; exact List.mem_map.2 ⟨_, List.getElem_mem hi, hit⟩)
   have hr := hari.rule
   unfold Sp.fol
   rw [if_neg hin', if_neg hne, if_pos hr]
   have h1 := Sp.ahead_of hi
   have h2 := Sp.tAt_of hi
   rw [hit] at h2
   simp only [h1, h2, Bool.true_and, Bool.and_eq_true, beq_iff_eq, true_and]
   exact (Sp.arisesB_iff hr).2 hari
 ·-- it is not
  have hts : t ∉ Sp.wkeys S := by simpa using hc
  refine ⟨fun hb => ?_, fun hb => ?_⟩
  ·intro H2 w4 hs4
   have C4 := C2.hst h0 hs4
   refine ⟨_, C4.st.prf.a3, ?_⟩
   refine (c_ded_made k p t w4 C4.st.know C4.st.pool hW).mono ?_
   rintro _ w13 ⟨r3, r4, r5, r6, rfl, hmade, E13⟩
   refine ⟨r3, r4, r5, r6, rfl, E13.keptP, ?_⟩
   have C13 : SaysCur w0 H2 w13 k p c1 c2 c3 c4 c5 ma mb L G S F FP sl l t sl [] B := ⟨C4.st.pure E13, C4.prf, C4.new, C4.ext.thenPure E13, C4.own, C4.vis, C4.hs.again E13.keptP, C4.dp, C4.cl⟩
   have J2 : ∀ (H : Nat → Prop) (w : World) (sl1 : Sl) (M : List Sp.Step) (B1 : List Int) (ok4 : Bool) (rl a : Int), SaysCur w0 H w k p c1 c2 c3 c4 c5 ma mb L G S F FP sl l t sl1 M B1 →
     (ok4 = false → ¬ Sp.Drv L (fun x => x ∈ Sp.wkeys S) t) →
     (ok4 = true → r4 ≤ 0 → Sp.fol L G (l ++ M) ⟨rl, a, 0, t⟩ = true ∧ Sp.Drv L (fun x => x ∈ Sp.wkeys S) t) →
     (ok4 = true → 0 < r4 → Sp.rank S r4 < Sp.rank S t ∧ (Sp.Sub L t r4 ∨ r4 ∈ Sp.wkeys S) ∧ (Sp.Drv L (fun x => x ∈ Sp.wkeys S) r4 → Sp.Drv L (fun x => x ∈ Sp.wkeys S) t) ∧ (Sp.Drv L (fun x => x ∈ Sp.wkeys S) t → Sp.Drv L (fun x => x ∈ Sp.wkeys S) r4) ∧
      ∀ M2 (i : Nat) (hi : i < (l ++ (M ++ M2)).length), (l ++ (M ++ M2))[i].t = r4 → Sp.fol L G (l ++ (M ++ M2)) ⟨rl, a, i, t⟩ = true) →
     (ok4 = true → 0 < r3 → r3 ∈ (l ++ M).map Sp.Step.t) →
     m_deduce_Know_Proof_1_j2 t c1 c2 c4 c5 r4 ok4 rl a 0 t w0 H w K := by
    intro H w sl1 M B1 ok4 rl a C h1 h2 h3 h4
    unfold m_deduce_Know_Proof_1_j2
    refine ⟨fun hc => ?_, fun hc => ?_⟩
    ·rw [Bool.and_eq_true] at hc
     obtain ⟨hok, hpos⟩ := hc
     have hpos := of_decide_eq_true hpos
     obtain ⟨g1, g2, g3, g4, g5⟩ := h3 hok hpos
     intro H5 w19 hs19
     have C19 := C.hst h0 hs19
     refine hcall r4 H5 w19 sl1 M B1 C19 g1 g2 ((Sp.Dep.made hmade.symm hts).2 ⟨hpos, .inr rfl⟩) _ ?_
     intro r7 r8 w20 sl2 M2 B2 C20 hd20 hi20 _ w21 hs21
     have C21 := C20.hst h0 hs21
     cases r8 with
     | false => exact J1f _ _ _ H5 w21 sl2 _ B2 C21 (fun hd => by have := hd20.2 (g4 hd); cases this)
     | true =>
      obtain ⟨i, rfl, hi, hit⟩ := hi20 rfl
      refine J1t _ _ _ H5 w21 sl2 _ B2 C21 (g5 M2 i hi hit) (g3 (hd20.1 rfl)) (fun y hy => ?_)
      rcases (Sp.Dep.made hmade.symm hts).1 hy with ⟨hy0, e | e⟩
      ·subst e
       rw [← List.append_assoc, List.map_append]
       exact List.mem_append_left _ (h4 hok hy0)
      ·subst e
       exact List.mem_map.2 ⟨_, List.getElem_mem hi, hit⟩
    ·intro H5 w19 hs19
     have C19 := C.hst h0 hs19
     cases ok4 with
     | false => exact J1f _ _ _ H5 w19 sl1 M B1 C19 (h1 rfl)
     | true =>
      have hle : r4 ≤ 0 := by simpa using hc
      obtain ⟨q1, q2⟩ := h2 rfl hle
      refine J1t _ _ _ H5 w19 sl1 M B1 C19 q1 q2 (fun y hy => ?_)
      rcases (Sp.Dep.made hmade.symm hts).1 hy with ⟨hy0, e | e⟩
      ·subst e; exact h4 rfl hy0
      ·omega
   cases hin : Sp.inP L t with
   | false =>
    have hm : Sp.madeS L S t = (0, 0, false, false) := by unfold Sp.madeS; rw [if_pos hin]
    rw [hm] at hmade; cases hmade
    have hnd : ¬ Sp.Drv L (fun x => x ∈ Sp.wkeys S) t := fun hd => by
     have hnode : Sp.nodeOf L t = Sp.noNode := by unfold Sp.nodeOf; rw [Sp.get_none hin]; rfl
     rcases hd.inv with h | h | ⟨h, _⟩ | ⟨h, _⟩ | ⟨h, _⟩
     ·exact hts h
     all_goals (rw [hnode] at h; exact absurd h (by decide))
    refine ⟨fun h => by simp at h, fun _ => ?_⟩
    intro H4 w18 hs18
    exact J2 H4 w18 sl [] B false _ _ (C13.hst h0 hs18) (fun _ => hnd) (fun h => by cases h) (fun h => by cases h) (fun h => by cases h)
   | true =>
   have hin' : ¬ Sp.inP L t = false := by simp [hin]
   have ht1 := (Sp.inP_iff.1 hin).1
   generalize hn : Sp.nodeOf L t = n at *
   have hm := hmade
   unfold Sp.madeS at hm
   rw [if_neg hin', hn] at hm
   have kx : ∀ x ∈ Sp.kidsOf n, Sp.inP L x = true ∧ x < t := by have := (hW.node hin).2.2.2.2.1; rw [hn] at this; exact this
   rcases Sp.kind_cases hW hin with hk1 | hk4 | hk5 | hk6 | hk7
   ·rw [hn] at hk1
    rw [if_pos hk1] at hm; cases hm
    refine ⟨fun h => by simp at h, fun _ => ?_⟩
    intro H4 w18 hs18
    have hd : Sp.Drv L (fun x => x ∈ Sp.wkeys S) t := .free (by rw [hn]; exact hk1)
    refine J2 H4 w18 sl [] B true _ _ (C13.hst h0 hs18) (fun h => by cases h) (fun _ _ => ⟨?_, hd⟩) (fun _ h => by omega) (fun _ h => by omega)
    unfold Sp.fol; rw [if_neg hin', hn]; simp [hk1]
   ·rw [hn] at hk4
    rw [if_neg (by rw [hk4]; decide), if_pos hk4] at hm; cases hm
    have ha := kx n.a (Sp.kids_a (.inl hk4))
    have hb' := kx n.b (Sp.kids_b hk4)
    have ha1 := (Sp.inP_iff.1 ha.1).1
    have hb1 := (Sp.inP_iff.1 hb'.1).1
    have sa : Sp.Sub L t n.a := .kid (.refl t) (by rw [hn]; exact Sp.kids_a (.inl hk4))
    have sb : Sp.Sub L t n.b := .kid (.refl t) (by rw [hn]; exact Sp.kids_b hk4)
    have inv : Sp.Drv L (fun x => x ∈ Sp.wkeys S) t → Sp.Drv L (fun x => x ∈ Sp.wkeys S) n.a ∧ Sp.Drv L (fun x => x ∈ Sp.wkeys S) n.b := fun hd => by
     rcases hd.inv with h | h | ⟨_, h1, h2⟩ | ⟨h, _⟩ | ⟨h, _⟩
     ·exact absurd h hts
     ·rw [hn, hk4] at h; exact absurd h (by decide)
     ·rw [hn] at h1 h2; exact ⟨h1, h2⟩
     ·rw [hn, hk4] at h; cases h
     ·rw [hn, hk4] at h; exact absurd h (by decide)
    refine ⟨fun _ => ?_, fun h => by simp at h; omega⟩
    intro H4 w18 hs18
    refine hcall n.a H4 w18 sl [] B (C13.hst h0 hs18) (Sp.rank_kid hts ha1 ha.2) (.inl sa) ((Sp.Dep.made hmade.symm hts).2 ⟨by omega, .inl rfl⟩) _ ?_
    intro r9 r10 w22 sl2 M2 B2 C22 hd22 hi22 _ w23 hs23
    have C23 := C22.hst h0 hs23
    refine J2 H4 w23 sl2 _ B2 r10 _ _ C23 (fun h hd => by have := hd22.2 (inv hd).1; rw [h] at this; cases this) (fun _ h => by omega) (fun h _ => ⟨Sp.rank_kid hts hb1 hb'.2, .inl sb, fun hd => .pair (by rw [hn]; exact hk4) (by rw [hn]; exact hd22.1 h) (by rw [hn]; exact hd), fun hd => (inv hd).2, ?_⟩) (fun h _ => by obtain ⟨i1, _, hi1, hit1⟩ := hi22 h; exact List.mem_map.2 ⟨_, List.getElem_mem hi1, hit1⟩)
    intro M3 i hi hit
    obtain ⟨i1, rfl, hi1, hit1⟩ := hi22 h
    have hi1' : i1 < (l ++ (([] ++ M2) ++ M3)).length := by simp at hi1 ⊢; omega
    have e1 : Sp.tAt (l ++ (([] ++ M2) ++ M3)) (i1 : Int) = n.a := by
     rw [← List.append_assoc, Sp.tAt_app hi1]; exact hit1
    have e2 := Sp.tAt_of hi
    rw [hit] at e2
    clear hit
    generalize l ++ (([] ++ M2) ++ M3) = l' at *
    unfold Sp.fol; rw [if_neg hin', hn]
    simp [hk4, Sp.ahead_of hi, Sp.ahead_of hi1', e1, e2]
   ·rw [hn] at hk5
    rw [if_neg (by rw [hk5]; decide), if_neg (by rw [hk5]; decide), if_pos hk5] at hm; cases hm
    have ha := kx n.a (Sp.kids_a (.inr (.inl hk5)))
    have ha1 := (Sp.inP_iff.1 ha.1).1
    have sa : Sp.Sub L t n.a := .kid (.refl t) (by rw [hn]; exact Sp.kids_a (.inr (.inl hk5)))
    have inv : Sp.Drv L (fun x => x ∈ Sp.wkeys S) t → Sp.Drv L (fun x => x ∈ Sp.wkeys S) n.a := fun hd => by
     rcases hd.inv with h | h | ⟨h, _⟩ | ⟨_, h⟩ | ⟨h, _⟩
     ·exact absurd h hts
     ·rw [hn, hk5] at h; exact absurd h (by decide)
     ·rw [hn, hk5] at h; cases h
     ·rw [hn] at h; exact h
     ·rw [hn, hk5] at h; exact absurd h (by decide)
    refine ⟨fun _ => ?_, fun h => by simp at h; omega⟩
    intro H4 w18 hs18
    refine hcall n.a H4 w18 sl [] B (C13.hst h0 hs18) (Sp.rank_kid hts ha1 ha.2) (.inl sa) ((Sp.Dep.made hmade.symm hts).2 ⟨by omega, .inl rfl⟩) _ ?_
    intro r9 r10 w22 sl2 M2 B2 C22 hd22 hi22 _ w23 hs23
    have C23 := C22.hst h0 hs23
    refine J2 H4 w23 sl2 _ B2 r10 _ _ C23 (fun h hd => by have := hd22.2 (inv hd); rw [h] at this; cases this) (fun h _ => ⟨?_, .hash (by rw [hn]; exact hk5) (by rw [hn]; exact hd22.1 h)⟩) (fun _ h => by omega) (fun h _ => by obtain ⟨i1, _, hi1, hit1⟩ := hi22 h; exact List.mem_map.2 ⟨_, List.getElem_mem hi1, hit1⟩)
    obtain ⟨i1, rfl, hi1, hit1⟩ := hi22 h
    have e1 := Sp.tAt_of hi1
    rw [hit1] at e1
    clear hit1
    have q1 := Sp.ahead_of hi1
    generalize l ++ ([] ++ M2) = l' at *
    unfold Sp.fol; rw [if_neg hin', hn]
    simp [hk5, q1, e1]
   ·rw [hn] at hk6
    rw [if_neg (by rw [hk6]; decide), if_neg (by rw [hk6]; decide), if_neg (by rw [hk6]; decide), if_pos hk6] at hm; cases hm
    have hnd : ¬ Sp.Drv L (fun x => x ∈ Sp.wkeys S) t := fun hd => by
     rcases hd.inv with h | h | ⟨h, _⟩ | ⟨h, _⟩ | ⟨h, _⟩
     ·exact hts h
     all_goals (rw [hn, hk6] at h; exact absurd h (by decide))
    refine ⟨fun h => by simp at h, fun _ => ?_⟩
    intro H4 w18 hs18
    exact J2 H4 w18 sl [] B false _ _ (C13.hst h0 hs18) (fun _ => hnd) (fun h => by cases h) (fun h => by cases h) (fun h => by cases h)
   ·rw [hn] at hk7
    obtain ⟨x4, x5, x6, xf⟩ := Sp.shows_ne hk7
    rw [if_neg (by rw [xf]; decide), if_neg x4, if_neg x5, if_neg x6] at hm
    generalize hko : Sp.keyOf L (Sp.whoOf n) = ko at *
    obtain ⟨key, kok⟩ := ko
    simp only [Prod.mk.injEq] at hm
    obtain ⟨rfl, rfl, rfl, rfl⟩ := hm
    have ha := kx n.a (Sp.kids_a (.inr (.inr hk7)))
    have ha1 := (Sp.inP_iff.1 ha.1).1
    have sa : Sp.Sub L t n.a := .kid (.refl t) (by rw [hn]; exact Sp.kids_a (.inr (.inr hk7)))
    have inv : Sp.Drv L (fun x => x ∈ Sp.wkeys S) t → Sp.Drv L (fun x => x ∈ Sp.wkeys S) n.a ∧ kok = true ∧ r4 ∈ Sp.wkeys S := fun hd => by
     rcases hd.inv with h | h | ⟨h, _⟩ | ⟨h, _⟩ | ⟨_, h1, h2, h3⟩
     ·exact absurd h hts
     ·rw [hn, xf] at h; cases h
     ·rw [hn] at h; exact absurd h x4
     ·rw [hn] at h; exact absurd h x5
     ·rw [hn] at h1 h2 h3; rw [hko] at h2 h3; exact ⟨h1, h2, h3⟩
    refine ⟨fun hc => ?_, fun hc => ?_⟩
    ·rw [Bool.and_eq_true, Bool.and_eq_true] at hc
     obtain ⟨⟨hkok, hkey⟩, _⟩ := hc
     have hkey := of_decide_eq_true hkey
     have hkn := Sp.keyOf_ok (L := L) (n := Sp.whoOf n) (by rw [hko]; exact hkok)
     rw [hko] at hkn
     have hk1 := (Sp.inP_iff.1 hkn.1).1
     intro H4 w18 hs18
     refine hcall n.a H4 w18 sl [] B (C13.hst h0 hs18) (Sp.rank_kid hts ha1 ha.2) (.inl sa) ((Sp.Dep.made hmade.symm hts).2 ⟨by omega, .inl rfl⟩) _ ?_
     intro r9 r10 w22 sl2 M2 B2 C22 hd22 hi22 _ w23 hs23
     have C23 := C22.hst h0 hs23
     refine J2 H4 w23 sl2 _ B2 r10 _ _ C23 (fun h hd => by have := hd22.2 (inv hd).1; rw [h] at this; cases this) (fun _ h => by simp only at hk1; omega) (fun h _ => ⟨Sp.rank_key hts ht1 hkey, .inr hkey, fun _ => .signed (by rw [hn]; exact hk7) (by rw [hn]; exact hd22.1 h) (by rw [hn, hko]; exact hkok) (by rw [hn, hko]; exact hkey), fun _ => .seen hkey, ?_⟩) (fun h _ => by obtain ⟨i1, _, hi1, hit1⟩ := hi22 h; exact List.mem_map.2 ⟨_, List.getElem_mem hi1, hit1⟩)
     intro M3 i hi hit
     obtain ⟨i1, rfl, hi1, hit1⟩ := hi22 h
     have hi1' : i1 < (l ++ (([] ++ M2) ++ M3)).length := by simp at hi1 ⊢; omega
     have e1 : Sp.tAt (l ++ (([] ++ M2) ++ M3)) (i1 : Int) = n.a := by
      rw [← List.append_assoc, Sp.tAt_app hi1]; exact hit1
     have e2 : Sp.tAt (l ++ (([] ++ M2) ++ M3)) (i : Int) = r4 := by rw [Sp.tAt_of hi]; exact hit
     clear hit
     generalize l ++ (([] ++ M2) ++ M3) = l' at *
     unfold Sp.fol; rw [if_neg hin', hn]
     have hkey2 := hkn.2.1
     simp only at hkey2
     simp [hk7, x4, x5, Sp.ahead_of hi, Sp.ahead_of hi1', e1, e2, hkey2, Sp.keyNode]
    ·intro H4 w18 hs18
     have hnk : (kok && decide (r4 ∈ Sp.wkeys S)) = false := by
      have : decide (n.a > 0) = true := by simp; omega
      rw [this] at hc; simpa using hc
     refine J2 H4 w18 sl [] B _ _ _ (C13.hst h0 hs18) (fun _ hd => ?_) (fun h => by rw [hnk] at h; cases h) (fun h => by rw [hnk] at h; cases h) (fun h => by rw [hnk] at h; cases h)
     obtain ⟨_, i2, i3⟩ := inv hd
     rw [i2, decide_eq_true i3] at hnk; cases hnk
  ·have htB : t ∈ B := by simpa using hb
   intro H2 w4 hs4
   have C4 := C2.hst h0 hs4
   have hnB : (!decide (t ∈ B)) = false := by simp [htB]
   rw [hnB]
   exact J1f 0 0 0 H2 w4 sl [] B C4 (hp0.bar t htB)
theorem c_ded_ProofD (k p : Addr) (t : Int) (w0 : World) {L : Sp.Pool} {G : List Int} {S : List Sp.Way} {F FP : Nat → Prop} (hW : Sp.Wf L) (hk : Sp.KnowOk L G S) (h : KnowAt w0 k p G S F) (hP : PoolAt w0 p L FP) :
  Calls Try.prog 37 #[.pointer (some k), .int .i64 t] w0 (fun e w' => ∃ r : Sl, ∃ ok : Bool, e = .returned (.tuple #[r.v, .bool ok]) ∧ ∃ l : List Sp.Step, RetO w0 136 4 (l.map strow) r w' ∧ (ok = true ↔ Sp.Drv L (fun x => x ∈ Sp.wkeys S) t) ∧ (ok = false → l = []) ∧ (ok = true → l ≠ [] ∧ (∀ i (hi : i < l.length), Sp.fol L G (l.take i) l[i] = true) ∧ (l.map Sp.Step.t).Nodup ∧ Sp.tAt l ((l.length : Int) - 1) = t ∧ ∀ s ∈ l, Sp.Sub L t s.t ∨ s.t ∈ Sp.wkeys S) ∧ (ok = true → ∀ x, x ∈ l.map Sp.Step.t ↔ Sp.Dp L S t x)) := by
 suffices key : ∀ K : Sl → Bool → World → Prop, (∀ r ok w' l, RetO w0 136 4 (l.map strow) r w' → (ok = true ↔ Sp.Drv L (fun x => x ∈ Sp.wkeys S) t) → (ok = false → l = []) → (ok = true → l ≠ [] ∧ (∀ i (hi : i < l.length), Sp.fol L G (l.take i) l[i] = true) ∧ (l.map Sp.Step.t).Nodup ∧ Sp.tAt l ((l.length : Int) - 1) = t ∧ ∀ s ∈ l, Sp.Sub L t s.t ∨ s.t ∈ Sp.wkeys S) → (ok = true → ∀ x, x ∈ l.map Sp.Step.t ↔ Sp.Dp L S t x) → K r ok w') → m_deduce_Know_Proof (some k) t w0 K from
  w_deduce_Know_Proof _ _ w0 _ (key _ (fun r ok w' l a b c d e => ⟨l, a, b, c, d, e⟩))
 intro K hK
 unfold m_deduce_Know_Proof
 intro p1 w1 h1
 have B1 := Box.of_new h1
 refine ⟨_, B1.cell0, Br.f rfl ?_⟩
 intro p2 w2 h2 p3 w3 h3 p4 w4 h4
 have B4 := Box.of_new h4
 refine ⟨B4.canW0 (by simp), ?_⟩
 rintro _ rfl
 have X4 := Ext.setCell (w := w4) p4 (.map (some p3.block))
 have B4' := B4.set0 (v := .map (some p3.block))
 have s1 := h1.at_size; have s2 := h2.at_size; have s3 := h3.at_size; have s4 := h4.at_size
 have E1 : Pure w0 w1 := Ext.new h1
 have E2 : Pure w1 w2 := Ext.new h2
 have E3 : Pure w2 w3 := Ext.new h3
 have E4 : Pure w3 w4 := Ext.new h4
 have l1 := B1.lt
 have l2 := (Box.of_new h2).lt
 have l3 := (IMap.of_new (f := ikey) h3).lt
 have l4 := B4.lt
 have z4 := X4.size
 generalize hw5 : w4.setCell p4 (.map (some p3.block)) = w5 at *
 intro p5 w6 h6 p6 w7 h7
 have B7 := Box.of_new h7
 refine ⟨B7.canW0 (by simp), ?_⟩
 rintro _ rfl
 have X7 := Ext.setCell (w := w7) p6 (.map (some p5.block))
 have B7' := B7.set0 (v := .map (some p5.block))
 have s6 := h6.at_size; have s7 := h7.at_size
 have E6 : Pure w5 w6 := Ext.new h6
 have E7 : Pure w6 w7 := Ext.new h7
 have l6 := (IMap.of_new (f := tru) h6).lt
 have l7 := B7.lt
 have z7 := X7.size
 generalize hw8 : w7.setCell p6 (.map (some p5.block)) = w8 at *
 intro p7 w9 h9
 have B9 := Box.of_new h9
 refine ⟨B9.canW0 (by simp), ?_⟩
 rintro _ rfl
 have X9 := Ext.setCell (w := w9) p7 (.func (.func 84) #[] #[.pointer (some p4), .pointer (some p6), .pointer (some p1), .pointer (some p7), .pointer (some p2)])
 have B9' := B9.set0 (v := .func (.func 84) #[] #[.pointer (some p4), .pointer (some p6), .pointer (some p1), .pointer (some p7), .pointer (some p2)])
 have s9 := h9.at_size
 have E9 : Pure w8 w9 := Ext.new h9
 have l9 := B9.lt
 have z9 := X9.size
 have g1 := E1.size; have g2 := E2.size; have g3 := E3.size; have g4 := E4.size; have g6 := E6.size; have g7 := E7.size; have g9 := E9.size
 generalize hw10 : w9.setCell p7 (.func (.func 84) #[] #[.pointer (some p4), .pointer (some p6), .pointer (some p1), .pointer (some p7), .pointer (some p2)]) = w10 at *
 have hnil : ∀ b, ¬ Sl.nil.blk b := fun b hb => by obtain ⟨a, h, _⟩ := hb; cases h
 have T5 : Pure w0 w5 := (((E1.trans E2).trans E3).trans E4).trans' X4 (fun i hi e => by omega)
 have T8 : Pure w5 w8 := (E6.trans E7).trans' X7 (fun i hi e => by omega)
 have T10 : Pure w8 w10 := E9.trans' X9 (fun i hi e => by omega)
 have T : Pure w0 w10 := (T5.trans T8).trans T10
 have T2 : Pure w2 w5 := (E3.trans E4).trans' X4 (fun i hi e => by omega)
 have T1 : Pure w1 w5 := E2.trans T2
 have T3 : Pure w3 w5 := E4.trans' X4 (fun i hi e => by omega)
 have T6 : Pure w6 w8 := E7.trans' X7 (fun i hi e => by omega)
 have T5' : Pure w5 w10 := T8.trans T10
 have h0 : SaysAt w10 k p p4 p6 p1 p7 p2 p3.block p5.block L G S F FP Sl.nil [] [] := by
  refine ⟨⟨(B4'.pure T5').cell0, (B7'.pure T10).cell0, (B1.pure (T1.trans T5')).cell0, B9'.cell0, (Box.of_new h2).pure (T2.trans T5'), (IMap.of_new h3).pure (T3.trans T5'), (IMap.of_new h6).pure (T6.trans T10), Rws.nil _ _ _, ?_, by omega, by omega, by omega, hnil _, hnil _, hnil _⟩, h.pure T, hP.pure T, ?_, ?_⟩
  ·rintro b (rfl | rfl | rfl | hb)
   ·omega
   ·omega
   ·omega
   ·exact (hnil b hb).elim
  ·rintro b hb (rfl | rfl | rfl | hx)
   ·have := h.lt hb; omega
   ·have := h.lt hb; omega
   ·have := h.lt hb; omega
   ·exact hnil b hx
  ·rintro b hb (rfl | rfl | rfl | hx)
   ·have := hP.lt hb; omega
   ·have := hP.lt hb; omega
   ·have := hP.lt hb; omega
   ·exact hnil b hx
 refine ⟨_, h0.prf.a4, 84, #[], _, rfl, Try.call84, ?_⟩
 refine (c_says k p p4 p6 p1 p7 p2 p3.block p5.block hW hk _ t w10 Sl.nil [] [] (Nat.lt_succ_self _) h0 (Sp.PrfOk.nil _ _ _)).mono ?_
 rintro _ w11 ⟨r1, ok, rfl, sl', M, B', hret⟩
 refine ⟨r1, ok, rfl, fun hc => ?_, fun hc => ?_⟩
 ·have hf : ok = false := by simpa using hc
  subst hf
  refine hK Sl.nil false w11 [] ⟨Rws.nil _ _ _, fun b hb => (hnil b hb).elim, T.trans' hret.ext (fun i hi hx => ?_)⟩ hret.drv (fun _ => rfl) (fun h => by cases h) (fun h => by cases h)
  rcases hx with rfl | rfl | rfl | hx
  ·omega
  ·omega
  ·omega
  ·exact (hnil _ hx).elim
 ·have ht : ok = true := by simpa using hc
  subst ht
  have hst := hret.st
  have hpf := hret.prf
  have hidx := hret.idx rfl
  simp only [List.nil_append] at hst hpf hidx
  obtain ⟨i, _, hi, hit⟩ := hidx
  refine ⟨sl', hst.prf.a5.cell0, ?_⟩
  refine hK sl' true w11 M ⟨hst.prf.ls, fun b hb => ?_, T.trans' hret.ext (fun i hi hx => ?_)⟩ hret.drv (fun h => by cases h) (fun _ => ⟨?_, hpf.fol, hpf.nd, ?_, fun s hs => (hret.new s hs).2⟩) (fun _ x => ⟨fun hx => ?_, fun hx => ?_⟩)
  ·rcases hret.own b hb with h | h
   ·exact (hnil b h).elim
   ·have := T.size; omega
  ·rcases hx with rfl | rfl | rfl | hx
   ·omega
   ·omega
   ·omega
   ·exact (hnil _ hx).elim
  ·intro e; subst e; simp at hi
  ·have := hret.last rfl
   simp only [List.nil_append] at this
   rcases this with rfl | h
   ·simp at hi
   ·exact h
  ·obtain ⟨s, hs, rfl⟩ := List.mem_map.1 hx
   exact hret.dp s hs
  ·have hcl := hret.cl
   simp only [List.nil_append] at hcl
   exact Sp.Dp.all hcl (List.mem_map.2 ⟨_, List.getElem_mem hi, hit⟩) hx
theorem c_ded_Proof (k p : Addr) (t : Int) (w0 : World) {L : Sp.Pool} {G : List Int} {S : List Sp.Way} {F FP : Nat → Prop} (hW : Sp.Wf L) (hk : Sp.KnowOk L G S) (h : KnowAt w0 k p G S F) (hP : PoolAt w0 p L FP) :
  Calls Try.prog 37 #[.pointer (some k), .int .i64 t] w0 (fun e w' => ∃ r : Sl, ∃ ok : Bool, e = .returned (.tuple #[r.v, .bool ok]) ∧ ∃ l : List Sp.Step, RetO w0 136 4 (l.map strow) r w' ∧ (ok = true ↔ Sp.Drv L (fun x => x ∈ Sp.wkeys S) t) ∧ (ok = false → l = []) ∧ (ok = true → l ≠ [] ∧ (∀ i (hi : i < l.length), Sp.fol L G (l.take i) l[i] = true) ∧ (l.map Sp.Step.t).Nodup ∧ Sp.tAt l ((l.length : Int) - 1) = t ∧ ∀ s ∈ l, Sp.Sub L t s.t ∨ s.t ∈ Sp.wkeys S)) := by
 refine (c_ded_ProofD k p t w0 hW hk h hP).mono ?_
 rintro _ w' ⟨r, ok, rfl, l, a, b, c, d, _⟩
 exact ⟨r, ok, rfl, l, a, b, c, d⟩
theorem c_ded_Derives (k p : Addr) (t : Int) (w0 : World) {L : Sp.Pool} {G : List Int} {S : List Sp.Way} {F FP : Nat → Prop} (hW : Sp.Wf L) (hk : Sp.KnowOk L G S) (h : KnowAt w0 k p G S F) (hP : PoolAt w0 p L FP) :
  Calls Try.prog 17 #[.pointer (some k), .int .i64 t] w0 (fun e w' => ∃ r : Bool, e = .returned (.bool r) ∧ ((r = true ↔ Sp.Drv L (fun x => x ∈ Sp.wkeys S) t) ∧ Pure w0 w')) := by
 refine w_deduce_Know_Derives _ _ w0 (fun r w' => (r = true ↔ Sp.Drv L (fun x => x ∈ Sp.wkeys S) t) ∧ Pure w0 w') ?_
 unfold m_deduce_Know_Derives
 refine (c_ded_Proof k p t w0 hW hk h hP).mono ?_
 rintro _ w1 ⟨r, ok, rfl, l, hr, hd, _, _⟩
 exact ⟨r, ok, rfl, hd, hr.pure⟩
end Go.Proofs
end
section
namespace Go.Sp
theorem find_some {L : Pool} {n : Node} {i : Nat} (h : find L n = some i) : ∃ hi : i < L.length, L[i].node = n := by
 unfold find at h
 rw [List.findIdx?_eq_some_iff_getElem] at h
 obtain ⟨hi, h1, _⟩ := h
 exact ⟨hi, by simpa using h1⟩
theorem make_node {L : Pool} {n : Node} (h : (make L n).2.1 = 0) : inP (make L n).2.2 (make L n).1 = true ∧ nodeOf (make L n).2.2 (make L n).1 = n ∧ (check L n).2.2 = 0 := by
 unfold make at h ⊢
 simp only at h ⊢
 by_cases hc : (check L n).2.2 ≠ 0
 ·rw [if_pos hc] at h; exact absurd h hc
 ·rw [if_neg hc] at h ⊢
  have hc : (check L n).2.2 = 0 := by simpa using hc
  cases hf : find L n with
  | some i =>
   obtain ⟨hi, hn⟩ := find_some hf
   simp only
   exact ⟨inP_iff.2 ⟨by omega, by omega⟩, by rw [nodeOf_lt hi, hn], hc⟩
  | none =>
   rw [hf] at h
   simp only at h ⊢
   split at h
   ·simp at h
   ·rename_i hl
    rw [if_neg hl]
    simp only
    have hi : L.length < (L ++ [(⟨n, (check L n).1, (check L n).2.1⟩ : Ent)]).length := by simp
    refine ⟨inP_iff.2 ⟨by omega, by simp⟩, ?_, hc⟩
    rw [nodeOf_lt hi]
    simp
theorem make_app (L : Pool) (n : Node) : ∃ M, (make L n).2.2 = L ++ M := make_grows L n
inductive Good : Tree → Prop
 | mk (k f t u : Int) (x : ByteArray) (ks : List Tree) (own : ownErr ⟨k, f, t, u, x, 0, 0⟩ ks.length = 0) (kids : ∀ i (hi : i < ks.length), Good ks[i]) : Good (.mk k f t u x ks)
theorem looks_good (t : Tree) : ∀ i n : Int, (looks i n t).1 = 0 → Good t := by
 induction t using Tree.ind with
 | h k f t u x ks ih =>
  have hA : ∀ (ks : List Tree), (∀ i (hi : i < ks.length), ∀ j n : Int, (looks j n ks[i]).1 = 0 → Good ks[i]) → ∀ i e n : Int, (looksAll i e n ks).1 = 0 → e = 0 ∧ ∀ i (hi : i < ks.length), Good ks[i] := by
   intro ks
   induction ks with
   | nil => intro _ i e n h; exact ⟨by simpa [looksAll] using h, fun i hi => by simp at hi⟩
   | cons t ts iht =>
    intro hh i e n h
    unfold looksAll at h
    split at h
    ·rename_i he
     have := iht (fun i hi => hh (i + 1) (by simpa using hi)) _ _ _ h
     refine ⟨he, fun j hj => ?_⟩
     cases j with
     | zero => exact hh 0 (by simp) i n this.1
     | succ j => exact this.2 j (by simpa using hj)
    ·rename_i he; exact absurd h he
  intro i n h
  unfold looks at h
  split at h
  ·cases h
  ·split at h
   ·cases h
   ·have := hA ks ih _ _ _ h
    exact .mk _ _ _ _ _ _ this.1 this.2
theorem Good.inv {k f t u : Int} {x : ByteArray} {ks : List Tree} (h : Good (.mk k f t u x ks)) : plainErr ⟨k, f, t, u, x, 0, 0⟩ = 0 ∧ (ks.length : Int) = (shapeOf k).kids ∧ fieldsErr (shapeOf k) ⟨k, f, t, u, x, 0, 0⟩ = 0 ∧ ∀ i (hi : i < ks.length), Good ks[i] := by
 cases h with
 | mk _ _ _ _ _ _ own kids =>
  unfold ownErr at own
  simp only at own
  by_cases hp : plainErr ⟨k, f, t, u, x, 0, 0⟩ = 0
  ·rw [if_pos hp] at own
   by_cases hl : (ks.length : Int) ≠ (shapeOf k).kids
   ·rw [if_pos hl] at own; simp at own
   ·rw [if_neg hl] at own
    simp at own
    exact ⟨hp, by simpa using hl, own, kids⟩
  ·rw [if_neg hp, if_neg hp] at own; exact absurd own hp
theorem grow_tree (x : Tree) : ∀ L, Wf L → Good x → (grow L x).2.1 = 0 → inP (grow L x).2.2 (grow L x).1 = true ∧ treeOf (grow L x).2.2 (grow L x).1 = x := by
 induction x using Tree.ind with
 | h k f t u x ks ih =>
  intro L hW hG h0
  obtain ⟨_, hlen, _, hk⟩ := hG.inv
  have fin : ∀ (n : Node) (L' : Pool), Wf L' → n.kind = k → n.frm = f → n.to = t → n.num = u → n.text = x → (make L' n).2.1 = 0 → (kidsOf n).map (treeOf L') = ks → inP (make L' n).2.2 (make L' n).1 = true ∧ treeOf (make L' n).2.2 (make L' n).1 = .mk k f t u x ks := by
   intro n L' hW' e1 e2 e3 e4 e5 hm hks
   obtain ⟨hin, hnode, hc⟩ := make_node hm
   refine ⟨hin, ?_⟩
   rw [treeOf_in (make_wf hW' n) hin, hnode, e1, e2, e3, e4, e5, ← hks]
   congr 1
   refine List.map_congr_left (fun q hq => ?_)
   obtain ⟨M, hM⟩ := make_app L' n
   have hq' := (check_zero hc).2.2.2.2.1 q hq
   rw [hM]
   have hwf := make_wf hW' n
   rw [hM] at hwf
   exact treeOf_app hwf _ q rfl hq'
  rw [grow] at h0 ⊢
  match ks, ih, hlen, hk, fin, h0 with
  | [], _, hlen, _, fin, h0 =>
   rw [growAll] at h0 ⊢
   have hz : (shapeOf k).kids = 0 := by simpa using hlen.symm
   exact fin _ L hW rfl rfl rfl rfl rfl h0 (by simp [kidsOf, hz])
  | [a], ih, hlen, hk, fin, h0 =>
   have hz : (shapeOf k).kids = 1 := by simpa using hlen.symm
   rw [growAll] at h0 ⊢
   by_cases ha : (grow L a).2.1 ≠ 0
   ·rw [if_pos ha] at h0; exact absurd h0 ha
   ·rw [if_neg ha] at h0 ⊢
    have ha : (grow L a).2.1 = 0 := by simpa using ha
    obtain ⟨i1, t1⟩ := ih 0 (by simp) L hW (hk 0 (by simp)) ha
    simp only [List.getElem_cons_zero] at i1 t1
    rw [growAll] at h0 ⊢
    exact fin _ _ (grow_wf a L hW) rfl rfl rfl rfl rfl h0 (by simp [kidsOf, hz, t1])
  | [a, b], ih, hlen, hk, fin, h0 =>
   have hz : (shapeOf k).kids = 2 := by simpa using hlen.symm
   rw [growAll] at h0 ⊢
   by_cases ha : (grow L a).2.1 ≠ 0
   ·rw [if_pos ha] at h0; exact absurd h0 ha
   ·rw [if_neg ha] at h0 ⊢
    have ha : (grow L a).2.1 = 0 := by simpa using ha
    have hW1 := grow_wf a L hW
    obtain ⟨i1, t1⟩ := ih 0 (by simp) L hW (hk 0 (by simp)) ha
    simp only [List.getElem_cons_zero] at i1 t1
    rw [growAll] at h0 ⊢
    by_cases hb : (grow (grow L a).2.2 b).2.1 ≠ 0
    ·rw [if_pos hb] at h0; exact absurd h0 hb
    ·rw [if_neg hb] at h0 ⊢
     have hb : (grow (grow L a).2.2 b).2.1 = 0 := by simpa using hb
     have hW2 := grow_wf b _ hW1
     obtain ⟨i2, t2⟩ := ih 1 (by simp) (grow L a).2.2 hW1 (hk 1 (by simp)) hb
     simp only [List.getElem_cons_succ, List.getElem_cons_zero] at i2 t2
     obtain ⟨M, hM⟩ := (grow_facts b (grow L a).2.2 hW1.ok).2
     have t1' : treeOf (grow (grow L a).2.2 b).2.2 (grow L a).1 = a := by
      rw [hM] at hW2 ⊢
      exact (treeOf_app hW2 _ _ rfl i1).trans t1
     rw [growAll] at h0 ⊢
     exact fin _ _ hW2 rfl rfl rfl rfl rfl h0 (by simp [kidsOf, hz, t1', t2])
  | a :: b :: c :: ks, _, hlen, _, _, _ =>
   have := kids_le k
   simp only [List.length_cons] at hlen
   omega
theorem of_tree {L : Pool} (hW : Wf L) {x : Tree} (h : (of L x).2.1 = 0) : inP (of L x).2.2 (of L x).1 = true ∧ treeOf (of L x).2.2 (of L x).1 = x ∧ Good x := by
 unfold of at h ⊢
 by_cases h1 : (looks 0 0 x).1 ≠ 0
 ·rw [if_pos h1] at h; exact absurd h h1
 ·rw [if_neg h1] at h ⊢
  have hg := looks_good x 0 0 (by simpa using h1)
  by_cases h2 : (grow L x).2.1 ≠ 0
  ·rw [if_pos h2] at h; exact absurd h h2
  ·rw [if_neg h2] at h ⊢
   have := grow_tree x L hW hg (by simpa using h2)
   exact ⟨this.1, this.2, hg⟩
end Go.Sp
end
section
namespace Go.Sp
theorem arises_app {L M : Pool} {r u t : Int} (hu : inP L u = true) : Arises (L ++ M) r u t ↔ Arises L r u t := by
 unfold Arises; rw [nodeOf_app hu]
theorem WayOk.app {L M : Pool} {G : List Int} {pre : List Way} {v : Way} (h : WayOk L G pre v) (hp : ∀ t ∈ wkeys pre, inP L t = true) : WayOk (L ++ M) G pre v := by
 rcases h with h | ⟨a, b, c⟩
 ·exact .inl h
 ·exact .inr ⟨a, (arises_app (hp _ c)).2 b, c⟩
theorem wkeys_take {S : List Way} {i : Nat} {t : Int} (h : t ∈ wkeys (S.take i)) : t ∈ wkeys S := by
 unfold wkeys at h ⊢
 obtain ⟨v, hv, e⟩ := List.mem_map.1 h
 exact List.mem_map.2 ⟨v, List.mem_of_mem_take hv, e⟩
theorem KnowOk.app {L M : Pool} {G : List Int} {S : List Way} (h : KnowOk L G S) : KnowOk (L ++ M) G S :=
 ⟨⟨h.nodup, fun t ht => inP_app (h.inp t ht), fun i hi => (h.way i hi).app (fun t ht => h.inp t (wkeys_take ht))⟩, fun u hu r t ha => h.closed u hu r t ((arises_app (h.inp u hu)).1 ha), h.giv, h.gnd⟩
theorem giveT_in {L : Pool} {G : List Int} {t : Int} (h : inP L t = true) : giveT L G t = addT G t := by unfold giveT; rw [if_pos h]
def sideStep (q : Pool × List Int) (t : Tree) : Pool × List Int := ((of q.1 t).2.2, if (of q.1 t).2.1 ≠ 0 then q.2 else addT q.2 (of q.1 t).1)
def sideAll (ts : List Tree) : Pool × List Int := ts.foldl sideStep ([], [])
theorem addT_len (G : List Int) (t : Int) : (addT G t).length ≤ G.length + 1 := by unfold addT; split <;> simp
theorem sideAll_snoc (ts : List Tree) (t : Tree) : sideAll (ts ++ [t]) = sideStep (sideAll ts) t := by unfold sideAll; rw [List.foldl_append]; rfl
theorem sideAll_len (ts : List Tree) : (sideAll ts).2.length ≤ ts.length := by
 have : ∀ (ts : List Tree) q, (ts.foldl sideStep q).2.length ≤ q.2.length + ts.length := by
  intro ts
  induction ts with
  | nil => intro q; simp
  | cons t ts ih =>
   intro q
   rw [List.foldl_cons]
   have h1 := ih (sideStep q t)
   have h2 : (sideStep q t).2.length ≤ q.2.length + 1 := by
    unfold sideStep; simp only; split
    ·omega
    ·exact addT_len _ _
   rw [List.length_cons]; omega
 have := this ts ([], [])
 simpa [sideAll] using this
theorem sideAll_wf (ts : List Tree) : Wf (sideAll ts).1 := by
 have : ∀ (ts : List Tree) q, Wf q.1 → Wf (ts.foldl sideStep q).1 := by
  intro ts
  induction ts with
  | nil => intro q h; exact h
  | cons t ts ih => intro q h; exact ih _ (of_wf h t)
 exact this ts ([], []) Wf.nil
end Go.Sp
end
