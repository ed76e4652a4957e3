import Derived.Test.YtdljcendkjfamaaPa1
import Derived.Test.YtdljcendkjfamaaProg
import Derived.KernelRfl
import Derived.Test.YtdljcendkjfamaaPa0
section
open Go Go.SE
namespace Go.Sp
structure Op where
 code : Int
 a : Int
 b : Int
 num : Int
 text : ByteArray
deriving DecidableEq
abbrev Res := Int × Int × Pool
def atM (M : List Int) (i : Int) : Option Int := if i < 0 then none else M[i.toNat]?
def nodeAt (L : Pool) (M : List Int) (i : Int) : Node := match atM M i with | none => noNode | some t => nodeOf L t
def nameOf (n : Int) : Int := cond (decide (n > 2147483648)) (-1) (IntKind.i64.wrap n)
def noOp (L : Pool) : Res := (0, 90, L)
def keyedOp (L : Pool) (M : List Int) (o : Op) (mk : Int → Int → Node) : Res :=
 match atM M o.a with
 | none => noOp L
 | some a => if (nodeAt L M o.b).kind = 6 then make L (mk (nodeAt L M o.b).frm a) else noOp L
def pairOp (L : Pool) (M : List Int) (o : Op) : Res :=
 match atM M o.a with
 | none => noOp L
 | some a => match atM M o.b with
  | none => noOp L
  | some b => make L ⟨4, 0, 0, 0, ⟨#[]⟩, a, b⟩
def hashOp (L : Pool) (M : List Int) (o : Op) : Res :=
 match atM M o.a with
 | none => noOp L
 | some a => make L ⟨5, 0, 0, 0, ⟨#[]⟩, a, 0⟩
def knownOp (L : Pool) (G : List Int) (o : Op) : Res :=
 match atM G o.a with
 | none => noOp L
 | some a => (a, 0, L)
def partOp (L : Pool) (M : List Int) (o : Op) (second : Bool) : Res :=
 if (nodeAt L M o.a).kind = 4 then (if second then (nodeAt L M o.a).b else (nodeAt L M o.a).a, 0, L) else noOp L
def shownOp (L : Pool) (M : List Int) (o : Op) : Res :=
 if showsK (nodeAt L M o.a).kind = true then ((nodeAt L M o.a).a, 0, L) else noOp L
def doOp (L : Pool) (G M : List Int) (o : Op) : Res :=
 if o.code = 0 then knownOp L G o
 else if o.code = 1 then make L ⟨1, o.a, 0, 0, ⟨#[]⟩, 0, 0⟩
 else if o.code = 2 then make L ⟨2, 0, 0, o.num, ⟨#[]⟩, 0, 0⟩
 else if o.code = 3 then make L ⟨3, 0, 0, 0, o.text, 0, 0⟩
 else if o.code = 4 then pairOp L M o
 else if o.code = 5 then hashOp L M o
 else if o.code = 6 then partOp L M o false
 else if o.code = 7 then partOp L M o true
 else if o.code = 8 then shownOp L M o
 else if o.code = 9 then keyedOp L M o (fun k a => ⟨7, k, 0, 0, ⟨#[]⟩, a, 0⟩)
 else if o.code = 10 then keyedOp L M o (fun k a => ⟨8, k, nameOf o.num, 0, ⟨#[]⟩, a, 0⟩)
 else if o.code = 11 then keyedOp L M o (fun k a => ⟨9, nameOf o.num, k, 0, ⟨#[]⟩, a, 0⟩)
 else noOp L
def runOps (L : Pool) (G : List Int) (M : List Int) : List Op → List Int × Int × Pool
 | [] => (M, 0, L)
 | o :: os => if (doOp L G M o).2.1 ≠ 0 then (M, (doOp L G M o).2.1, (doOp L G M o).2.2) else runOps (doOp L G M o).2.2 G (M ++ [(doOp L G M o).1]) os
def evalOps (L : Pool) (G : List Int) (l : List Op) : Int × Int × Int × Pool :=
 if l.length > 256 then (0, 6, 0, L) else if l.length = 0 then (0, 3, 0, L)
 else if (runOps L G [] l).2.1 ≠ 0 then (0, (runOps L G [] l).2.1, (runOps L G [] l).1.length, (runOps L G [] l).2.2)
 else (((runOps L G [] l).1.getLast?).getD 0, 0, 0, (runOps L G [] l).2.2)
theorem nodeOf_out {L : Pool} {t : Int} (h : inP L t = false) : nodeOf L t = noNode := by simp [nodeOf, get_none h]
theorem atM_in {M : List Int} {i : Int} (h0 : 0 ≤ i) (h1 : i.toNat < M.length) : atM M i = some M[i.toNat] := by
 unfold atM; rw [if_neg (by omega), List.getElem?_eq_getElem h1]
theorem atM_out {M : List Int} {i : Int} (h : i < 0 ∨ (M.length : Int) ≤ i) : atM M i = none := by
 unfold atM
 split
 ·rfl
 ·rw [List.getElem?_eq_none]; omega
theorem atM_some {M : List Int} {i t : Int} (h : atM M i = some t) : 0 ≤ i ∧ ∃ h1 : i.toNat < M.length, M[i.toNat] = t := by
 unfold atM at h
 split at h
 ·cases h
 ·exact ⟨by omega, List.getElem?_eq_some_iff.1 h⟩
theorem ite_ind {α : Type} {P : α → Prop} {c : Prop} [Decidable c] {x y : α} (hx : P x) (hy : P y) : P (if c then x else y) := by split <;> assumption
theorem doOp_ind {L : Pool} (P : Res → Prop) (h1 : ∀ t e, P (t, e, L)) (h2 : ∀ n, P (make L n)) (G M : List Int) (o : Op) : P (doOp L G M o) := by
 have hk : ∀ mk, P (keyedOp L M o mk) := fun mk => by
  unfold keyedOp; split
  ·exact h1 _ _
  ·split
   ·exact h2 _
   ·exact h1 _ _
 have hkn : P (knownOp L G o) := by unfold knownOp; split <;> exact h1 _ _
 have hp : P (pairOp L M o) := by
  unfold pairOp; split
  ·exact h1 _ _
  ·split
   ·exact h1 _ _
   ·exact h2 _
 have hh : P (hashOp L M o) := by
  unfold hashOp; split
  ·exact h1 _ _
  ·exact h2 _
 have hpa : ∀ s, P (partOp L M o s) := fun s => by unfold partOp; split <;> exact h1 _ _
 have hs : P (shownOp L M o) := by unfold shownOp; split <;> exact h1 _ _
 unfold doOp
 refine ite_ind hkn (ite_ind (h2 _) (ite_ind (h2 _) (ite_ind (h2 _) (ite_ind hp (ite_ind hh (ite_ind (hpa _) (ite_ind (hpa _) (ite_ind hs (ite_ind (hk _) (ite_ind (hk _) (ite_ind (hk _) (h1 _ _))))))))))))
theorem doOp_wf {L : Pool} (h : Wf L) (G M : List Int) (o : Op) : Wf (doOp L G M o).2.2 := doOp_ind (fun r => Wf r.2.2) (fun _ _ => h) (fun n => make_wf h n) G M o
theorem runOps_wf (G : List Int) : ∀ (l : List Op) (L : Pool) (M : List Int), Wf L → Wf (runOps L G M l).2.2
 | [], _, _, h => h
 | o :: os, L, M, h => by
  unfold runOps
  split
  ·exact doOp_wf h G M o
  ·exact runOps_wf G os _ _ (doOp_wf h G M o)
theorem runOps_len (G : List Int) : ∀ (l : List Op) (L : Pool) (M : List Int), (runOps L G M l).1.length ≤ M.length + l.length ∧ ((runOps L G M l).2.1 = 0 → (runOps L G M l).1.length = M.length + l.length)
 | [], _, _ => ⟨Nat.le_refl _, fun _ => rfl⟩
 | o :: os, L, M => by
  unfold runOps
  split
  ·rename_i h; exact ⟨by show M.length ≤ M.length + (os.length + 1); omega, fun h' => absurd h' h⟩
  ·obtain ⟨h1, h2⟩ := runOps_len G os (doOp L G M o).2.2 (M ++ [(doOp L G M o).1])
   simp only [List.length_append, List.length_cons, List.length_nil] at h1 h2
   simp only [List.length_cons]
   exact ⟨by omega, fun h => by have := h2 h; omega⟩
section
variable {L : Pool} {G M : List Int} {o : Op}
end
theorem runOps_step {L : Pool} {G M : List Int} {l : List Op} {j : Nat} (hj : j < l.length) : runOps L G M (l.drop j) =
  if (doOp L G M l[j]).2.1 ≠ 0 then (M, (doOp L G M l[j]).2.1, (doOp L G M l[j]).2.2) else runOps (doOp L G M l[j]).2.2 G (M ++ [(doOp L G M l[j]).1]) (l.drop (j + 1)) := by
 rw [List.drop_eq_getElem_cons hj, runOps]
theorem evalOps_wf {L : Pool} (h : Wf L) (G : List Int) (l : List Op) : Wf (evalOps L G l).2.2.2 := by
 unfold evalOps
 repeat' split
 ·exact h
 ·exact h
 ·exact runOps_wf G l L [] h
 ·exact runOps_wf G l L [] h
end Go.Sp
end
section
open Go Go.SE
namespace Go.Proofs
set_option maxRecDepth 100000
set_option maxHeartbeats 4000000
attribute [local irreducible] wpL wpX opE wpE Calls
def s_recipe_refuses (p1 : Option Addr) (k1 : Option Addr) (l1 : Sl) : Int :=
 (cond ((Option.isNone p1) || (Option.isNone k1)) 2 (cond (decide ((l1.len : Int) > 256)) 6 (cond (((l1.len : Int) : Int) == 0) 3 0)))
theorem pw_recipe_refuses (p1 : Option Addr) (k1 : Option Addr) (l1 : Sl) (w0 : World) :
  Calls Try.prog 65 #[(vp p1), (vp k1), l1.v] w0 (fun e w' => ∃ b'0 b'1 b'2 : Bool, (((Option.isNone p1) || (Option.isNone k1)) = b'0 ∧ (decide ((l1.len : Int) > 256)) = b'1 ∧ (((l1.len : Int) : Int) == 0) = b'2) ∧ (e = .returned (vi (cond b'0 2 (cond b'1 6 (cond b'2 3 0))))) ∧ Pure w0 w') := by
 refine calls_of_wpE (args := [(vp p1), (vp k1), l1.v]) Try.func65 rfl Try.ntmps65 (Nat.le_of_ble_eq_true rfl) (wpE_seq (rg (q0 (vi 0) (wpL_nil (th_n (wpE_seq (wpE_block (wpE_seq ?_))))))))
 refine wpE_via (fun ρ wJ => w0 = wJ ∧ Has ρ [(2, l1.v), (7, (vb ((Option.isNone p1) || (Option.isNone k1))))]) ?_ ?_
 ·skip
  refine rg (q0 (vp p1) (q2 (vb (Option.isNone p1)) (x_ptreq (by kernel_rfl) rfl Try.underlying32) (q0 (vb (Option.isNone p1)) ?_)))
  refine wpL_join 3 (fun ρ wJ => ∃ b3'0 : Bool, ((Option.isNone p1) = b3'0) ∧ w0 = wJ ∧ Has ρ [(2, l1.v), (13, (vb (b3'0 || (Option.isNone k1))))]) ?_ ?_
  ·rintro ρ w3 ⟨b3'0, he0, hw, hH⟩
   subst he0
   subst hw
   refine wpL_has hH ?_
   clear hH
   refine q0 (vb ((Option.isNone p1) || (Option.isNone k1))) (wpL_nil (th_n ?_))
   exact ⟨rfl, Has.mk (by kernel_rfl)⟩
  ·skip
   rcases Bool.eq_false_or_eq_true (Option.isNone p1) with hg4 | hg4
   ·skip
    refine sk (yD 10 hg4) (sk (yD 10 hg4) (q2 (vb true) (xT hg4) (wpL_nil ?_)))
    exact ⟨true, hg4, rfl, Has.mk (by kernel_rfl)⟩
   ·skip
    refine q1 (vp k1) (want1 rfl (yD 10 hg4)) (stp (v := (vb (Option.isNone k1))) (want1 rfl (yD 10 hg4)) (x_ptreq (by kernel_rfl) rfl Try.underlying33) (q2 (vb (Option.isNone k1)) (xF hg4) (wpL_nil ?_)))
    exact ⟨false, hg4, rfl, Has.mk (by kernel_rfl)⟩
 ·rintro ρ w2 ⟨hw, hH⟩
  subst hw
  refine norm_has hH ?_
  clear hH
  refine th_n ?_
  refine wpE_cond (t := ((Option.isNone p1) || (Option.isNone k1))) (by kernel_rfl) (fun hc1 => ?_) (fun hc1 => ?_)
  ·skip
   refine wpE_seq (rg (q0 (vi 2) (wpL_nil (th_n (wpE_ret (bl_r (th_r (res1 (.inl rfl) Try.results65 (v := (vi 2)) (by kernel_rfl) ?_))))))))
   exact ⟨true, _, _, ⟨hc1, rfl, rfl⟩, by kernel_rfl, Ext.refl _⟩
  ·skip
   refine wpE_seq (rg (q0 l1.v (q0 (vi (l1.len : Int)) (q0 (vb (decide ((l1.len : Int) > 256))) (q0 (vb (decide ((l1.len : Int) > 256))) (wpL_nil (th_n ?_)))))))
   refine wpE_cond (t := (decide ((l1.len : Int) > 256))) (by kernel_rfl) (fun hc2 => ?_) (fun hc2 => ?_)
   ·skip
    refine wpE_seq (rg (q0 (vi 6) (wpL_nil (th_n (wpE_ret (bl_r (th_r (res1 (.inl rfl) Try.results65 (v := (vi 6)) (by kernel_rfl) ?_))))))))
    exact ⟨false, true, _, ⟨hc1, hc2, rfl⟩, by kernel_rfl, Ext.refl _⟩
   ·skip
    refine wpE_seq (rg (q0 l1.v (q0 (vi (l1.len : Int)) (q0 (vb (((l1.len : Int) : Int) == 0)) (q0 (vb (((l1.len : Int) : Int) == 0)) (wpL_nil (th_n ?_)))))))
    refine wpE_cond (t := (((l1.len : Int) : Int) == 0)) (by kernel_rfl) (fun hc3 => ?_) (fun hc3 => ?_)
    ·skip
     refine wpE_seq (rg (q0 (vi 3) (wpL_nil (th_n (wpE_ret (bl_r (th_r (res1 (.inl rfl) Try.results65 (v := (vi 3)) (by kernel_rfl) ?_))))))))
     exact ⟨false, false, true, ⟨hc1, hc2, hc3⟩, by kernel_rfl, Ext.refl _⟩
    ·skip
     refine wpE_skip (bl_n (th_n (wpE_seq (rg (q0 (vi 0) (wpL_nil (th_n (wpE_ret (res1 (.inl rfl) Try.results65 (v := (vi 0)) (by kernel_rfl) ?_)))))))))
     exact ⟨false, false, false, ⟨hc1, hc2, hc3⟩, by kernel_rfl, Ext.refl _⟩
theorem p_recipe_refuses (p1 : Option Addr) (k1 : Option Addr) (l1 : Sl) (w0 : World) : Calls Try.prog 65 #[(.pointer p1), (.pointer k1), l1.v] w0 (fun e w' => e = .returned (.int .i64 (s_recipe_refuses p1 k1 l1)) ∧ Pure w0 w') := by
 refine (pw_recipe_refuses p1 k1 l1 w0).mono ?_
 rintro e w' ⟨b'0, b'1, b'2, ⟨e0, e1, e2⟩, h, E⟩
 subst e0
 subst e1
 subst e2
 exact ⟨h, E⟩
def m_recipe_cook_kitchen (c1 : Option Addr) (w0 : World) (K : (Option Nat) → World → Prop) : Prop :=
 ∀ (p1 : Addr) (w1 : World), New w0 (.cells #[(vp c1)] 169) p1 w1 →
 ∃ v1 : Option Addr, w1.cell? p1 = some (vp v1) ∧
 ∃ a1 : Addr, v1 = some a1 ∧
 ∃ v2 : Option Addr, w1.cell? a1 = some (vp v2) ∧
 ∀ (p2 : Addr) (w2 : World), New w1 (.cells #[(vp none)] 32) p2 w2 →
 CanW w2 p2 ∧ ∀ w3 : World, w3 = w2.setCell p2 (vp v2) →
 ∀ (p3 : Addr) (w4 : World), New w3 (.map #[] 0) p3 w4 →
 ∃ w5 : World, (Instr.mapUpdate 172 (.map (some p3.block)) (vi 0) (.func (.func 138) #[] #[(vp (some p1))])).run Try.prog w4 = .ok () w5 ∧
 ∃ w6 : World, (Instr.mapUpdate 172 (.map (some p3.block)) (vi 1) (.func (.func 139) #[] #[(vp (some p2))])).run Try.prog w5 = .ok () w6 ∧
 ∃ w7 : World, (Instr.mapUpdate 172 (.map (some p3.block)) (vi 2) (.func (.func 140) #[] #[(vp (some p2))])).run Try.prog w6 = .ok () w7 ∧
 ∃ w8 : World, (Instr.mapUpdate 172 (.map (some p3.block)) (vi 3) (.func (.func 141) #[] #[(vp (some p2))])).run Try.prog w7 = .ok () w8 ∧
 ∃ w9 : World, (Instr.mapUpdate 172 (.map (some p3.block)) (vi 4) (.func (.func 143) #[] #[(vp (some p1)), (vp (some p2))])).run Try.prog w8 = .ok () w9 ∧
 ∃ w10 : World, (Instr.mapUpdate 172 (.map (some p3.block)) (vi 5) (.func (.func 145) #[] #[(vp (some p1)), (vp (some p2))])).run Try.prog w9 = .ok () w10 ∧
 ∃ w11 : World, (Instr.mapUpdate 172 (.map (some p3.block)) (vi 6) (.func (.func 146) #[] #[(vp (some p1))])).run Try.prog w10 = .ok () w11 ∧
 ∃ w12 : World, (Instr.mapUpdate 172 (.map (some p3.block)) (vi 7) (.func (.func 148) #[] #[(vp (some p1))])).run Try.prog w11 = .ok () w12 ∧
 ∃ v3 : Option Addr, w12.cell? p1 = some (vp v3) ∧
 ∃ w13 : World, (Instr.mapUpdate 172 (.map (some p3.block)) (vi 8) (.func (.func 149) #[(vp v3)] #[])).run Try.prog w12 = .ok () w13 ∧
 ∃ w14 : World, (Instr.mapUpdate 172 (.map (some p3.block)) (vi 9) (.func (.func 150) #[] #[(vp (some p1)), (vp (some p2))])).run Try.prog w13 = .ok () w14 ∧
 ∃ w15 : World, (Instr.mapUpdate 172 (.map (some p3.block)) (vi 10) (.func (.func 152) #[] #[(vp (some p1)), (vp (some p2))])).run Try.prog w14 = .ok () w15 ∧
 ∃ w16 : World, (Instr.mapUpdate 172 (.map (some p3.block)) (vi 11) (.func (.func 155) #[] #[(vp (some p1)), (vp (some p2))])).run Try.prog w15 = .ok () w16 ∧
 K (some p3.block) w16
theorem w_recipe_cook_kitchen (c1 : Option Addr) (w0 : World) (K : (Option Nat) → World → Prop) (h : m_recipe_cook_kitchen c1 w0 K) :
  Calls Try.prog 114 #[(vp c1)] w0 (fun e w' => ∃ r1 : Option Nat, e = .returned (.map r1) ∧ K r1 w') := by
 unfold m_recipe_cook_kitchen at h
 refine calls_of_wpE (args := [(vp c1)]) Try.func114 rfl Try.ntmps114 (Nat.le_of_ble_eq_true rfl) (wpE_seq (rg (sn (O := (.cells #[(vp c1)] 169)) xb ?_)))
 intro p1 w1 hn4
 replace h := h p1 w1 hn4
 refine q0 (.map none) (wpL_nil (th_n (wpE_seq (rg ?_))))
 obtain ⟨v1, hv15, h⟩ := h
 refine q2 (vp v1) (xl (Try.isAgg169 _) hv15) ?_
 obtain ⟨a1, hp1, h⟩ := h
 refine q2 (vp (some a1)) (x_nilCheck (p := v1) (by kernel_rfl) hp1) (q0 (vp (some a1)) ?_)
 obtain ⟨v2, hv14, h⟩ := h
 refine q2 (vp v2) (xl (Try.isAgg32 _) hv14) (sn (O := (.cells #[(vp none)] 32)) (x_alloc (Try.zeroValue32 _) rfl) ?_)
 intro p2 w2 hn3
 replace h := h p2 w2 hn3
 obtain ⟨hp2, h⟩ := h
 refine st_set (want0 rfl) (x_store (a := p2) (v := (vp v2)) (by kernel_rfl) (by kernel_rfl) rfl (Try.sizeOf32 _) hp2) ?_
 intro w3 hn1
 replace h := h w3 hn1
 refine wpL_nil (th_n (wpE_seq (rg (st_new (O := (.map #[] 0)) (fun p => .map (some p.block)) (want0 rfl) (by kernel_rfl) ?_))))
 intro p3 w4 hn2
 replace h := h p3 w4 hn2
 refine q0 (.func (.func 138) #[] #[(vp (some p1))]) ?_
 obtain ⟨w5, hv13, h⟩ := h
 refine st_skip (want0 rfl) (x_insert (by kernel_rfl) (by kernel_rfl) (by kernel_rfl) hv13) (q0 (.func (.func 139) #[] #[(vp (some p2))]) ?_)
 obtain ⟨w6, hv12, h⟩ := h
 refine st_skip (want0 rfl) (x_insert (by kernel_rfl) (by kernel_rfl) (by kernel_rfl) hv12) (q0 (.func (.func 140) #[] #[(vp (some p2))]) ?_)
 obtain ⟨w7, hv11, h⟩ := h
 refine st_skip (want0 rfl) (x_insert (by kernel_rfl) (by kernel_rfl) (by kernel_rfl) hv11) (q0 (.func (.func 141) #[] #[(vp (some p2))]) ?_)
 obtain ⟨w8, hv10, h⟩ := h
 refine st_skip (want0 rfl) (x_insert (by kernel_rfl) (by kernel_rfl) (by kernel_rfl) hv10) (q0 (.func (.func 143) #[] #[(vp (some p1)), (vp (some p2))]) ?_)
 obtain ⟨w9, hv9, h⟩ := h
 refine st_skip (want0 rfl) (x_insert (by kernel_rfl) (by kernel_rfl) (by kernel_rfl) hv9) (q0 (.func (.func 145) #[] #[(vp (some p1)), (vp (some p2))]) ?_)
 obtain ⟨w10, hv8, h⟩ := h
 refine st_skip (want0 rfl) (x_insert (by kernel_rfl) (by kernel_rfl) (by kernel_rfl) hv8) (q0 (.func (.func 146) #[] #[(vp (some p1))]) ?_)
 obtain ⟨w11, hv7, h⟩ := h
 refine st_skip (want0 rfl) (x_insert (by kernel_rfl) (by kernel_rfl) (by kernel_rfl) hv7) (q0 (.func (.func 148) #[] #[(vp (some p1))]) ?_)
 obtain ⟨w12, hv6, h⟩ := h
 refine st_skip (want0 rfl) (x_insert (by kernel_rfl) (by kernel_rfl) (by kernel_rfl) hv6) ?_
 obtain ⟨v3, hv5, h⟩ := h
 refine q2 (vp v3) (xl (Try.isAgg169 _) hv5) (q0 (.func (.func 149) #[(vp v3)] #[]) ?_)
 obtain ⟨w13, hv4, h⟩ := h
 refine st_skip (want0 rfl) (x_insert (by kernel_rfl) (by kernel_rfl) (by kernel_rfl) hv4) (q0 (.func (.func 150) #[] #[(vp (some p1)), (vp (some p2))]) ?_)
 obtain ⟨w14, hv3, h⟩ := h
 refine st_skip (want0 rfl) (x_insert (by kernel_rfl) (by kernel_rfl) (by kernel_rfl) hv3) (q0 (.func (.func 152) #[] #[(vp (some p1)), (vp (some p2))]) ?_)
 obtain ⟨w15, hv2, h⟩ := h
 refine st_skip (want0 rfl) (x_insert (by kernel_rfl) (by kernel_rfl) (by kernel_rfl) hv2) (q0 (.func (.func 155) #[] #[(vp (some p1)), (vp (some p2))]) ?_)
 obtain ⟨w16, hv1, h⟩ := h
 refine st_skip (want0 rfl) (x_insert (by kernel_rfl) (by kernel_rfl) (by kernel_rfl) hv1) (q0 (.map (some p3.block)) (q0 (.map (some p3.block)) (wpL_nil (th_n (wpE_ret (res1 (.inl rfl) Try.results114 (v := (.map (some p3.block))) (by kernel_rfl) ?_))))))
 exact ⟨(some p3.block), rfl, h⟩
def m_recipe_run_l1 (l1 : Sl) (p2 : Addr) (r2 : Option Nat) (x1 : Int) (w0 : World) (Hl1 : Nat → Prop) (wl1 : World) (Kc1 : Int → (Nat → Prop) → World → Prop) (K : Sl → Int → World → Prop) : Prop :=
 Br (decide (x1 < (l1.len : Int)))
  (∃ a1 : Addr, At l1 x1 5 a1 ∧
  ∃ aO aM : Int, ∃ aN aP : Int, ∃ aQ : ByteArray, Row wl1 a1 [(vi aO), (vi aM), (vi aN), (vu aP), (vs aQ)] ∧
  ∀ (H1 : Nat → Prop) (w5 : World), Hst w0 Hl1 wl1 H1 w5 →
  ∃ v1 : Value, ∃ ok1 : Bool, (Instr.lookup 172 (.map r2) (vi aO) true).run Try.prog w5 = .ok (.tuple #[v1, (vb ok1)]) w5 ∧
  Br (!ok1)
   (∃ v2 : Sl, w5.cell? (p2.add 2) = some v2.v ∧
   K v2 90 w5)
   (∃ (f1 : FuncId) (fs1 cs1 : Array Value), v1 = .func (.func f1) fs1 cs1 ∧
   (∀ args w, (callFunc f1 args).run Try.prog w = .ok (.enter f1 args) w) ∧ Calls Try.prog f1 (fs1 ++ #[(.agg #[(vi aO), (vi aM), (vi aN), (vu aP), (vs aQ)])] ++ cs1) w5 (fun e w6 => ∃ r3 r4 : Int, e = .returned (.tuple #[(vi r3), (vi r4)]) ∧ 
    Kept H1 w5 w6 ∧
    Br (r4 != 0)
     (∃ v3 : Sl, w6.cell? (p2.add 2) = some v3.v ∧
     K v3 r4 w6)
     (∃ v4 : Sl, w6.cell? (p2.add 2) = some v4.v ∧
     ∀ (p4 : Addr) (w7 : World), New w6 (.cells #[(vi r3)] 38) p4 w7 →
     ∃ s1 : Sl, ∃ w8 : World, (Builtin.append_ #[30, 30] 30 #[v4.v, (Sl.mk (some p4) 1 1).v]).run Try.prog w7 = .ok s1.v w8 ∧
     Kept H1 w7 w8 ∧
     CanW w8 (p2.add 2) ∧ ¬ H1 (p2.add 2).block ∧ ∀ w9 : World, w9 = w8.setCell (p2.add 2) s1.v →
     Kc1 (IntKind.i64.wrap (x1 + 1)) H1 w9))))
  (∃ v5 : Sl, wl1.cell? (p2.add 2) = some v5.v ∧
  K v5 0 wl1)
def m_recipe_run (p1 : Option Addr) (k1 : Option Addr) (l1 : Sl) (w0 : World) (K : Sl → Int → World → Prop) : Prop :=
 Calls Try.prog 57 #[(vp k1)] w0 (fun e w1 => ∃ r1 : Sl, e = .returned r1.v ∧ 
  Kept None w0 w1 ∧
  ∀ (p2 : Addr) (w2 : World), New w1 (.cells #[(vp p1), r1.v, Sl.nil.v] 171) p2 w2 →
  Calls Try.prog 114 #[(vp (some p2))] w2 (fun e w3 => ∃ r2 : Option Nat, e = .returned (.map r2) ∧ 
   Kept None w2 w3 ∧
   ∃ (I1 : Int → (Nat → Prop) → World → Prop) (mu1 : Int → World → Nat), I1 0 None w3 ∧
    ∀ (x1 : Int) (Hl1 : Nat → Prop) (wl1 : World), Hst w0 Hl1 wl1 Hl1 wl1 → I1 x1 Hl1 wl1 → m_recipe_run_l1 l1 p2 r2 x1 w0 Hl1 wl1 (fun y'0 H' w' => I1 y'0 H' w' ∧ mu1 y'0 w' < mu1 x1 wl1) K))
theorem w_recipe_run (p1 : Option Addr) (k1 : Option Addr) (l1 : Sl) (w0 : World) (K : Sl → Int → World → Prop) (h : m_recipe_run p1 k1 l1 w0 K) :
  Calls Try.prog 66 #[(vp p1), (vp k1), l1.v] w0 (fun e w' => ∃ r5 : Sl, ∃ r6 : Int, e = .returned (.tuple #[r5.v, (vi r6)]) ∧ K r5 r6 w') := by
 unfold m_recipe_run at h
 refine calls_of_wpE (args := [(vp p1), (vp k1), l1.v]) Try.func66 rfl Try.ntmps66 (Nat.le_of_ble_eq_true rfl) ?_
 have hs := Hst.start w0
 have hb := HB.nil None w0
 refine wpE_seq (rg (q0 Sl.nil.v (q0 (vi 0) (wpL_nil (th_n (wpE_seq (rg (q0 (vp p1) (q0 (vp k1) ?_)))))))))
 refine st_call (want0 rfl) (xc Try.call57) (h.mono ?_)
 rintro e w1 ⟨r1, rfl, hk, h⟩
 refine ⟨_, rfl, ?_⟩
 obtain ⟨hs, hb⟩ := hk.hh hs hb
 refine q0 (.agg #[(vp p1), r1.v, Sl.nil.v]) (sn (O := (.cells #[(vp p1), r1.v, Sl.nil.v] 171)) xb ?_)
 intro p2 w2 hn5
 replace h := h p2 w2 hn5
 replace hs := hs.again (Ext.new (F := None) hn5).keptP
 replace hb := hb.kept (Ext.new (F := None) hn5).keptP
 refine q0 (vp (some p2)) (wpL_nil (th_n (wpE_seq (rg (q0 (vp (some p2)) ?_)))))
 refine st_call (want0 rfl) (xc Try.call114) (h.mono ?_)
 rintro e w3 ⟨r2, rfl, hk, h⟩
 refine ⟨_, rfl, ?_⟩
 obtain ⟨hs, hb⟩ := hk.hh hs hb
 refine q0 (.map r2) (wpL_nil (th_n (wpE_seq (wpE_seq (rg (q0 l1.v (q0 (vi (l1.len : Int)) (q0 (vi 0) (wpL_nil (th_n (wpE_block ?_)))))))))))
 obtain ⟨I1, mu1, h0, hr⟩ := h
 refine wpE_loop (σ := Int × (Nat → Prop) × World) (fun s ρ w => w = s.2.2 ∧ Has ρ [(8, (vp (some p2))), (9, (.map r2)), (23, l1.v), (24, (vi (l1.len : Int))), (25, (vi s.1))] ∧ Hst w0 s.2.1 w s.2.1 w ∧ HB s.2.1 w [] ∧ I1 s.1 s.2.1 s.2.2) (fun s => mu1 s.1 s.2.2) (0, None, w3) ⟨rfl, Has.mk (by kernel_rfl), hs, hb, h0⟩ ?_
 clear hs hb
 rintro ⟨x1, Hl1, wl1⟩ ρ w ⟨hw, hH, hs, hb, hI⟩
 obtain rfl : wl1 = w := (show w = wl1 from hw).symm
 replace hH : Has ρ [(8, (vp (some p2))), (9, (.map r2)), (23, l1.v), (24, (vi (l1.len : Int))), (25, (vi x1))] := hH
 replace hs : Hst w0 Hl1 wl1 Hl1 wl1 := hs
 replace hb : HB Hl1 wl1 [] := hb
 have h := hr x1 Hl1 wl1 hs hI
 clear hr h0
 unfold m_recipe_run_l1 at h
 refine wpE_has hH ?_
 clear hH hI
 refine wpE_seq (rg (q0 (vb (decide (x1 < (l1.len : Int)))) (wpL_nil (th_n (wpE_seq ?_)))))
 refine wpE_cond (t := (decide (x1 < (l1.len : Int)))) (by kernel_rfl) (fun hc1 => ?_) (fun hc1 => ?_)
 ·replace h := h.1 hc1
  refine wpE_skip (th_n (wpE_seq (wpE_block (wpE_seq (rg ?_)))))
  obtain ⟨a1, hv7, h⟩ := h
  refine q2 (vp (some a1)) (x_indexAddr (s := l1) (k := .i64) (i := x1) (by kernel_rfl) (by kernel_rfl) (Try.runUnderlying23 _) (Try.sizeOf103 _) hv7) ?_
  obtain ⟨aO, aM, aN, aP, aQ, hv6, h⟩ := h
  refine q2 (.agg #[(vi aO), (vi aM), (vi aN), (vu aP), (vs aQ)]) (x_loadA (a := a1) (vs := [(vi aO), (vi aM), (vi aN), (vu aP), (vs aQ)]) (by kernel_rfl) (Try.isAgg103 _) (Try.sizeOf103 _) rfl hv6) (sn (O := (.cells #[(vi 0), (vi 0), (vi 0), (vu 0), (vs ⟨#[]⟩)] 103)) (x_alloc (Try.zeroValue103 _) rfl) ?_)
  intro p3 w4 hn1
  obtain ⟨H1, hs, hb⟩ := hs.alloc hb hn1
  refine st_set (want0 rfl) (x_storeA (a := p3) (vs := [(vi aO), (vi aM), (vi aN), (vu aP), (vs aQ)]) (by kernel_rfl) (by kernel_rfl) rfl (Try.sizeOf103 _) rfl (hb.canWs0 0 5 gZ (by kernel_rfl))) ?_
  intro w5 hn2
  have hsb : Hst w0 Hl1 wl1 H1 w5 ∧ HB H1 w5 [(p3, [(vi aO), (vi aM), (vi aN), (vu aP), (vs aQ)], 103)] := by
   rw [hn2]
   exact hb.store0 (i := 0) (vs := [(vi aO), (vi aM), (vi aN), (vu aP), (vs aQ)]) hs gZ (by kernel_rfl) (by kernel_rfl)
  clear hs hb hn2
  obtain ⟨hs, hb⟩ := hsb
  refine wpL_nil (th_n (wpE_seq (rg (q0 (.map r2) (q0 (vp (some p3)) (q2 (vi aO) (xl (Try.isAgg3 _) (hb.c0 0 gZ)) ?_))))))
  replace h := h H1 w5 hs
  replace hs := hs.here
  obtain ⟨v1, ok1, hv5, h⟩ := h
  refine q2 (.tuple #[v1, (vb ok1)]) (x_lookup (by kernel_rfl) (by kernel_rfl) hv5) (q0 (.tuple #[v1, (vb ok1)]) (q0 v1 (q0 (vb ok1) (q0 v1 (q0 (vb ok1) (wpL_nil (th_n (wpE_seq (wpE_seq (rg (q0 (vb ok1) ?_)))))))))))
  refine q0 (vb (!ok1)) (wpL_nil (th_n ?_))
  refine wpE_cond (t := (!ok1)) (by kernel_rfl) (fun hc2 => ?_) (fun hc2 => ?_)
  ·replace h := h.1 hc2
   refine wpE_seq (rg (q0 (vp (some p2)) (q0 (vp (some p2)) (q0 (vp (some (p2.add 2))) ?_))))
   obtain ⟨v2, hv1, h⟩ := h
   refine q2 v2.v (xl (Try.isAgg30 _) hv1) (q0 v2.v (q0 (vi 90) (wpL_nil (th_n (wpE_ret (th_r (bl_r (th_r (th_r (bl_r (th_r ?_)))))))))))
   refine res2 (.inl rfl) Try.results66 (v := v2.v) (by kernel_rfl) (v' := (vi 90)) (by kernel_rfl) ?_
   exact ⟨v2, 90, rfl, h⟩
  ·replace h := h.2 hc2
   refine wpE_skip (th_n (wpE_seq (rg (q0 v1 (q2 (.agg #[(vi aO), (vi aM), (vi aN), (vu aP), (vs aQ)]) (x_loadA (a := p3) (vs := [(vi aO), (vi aM), (vi aN), (vu aP), (vs aQ)]) (by kernel_rfl) (Try.isAgg103 _) (Try.sizeOf103 _) rfl (hb.row0 0 5 gZ (by kernel_rfl))) ?_)))))
   obtain ⟨f1, fs1, cs1, hp1, h⟩ := h
   obtain ⟨hf1, h⟩ := h
   refine st_call (want0 rfl) (x_callmE (fs := fs1) (caps := cs1) (args := #[(.agg #[(vi aO), (vi aM), (vi aN), (vu aP), (vs aQ)])]) (by kernel_rfl) hp1 hf1 (by kernel_rfl) rfl) (h.mono ?_)
   rintro e w6 ⟨r3, r4, rfl, hk, h⟩
   refine ⟨_, rfl, ?_⟩
   obtain ⟨hs, hb⟩ := hk.hh hs hb
   refine q0 (.tuple #[(vi r3), (vi r4)]) (q0 (vi r3) (q0 (vi r4) (q0 (vi r3) (q0 (vi r4) (wpL_nil (th_n (wpE_seq (wpE_seq (rg (q0 (vi r4) (q0 (vb (r4 != 0)) ?_)))))))))))
   refine wpL_nil (th_n ?_)
   refine wpE_cond (t := (r4 != 0)) (by kernel_rfl) (fun hc3 => ?_) (fun hc3 => ?_)
   ·replace h := h.1 hc3
    refine wpE_seq (rg (q0 (vp (some p2)) (q0 (vp (some p2)) (q0 (vp (some (p2.add 2))) ?_))))
    obtain ⟨v3, hv2, h⟩ := h
    refine q2 v3.v (xl (Try.isAgg30 _) hv2) (q0 (vi r4) (q0 v3.v (q0 (vi r4) (wpL_nil (th_n (wpE_ret (th_r (bl_r (th_r (th_r (bl_r ?_)))))))))))
    refine th_r (res2 (.inl rfl) Try.results66 (v := v3.v) (by kernel_rfl) (v' := (vi r4)) (by kernel_rfl) ?_)
    exact ⟨v3, r4, rfl, h⟩
   ·replace h := h.2 hc3
    refine wpE_skip (th_n (rg (q0 (vp (some p2)) (q0 (vp (some p2)) (q0 (vp (some p2)) (q0 (vp (some (p2.add 2))) ?_))))))
    obtain ⟨v4, hv4, h⟩ := h
    refine q2 v4.v (xl (Try.isAgg30 _) hv4) (q0 (vi r3) (st_new (O := (.cells #[(vi r3)] 38)) (fun p => (Sl.mk (some p) 1 1).v) (want0 rfl) (x_buildSlice (vs := #[(0, (vi r3))]) (by kernel_rfl) (by kernel_rfl)) ?_))
    intro p4 w7 hn4
    replace h := h p4 w7 hn4
    replace hs := hs.again (Ext.new (F := None) hn4).keptP
    replace hb := hb.kept (Ext.new (F := None) hn4).keptP
    obtain ⟨s1, w8, hv3, hk, h⟩ := h
    refine st (v := s1.v) (want0 rfl) (x_builtin (args := #[v4.v, (Sl.mk (some p4) 1 1).v]) (by kernel_rfl) (fun _ => rfl) hv3) ?_
    obtain ⟨hs, hb⟩ := hk.hh hs hb
    refine q0 (vp (some p2)) (q0 (vp (some (p2.add 2))) ?_)
    obtain ⟨hp2, hnh, h⟩ := h
    refine st_set (want0 rfl) (x_store (a := (p2.add 2)) (v := s1.v) (by kernel_rfl) (by kernel_rfl) rfl (Try.sizeOf30 _) hp2) ?_
    intro w9 hn3
    replace h := h w9 hn3
    have hk : Kept H1 w8 w9 := by rw [hn3]; exact Kept.setCell hnh
    replace hs := hs.again hk
    replace hb := hb.kept hk
    clear hk hnh
    refine wpL_nil (bl_n (th_n (rg (q0 (vi (IntKind.i64.wrap (x1 + 1))) (q0 (vi (IntKind.i64.wrap (x1 + 1))) (wpL_nil (th_n ?_)))))))
    exact ⟨((IntKind.i64.wrap (x1 + 1)), H1, w9), ⟨rfl, Has.mk (by kernel_rfl), hs, hb.drop 1, h.1⟩, h.2⟩
 ·replace h := h.2 hc1
  refine wpE_exit (th_x (th_x (bl_eq (th_n (wpE_seq (rg (q0 (vp (some p2)) (q0 (vp (some p2)) (q0 (vp (some (p2.add 2))) ?_)))))))))
  obtain ⟨v5, hv8, h⟩ := h
  refine q2 v5.v (xl (Try.isAgg30 _) hv8) (q0 v5.v (q0 (vi 0) (wpL_nil (th_n (wpE_ret (res2 (.inl rfl) Try.results66 (v := v5.v) (by kernel_rfl) (v' := (vi 0)) (by kernel_rfl) ?_))))))
  exact ⟨v5, 0, rfl, h⟩
def m_recipe_Trace (p1 : Option Addr) (k1 : Option Addr) (l1 : Sl) (w0 : World) (K : Sl → World → Prop) : Prop :=
 Br (((s_recipe_refuses p1 k1 l1) : Int) != 0)
  (∀ (w1 : World), Hst w0 None w0 None w1 →
  K Sl.nil w1)
  (∀ (w1 : World), Hst w0 None w0 None w1 →
  Calls Try.prog 66 #[(vp p1), (vp k1), l1.v] w1 (fun e w2 => ∃ r1 : Sl, ∃ r2 : Int, e = .returned (.tuple #[r1.v, (vi r2)]) ∧ 
   Kept None w1 w2 ∧
   K r1 w2))
theorem w_recipe_Trace (p1 : Option Addr) (k1 : Option Addr) (l1 : Sl) (w0 : World) (K : Sl → World → Prop) (h : m_recipe_Trace p1 k1 l1 w0 K) :
  Calls Try.prog 16 #[(vp p1), (vp k1), l1.v] w0 (fun e w' => ∃ r3 : Sl, e = .returned r3.v ∧ K r3 w') := by
 unfold m_recipe_Trace at h
 refine calls_of_wpE (args := [(vp p1), (vp k1), l1.v]) Try.func16 rfl Try.ntmps16 (Nat.le_of_ble_eq_true rfl) ?_
 have hs := Hst.start w0
 have hb := HB.nil None w0
 refine wpE_seq (rg (q0 Sl.nil.v (wpL_nil (th_n (wpE_seq (wpE_seq (rg (q0 (vp p1) (q0 (vp k1) (q0 l1.v ?_))))))))))
 refine st_call (want0 rfl) (xc Try.call65) ((p_recipe_refuses p1 k1 l1 w0).mono ?_)
 rintro e w1 ⟨he, hE⟩
 refine ⟨(vi (s_recipe_refuses p1 k1 l1)), he.trans (by kernel_rfl), ?_⟩
 replace hs := hs.pure hE
 replace hb := hb.pure hE
 clear hE he
 refine q0 (vb (((s_recipe_refuses p1 k1 l1) : Int) != 0)) (wpL_nil (th_n ?_))
 refine wpE_cond (t := (((s_recipe_refuses p1 k1 l1) : Int) != 0)) (by kernel_rfl) (fun hc1 => ?_) (fun hc1 => ?_)
 ·replace h := h.1 hc1
  refine wpE_seq (rg (q0 Sl.nil.v (wpL_nil (th_n (wpE_ret (th_r ?_))))))
  replace h := h w1 hs
  replace hs := hs.here
  refine res1 (.inl rfl) Try.results16 (v := Sl.nil.v) (by kernel_rfl) ?_
  exact ⟨Sl.nil, rfl, h⟩
 ·replace h := h.2 hc1
  refine wpE_skip (th_n (wpE_seq (rg (q0 (vp p1) (q0 (vp k1) (q0 l1.v ?_))))))
  replace h := h w1 hs
  replace hs := hs.here
  refine st_call (want0 rfl) (xc Try.call66) (h.mono ?_)
  rintro e w2 ⟨r1, r2, rfl, hk, h⟩
  refine ⟨_, rfl, ?_⟩
  obtain ⟨hs, hb⟩ := hk.hh hs hb
  refine q0 (.tuple #[r1.v, (vi r2)]) (q0 r1.v (q0 (vi r2) (q0 r1.v (q0 (vi r2) (wpL_nil (th_n (wpE_seq (rg (q0 r1.v (q0 r1.v (wpL_nil ?_)))))))))))
  refine th_n (wpE_ret (res1 (.inl rfl) Try.results16 (v := r1.v) (by kernel_rfl) ?_))
  exact ⟨r1, rfl, h⟩
def m_recipe_Eval (p1 : Option Addr) (k1 : Option Addr) (l1 : Sl) (w0 : World) (K : Int → Int → Int → World → Prop) : Prop :=
 Br (((s_recipe_refuses p1 k1 l1) : Int) != 0)
  (∀ (w1 : World), Hst w0 None w0 None w1 →
  K 0 (s_recipe_refuses p1 k1 l1) 0 w1)
  (∀ (w1 : World), Hst w0 None w0 None w1 →
  Calls Try.prog 66 #[(vp p1), (vp k1), l1.v] w1 (fun e w2 => ∃ r1 : Sl, ∃ r2 : Int, e = .returned (.tuple #[r1.v, (vi r2)]) ∧ 
   Kept None w1 w2 ∧
   Br (r2 != 0)
    (K 0 r2 (r1.len : Int) w2)
    (∃ a1 : Addr, At r1 (IntKind.i64.wrap ((r1.len : Int) - 1)) 1 a1 ∧
    ∃ v1 : Int, w2.cell? a1 = some (vi v1) ∧
    K v1 0 0 w2)))
theorem w_recipe_Eval (p1 : Option Addr) (k1 : Option Addr) (l1 : Sl) (w0 : World) (K : Int → Int → Int → World → Prop) (h : m_recipe_Eval p1 k1 l1 w0 K) :
  Calls Try.prog 18 #[(vp p1), (vp k1), l1.v] w0 (fun e w' => ∃ r3 r4 r5 : Int, e = .returned (.tuple #[(vi r3), (vi r4), (vi r5)]) ∧ K r3 r4 r5 w') := by
 unfold m_recipe_Eval at h
 refine calls_of_wpE (args := [(vp p1), (vp k1), l1.v]) Try.func18 rfl Try.ntmps18 (Nat.le_of_ble_eq_true rfl) ?_
 have hs := Hst.start w0
 have hb := HB.nil None w0
 refine wpE_seq (rg (q0 (vi 0) (q0 (vi 0) (q0 (vi 0) (wpL_nil (th_n (wpE_seq (wpE_seq (rg (q0 (vp p1) (q0 (vp k1) ?_)))))))))))
 refine q0 l1.v ?_
 refine st_call (want0 rfl) (xc Try.call65) ((p_recipe_refuses p1 k1 l1 w0).mono ?_)
 rintro e w1 ⟨he, hE⟩
 refine ⟨(vi (s_recipe_refuses p1 k1 l1)), he.trans (by kernel_rfl), ?_⟩
 replace hs := hs.pure hE
 replace hb := hb.pure hE
 clear hE he
 refine q0 (vi (s_recipe_refuses p1 k1 l1)) (wpL_nil (th_n (wpE_seq (rg (q0 (vi (s_recipe_refuses p1 k1 l1)) (q0 (vb (((s_recipe_refuses p1 k1 l1) : Int) != 0)) (wpL_nil (th_n ?_))))))))
 refine wpE_cond (t := (((s_recipe_refuses p1 k1 l1) : Int) != 0)) (by kernel_rfl) (fun hc1 => ?_) (fun hc1 => ?_)
 ·replace h := h.1 hc1
  refine wpE_seq (rg (q0 (vi (s_recipe_refuses p1 k1 l1)) (q0 (vi 0) (q0 (vi (s_recipe_refuses p1 k1 l1)) (q0 (vi 0) (wpL_nil (th_n (wpE_ret (th_r ?_)))))))))
  replace h := h w1 hs
  replace hs := hs.here
  refine res3 (.inl rfl) Try.results18 (v := (vi 0)) (by kernel_rfl) (v' := (vi (s_recipe_refuses p1 k1 l1))) (by kernel_rfl) (v'' := (vi 0)) (by kernel_rfl) ?_
  exact ⟨0, (s_recipe_refuses p1 k1 l1), 0, rfl, h⟩
 ·replace h := h.2 hc1
  refine wpE_skip (th_n (wpE_seq (rg (q0 (vp p1) (q0 (vp k1) (q0 l1.v ?_))))))
  replace h := h w1 hs
  replace hs := hs.here
  refine st_call (want0 rfl) (xc Try.call66) (h.mono ?_)
  rintro e w2 ⟨r1, r2, rfl, hk, h⟩
  refine ⟨_, rfl, ?_⟩
  obtain ⟨hs, hb⟩ := hk.hh hs hb
  refine q0 (.tuple #[r1.v, (vi r2)]) (q0 r1.v (q0 (vi r2) (q0 r1.v (q0 (vi r2) (wpL_nil (th_n (wpE_seq (wpE_seq (rg (q0 (vi r2) (q0 (vb (r2 != 0)) ?_)))))))))))
  refine wpL_nil (th_n ?_)
  refine wpE_cond (t := (r2 != 0)) (by kernel_rfl) (fun hc2 => ?_) (fun hc2 => ?_)
  ·replace h := h.1 hc2
   refine wpE_seq (rg (q0 (vi r2) (q0 r1.v (q0 (vi (r1.len : Int)) (q0 (vi 0) (q0 (vi r2) (q0 (vi (r1.len : Int)) (wpL_nil (th_n (wpE_ret (th_r ?_)))))))))))
   refine res3 (.inl rfl) Try.results18 (v := (vi 0)) (by kernel_rfl) (v' := (vi r2)) (by kernel_rfl) (v'' := (vi (r1.len : Int))) (by kernel_rfl) ?_
   exact ⟨0, r2, (r1.len : Int), rfl, h⟩
  ·replace h := h.2 hc2
   refine wpE_skip (th_n (wpE_seq (rg (q0 r1.v (q0 r1.v (q0 (vi (r1.len : Int)) (q0 (vi (IntKind.i64.wrap ((r1.len : Int) - 1))) ?_)))))))
   obtain ⟨a1, hv2, h⟩ := h
   refine q2 (vp (some a1)) (x_indexAddr (s := r1) (k := .i64) (i := (IntKind.i64.wrap ((r1.len : Int) - 1))) (by kernel_rfl) (by kernel_rfl) (Try.runUnderlying30 _) (Try.sizeOf38 _) hv2) ?_
   obtain ⟨v1, hv1, h⟩ := h
   refine q2 (vi v1) (xl (Try.isAgg38 _) hv1) (q0 (vi v1) (q0 (vi 0) (q0 (vi 0) (wpL_nil (th_n (wpE_ret (res3 (.inl rfl) Try.results18 (v := (vi v1)) (by kernel_rfl) (v' := (vi 0)) (by kernel_rfl) (v'' := (vi 0)) (by kernel_rfl) ?_)))))))
   exact ⟨v1, 0, 0, rfl, h⟩
def m_recipe_For_l1 (p1 : Option Addr) (r1 r3 l1 : Sl) (x1 : Int) (w0 : World) (Hl1 : Nat → Prop) (wl1 : World) (Kc1 : Sl → Int → (Nat → Prop) → World → Prop) (K : Sl → Bool → World → Prop) : Prop :=
 Br (decide (x1 < (r1.len : Int)))
  (∃ a1 : Addr, At r1 x1 4 a1 ∧
  ∃ aR aM : Int, ∃ aN aS : Int, Row wl1 a1 [(vi aR), (vi aM), (vi aN), (vi aS)] ∧
  ∀ (H3 : Nat → Prop) (w6 : World), Hst w0 Hl1 wl1 H3 w6 →
  Calls Try.prog 86 #[(vp p1), r3.v, (.agg #[(vi aR), (vi aM), (vi aN), (vi aS)])] w6 (fun e w7 => ∃ aT aG : Int, ∃ aH aI : Int, ∃ aJ : ByteArray, e = .returned (.agg #[(vi aT), (vi aG), (vi aH), (vu aI), (vs aJ)]) ∧ 
   Kept H3 w6 w7 ∧
   ∀ (p3 : Addr) (w8 : World), New w7 (.cells #[(vi aT), (vi aG), (vi aH), (vu aI), (vs aJ)] 103) p3 w8 →
   ∃ s1 : Sl, ∃ w9 : World, (Builtin.append_ #[23, 23] 23 #[l1.v, (Sl.mk (some p3) 1 1).v]).run Try.prog w8 = .ok s1.v w9 ∧
   Kept H3 w8 w9 ∧
   Kc1 s1 (IntKind.i64.wrap (x1 + 1)) H3 w9))
  (K l1 true wl1)
def m_recipe_For (p1 : Option Addr) (k1 : Option Addr) (t1 : Int) (w0 : World) (K : Sl → Bool → World → Prop) : Prop :=
 Br ((Option.isNone p1) || (Option.isNone k1))
  (∀ (H1 : Nat → Prop) (w1 : World), Hst w0 None w0 H1 w1 →
  K Sl.nil false w1)
  (∀ (H1 : Nat → Prop) (w1 : World), Hst w0 None w0 H1 w1 →
  Calls Try.prog 37 #[(vp k1), (vi t1)] w1 (fun e w2 => ∃ r1 : Sl, ∃ r2 : Bool, e = .returned (.tuple #[r1.v, (vb r2)]) ∧ 
   Kept H1 w1 w2 ∧
   Br ((!r2) || (decide ((r1.len : Int) > 256)))
    (∀ (H2 : Nat → Prop) (w3 : World), Hst w0 H1 w2 H2 w3 →
    K Sl.nil false w3)
    (∀ (H2 : Nat → Prop) (w3 : World), Hst w0 H1 w2 H2 w3 →
    Calls Try.prog 57 #[(vp k1)] w3 (fun e w4 => ∃ r3 : Sl, e = .returned r3.v ∧ 
     Kept H2 w3 w4 ∧
     ∃ (I1 : Sl → Int → (Nat → Prop) → World → Prop) (mu1 : Sl → Int → World → Nat), I1 Sl.nil 0 H2 w4 ∧
      ∀ (l1 : Sl) (x1 : Int) (Hl1 : Nat → Prop) (wl1 : World), Hst w0 Hl1 wl1 Hl1 wl1 → I1 l1 x1 Hl1 wl1 → m_recipe_For_l1 p1 r1 r3 l1 x1 w0 Hl1 wl1 (fun y'0 y'1 H' w' => I1 y'0 y'1 H' w' ∧ mu1 y'0 y'1 w' < mu1 l1 x1 wl1) K))))
theorem w_recipe_For (p1 : Option Addr) (k1 : Option Addr) (t1 : Int) (w0 : World) (K : Sl → Bool → World → Prop) (h : m_recipe_For p1 k1 t1 w0 K) :
  Calls Try.prog 38 #[(vp p1), (vp k1), (vi t1)] w0 (fun e w' => ∃ r4 : Sl, ∃ r5 : Bool, e = .returned (.tuple #[r4.v, (vb r5)]) ∧ K r4 r5 w') := by
 unfold m_recipe_For at h
 refine calls_of_wpE (args := [(vp p1), (vp k1), (vi t1)]) Try.func38 rfl Try.ntmps38 (Nat.le_of_ble_eq_true rfl) ?_
 have hs := Hst.start w0
 have hb := HB.nil None w0
 refine wpE_seq (rg (q0 Sl.nil.v (q0 (vb false) (wpL_nil (th_n (wpE_seq (wpE_seq ?_)))))))
 refine wpE_via (fun ρ wJ => ∃ b1'0 : Bool, ∃ HJ : Nat → Prop, ((Option.isNone p1) = b1'0) ∧ Hst w0 None w0 HJ wJ ∧ HB HJ wJ [] ∧ Has ρ [(0, (vp p1)), (1, (vp k1)), (2, (vi t1)), (19, (vb (b1'0 || (Option.isNone k1))))]) ?_ ?_
 ·skip
  refine rg (q0 (vp p1) (q2 (vb (Option.isNone p1)) (x_ptreq (by kernel_rfl) rfl Try.underlying32) (q0 (vb (Option.isNone p1)) ?_)))
  rcases Bool.eq_false_or_eq_true (Option.isNone p1) with hg2 | hg2
  ·skip
   refine sk (yD 16 hg2) (sk (yD 16 hg2) (q2 (vb true) (xT hg2) (wpL_nil (th_n ?_))))
   exact ⟨true, _, hg2, hs, hb, Has.mk (by kernel_rfl)⟩
  ·skip
   refine q1 (vp k1) (want1 rfl (yD 16 hg2)) (stp (v := (vb (Option.isNone k1))) (want1 rfl (yD 16 hg2)) (x_ptreq (by kernel_rfl) rfl Try.underlying33) (q2 (vb (Option.isNone k1)) (xF hg2) (wpL_nil (th_n ?_))))
   exact ⟨false, _, hg2, hs, hb, Has.mk (by kernel_rfl)⟩
 ·clear hs hb
  rintro ρ w1 ⟨b1'0, H1, he0, hs, hb, hH⟩
  subst he0
  refine norm_has hH ?_
  clear hH
  refine th_n ?_
  refine wpE_cond (t := ((Option.isNone p1) || (Option.isNone k1))) (by kernel_rfl) (fun hc1 => ?_) (fun hc1 => ?_)
  ·replace h := h.1 hc1
   refine wpE_seq (rg (q0 Sl.nil.v (q0 (vb false) (wpL_nil (th_n (wpE_ret (th_r ?_)))))))
   replace h := h H1 w1 hs
   replace hs := hs.here
   refine res2 (.inl rfl) Try.results38 (v := Sl.nil.v) (by kernel_rfl) (v' := (vb false)) (by kernel_rfl) ?_
   exact ⟨Sl.nil, false, rfl, h⟩
  ·replace h := h.2 hc1
   refine wpE_skip (th_n (wpE_seq (rg (q0 (vp k1) (q0 (vi t1) ?_)))))
   replace h := h H1 w1 hs
   replace hs := hs.here
   refine st_call (want0 rfl) (xc Try.call37) (h.mono ?_)
   rintro e w2 ⟨r1, r2, rfl, hk, h⟩
   refine ⟨_, rfl, ?_⟩
   obtain ⟨hs, hb⟩ := hk.hh hs hb
   refine q0 (.tuple #[r1.v, (vb r2)]) (q0 r1.v (q0 (vb r2) (q0 r1.v (q0 (vb r2) (wpL_nil (th_n (wpE_seq (wpE_seq ?_))))))))
   refine wpE_via (fun ρ wJ => ∃ b2'0 : Bool, ∃ HJ : Nat → Prop, ((!r2) = b2'0) ∧ Hst w0 H1 w2 HJ wJ ∧ HB HJ wJ [] ∧ Has ρ [(0, (vp p1)), (1, (vp k1)), (8, r1.v), (32, (vb (b2'0 || (decide ((r1.len : Int) > 256)))))]) ?_ ?_
   ·skip
    refine rg (q0 (vb r2) (q0 (vb (!r2)) (q0 (vb (!r2)) ?_)))
    rcases Bool.eq_false_or_eq_true (!r2) with hg4 | hg4
    ·skip
     refine sk (yD 28 hg4) (sk (yD 28 hg4) (sk (yD 28 hg4) (q2 (vb true) (xT hg4) (wpL_nil (th_n ?_)))))
     exact ⟨true, _, hg4, hs, hb, Has.mk (by kernel_rfl)⟩
    ·skip
     refine q1 r1.v (want1 rfl (yD 28 hg4)) (q1 (vi (r1.len : Int)) (want1 rfl (yD 28 hg4)) (q1 (vb (decide ((r1.len : Int) > 256))) (want1 rfl (yD 28 hg4)) (q2 (vb (decide ((r1.len : Int) > 256))) (xF hg4) (wpL_nil (th_n ?_)))))
     exact ⟨false, _, hg4, hs, hb, Has.mk (by kernel_rfl)⟩
   ·clear hs hb
    rintro ρ w3 ⟨b2'0, H2, he0, hs, hb, hH⟩
    subst he0
    refine norm_has hH ?_
    clear hH
    refine th_n ?_
    refine wpE_cond (t := ((!r2) || (decide ((r1.len : Int) > 256)))) (by kernel_rfl) (fun hc2 => ?_) (fun hc2 => ?_)
    ·replace h := h.1 hc2
     refine wpE_seq (rg (q0 Sl.nil.v (q0 (vb false) (wpL_nil (th_n (wpE_ret (th_r ?_)))))))
     replace h := h H2 w3 hs
     replace hs := hs.here
     refine res2 (.inl rfl) Try.results38 (v := Sl.nil.v) (by kernel_rfl) (v' := (vb false)) (by kernel_rfl) ?_
     exact ⟨Sl.nil, false, rfl, h⟩
    ·replace h := h.2 hc2
     refine wpE_skip (th_n (wpE_seq (rg (q0 Sl.nil.v (wpL_nil (th_n (wpE_seq (rg (q0 (vp k1) ?_)))))))))
     replace h := h H2 w3 hs
     replace hs := hs.here
     refine st_call (want0 rfl) (xc Try.call57) (h.mono ?_)
     rintro e w4 ⟨r3, rfl, hk, h⟩
     refine ⟨_, rfl, ?_⟩
     obtain ⟨hs, hb⟩ := hk.hh hs hb
     refine q0 r3.v (wpL_nil (th_n (wpE_seq (wpE_seq (rg (q0 r1.v (q0 (vi (r1.len : Int)) (q0 (vi 0) (wpL_nil (th_n (wpE_block ?_)))))))))))
     obtain ⟨I1, mu1, h0, hr⟩ := h
     refine wpE_loop (σ := Sl × Int × (Nat → Prop) × World) (fun s ρ w => w = s.2.2.2 ∧ Has ρ [(0, (vp p1)), (10, s.1.v), (11, r3.v), (35, r1.v), (36, (vi (r1.len : Int))), (37, (vi s.2.1))] ∧ Hst w0 s.2.2.1 w s.2.2.1 w ∧ HB s.2.2.1 w [] ∧ I1 s.1 s.2.1 s.2.2.1 s.2.2.2) (fun s => mu1 s.1 s.2.1 s.2.2.2) (Sl.nil, 0, H2, w4) ⟨rfl, Has.mk (by kernel_rfl), hs, hb, h0⟩ ?_
     clear hs hb
     rintro ⟨l1, x1, Hl1, wl1⟩ ρ w ⟨hw, hH, hs, hb, hI⟩
     obtain rfl : wl1 = w := (show w = wl1 from hw).symm
     replace hH : Has ρ [(0, (vp p1)), (10, l1.v), (11, r3.v), (35, r1.v), (36, (vi (r1.len : Int))), (37, (vi x1))] := hH
     replace hs : Hst w0 Hl1 wl1 Hl1 wl1 := hs
     replace hb : HB Hl1 wl1 [] := hb
     have h := hr l1 x1 Hl1 wl1 hs hI
     clear hr h0
     unfold m_recipe_For_l1 at h
     refine wpE_has hH ?_
     clear hH hI
     refine wpE_seq (rg (q0 (vb (decide (x1 < (r1.len : Int)))) (wpL_nil (th_n (wpE_seq ?_)))))
     refine wpE_cond (t := (decide (x1 < (r1.len : Int)))) (by kernel_rfl) (fun hc3 => ?_) (fun hc3 => ?_)
     ·replace h := h.1 hc3
      refine wpE_skip (th_n (wpE_seq (wpE_block (wpE_seq (rg ?_)))))
      obtain ⟨a1, hv3, h⟩ := h
      refine q2 (vp (some a1)) (x_indexAddr (s := r1) (k := .i64) (i := x1) (by kernel_rfl) (by kernel_rfl) (Try.runUnderlying73 _) (Try.sizeOf136 _) hv3) ?_
      obtain ⟨aR, aM, aN, aS, hv2, h⟩ := h
      refine q2 (.agg #[(vi aR), (vi aM), (vi aN), (vi aS)]) (x_loadA (a := a1) (vs := [(vi aR), (vi aM), (vi aN), (vi aS)]) (by kernel_rfl) (Try.isAgg136 _) (Try.sizeOf136 _) rfl hv2) (sn (O := (.cells #[(vi 0), (vi 0), (vi 0), (vi 0)] 136)) (x_alloc (Try.zeroValue136 _) rfl) ?_)
      intro p2 w5 hn1
      obtain ⟨H3, hs, hb⟩ := hs.alloc hb hn1
      refine st_set (want0 rfl) (x_storeA (a := p2) (vs := [(vi aR), (vi aM), (vi aN), (vi aS)]) (by kernel_rfl) (by kernel_rfl) rfl (Try.sizeOf136 _) rfl (hb.canWs0 0 4 gZ (by kernel_rfl))) ?_
      intro w6 hn2
      have hsb : Hst w0 Hl1 wl1 H3 w6 ∧ HB H3 w6 [(p2, [(vi aR), (vi aM), (vi aN), (vi aS)], 136)] := by
       rw [hn2]
       exact hb.store0 (i := 0) (vs := [(vi aR), (vi aM), (vi aN), (vi aS)]) hs gZ (by kernel_rfl) (by kernel_rfl)
      clear hs hb hn2
      obtain ⟨hs, hb⟩ := hsb
      refine wpL_nil (th_n (rg (q0 l1.v (q0 (vp p1) (q0 r3.v (q2 (.agg #[(vi aR), (vi aM), (vi aN), (vi aS)]) (x_loadA (a := p2) (vs := [(vi aR), (vi aM), (vi aN), (vi aS)]) (by kernel_rfl) (Try.isAgg136 _) (Try.sizeOf136 _) rfl (hb.row0 0 4 gZ (by kernel_rfl))) ?_))))))
      replace h := h H3 w6 hs
      replace hs := hs.here
      refine st_call (want0 rfl) (xc Try.call86) (h.mono ?_)
      rintro e w7 ⟨aT, aG, aH, aI, aJ, rfl, hk, h⟩
      refine ⟨_, rfl, ?_⟩
      obtain ⟨hs, hb⟩ := hk.hh hs hb
      refine st_new (O := (.cells #[(vi aT), (vi aG), (vi aH), (vu aI), (vs aJ)] 103)) (fun p => (Sl.mk (some p) 1 1).v) (want0 rfl) (x_buildSlice (vs := #[(0, (.agg #[(vi aT), (vi aG), (vi aH), (vu aI), (vs aJ)]))]) (by kernel_rfl) (by kernel_rfl)) ?_
      intro p3 w8 hn3
      replace h := h p3 w8 hn3
      replace hs := hs.again (Ext.new (F := None) hn3).keptP
      replace hb := hb.kept (Ext.new (F := None) hn3).keptP
      obtain ⟨s1, w9, hv1, hk, h⟩ := h
      refine st (v := s1.v) (want0 rfl) (x_builtin (args := #[l1.v, (Sl.mk (some p3) 1 1).v]) (by kernel_rfl) (fun _ => rfl) hv1) ?_
      obtain ⟨hs, hb⟩ := hk.hh hs hb
      refine q0 s1.v (wpL_nil (bl_n (th_n (rg (q0 (vi (IntKind.i64.wrap (x1 + 1))) (q0 (vi (IntKind.i64.wrap (x1 + 1))) (wpL_nil (th_n ?_))))))))
      exact ⟨(s1, (IntKind.i64.wrap (x1 + 1)), H3, w9), ⟨rfl, Has.mk (by kernel_rfl), hs, hb.drop 1, h.1⟩, h.2⟩
     ·replace h := h.2 hc3
      refine wpE_exit (th_x (th_x (bl_eq (th_n (wpE_seq (rg (q0 l1.v (q0 l1.v (q0 (vb true) (wpL_nil (th_n ?_)))))))))))
      refine wpE_ret (res2 (.inl rfl) Try.results38 (v := l1.v) (by kernel_rfl) (v' := (vb true)) (by kernel_rfl) ?_)
      exact ⟨l1, true, rfl, h⟩
def m_recipe_cook_kitchen_1_j1 (aA : Int) (cap1 : Addr) (x1 : Bool) (w0 : World) (H : Nat → Prop) (w : World) (K : Int → Int → World → Prop) : Prop :=
 Br x1
  (K 0 90 w)
  (∀ (w2 : World), Hst w0 H w H w2 →
  ∃ v1 : Option Addr, w2.cell? cap1 = some (vp v1) ∧
  ∃ a1 : Addr, v1 = some a1 ∧
  ∃ v2 : Sl, w2.cell? (a1.add 1) = some v2.v ∧
  ∃ a2 : Addr, At v2 aA 1 a2 ∧
  ∃ v3 : Int, w2.cell? a2 = some (vi v3) ∧
  K v3 0 w2)
def m_recipe_cook_kitchen_1 (aE aA : Int) (aB aC : Int) (aD : ByteArray) (cap1 : Addr) (w0 : World) (K : Int → Int → World → Prop) : Prop :=
 Br (decide (aA < 0))
  (∀ (H1 : Nat → Prop) (w3 : World), Hst w0 None w0 H1 w3 →
  m_recipe_cook_kitchen_1_j1 aA cap1 true w0 H1 w3 K)
  (∀ (H1 : Nat → Prop) (w3 : World), Hst w0 None w0 H1 w3 →
  ∃ v4 : Option Addr, w3.cell? cap1 = some (vp v4) ∧
  ∃ a3 : Addr, v4 = some a3 ∧
  ∃ v5 : Sl, w3.cell? (a3.add 1) = some v5.v ∧
  m_recipe_cook_kitchen_1_j1 aA cap1 (decide (aA ≥ (v5.len : Int))) w0 H1 w3 K)
theorem w_recipe_cook_kitchen_1 (aE aA : Int) (aB aC : Int) (aD : ByteArray) (cap1 : Addr) (w0 : World) (K : Int → Int → World → Prop) (h : m_recipe_cook_kitchen_1 aE aA aB aC aD cap1 w0 K) :
  Calls Try.prog 138 #[(.agg #[(vi aE), (vi aA), (vi aB), (vu aC), (vs aD)]), (vp (some cap1))] w0 (fun e w' => ∃ r1 r2 : Int, e = .returned (.tuple #[(vi r1), (vi r2)]) ∧ K r1 r2 w') := by
 unfold m_recipe_cook_kitchen_1 at h
 refine calls_of_wpE (args := [(.agg #[(vi aE), (vi aA), (vi aB), (vu aC), (vs aD)]), (vp (some cap1))]) Try.func138 rfl Try.ntmps138 (Nat.le_of_ble_eq_true rfl) ?_
 have hs := Hst.start w0
 have hb := HB.nil None w0
 refine wpE_seq (rg (sn (O := (.cells #[(vi aE), (vi aA), (vi aB), (vu aC), (vs aD)] 103)) xb ?_))
 intro p1 w1 hn1
 obtain ⟨H1, hs, hb⟩ := hs.alloc hb hn1
 refine q0 (vi 0) (q0 (vi 0) (wpL_nil (th_n (wpE_seq (wpE_seq ?_)))))
 refine wpE_joinT (fun ρ w => ∃ x1 : Bool, ∃ H : Nat → Prop, Has ρ [(1, (vp (some cap1))), (2, (vp (some p1))), (17, (vb x1))] ∧ Hst w0 H w H w ∧ HB H w [(p1, [(vi aE), (vi aA), (vi aB), (vu aC), (vs aD)], 103)] ∧ m_recipe_cook_kitchen_1_j1 aA cap1 x1 w0 H w K) ?_ ?_
 ·clear h hs hb
  rintro ρ w ⟨x1, H, hH, hs, hb, h⟩
  unfold m_recipe_cook_kitchen_1_j1 at h
  refine wpE_has hH ?_
  clear hH
  refine wpE_cond (t := x1) (by kernel_rfl) (fun hc1 => ?_) (fun hc1 => ?_)
  ·replace h := h.1 hc1
   refine wpE_seq (rg (q0 (vi 0) (q0 (vi 90) (wpL_nil (th_n (wpE_ret (th_r (res2 (.inl rfl) Try.results138 (v := (vi 0)) (by kernel_rfl) (v' := (vi 90)) (by kernel_rfl) ?_))))))))
   exact ⟨0, 90, rfl, h⟩
  ·replace h := h.2 hc1
   refine wpE_skip (th_n (wpE_seq (wpE_drawnQ (by kernel_rfl) (by kernel_rfl) (by kernel_rfl) (by kernel_rfl) ?_)))
   intro w2 hw2
   replace hs : Hst w0 H w H w2 := by rw [hw2]; exact hs.drew
   replace hb : HB H w2 [(p1, [(vi aE), (vi aA), (vi aB), (vu aC), (vs aD)], 103)] := by rw [hw2]; exact hb.drew
   clear hw2
   refine qgo (k := 0) (by kernel_rfl) ?_
   replace h := h w2 hs
   replace hs := hs.here
   obtain ⟨v1, hv4, h⟩ := h
   refine sxQ (v := (vp v1)) Kp0 (want0 rfl) rfl (xl (Try.isAgg169 _) hv4) (qgo (k := 1) (by kernel_rfl) ?_)
   obtain ⟨a1, hp1, h⟩ := h
   refine sxQ (v := (vp (some a1))) Kp1 (want0 rfl) rfl (x_nilCheck (p := v1) (by kernel_rfl) hp1) (qq 2 (vp (some (a1.add 1))) Kp2 (qgo (k := 3) (by kernel_rfl) ?_))
   obtain ⟨v2, hv3, h⟩ := h
   refine sxQ (v := v2.v) Kp3 (want0 rfl) rfl (xl (Try.isAgg30 _) hv3) (qq 4 (vp (some (p1.add 1))) Kp4 (qr 5 (vi aA) Kp5 (xl (Try.isAgg3 _) (hb.c 0 1 gZ)) (qgo (k := 6) (by kernel_rfl) ?_)))
   obtain ⟨a2, hv2, h⟩ := h
   refine sxQ (v := (vp (some a2))) Kp6 (want0 rfl) rfl (x_indexAddr (s := v2) (k := .i64) (i := aA) (by kernel_rfl) (by kernel_rfl) (Try.runUnderlying30 _) (Try.sizeOf38 _) hv2) (qgo (k := 7) (by kernel_rfl) ?_)
   obtain ⟨v3, hv1, h⟩ := h
   refine sxQ (v := (vi v3)) Kp7 (want0 rfl) rfl (xl (Try.isAgg38 _) hv1) (qq 8 (vi v3) Kp8 (qq 9 (vi 0) Kp9 (wpX_nil (by kernel_rfl) (th_n (wpE_ret (res2 (.inl rfl) Try.results138 (v := (vi v3)) (by kernel_rfl) (v' := (vi 0)) (by kernel_rfl) ?_))))))
   exact ⟨v3, 0, rfl, h⟩
 ·skip
  refine wpE_drawnQ (by kernel_rfl) (by kernel_rfl) (by kernel_rfl) (by kernel_rfl) ?_
  intro w3 hw3
  replace hs : Hst w0 None w0 H1 w3 := by rw [hw3]; exact hs.drew
  replace hb : HB H1 w3 [(p1, [(vi aE), (vi aA), (vi aB), (vu aC), (vs aD)], 103)] := by rw [hw3]; exact hb.drew
  clear hw3
  refine qq 0 (vp (some (p1.add 1))) Kp0 (qr 1 (vi aA) Kp1 (xl (Try.isAgg3 _) (hb.c 0 1 gZ)) (qq 2 (vb (decide (aA < 0))) Kp2 (qq 3 (vb (decide (aA < 0))) Kp3 (qgo (k := 4) (by kernel_rfl) ?_))))
  rcases Bool.eq_false_or_eq_true (decide (aA < 0)) with hg1 | hg1
  ·replace h := h.1 hg1
   refine sx_not Kp4 (unwant rfl (yD 8 hg1) rfl) (qn 5 Kp5 (unwant rfl (yD 8 hg1) rfl) (qn 6 Kp6 (unwant rfl (yD 8 hg1) rfl) (qn 7 Kp7 (unwant rfl (yD 8 hg1) rfl) (qn 8 Kp8 (unwant rfl (yD 8 hg1) rfl) (qn 9 Kp9 (unwant rfl (yD 8 hg1) rfl) (qn 10 (pickA (S8 (pickS (pickS pickZ)))) (unwant rfl (yD 8 hg1) rfl) (qn 11 (pickA (S8 (pickS (pickS (pickS pickZ))))) (unwant rfl (yD 8 hg1) rfl) (qr 12 (vb true) (pickA (S8 (S4 pickZ))) (xT hg1) (wpX_nil (by kernel_rfl) ?_)))))))))
   replace h := h H1 w3 hs
   replace hs := hs.here
   refine th_n ?_
   exact ⟨true, H1, Has.mk (by kernel_rfl), hs, hb, h⟩
  ·replace h := h.2 hg1
   refine sxQ (v := (vp (some (p1.add 1)))) Kp4 (want1 rfl (yD 8 hg1)) rfl (by kernel_rfl) (qgo (k := 5) (by kernel_rfl) (sxQ (v := (vi aA)) Kp5 (want1 rfl (yD 8 hg1)) rfl (xl (Try.isAgg3 _) (hb.c 0 1 gZ)) (qgo (k := 6) (by kernel_rfl) ?_)))
   replace h := h H1 w3 hs
   replace hs := hs.here
   obtain ⟨v4, hv6, h⟩ := h
   refine sxQ (v := (vp v4)) Kp6 (want1 rfl (yD 8 hg1)) rfl (xl (Try.isAgg169 _) hv6) (qgo (k := 7) (by kernel_rfl) ?_)
   obtain ⟨a3, hp2, h⟩ := h
   refine sxQ (v := (vp (some a3))) Kp7 (want1 rfl (yD 8 hg1)) rfl (x_nilCheck (p := v4) (by kernel_rfl) hp2) (qgo (k := 8) (by kernel_rfl) (sxQ (v := (vp (some (a3.add 1)))) Kp8 (want1 rfl (yD 8 hg1)) rfl (by kernel_rfl) (qgo (k := 9) (by kernel_rfl) ?_)))
   obtain ⟨v5, hv5, h⟩ := h
   refine sxQ (v := v5.v) Kp9 (want1 rfl (yD 8 hg1)) rfl (xl (Try.isAgg30 _) hv5) (qgo (k := 10) (by kernel_rfl) (sxQ (v := (vi (v5.len : Int))) (pickA (S8 (pickS (pickS pickZ)))) (want1 rfl (yD 8 hg1)) rfl (by kernel_rfl) (qgo (k := 11) (by kernel_rfl) (sxQ (v := (vb (decide (aA ≥ (v5.len : Int))))) (pickA (S8 (pickS (pickS (pickS pickZ))))) (want1 rfl (yD 8 hg1)) rfl (by kernel_rfl) (qr 12 (vb (decide (aA ≥ (v5.len : Int)))) (pickA (S8 (S4 pickZ))) (xF hg1) (wpX_nil (by kernel_rfl) (th_n ?_)))))))
   exact ⟨(decide (aA ≥ (v5.len : Int))), H1, Has.mk (by kernel_rfl), hs, hb, h⟩
def m_recipe_cook_kitchen_2 (aE aA : Int) (aB aC : Int) (aD : ByteArray) (cap1 : Addr) (w0 : World) (K : Int → Int → World → Prop) : Prop :=
 ∀ (H1 : Nat → Prop) (w1 : World), Hst w0 None w0 H1 w1 →
 ∃ v1 : Option Addr, w1.cell? cap1 = some (vp v1) ∧
 Calls Try.prog 67 #[(vp v1), (vi aA)] w1 (fun e w2 => ∃ r1 r2 : Int, e = .returned (.tuple #[(vi r1), (vi r2)]) ∧ 
  Kept H1 w1 w2 ∧
  K r1 r2 w2)
theorem w_recipe_cook_kitchen_2 (aE aA : Int) (aB aC : Int) (aD : ByteArray) (cap1 : Addr) (w0 : World) (K : Int → Int → World → Prop) (h : m_recipe_cook_kitchen_2 aE aA aB aC aD cap1 w0 K) :
  Calls Try.prog 139 #[(.agg #[(vi aE), (vi aA), (vi aB), (vu aC), (vs aD)]), (vp (some cap1))] w0 (fun e w' => ∃ r3 r4 : Int, e = .returned (.tuple #[(vi r3), (vi r4)]) ∧ K r3 r4 w') := by
 unfold m_recipe_cook_kitchen_2 at h
 refine calls_of_wpE (args := [(.agg #[(vi aE), (vi aA), (vi aB), (vu aC), (vs aD)]), (vp (some cap1))]) Try.func139 rfl Try.ntmps139 (Nat.le_of_ble_eq_true rfl) ?_
 have hs := Hst.start w0
 have hb := HB.nil None w0
 refine wpE_seq (rg (sn (O := (.cells #[(vi aE), (vi aA), (vi aB), (vu aC), (vs aD)] 103)) xb ?_))
 intro p1 w1 hn1
 obtain ⟨H1, hs, hb⟩ := hs.alloc hb hn1
 refine q0 (vi 0) (q0 (vi 0) (wpL_nil (th_n (wpE_seq (rg ?_)))))
 replace h := h H1 w1 hs
 replace hs := hs.here
 obtain ⟨v1, hv1, h⟩ := h
 refine q2 (vp v1) (xl (Try.isAgg32 _) hv1) (q0 (vp (some (p1.add 1))) (q2 (vi aA) (xl (Try.isAgg3 _) (hb.c 0 1 gZ)) ?_))
 refine st_call (want0 rfl) (xc Try.call67) (h.mono ?_)
 rintro e w2 ⟨r1, r2, rfl, hk, h⟩
 refine ⟨_, rfl, ?_⟩
 obtain ⟨hs, hb⟩ := hk.hh hs hb
 refine q0 (vi r1) (q0 (vi r2) (q0 (vi r1) (q0 (vi r2) (wpL_nil (th_n (wpE_ret (res2 (.inl rfl) Try.results139 (v := (vi r1)) (by kernel_rfl) (v' := (vi r2)) (by kernel_rfl) ?_)))))))
 exact ⟨r1, r2, rfl, h⟩
def m_recipe_cook_kitchen_3 (aE aA : Int) (aB aC : Int) (aD : ByteArray) (cap1 : Addr) (w0 : World) (K : Int → Int → World → Prop) : Prop :=
 ∀ (H1 : Nat → Prop) (w1 : World), Hst w0 None w0 H1 w1 →
 ∃ v1 : Option Addr, w1.cell? cap1 = some (vp v1) ∧
 Calls Try.prog 94 #[(vp v1), (vu aC)] w1 (fun e w2 => ∃ r1 r2 : Int, e = .returned (.tuple #[(vi r1), (vi r2)]) ∧ 
  Kept H1 w1 w2 ∧
  K r1 r2 w2)
theorem w_recipe_cook_kitchen_3 (aE aA : Int) (aB aC : Int) (aD : ByteArray) (cap1 : Addr) (w0 : World) (K : Int → Int → World → Prop) (h : m_recipe_cook_kitchen_3 aE aA aB aC aD cap1 w0 K) :
  Calls Try.prog 140 #[(.agg #[(vi aE), (vi aA), (vi aB), (vu aC), (vs aD)]), (vp (some cap1))] w0 (fun e w' => ∃ r3 r4 : Int, e = .returned (.tuple #[(vi r3), (vi r4)]) ∧ K r3 r4 w') := by
 unfold m_recipe_cook_kitchen_3 at h
 refine calls_of_wpE (args := [(.agg #[(vi aE), (vi aA), (vi aB), (vu aC), (vs aD)]), (vp (some cap1))]) Try.func140 rfl Try.ntmps140 (Nat.le_of_ble_eq_true rfl) ?_
 have hs := Hst.start w0
 have hb := HB.nil None w0
 refine wpE_seq (rg (sn (O := (.cells #[(vi aE), (vi aA), (vi aB), (vu aC), (vs aD)] 103)) xb ?_))
 intro p1 w1 hn1
 obtain ⟨H1, hs, hb⟩ := hs.alloc hb hn1
 refine q0 (vi 0) (q0 (vi 0) (wpL_nil (th_n (wpE_seq (rg ?_)))))
 replace h := h H1 w1 hs
 replace hs := hs.here
 obtain ⟨v1, hv1, h⟩ := h
 refine q2 (vp v1) (xl (Try.isAgg32 _) hv1) (q0 (vp (some (p1.add 3))) (q2 (vu aC) (xl (Try.isAgg44 _) (hb.c 0 3 gZ)) ?_))
 refine st_call (want0 rfl) (xc Try.call94) (h.mono ?_)
 rintro e w2 ⟨r1, r2, rfl, hk, h⟩
 refine ⟨_, rfl, ?_⟩
 obtain ⟨hs, hb⟩ := hk.hh hs hb
 refine q0 (vi r1) (q0 (vi r2) (q0 (vi r1) (q0 (vi r2) (wpL_nil (th_n (wpE_ret (res2 (.inl rfl) Try.results140 (v := (vi r1)) (by kernel_rfl) (v' := (vi r2)) (by kernel_rfl) ?_)))))))
 exact ⟨r1, r2, rfl, h⟩
def m_recipe_cook_kitchen_4 (aE aA : Int) (aB aC : Int) (aD : ByteArray) (cap1 : Addr) (w0 : World) (K : Int → Int → World → Prop) : Prop :=
 ∀ (H1 : Nat → Prop) (w1 : World), Hst w0 None w0 H1 w1 →
 ∃ v1 : Option Addr, w1.cell? cap1 = some (vp v1) ∧
 Calls Try.prog 142 #[(vp v1), (vs aD)] w1 (fun e w2 => ∃ r1 r2 : Int, e = .returned (.tuple #[(vi r1), (vi r2)]) ∧ 
  Kept H1 w1 w2 ∧
  K r1 r2 w2)
theorem w_recipe_cook_kitchen_4 (aE aA : Int) (aB aC : Int) (aD : ByteArray) (cap1 : Addr) (w0 : World) (K : Int → Int → World → Prop) (h : m_recipe_cook_kitchen_4 aE aA aB aC aD cap1 w0 K) :
  Calls Try.prog 141 #[(.agg #[(vi aE), (vi aA), (vi aB), (vu aC), (vs aD)]), (vp (some cap1))] w0 (fun e w' => ∃ r3 r4 : Int, e = .returned (.tuple #[(vi r3), (vi r4)]) ∧ K r3 r4 w') := by
 unfold m_recipe_cook_kitchen_4 at h
 refine calls_of_wpE (args := [(.agg #[(vi aE), (vi aA), (vi aB), (vu aC), (vs aD)]), (vp (some cap1))]) Try.func141 rfl Try.ntmps141 (Nat.le_of_ble_eq_true rfl) ?_
 have hs := Hst.start w0
 have hb := HB.nil None w0
 refine wpE_seq (rg (sn (O := (.cells #[(vi aE), (vi aA), (vi aB), (vu aC), (vs aD)] 103)) xb ?_))
 intro p1 w1 hn1
 obtain ⟨H1, hs, hb⟩ := hs.alloc hb hn1
 refine q0 (vi 0) (q0 (vi 0) (wpL_nil (th_n (wpE_seq (rg ?_)))))
 replace h := h H1 w1 hs
 replace hs := hs.here
 obtain ⟨v1, hv1, h⟩ := h
 refine q2 (vp v1) (xl (Try.isAgg32 _) hv1) (q0 (vp (some (p1.add 4))) (q2 (vs aD) (xl (Try.isAgg9 _) (hb.c 0 4 gZ)) ?_))
 refine st_call (want0 rfl) (xc Try.call142) (h.mono ?_)
 rintro e w2 ⟨r1, r2, rfl, hk, h⟩
 refine ⟨_, rfl, ?_⟩
 obtain ⟨hs, hb⟩ := hk.hh hs hb
 refine q0 (vi r1) (q0 (vi r2) (q0 (vi r1) (q0 (vi r2) (wpL_nil (th_n (wpE_ret (res2 (.inl rfl) Try.results141 (v := (vi r1)) (by kernel_rfl) (v' := (vi r2)) (by kernel_rfl) ?_)))))))
 exact ⟨r1, r2, rfl, h⟩
def m_recipe_cook_at (c1 : Option Addr) (i1 : Int) (w0 : World) (K : Int → Bool → World → Prop) : Prop :=
 Br (decide (i1 < 0))
  (K 0 false w0)
  (∃ a1 : Addr, c1 = some a1 ∧
  ∃ v1 : Sl, w0.cell? (a1.add 2) = some v1.v ∧
  Br (decide (i1 ≥ (v1.len : Int)))
   (K 0 false w0)
   (∃ a2 : Addr, c1 = some a2 ∧
   ∃ v2 : Sl, w0.cell? (a2.add 2) = some v2.v ∧
   ∃ a3 : Addr, At v2 i1 1 a3 ∧
   ∃ v3 : Int, w0.cell? a3 = some (vi v3) ∧
   K v3 true w0))
theorem w_recipe_cook_at (c1 : Option Addr) (i1 : Int) (w0 : World) (K : Int → Bool → World → Prop) (h : m_recipe_cook_at c1 i1 w0 K) :
  Calls Try.prog 144 #[(vp c1), (vi i1)] w0 (fun e w' => ∃ r1 : Int, ∃ r2 : Bool, e = .returned (.tuple #[(vi r1), (vb r2)]) ∧ K r1 r2 w') := by
 unfold m_recipe_cook_at at h
 refine calls_of_wpE (args := [(vp c1), (vi i1)]) Try.func144 rfl Try.ntmps144 (Nat.le_of_ble_eq_true rfl) (wpE_seq (rg (q0 (vi 0) (q0 (vb false) (wpL_nil (th_n (wpE_seq (wpE_seq (rg (q0 (vi i1) (q0 (vb (decide (i1 < 0))) ?_)))))))))))
 refine q0 (vb (decide (i1 < 0))) ?_
 rcases Bool.eq_false_or_eq_true (decide (i1 < 0)) with hg1 | hg1
 ·replace h := h.1 hg1
  refine sk (yD 8 hg1) (sk (yD 8 hg1) (sk (yD 8 hg1) (sk (yD 8 hg1) (sk (yD 8 hg1) (sk (yD 8 hg1) (sk (yD 8 hg1) (q2 (vb true) (xT hg1) (wpL_nil (th_n (wpE_condT (by kernel_rfl) (wpE_seq ?_)))))))))))
  refine rg (q0 (vi 0) (q0 (vb false) (wpL_nil (th_n (wpE_ret (th_r (res2 (.inl rfl) Try.results144 (v := (vi 0)) (by kernel_rfl) (v' := (vb false)) (by kernel_rfl) ?_)))))))
  exact ⟨0, false, rfl, h⟩
 ·replace h := h.2 hg1
  refine q1 (vi i1) (want1 rfl (yD 8 hg1)) (q1 (vp c1) (want1 rfl (yD 8 hg1)) ?_)
  obtain ⟨a1, hp1, h⟩ := h
  refine stp (v := (vp (some a1))) (want1 rfl (yD 8 hg1)) (x_nilCheck (p := c1) (by kernel_rfl) hp1) (q1 (vp (some (a1.add 2))) (want1 rfl (yD 8 hg1)) ?_)
  obtain ⟨v1, hv4, h⟩ := h
  refine stp (v := v1.v) (want1 rfl (yD 8 hg1)) (xl (Try.isAgg30 _) hv4) (q1 (vi (v1.len : Int)) (want1 rfl (yD 8 hg1)) (q1 (vb (decide (i1 ≥ (v1.len : Int)))) (want1 rfl (yD 8 hg1)) (q2 (vb (decide (i1 ≥ (v1.len : Int)))) (xF hg1) (wpL_nil (th_n ?_)))))
  refine wpE_cond (t := (decide (i1 ≥ (v1.len : Int)))) (by kernel_rfl) (fun hc1 => ?_) (fun hc1 => ?_)
  ·replace h := h.1 hc1
   refine wpE_seq (rg (q0 (vi 0) (q0 (vb false) (wpL_nil (th_n (wpE_ret (th_r (res2 (.inl rfl) Try.results144 (v := (vi 0)) (by kernel_rfl) (v' := (vb false)) (by kernel_rfl) ?_))))))))
   exact ⟨0, false, rfl, h⟩
  ·replace h := h.2 hc1
   refine wpE_skip (th_n (wpE_seq (rg (q0 (vp c1) ?_))))
   obtain ⟨a2, hp2, h⟩ := h
   refine q2 (vp (some a2)) (x_nilCheck (p := c1) (by kernel_rfl) hp2) (q0 (vp (some (a2.add 2))) ?_)
   obtain ⟨v2, hv3, h⟩ := h
   refine q2 v2.v (xl (Try.isAgg30 _) hv3) (q0 (vi i1) ?_)
   obtain ⟨a3, hv2, h⟩ := h
   refine q2 (vp (some a3)) (x_indexAddr (s := v2) (k := .i64) (i := i1) (by kernel_rfl) (by kernel_rfl) (Try.runUnderlying30 _) (Try.sizeOf38 _) hv2) ?_
   obtain ⟨v3, hv1, h⟩ := h
   refine q2 (vi v3) (xl (Try.isAgg38 _) hv1) (q0 (vi v3) (q0 (vb true) (wpL_nil (th_n (wpE_ret (res2 (.inl rfl) Try.results144 (v := (vi v3)) (by kernel_rfl) (v' := (vb true)) (by kernel_rfl) ?_))))))
   exact ⟨v3, true, rfl, h⟩
def m_recipe_cook_kitchen_5 (aE aA : Int) (aB aC : Int) (aD : ByteArray) (cap1 cap2 : Addr) (w0 : World) (K : Int → Int → World → Prop) : Prop :=
 ∀ (H1 : Nat → Prop) (w1 : World), Hst w0 None w0 H1 w1 →
 ∃ v1 : Option Addr, w1.cell? cap1 = some (vp v1) ∧
 Calls Try.prog 144 #[(vp v1), (vi aA)] w1 (fun e w2 => ∃ r1 : Int, ∃ r2 : Bool, e = .returned (.tuple #[(vi r1), (vb r2)]) ∧ 
  Kept H1 w1 w2 ∧
  ∃ v2 : Option Addr, w2.cell? cap1 = some (vp v2) ∧
  Calls Try.prog 144 #[(vp v2), (vi aB)] w2 (fun e w3 => ∃ r3 : Int, ∃ r4 : Bool, e = .returned (.tuple #[(vi r3), (vb r4)]) ∧ 
   Kept H1 w2 w3 ∧
   Br ((!r2) || (!r4))
    (∀ (H2 : Nat → Prop) (w4 : World), Hst w0 H1 w3 H2 w4 →
    K 0 90 w4)
    (∀ (H2 : Nat → Prop) (w4 : World), Hst w0 H1 w3 H2 w4 →
    ∃ v3 : Option Addr, w4.cell? cap2 = some (vp v3) ∧
    Calls Try.prog 68 #[(vp v3), (vi r1), (vi r3)] w4 (fun e w5 => ∃ r5 r6 : Int, e = .returned (.tuple #[(vi r5), (vi r6)]) ∧ 
     Kept H2 w4 w5 ∧
     K r5 r6 w5))))
theorem w_recipe_cook_kitchen_5 (aE aA : Int) (aB aC : Int) (aD : ByteArray) (cap1 cap2 : Addr) (w0 : World) (K : Int → Int → World → Prop) (h : m_recipe_cook_kitchen_5 aE aA aB aC aD cap1 cap2 w0 K) :
  Calls Try.prog 143 #[(.agg #[(vi aE), (vi aA), (vi aB), (vu aC), (vs aD)]), (vp (some cap1)), (vp (some cap2))] w0 (fun e w' => ∃ r7 r8 : Int, e = .returned (.tuple #[(vi r7), (vi r8)]) ∧ K r7 r8 w') := by
 unfold m_recipe_cook_kitchen_5 at h
 refine calls_of_wpE (args := [(.agg #[(vi aE), (vi aA), (vi aB), (vu aC), (vs aD)]), (vp (some cap1)), (vp (some cap2))]) Try.func143 rfl Try.ntmps143 (Nat.le_of_ble_eq_true rfl) ?_
 have hs := Hst.start w0
 have hb := HB.nil None w0
 refine wpE_seq (rg (sn (O := (.cells #[(vi aE), (vi aA), (vi aB), (vu aC), (vs aD)] 103)) xb ?_))
 intro p1 w1 hn1
 obtain ⟨H1, hs, hb⟩ := hs.alloc hb hn1
 refine q0 (vi 0) (q0 (vi 0) (wpL_nil (th_n (wpE_seq (rg ?_)))))
 replace h := h H1 w1 hs
 replace hs := hs.here
 obtain ⟨v1, hv3, h⟩ := h
 refine q2 (vp v1) (xl (Try.isAgg169 _) hv3) (q0 (vp (some (p1.add 1))) (q2 (vi aA) (xl (Try.isAgg3 _) (hb.c 0 1 gZ)) ?_))
 refine st_call (want0 rfl) (xc Try.call144) (h.mono ?_)
 rintro e w2 ⟨r1, r2, rfl, hk, h⟩
 refine ⟨_, rfl, ?_⟩
 obtain ⟨hs, hb⟩ := hk.hh hs hb
 refine q0 (.tuple #[(vi r1), (vb r2)]) (q0 (vi r1) (q0 (vb r2) (q0 (vi r1) (q0 (vb r2) (wpL_nil (th_n (wpE_seq (rg ?_))))))))
 obtain ⟨v2, hv2, h⟩ := h
 refine q2 (vp v2) (xl (Try.isAgg169 _) hv2) (q0 (vp (some (p1.add 2))) (q2 (vi aB) (xl (Try.isAgg3 _) (hb.c 0 2 gZ)) ?_))
 refine st_call (want0 rfl) (xc Try.call144) (h.mono ?_)
 rintro e w3 ⟨r3, r4, rfl, hk, h⟩
 refine ⟨_, rfl, ?_⟩
 obtain ⟨hs, hb⟩ := hk.hh hs hb
 refine q0 (.tuple #[(vi r3), (vb r4)]) (q0 (vi r3) (q0 (vb r4) (q0 (vi r3) (q0 (vb r4) (wpL_nil (th_n (wpE_seq (wpE_seq ?_))))))))
 refine wpE_via (fun ρ wJ => ∃ b1'0 : Bool, ∃ HJ : Nat → Prop, ((!r2) = b1'0) ∧ Hst w0 H1 w3 HJ wJ ∧ HB HJ wJ [(p1, [(vi aE), (vi aA), (vi aB), (vu aC), (vs aD)], 103)] ∧ Has ρ [(2, (vp (some cap2))), (6, (vi r1)), (8, (vi r3)), (29, (vb (b1'0 || (!r4))))]) ?_ ?_
 ·skip
  refine rg (q0 (vb r2) (q0 (vb (!r2)) (q0 (vb (!r2)) ?_)))
  rcases Bool.eq_false_or_eq_true (!r2) with hg2 | hg2
  ·skip
   refine sk (yD 26 hg2) (sk (yD 26 hg2) (q2 (vb true) (xT hg2) (wpL_nil (th_n ?_))))
   exact ⟨true, _, hg2, hs, hb, Has.mk (by kernel_rfl)⟩
  ·skip
   refine q1 (vb r4) (want1 rfl (yD 26 hg2)) (q1 (vb (!r4)) (want1 rfl (yD 26 hg2)) (q2 (vb (!r4)) (xF hg2) (wpL_nil (th_n ?_))))
   exact ⟨false, _, hg2, hs, hb, Has.mk (by kernel_rfl)⟩
 ·clear hs hb
  rintro ρ w4 ⟨b1'0, H2, he0, hs, hb, hH⟩
  subst he0
  refine norm_has hH ?_
  clear hH
  refine th_n ?_
  refine wpE_cond (t := ((!r2) || (!r4))) (by kernel_rfl) (fun hc1 => ?_) (fun hc1 => ?_)
  ·replace h := h.1 hc1
   refine wpE_seq (rg (q0 (vi 0) (q0 (vi 90) (wpL_nil (th_n (wpE_ret (th_r ?_)))))))
   replace h := h H2 w4 hs
   replace hs := hs.here
   refine res2 (.inl rfl) Try.results143 (v := (vi 0)) (by kernel_rfl) (v' := (vi 90)) (by kernel_rfl) ?_
   exact ⟨0, 90, rfl, h⟩
  ·replace h := h.2 hc1
   refine wpE_skip (th_n (wpE_seq (rg ?_)))
   replace h := h H2 w4 hs
   replace hs := hs.here
   obtain ⟨v3, hv1, h⟩ := h
   refine q2 (vp v3) (xl (Try.isAgg32 _) hv1) (q0 (vi r1) (q0 (vi r3) ?_))
   refine st_call (want0 rfl) (xc Try.call68) (h.mono ?_)
   rintro e w5 ⟨r5, r6, rfl, hk, h⟩
   refine ⟨_, rfl, ?_⟩
   obtain ⟨hs, hb⟩ := hk.hh hs hb
   refine q0 (vi r5) (q0 (vi r6) (q0 (vi r5) (q0 (vi r6) (wpL_nil (th_n (wpE_ret (res2 (.inl rfl) Try.results143 (v := (vi r5)) (by kernel_rfl) (v' := (vi r6)) (by kernel_rfl) ?_)))))))
   exact ⟨r5, r6, rfl, h⟩
def m_recipe_cook_kitchen_6 (aE aA : Int) (aB aC : Int) (aD : ByteArray) (cap1 cap2 : Addr) (w0 : World) (K : Int → Int → World → Prop) : Prop :=
 ∀ (H1 : Nat → Prop) (w1 : World), Hst w0 None w0 H1 w1 →
 ∃ v1 : Option Addr, w1.cell? cap1 = some (vp v1) ∧
 Calls Try.prog 144 #[(vp v1), (vi aA)] w1 (fun e w2 => ∃ r1 : Int, ∃ r2 : Bool, e = .returned (.tuple #[(vi r1), (vb r2)]) ∧ 
  Kept H1 w1 w2 ∧
  Br (!r2)
   (K 0 90 w2)
   (∃ v2 : Option Addr, w2.cell? cap2 = some (vp v2) ∧
   Calls Try.prog 102 #[(vp v2), (vi r1)] w2 (fun e w3 => ∃ r3 r4 : Int, e = .returned (.tuple #[(vi r3), (vi r4)]) ∧ 
    Kept H1 w2 w3 ∧
    K r3 r4 w3)))
theorem w_recipe_cook_kitchen_6 (aE aA : Int) (aB aC : Int) (aD : ByteArray) (cap1 cap2 : Addr) (w0 : World) (K : Int → Int → World → Prop) (h : m_recipe_cook_kitchen_6 aE aA aB aC aD cap1 cap2 w0 K) :
  Calls Try.prog 145 #[(.agg #[(vi aE), (vi aA), (vi aB), (vu aC), (vs aD)]), (vp (some cap1)), (vp (some cap2))] w0 (fun e w' => ∃ r5 r6 : Int, e = .returned (.tuple #[(vi r5), (vi r6)]) ∧ K r5 r6 w') := by
 unfold m_recipe_cook_kitchen_6 at h
 refine calls_of_wpE (args := [(.agg #[(vi aE), (vi aA), (vi aB), (vu aC), (vs aD)]), (vp (some cap1)), (vp (some cap2))]) Try.func145 rfl Try.ntmps145 (Nat.le_of_ble_eq_true rfl) ?_
 have hs := Hst.start w0
 have hb := HB.nil None w0
 refine wpE_seq (rg (sn (O := (.cells #[(vi aE), (vi aA), (vi aB), (vu aC), (vs aD)] 103)) xb ?_))
 intro p1 w1 hn1
 obtain ⟨H1, hs, hb⟩ := hs.alloc hb hn1
 refine q0 (vi 0) (q0 (vi 0) (wpL_nil (th_n (wpE_seq (rg ?_)))))
 replace h := h H1 w1 hs
 replace hs := hs.here
 obtain ⟨v1, hv2, h⟩ := h
 refine q2 (vp v1) (xl (Try.isAgg169 _) hv2) (q0 (vp (some (p1.add 1))) (q2 (vi aA) (xl (Try.isAgg3 _) (hb.c 0 1 gZ)) ?_))
 refine st_call (want0 rfl) (xc Try.call144) (h.mono ?_)
 rintro e w2 ⟨r1, r2, rfl, hk, h⟩
 refine ⟨_, rfl, ?_⟩
 obtain ⟨hs, hb⟩ := hk.hh hs hb
 refine q0 (.tuple #[(vi r1), (vb r2)]) (q0 (vi r1) (q0 (vb r2) (q0 (vi r1) (q0 (vb r2) (wpL_nil (th_n (wpE_seq (wpE_seq (rg (q0 (vb r2) (q0 (vb (!r2)) ?_)))))))))))
 refine wpL_nil (th_n ?_)
 refine wpE_cond (t := (!r2)) (by kernel_rfl) (fun hc1 => ?_) (fun hc1 => ?_)
 ·replace h := h.1 hc1
  refine wpE_seq (rg (q0 (vi 0) (q0 (vi 90) (wpL_nil (th_n (wpE_ret (th_r (res2 (.inl rfl) Try.results145 (v := (vi 0)) (by kernel_rfl) (v' := (vi 90)) (by kernel_rfl) ?_))))))))
  exact ⟨0, 90, rfl, h⟩
 ·replace h := h.2 hc1
  refine wpE_skip (th_n (wpE_seq (rg ?_)))
  obtain ⟨v2, hv1, h⟩ := h
  refine q2 (vp v2) (xl (Try.isAgg32 _) hv1) (q0 (vi r1) ?_)
  refine st_call (want0 rfl) (xc Try.call102) (h.mono ?_)
  rintro e w3 ⟨r3, r4, rfl, hk, h⟩
  refine ⟨_, rfl, ?_⟩
  obtain ⟨hs, hb⟩ := hk.hh hs hb
  refine q0 (vi r3) (q0 (vi r4) (q0 (vi r3) (q0 (vi r4) (wpL_nil (th_n (wpE_ret (res2 (.inl rfl) Try.results145 (v := (vi r3)) (by kernel_rfl) (v' := (vi r4)) (by kernel_rfl) ?_)))))))
  exact ⟨r3, r4, rfl, h⟩
def m_recipe_cook_node (c1 : Option Addr) (i1 : Int) (w0 : World) (K : Int → Int → Int → Int → ByteArray → Int → Int → Bool → World → Prop) : Prop :=
 ∀ (H1 : Nat → Prop) (w1 : World), Hst w0 None w0 H1 w1 →
 Calls Try.prog 144 #[(vp c1), (vi i1)] w1 (fun e w2 => ∃ r1 : Int, ∃ r2 : Bool, e = .returned (.tuple #[(vi r1), (vb r2)]) ∧ 
  Kept H1 w1 w2 ∧
  Br (!r2)
   (∀ (w3 : World), Hst w0 H1 w2 H1 w3 →
   K 0 0 0 0 ⟨#[]⟩ 0 0 false w3)
   (∃ a1 : Addr, c1 = some a1 ∧
   ∃ v1 : Option Addr, w2.cell? a1 = some (vp v1) ∧
   Calls Try.prog 62 #[(vp v1), (vi r1)] w2 (fun e w4 => ∃ aF aK : Int, ∃ aL aI : Int, ∃ aJ : ByteArray, ∃ aG aH : Int, ∃ r3 : Bool, e = .returned (.tuple #[(.agg #[(vi aF), (vi aK), (vi aL), (vu aI), (vs aJ), (vi aG), (vi aH)]), (vb r3)]) ∧ 
    Kept H1 w2 w4 ∧
    ∀ (w5 : World), Hst w0 H1 w4 H1 w5 →
    K aF aK aL aI aJ aG aH r3 w5)))
theorem w_recipe_cook_node (c1 : Option Addr) (i1 : Int) (w0 : World) (K : Int → Int → Int → Int → ByteArray → Int → Int → Bool → World → Prop) (h : m_recipe_cook_node c1 i1 w0 K) :
  Calls Try.prog 197 #[(vp c1), (vi i1)] w0 (fun e w' => ∃ aU aV : Int, ∃ aW aX : Int, ∃ aY : ByteArray, ∃ aZ bA : Int, ∃ r4 : Bool, e = .returned (.tuple #[(.agg #[(vi aU), (vi aV), (vi aW), (vu aX), (vs aY), (vi aZ), (vi bA)]), (vb r4)]) ∧ K aU aV aW aX aY aZ bA r4 w') := by
 unfold m_recipe_cook_node at h
 refine calls_of_wpE (args := [(vp c1), (vi i1)]) Try.func197 rfl Try.ntmps197 (Nat.le_of_ble_eq_true rfl) ?_
 have hs := Hst.start w0
 have hb := HB.nil None w0
 refine wpE_seq (rg (sn (O := (.cells #[(vi 0), (vi 0), (vi 0), (vu 0), (vs ⟨#[]⟩), (vi 0), (vi 0)] 105)) (x_alloc (Try.zeroValue105 _) rfl) ?_))
 intro p1 w1 hn1
 obtain ⟨H1, hs, hb⟩ := hs.alloc hb hn1
 refine q0 (vb false) (wpL_nil (th_n (wpE_seq (rg (q0 (vp c1) (q0 (vi i1) ?_))))))
 replace h := h H1 w1 hs
 replace hs := hs.here
 refine st_call (want0 rfl) (xc Try.call144) (h.mono ?_)
 rintro e w2 ⟨r1, r2, rfl, hk, h⟩
 refine ⟨_, rfl, ?_⟩
 obtain ⟨hs, hb⟩ := hk.hh hs hb
 refine q0 (.tuple #[(vi r1), (vb r2)]) (q0 (vi r1) (q0 (vb r2) (q0 (vi r1) (q0 (vb r2) (wpL_nil (th_n (wpE_seq (wpE_seq (rg (q0 (vb r2) (q0 (vb (!r2)) ?_)))))))))))
 refine wpL_nil (th_n ?_)
 refine wpE_cond (t := (!r2)) (by kernel_rfl) (fun hc1 => ?_) (fun hc1 => ?_)
 ·replace h := h.1 hc1
  refine wpE_seq (rg (q0 (.agg #[(vi 0), (vi 0), (vi 0), (vu 0), (vs ⟨#[]⟩), (vi 0), (vi 0)]) (st_set (want0 rfl) (x_storeA (a := p1) (vs := [(vi 0), (vi 0), (vi 0), (vu 0), (vs ⟨#[]⟩), (vi 0), (vi 0)]) (by kernel_rfl) (by kernel_rfl) rfl (Try.sizeOf105 _) rfl (hb.canWs0 0 7 gZ (by kernel_rfl))) ?_)))
  intro w3 hn2
  have hsb : Hst w0 H1 w2 H1 w3 ∧ HB H1 w3 [(p1, [(vi 0), (vi 0), (vi 0), (vu 0), (vs ⟨#[]⟩), (vi 0), (vi 0)], 105)] := by
   rw [hn2]
   exact hb.store0 (i := 0) (vs := [(vi 0), (vi 0), (vi 0), (vu 0), (vs ⟨#[]⟩), (vi 0), (vi 0)]) hs gZ (by kernel_rfl) (by kernel_rfl)
  clear hs hb hn2
  obtain ⟨hs, hb⟩ := hsb
  refine q0 (vb false) (wpL_nil (th_n (wpE_ret (th_r ?_))))
  replace h := h w3 hs
  replace hs := hs.here
  refine resG (.inl rfl) (vs := [(.agg #[(vi 0), (vi 0), (vi 0), (vu 0), (vs ⟨#[]⟩), (vi 0), (vi 0)]), (vb false)]) (v := (.tuple #[(.agg #[(vi 0), (vi 0), (vi 0), (vu 0), (vs ⟨#[]⟩), (vi 0), (vi 0)]), (vb false)])) Try.results197 ⟨(RV.cellA (by kernel_rfl) (Try.isAgg105 _) (Try.sizeOf105 _) rfl (hb.row0 0 7 gZ (by kernel_rfl))), (rvT (by kernel_rfl)), trivial⟩ (by kernel_rfl) ?_
  exact ⟨0, 0, 0, 0, ⟨#[]⟩, 0, 0, false, rfl, h⟩
 ·replace h := h.2 hc1
  refine wpE_skip (th_n (wpE_seq (rg (q0 (vp c1) ?_))))
  obtain ⟨a1, hp1, h⟩ := h
  refine q2 (vp (some a1)) (x_nilCheck (p := c1) (by kernel_rfl) hp1) (q0 (vp (some a1)) ?_)
  obtain ⟨v1, hv1, h⟩ := h
  refine q2 (vp v1) (xl (Try.isAgg32 _) hv1) (q0 (vi r1) ?_)
  refine st_call (want0 rfl) (xc Try.call62) (h.mono ?_)
  rintro e w4 ⟨aF, aK, aL, aI, aJ, aG, aH, r3, rfl, hk, h⟩
  refine ⟨_, rfl, ?_⟩
  obtain ⟨hs, hb⟩ := hk.hh hs hb
  refine q0 (.agg #[(vi aF), (vi aK), (vi aL), (vu aI), (vs aJ), (vi aG), (vi aH)]) (q0 (vb r3) (st_set (want0 rfl) (x_storeA (a := p1) (vs := [(vi aF), (vi aK), (vi aL), (vu aI), (vs aJ), (vi aG), (vi aH)]) (by kernel_rfl) (by kernel_rfl) rfl (Try.sizeOf105 _) rfl (hb.canWs0 0 7 gZ (by kernel_rfl))) ?_))
  intro w5 hn3
  have hsb : Hst w0 H1 w4 H1 w5 ∧ HB H1 w5 [(p1, [(vi aF), (vi aK), (vi aL), (vu aI), (vs aJ), (vi aG), (vi aH)], 105)] := by
   rw [hn3]
   exact hb.store0 (i := 0) (vs := [(vi aF), (vi aK), (vi aL), (vu aI), (vs aJ), (vi aG), (vi aH)]) hs gZ (by kernel_rfl) (by kernel_rfl)
  clear hs hb hn3
  obtain ⟨hs, hb⟩ := hsb
  refine q0 (vb r3) (wpL_nil (th_n (wpE_ret ?_)))
  replace h := h w5 hs
  replace hs := hs.here
  refine resG (.inl rfl) (vs := [(.agg #[(vi aF), (vi aK), (vi aL), (vu aI), (vs aJ), (vi aG), (vi aH)]), (vb r3)]) (v := (.tuple #[(.agg #[(vi aF), (vi aK), (vi aL), (vu aI), (vs aJ), (vi aG), (vi aH)]), (vb r3)])) Try.results197 ⟨(RV.cellA (by kernel_rfl) (Try.isAgg105 _) (Try.sizeOf105 _) rfl (hb.row0 0 7 gZ (by kernel_rfl))), (rvT (by kernel_rfl)), trivial⟩ (by kernel_rfl) ?_
  exact ⟨aF, aK, aL, aI, aJ, aG, aH, r3, rfl, h⟩
def m_recipe_cook_part (c1 : Option Addr) (aE aA : Int) (aB aC : Int) (aD : ByteArray) (second1 : Bool) (w0 : World) (K : Int → Int → World → Prop) : Prop :=
 ∀ (H1 : Nat → Prop) (w1 : World), Hst w0 None w0 H1 w1 →
 Calls Try.prog 197 #[(vp c1), (vi aA)] w1 (fun e w2 => ∃ aF aK : Int, ∃ aL aI : Int, ∃ aJ : ByteArray, ∃ aG aH : Int, ∃ r1 : Bool, e = .returned (.tuple #[(.agg #[(vi aF), (vi aK), (vi aL), (vu aI), (vs aJ), (vi aG), (vi aH)]), (vb r1)]) ∧ 
  Kept H1 w1 w2 ∧
  Br ((!r1) || (aF != 4))
   (∀ (H4 : Nat → Prop) (w6 : World), Hst w0 H1 w2 H4 w6 →
   K 0 90 w6)
   (Br second1
    (∀ (H4 : Nat → Prop) (w6 : World), Hst w0 H1 w2 H4 w6 →
    K aH 0 w6)
    (∀ (H4 : Nat → Prop) (w6 : World), Hst w0 H1 w2 H4 w6 →
    K aG 0 w6)))
theorem w_recipe_cook_part (c1 : Option Addr) (aE aA : Int) (aB aC : Int) (aD : ByteArray) (second1 : Bool) (w0 : World) (K : Int → Int → World → Prop) (h : m_recipe_cook_part c1 aE aA aB aC aD second1 w0 K) :
  Calls Try.prog 147 #[(vp c1), (.agg #[(vi aE), (vi aA), (vi aB), (vu aC), (vs aD)]), (vb second1)] w0 (fun e w' => ∃ r2 r3 : Int, e = .returned (.tuple #[(vi r2), (vi r3)]) ∧ K r2 r3 w') := by
 unfold m_recipe_cook_part at h
 refine calls_of_wpE (args := [(vp c1), (.agg #[(vi aE), (vi aA), (vi aB), (vu aC), (vs aD)]), (vb second1)]) Try.func147 rfl Try.ntmps147 (Nat.le_of_ble_eq_true rfl) ?_
 have hs := Hst.start w0
 have hb := HB.nil None w0
 refine wpE_seq (rg (sn (O := (.cells #[(vi aE), (vi aA), (vi aB), (vu aC), (vs aD)] 103)) xb ?_))
 intro p1 w1 hn1
 obtain ⟨H1, hs, hb⟩ := hs.alloc hb hn1
 refine q0 (vi 0) (q0 (vi 0) (wpL_nil (th_n (wpE_seq (rg (q0 (vp c1) (q0 (vp (some (p1.add 1))) (q2 (vi aA) (xl (Try.isAgg3 _) (hb.c 0 1 gZ)) ?_))))))))
 replace h := h H1 w1 hs
 replace hs := hs.here
 refine st_call (want0 rfl) (xc Try.call197) (h.mono ?_)
 rintro e w2 ⟨aF, aK, aL, aI, aJ, aG, aH, r1, rfl, hk, h⟩
 refine ⟨_, rfl, ?_⟩
 obtain ⟨hs, hb⟩ := hk.hh hs hb
 refine q0 (.tuple #[(.agg #[(vi aF), (vi aK), (vi aL), (vu aI), (vs aJ), (vi aG), (vi aH)]), (vb r1)]) (q0 (.agg #[(vi aF), (vi aK), (vi aL), (vu aI), (vs aJ), (vi aG), (vi aH)]) (q0 (vb r1) (sn (O := (.cells #[(vi 0), (vi 0), (vi 0), (vu 0), (vs ⟨#[]⟩), (vi 0), (vi 0)] 105)) (x_alloc (Try.zeroValue105 _) rfl) ?_)))
 intro p2 w3 hn2
 obtain ⟨H2, hs, hb⟩ := hs.alloc hb hn2
 refine st_set (want0 rfl) (x_storeA (a := p2) (vs := [(vi aF), (vi aK), (vi aL), (vu aI), (vs aJ), (vi aG), (vi aH)]) (by kernel_rfl) (by kernel_rfl) rfl (Try.sizeOf105 _) rfl (hb.canWs0 0 7 gZ (by kernel_rfl))) ?_
 intro w4 hn3
 have hsb : Hst w0 H1 w2 H2 w4 ∧ HB H2 w4 [(p2, [(vi aF), (vi aK), (vi aL), (vu aI), (vs aJ), (vi aG), (vi aH)], 105), (p1, [(vi aE), (vi aA), (vi aB), (vu aC), (vs aD)], 103)] := by
  rw [hn3]
  exact hb.store0 (i := 0) (vs := [(vi aF), (vi aK), (vi aL), (vu aI), (vs aJ), (vi aG), (vi aH)]) hs gZ (by kernel_rfl) (by kernel_rfl)
 clear hs hb hn3
 obtain ⟨hs, hb⟩ := hsb
 refine q0 (vb r1) (wpL_nil (th_n (wpE_seq (wpE_block (wpE_seq ?_)))))
 refine wpE_via (fun ρ wJ => ∃ HJ : Nat → Prop, Hst w0 H1 w2 HJ wJ ∧ HB HJ wJ [(p2, [(vi aF), (vi aK), (vi aL), (vu aI), (vs aJ), (vi aG), (vi aH)], 105), (p1, [(vi aE), (vi aA), (vi aB), (vu aC), (vs aD)], 103)] ∧ Has ρ [(2, (vb second1)), (8, (vp (some p2))), (17, (vb ((!r1) || (aF != 4))))]) ?_ ?_
 ·skip
  refine rg (q0 (vb r1) (q0 (vb (!r1)) (q0 (vb (!r1)) ?_)))
  refine wpL_join 4 (fun ρ wJ => ∃ b3'0 : Bool, ∃ HJ : Nat → Prop, ((!r1) = b3'0) ∧ Hst w0 H1 w2 HJ wJ ∧ HB HJ wJ [(p2, [(vi aF), (vi aK), (vi aL), (vu aI), (vs aJ), (vi aG), (vi aH)], 105), (p1, [(vi aE), (vi aA), (vi aB), (vu aC), (vs aD)], 103)] ∧ Has ρ [(2, (vb second1)), (8, (vp (some p2))), (24, (vb (b3'0 || (aF != 4))))]) ?_ ?_
  ·clear hs hb
   rintro ρ w7 ⟨b3'0, H5, he0, hs, hb, hH⟩
   subst he0
   refine wpL_has hH ?_
   clear hH
   refine q0 (vb ((!r1) || (aF != 4))) (wpL_nil (th_n ?_))
   exact ⟨_, hs, hb, Has.mk (by kernel_rfl)⟩
  ·skip
   rcases Bool.eq_false_or_eq_true (!r1) with hg4 | hg4
   ·skip
    refine sk (yD 20 hg4) (sk (yD 20 hg4) (sk (yD 20 hg4) (q2 (vb true) (xT hg4) (wpL_nil ?_))))
    exact ⟨true, _, hg4, hs, hb, Has.mk (by kernel_rfl)⟩
   ·skip
    refine q1 (vp (some p2)) (want1 rfl (yD 20 hg4)) (stp (v := (vi aF)) (want1 rfl (yD 20 hg4)) (xl (Try.isAgg3 _) (hb.c0 0 gZ)) (q1 (vb (aF != 4)) (want1 rfl (yD 20 hg4)) (q2 (vb (aF != 4)) (xF hg4) (wpL_nil ?_))))
    exact ⟨false, _, hg4, hs, hb, Has.mk (by kernel_rfl)⟩
 ·clear hs hb
  rintro ρ w6 ⟨H4, hs, hb, hH⟩
  refine norm_has hH ?_
  clear hH
  refine th_n ?_
  refine wpE_cond (t := ((!r1) || (aF != 4))) (by kernel_rfl) (fun hc1 => ?_) (fun hc1 => ?_)
  ·replace h := h.1 hc1
   refine wpE_seq (rg (q0 (vi 0) (q0 (vi 90) (wpL_nil (th_n (wpE_ret (bl_r (th_r ?_))))))))
   replace h := h H4 w6 hs
   replace hs := hs.here
   refine res2 (.inl rfl) Try.results147 (v := (vi 0)) (by kernel_rfl) (v' := (vi 90)) (by kernel_rfl) ?_
   exact ⟨0, 90, rfl, h⟩
  ·replace h := h.2 hc1
   refine wpE_seq (rg (q0 (vb second1) (q0 (vb second1) (wpL_nil (th_n ?_)))))
   refine wpE_cond (t := second1) (by kernel_rfl) (fun hc2 => ?_) (fun hc2 => ?_)
   ·replace h := h.1 hc2
    refine wpE_seq (rg (q0 (vp (some (p2.add 6))) (q2 (vi aH) (xl (Try.isAgg38 _) (hb.c 0 6 gZ)) (q0 (vi aH) (q0 (vi 0) (wpL_nil (th_n (wpE_ret (bl_r (th_r ?_))))))))))
    replace h := h H4 w6 hs
    replace hs := hs.here
    refine res2 (.inl rfl) Try.results147 (v := (vi aH)) (by kernel_rfl) (v' := (vi 0)) (by kernel_rfl) ?_
    exact ⟨aH, 0, rfl, h⟩
   ·replace h := h.2 hc2
    refine wpE_skip (bl_n (th_n (wpE_seq (rg (q0 (vp (some (p2.add 5))) (q2 (vi aG) (xl (Try.isAgg38 _) (hb.c 0 5 gZ)) (q0 (vi aG) (q0 (vi 0) (wpL_nil (th_n (wpE_ret ?_)))))))))))
    replace h := h H4 w6 hs
    replace hs := hs.here
    refine res2 (.inl rfl) Try.results147 (v := (vi aG)) (by kernel_rfl) (v' := (vi 0)) (by kernel_rfl) ?_
    exact ⟨aG, 0, rfl, h⟩
def m_recipe_cook_kitchen_7 (aE aA : Int) (aB aC : Int) (aD : ByteArray) (cap1 : Addr) (w0 : World) (K : Int → Int → World → Prop) : Prop :=
 ∀ (H1 : Nat → Prop) (w1 : World), Hst w0 None w0 H1 w1 →
 ∃ v1 : Option Addr, w1.cell? cap1 = some (vp v1) ∧
 Calls Try.prog 147 #[(vp v1), (.agg #[(vi aE), (vi aA), (vi aB), (vu aC), (vs aD)]), (vb false)] w1 (fun e w2 => ∃ r1 r2 : Int, e = .returned (.tuple #[(vi r1), (vi r2)]) ∧ 
  Kept H1 w1 w2 ∧
  K r1 r2 w2)
theorem w_recipe_cook_kitchen_7 (aE aA : Int) (aB aC : Int) (aD : ByteArray) (cap1 : Addr) (w0 : World) (K : Int → Int → World → Prop) (h : m_recipe_cook_kitchen_7 aE aA aB aC aD cap1 w0 K) :
  Calls Try.prog 146 #[(.agg #[(vi aE), (vi aA), (vi aB), (vu aC), (vs aD)]), (vp (some cap1))] w0 (fun e w' => ∃ r3 r4 : Int, e = .returned (.tuple #[(vi r3), (vi r4)]) ∧ K r3 r4 w') := by
 unfold m_recipe_cook_kitchen_7 at h
 refine calls_of_wpE (args := [(.agg #[(vi aE), (vi aA), (vi aB), (vu aC), (vs aD)]), (vp (some cap1))]) Try.func146 rfl Try.ntmps146 (Nat.le_of_ble_eq_true rfl) ?_
 have hs := Hst.start w0
 have hb := HB.nil None w0
 refine wpE_seq (rg (sn (O := (.cells #[(vi aE), (vi aA), (vi aB), (vu aC), (vs aD)] 103)) xb ?_))
 intro p1 w1 hn1
 obtain ⟨H1, hs, hb⟩ := hs.alloc hb hn1
 refine q0 (vi 0) (q0 (vi 0) (wpL_nil (th_n (wpE_seq (rg ?_)))))
 replace h := h H1 w1 hs
 replace hs := hs.here
 obtain ⟨v1, hv1, h⟩ := h
 refine q2 (vp v1) (xl (Try.isAgg169 _) hv1) (q2 (.agg #[(vi aE), (vi aA), (vi aB), (vu aC), (vs aD)]) (x_loadA (a := p1) (vs := [(vi aE), (vi aA), (vi aB), (vu aC), (vs aD)]) (by kernel_rfl) (Try.isAgg103 _) (Try.sizeOf103 _) rfl (hb.row0 0 5 gZ (by kernel_rfl))) ?_)
 refine st_call (want0 rfl) (xc Try.call147) (h.mono ?_)
 rintro e w2 ⟨r1, r2, rfl, hk, h⟩
 refine ⟨_, rfl, ?_⟩
 obtain ⟨hs, hb⟩ := hk.hh hs hb
 refine q0 (vi r1) (q0 (vi r2) (q0 (vi r1) (q0 (vi r2) (wpL_nil (th_n (wpE_ret (res2 (.inl rfl) Try.results146 (v := (vi r1)) (by kernel_rfl) (v' := (vi r2)) (by kernel_rfl) ?_)))))))
 exact ⟨r1, r2, rfl, h⟩
def m_recipe_cook_kitchen_8 (aE aA : Int) (aB aC : Int) (aD : ByteArray) (cap1 : Addr) (w0 : World) (K : Int → Int → World → Prop) : Prop :=
 ∀ (H1 : Nat → Prop) (w1 : World), Hst w0 None w0 H1 w1 →
 ∃ v1 : Option Addr, w1.cell? cap1 = some (vp v1) ∧
 Calls Try.prog 147 #[(vp v1), (.agg #[(vi aE), (vi aA), (vi aB), (vu aC), (vs aD)]), (vb true)] w1 (fun e w2 => ∃ r1 r2 : Int, e = .returned (.tuple #[(vi r1), (vi r2)]) ∧ 
  Kept H1 w1 w2 ∧
  K r1 r2 w2)
theorem w_recipe_cook_kitchen_8 (aE aA : Int) (aB aC : Int) (aD : ByteArray) (cap1 : Addr) (w0 : World) (K : Int → Int → World → Prop) (h : m_recipe_cook_kitchen_8 aE aA aB aC aD cap1 w0 K) :
  Calls Try.prog 148 #[(.agg #[(vi aE), (vi aA), (vi aB), (vu aC), (vs aD)]), (vp (some cap1))] w0 (fun e w' => ∃ r3 r4 : Int, e = .returned (.tuple #[(vi r3), (vi r4)]) ∧ K r3 r4 w') := by
 unfold m_recipe_cook_kitchen_8 at h
 refine calls_of_wpE (args := [(.agg #[(vi aE), (vi aA), (vi aB), (vu aC), (vs aD)]), (vp (some cap1))]) Try.func148 rfl Try.ntmps148 (Nat.le_of_ble_eq_true rfl) ?_
 have hs := Hst.start w0
 have hb := HB.nil None w0
 refine wpE_seq (rg (sn (O := (.cells #[(vi aE), (vi aA), (vi aB), (vu aC), (vs aD)] 103)) xb ?_))
 intro p1 w1 hn1
 obtain ⟨H1, hs, hb⟩ := hs.alloc hb hn1
 refine q0 (vi 0) (q0 (vi 0) (wpL_nil (th_n (wpE_seq (rg ?_)))))
 replace h := h H1 w1 hs
 replace hs := hs.here
 obtain ⟨v1, hv1, h⟩ := h
 refine q2 (vp v1) (xl (Try.isAgg169 _) hv1) (q2 (.agg #[(vi aE), (vi aA), (vi aB), (vu aC), (vs aD)]) (x_loadA (a := p1) (vs := [(vi aE), (vi aA), (vi aB), (vu aC), (vs aD)]) (by kernel_rfl) (Try.isAgg103 _) (Try.sizeOf103 _) rfl (hb.row0 0 5 gZ (by kernel_rfl))) ?_)
 refine st_call (want0 rfl) (xc Try.call147) (h.mono ?_)
 rintro e w2 ⟨r1, r2, rfl, hk, h⟩
 refine ⟨_, rfl, ?_⟩
 obtain ⟨hs, hb⟩ := hk.hh hs hb
 refine q0 (vi r1) (q0 (vi r2) (q0 (vi r1) (q0 (vi r2) (wpL_nil (th_n (wpE_ret (res2 (.inl rfl) Try.results148 (v := (vi r1)) (by kernel_rfl) (v' := (vi r2)) (by kernel_rfl) ?_)))))))
 exact ⟨r1, r2, rfl, h⟩
def m_recipe_cook_shown (c1 : Option Addr) (aE aA : Int) (aB aC : Int) (aD : ByteArray) (w0 : World) (K : Int → Int → World → Prop) : Prop :=
 ∀ (H1 : Nat → Prop) (w1 : World), Hst w0 None w0 H1 w1 →
 Calls Try.prog 197 #[(vp c1), (vi aA)] w1 (fun e w2 => ∃ aF aK : Int, ∃ aL aI : Int, ∃ aJ : ByteArray, ∃ aG aH : Int, ∃ r1 : Bool, e = .returned (.tuple #[(.agg #[(vi aF), (vi aK), (vi aL), (vu aI), (vs aJ), (vi aG), (vi aH)]), (vb r1)]) ∧ 
  Kept H1 w1 w2 ∧
  Br ((!r1) || (((aF != 7) && (aF != 8)) && (aF != 9)))
   (∀ (H5 : Nat → Prop) (w7 : World), Hst w0 H1 w2 H5 w7 →
   K 0 90 w7)
   (∀ (H5 : Nat → Prop) (w7 : World), Hst w0 H1 w2 H5 w7 →
   K aG 0 w7))
theorem w_recipe_cook_shown (c1 : Option Addr) (aE aA : Int) (aB aC : Int) (aD : ByteArray) (w0 : World) (K : Int → Int → World → Prop) (h : m_recipe_cook_shown c1 aE aA aB aC aD w0 K) :
  Calls Try.prog 149 #[(vp c1), (.agg #[(vi aE), (vi aA), (vi aB), (vu aC), (vs aD)])] w0 (fun e w' => ∃ r2 r3 : Int, e = .returned (.tuple #[(vi r2), (vi r3)]) ∧ K r2 r3 w') := by
 unfold m_recipe_cook_shown at h
 refine calls_of_wpE (args := [(vp c1), (.agg #[(vi aE), (vi aA), (vi aB), (vu aC), (vs aD)])]) Try.func149 rfl Try.ntmps149 (Nat.le_of_ble_eq_true rfl) ?_
 have hs := Hst.start w0
 have hb := HB.nil None w0
 refine wpE_seq (rg (sn (O := (.cells #[(vi aE), (vi aA), (vi aB), (vu aC), (vs aD)] 103)) xb ?_))
 intro p1 w1 hn1
 obtain ⟨H1, hs, hb⟩ := hs.alloc hb hn1
 refine q0 (vi 0) (q0 (vi 0) (wpL_nil (th_n (wpE_seq (rg (q0 (vp c1) (q0 (vp (some (p1.add 1))) (q2 (vi aA) (xl (Try.isAgg3 _) (hb.c 0 1 gZ)) ?_))))))))
 replace h := h H1 w1 hs
 replace hs := hs.here
 refine st_call (want0 rfl) (xc Try.call197) (h.mono ?_)
 rintro e w2 ⟨aF, aK, aL, aI, aJ, aG, aH, r1, rfl, hk, h⟩
 refine ⟨_, rfl, ?_⟩
 obtain ⟨hs, hb⟩ := hk.hh hs hb
 refine q0 (.tuple #[(.agg #[(vi aF), (vi aK), (vi aL), (vu aI), (vs aJ), (vi aG), (vi aH)]), (vb r1)]) (q0 (.agg #[(vi aF), (vi aK), (vi aL), (vu aI), (vs aJ), (vi aG), (vi aH)]) (q0 (vb r1) (sn (O := (.cells #[(vi 0), (vi 0), (vi 0), (vu 0), (vs ⟨#[]⟩), (vi 0), (vi 0)] 105)) (x_alloc (Try.zeroValue105 _) rfl) ?_)))
 intro p2 w3 hn2
 obtain ⟨H2, hs, hb⟩ := hs.alloc hb hn2
 refine st_set (want0 rfl) (x_storeA (a := p2) (vs := [(vi aF), (vi aK), (vi aL), (vu aI), (vs aJ), (vi aG), (vi aH)]) (by kernel_rfl) (by kernel_rfl) rfl (Try.sizeOf105 _) rfl (hb.canWs0 0 7 gZ (by kernel_rfl))) ?_
 intro w4 hn3
 have hsb : Hst w0 H1 w2 H2 w4 ∧ HB H2 w4 [(p2, [(vi aF), (vi aK), (vi aL), (vu aI), (vs aJ), (vi aG), (vi aH)], 105), (p1, [(vi aE), (vi aA), (vi aB), (vu aC), (vs aD)], 103)] := by
  rw [hn3]
  exact hb.store0 (i := 0) (vs := [(vi aF), (vi aK), (vi aL), (vu aI), (vs aJ), (vi aG), (vi aH)]) hs gZ (by kernel_rfl) (by kernel_rfl)
 clear hs hb hn3
 obtain ⟨hs, hb⟩ := hsb
 refine q0 (vb r1) (wpL_nil (th_n (wpE_seq (wpE_seq ?_))))
 refine wpE_via (fun ρ wJ => ∃ b3'0 : Bool, ∃ HJ : Nat → Prop, ((!r1) = b3'0) ∧ Hst w0 H1 w2 HJ wJ ∧ HB HJ wJ [(p2, [(vi aF), (vi aK), (vi aL), (vu aI), (vs aJ), (vi aG), (vi aH)], 105), (p1, [(vi aE), (vi aA), (vi aB), (vu aC), (vs aD)], 103)] ∧ Has ρ [(6, (vp (some p2))), (31, (vb (b3'0 || (((aF != 7) && (aF != 8)) && (aF != 9)))))]) ?_ ?_
 ·skip
  refine rg (q0 (vb r1) (q0 (vb (!r1)) (q0 (vb (!r1)) ?_)))
  rcases Bool.eq_false_or_eq_true (!r1) with hg6 | hg6
  ·skip
   refine sk (yD 17 hg6) (sk (yD 17 hg6) (sk (yD 17 hg6) (sk (yD 17 hg6) (st_not (by kernel_rfl) (st_not (by kernel_rfl) (st_not (by kernel_rfl) (sk (yD 17 hg6) (sk (yD 17 hg6) (st_not (by kernel_rfl) (st_not (by kernel_rfl) (st_not (by kernel_rfl) ?_)))))))))))
   refine sk (yD 17 hg6) (q2 (vb true) (xT hg6) (wpL_nil (th_n ?_)))
   exact ⟨true, _, hg6, hs, hb, Has.mk (by kernel_rfl)⟩
  ·skip
   refine q1 (vp (some p2)) (want1 rfl (yD 17 hg6)) (stp (v := (vi aF)) (want1 rfl (yD 17 hg6)) (xl (Try.isAgg3 _) (hb.c0 0 gZ)) (q1 (vb (aF != 7)) (want1 rfl (yD 17 hg6)) (q1 (vb (aF != 7)) (want1 rfl (yD 17 hg6)) ?_)))
   refine wpL_join 4 (fun ρ wJ => ∃ b4'0 : Bool, ∃ HJ : Nat → Prop, ((aF != 7) = b4'0) ∧ Hst w0 H1 w2 HJ wJ ∧ HB HJ wJ [(p2, [(vi aF), (vi aK), (vi aL), (vu aI), (vs aJ), (vi aG), (vi aH)], 105), (p1, [(vi aE), (vi aA), (vi aB), (vu aC), (vs aD)], 103)] ∧ Has ρ [(6, (vp (some p2))), (17, (vb (!r1))), (25, (vb (b4'0 && (aF != 8))))]) ?_ ?_
   ·clear hs hb
    rintro ρ w8 ⟨b4'0, H6, he0, hs, hb, hH⟩
    subst he0
    refine wpL_has hH ?_
    clear hH
    refine q1 (vb ((aF != 7) && (aF != 8))) (want1 rfl (yD 17 hg6)) ?_
    refine wpL_join 4 (fun ρ wJ => ∃ b5'0 : Bool, ∃ HJ : Nat → Prop, (((aF != 7) && (aF != 8)) = b5'0) ∧ Hst w0 H1 w2 HJ wJ ∧ HB HJ wJ [(p2, [(vi aF), (vi aK), (vi aL), (vu aI), (vs aJ), (vi aG), (vi aH)], 105), (p1, [(vi aE), (vi aA), (vi aB), (vu aC), (vs aD)], 103)] ∧ Has ρ [(6, (vp (some p2))), (17, (vb (!r1))), (30, (vb (b5'0 && (aF != 9))))]) ?_ ?_
    ·clear hs hb
     rintro ρ w9 ⟨b5'0, H7, he0, hs, hb, hH⟩
     subst he0
     refine wpL_has hH ?_
     clear hH
     refine q2 (vb (((aF != 7) && (aF != 8)) && (aF != 9))) (xF hg6) (wpL_nil (th_n ?_))
     exact ⟨false, _, hg6, hs, hb, Has.mk (by kernel_rfl)⟩
    ·skip
     rcases Bool.eq_false_or_eq_true ((aF != 7) && (aF != 8)) with hg10 | hg10
     ·skip
      refine q1 (vp (some p2)) (want1 rfl (yD 26 hg10)) (stp (v := (vi aF)) (want1 rfl (yD 26 hg10)) (xl (Try.isAgg3 _) (hb.c0 0 gZ)) (q1 (vb (aF != 9)) (want1 rfl (yD 26 hg10)) (stp (v := (vb (aF != 9))) (want1 rfl (yD 17 hg6)) (xT hg10) (wpL_nil ?_))))
      exact ⟨true, _, hg10, hs, hb, Has.mk (by kernel_rfl)⟩
     ·skip
      refine sk (yD 26 hg10) (sk (yD 26 hg10) (sk (yD 26 hg10) (stp (v := (vb false)) (want1 rfl (yD 17 hg6)) (xF hg10) (wpL_nil ?_))))
      exact ⟨false, _, hg10, hs, hb, Has.mk (by kernel_rfl)⟩
   ·skip
    rcases Bool.eq_false_or_eq_true (aF != 7) with hg8 | hg8
    ·skip
     refine q1 (vp (some p2)) (want1 rfl (yD 21 hg8)) (stp (v := (vi aF)) (want1 rfl (yD 21 hg8)) (xl (Try.isAgg3 _) (hb.c0 0 gZ)) (q1 (vb (aF != 8)) (want1 rfl (yD 21 hg8)) (stp (v := (vb (aF != 8))) (want1 rfl (yD 17 hg6)) (xT hg8) (wpL_nil ?_))))
     exact ⟨true, _, hg8, hs, hb, Has.mk (by kernel_rfl)⟩
    ·skip
     refine sk (yD 21 hg8) (sk (yD 21 hg8) (sk (yD 21 hg8) (stp (v := (vb false)) (want1 rfl (yD 17 hg6)) (xF hg8) (wpL_nil ?_))))
     exact ⟨false, _, hg8, hs, hb, Has.mk (by kernel_rfl)⟩
 ·clear hs hb
  rintro ρ w7 ⟨b3'0, H5, he0, hs, hb, hH⟩
  subst he0
  refine norm_has hH ?_
  clear hH
  refine th_n ?_
  refine wpE_cond (t := ((!r1) || (((aF != 7) && (aF != 8)) && (aF != 9)))) (by kernel_rfl) (fun hc1 => ?_) (fun hc1 => ?_)
  ·replace h := h.1 hc1
   refine wpE_seq (rg (q0 (vi 0) (q0 (vi 90) (wpL_nil (th_n (wpE_ret (th_r ?_)))))))
   replace h := h H5 w7 hs
   replace hs := hs.here
   refine res2 (.inl rfl) Try.results149 (v := (vi 0)) (by kernel_rfl) (v' := (vi 90)) (by kernel_rfl) ?_
   exact ⟨0, 90, rfl, h⟩
  ·replace h := h.2 hc1
   refine wpE_skip (th_n (wpE_seq (rg (q0 (vp (some (p2.add 5))) (q2 (vi aG) (xl (Try.isAgg38 _) (hb.c 0 5 gZ)) (q0 (vi aG) (q0 (vi 0) (wpL_nil (th_n (wpE_ret ?_))))))))))
   replace h := h H5 w7 hs
   replace hs := hs.here
   refine res2 (.inl rfl) Try.results149 (v := (vi aG)) (by kernel_rfl) (v' := (vi 0)) (by kernel_rfl) ?_
   exact ⟨aG, 0, rfl, h⟩
def m_recipe_cook_keyed (c1 : Option Addr) (aE aA : Int) (aB aC : Int) (aD : ByteArray) (how1 : Value) (w0 : World) (K : Int → Int → World → Prop) : Prop :=
 ∀ (H1 : Nat → Prop) (w1 : World), Hst w0 None w0 H1 w1 →
 Calls Try.prog 144 #[(vp c1), (vi aA)] w1 (fun e w2 => ∃ r1 : Int, ∃ r2 : Bool, e = .returned (.tuple #[(vi r1), (vb r2)]) ∧ 
  Kept H1 w1 w2 ∧
  Calls Try.prog 197 #[(vp c1), (vi aB)] w2 (fun e w3 => ∃ aF aK : Int, ∃ aL aI : Int, ∃ aJ : ByteArray, ∃ aG aH : Int, ∃ r3 : Bool, e = .returned (.tuple #[(.agg #[(vi aF), (vi aK), (vi aL), (vu aI), (vs aJ), (vi aG), (vi aH)]), (vb r3)]) ∧ 
   Kept H1 w2 w3 ∧
   Br (((!r2) || (!r3)) || (aF != 6))
    (∀ (H4 : Nat → Prop) (w7 : World), Hst w0 H1 w3 H4 w7 →
    K 0 90 w7)
    (∃ (f1 : FuncId) (fs1 cs1 : Array Value), how1 = .func (.func f1) fs1 cs1 ∧
    ∀ (H4 : Nat → Prop) (w7 : World), Hst w0 H1 w3 H4 w7 →
    (∀ args w, (callFunc f1 args).run Try.prog w = .ok (.enter f1 args) w) ∧ Calls Try.prog f1 (fs1 ++ #[(vi aK), (vi r1)] ++ cs1) w7 (fun e w9 => ∃ r4 r5 : Int, e = .returned (.tuple #[(vi r4), (vi r5)]) ∧ 
     Kept H4 w7 w9 ∧
     K r4 r5 w9))))
theorem w_recipe_cook_keyed (c1 : Option Addr) (aE aA : Int) (aB aC : Int) (aD : ByteArray) (how1 : Value) (w0 : World) (K : Int → Int → World → Prop) (h : m_recipe_cook_keyed c1 aE aA aB aC aD how1 w0 K) :
  Calls Try.prog 151 #[(vp c1), (.agg #[(vi aE), (vi aA), (vi aB), (vu aC), (vs aD)]), how1] w0 (fun e w' => ∃ r6 r7 : Int, e = .returned (.tuple #[(vi r6), (vi r7)]) ∧ K r6 r7 w') := by
 unfold m_recipe_cook_keyed at h
 refine calls_of_wpE (args := [(vp c1), (.agg #[(vi aE), (vi aA), (vi aB), (vu aC), (vs aD)]), how1]) Try.func151 rfl Try.ntmps151 (Nat.le_of_ble_eq_true rfl) ?_
 have hs := Hst.start w0
 have hb := HB.nil None w0
 refine wpE_seq (rg (sn (O := (.cells #[(vi aE), (vi aA), (vi aB), (vu aC), (vs aD)] 103)) xb ?_))
 intro p1 w1 hn1
 obtain ⟨H1, hs, hb⟩ := hs.alloc hb hn1
 refine q0 (vi 0) (q0 (vi 0) (wpL_nil (th_n (wpE_seq (rg (q0 (vp c1) (q0 (vp (some (p1.add 1))) (q2 (vi aA) (xl (Try.isAgg3 _) (hb.c 0 1 gZ)) ?_))))))))
 replace h := h H1 w1 hs
 replace hs := hs.here
 refine st_call (want0 rfl) (xc Try.call144) (h.mono ?_)
 rintro e w2 ⟨r1, r2, rfl, hk, h⟩
 refine ⟨_, rfl, ?_⟩
 obtain ⟨hs, hb⟩ := hk.hh hs hb
 refine q0 (.tuple #[(vi r1), (vb r2)]) (q0 (vi r1) (q0 (vb r2) (q0 (vi r1) (q0 (vb r2) (wpL_nil (th_n (wpE_seq (rg (q0 (vp c1) (q0 (vp (some (p1.add 2))) (q2 (vi aB) (xl (Try.isAgg3 _) (hb.c 0 2 gZ)) ?_)))))))))))
 refine st_call (want0 rfl) (xc Try.call197) (h.mono ?_)
 rintro e w3 ⟨aF, aK, aL, aI, aJ, aG, aH, r3, rfl, hk, h⟩
 refine ⟨_, rfl, ?_⟩
 obtain ⟨hs, hb⟩ := hk.hh hs hb
 refine q0 (.tuple #[(.agg #[(vi aF), (vi aK), (vi aL), (vu aI), (vs aJ), (vi aG), (vi aH)]), (vb r3)]) (q0 (.agg #[(vi aF), (vi aK), (vi aL), (vu aI), (vs aJ), (vi aG), (vi aH)]) (q0 (vb r3) (sn (O := (.cells #[(vi 0), (vi 0), (vi 0), (vu 0), (vs ⟨#[]⟩), (vi 0), (vi 0)] 105)) (x_alloc (Try.zeroValue105 _) rfl) ?_)))
 intro p2 w4 hn2
 obtain ⟨H2, hs, hb⟩ := hs.alloc hb hn2
 refine st_set (want0 rfl) (x_storeA (a := p2) (vs := [(vi aF), (vi aK), (vi aL), (vu aI), (vs aJ), (vi aG), (vi aH)]) (by kernel_rfl) (by kernel_rfl) rfl (Try.sizeOf105 _) rfl (hb.canWs0 0 7 gZ (by kernel_rfl))) ?_
 intro w5 hn3
 have hsb : Hst w0 H1 w3 H2 w5 ∧ HB H2 w5 [(p2, [(vi aF), (vi aK), (vi aL), (vu aI), (vs aJ), (vi aG), (vi aH)], 105), (p1, [(vi aE), (vi aA), (vi aB), (vu aC), (vs aD)], 103)] := by
  rw [hn3]
  exact hb.store0 (i := 0) (vs := [(vi aF), (vi aK), (vi aL), (vu aI), (vs aJ), (vi aG), (vi aH)]) hs gZ (by kernel_rfl) (by kernel_rfl)
 clear hs hb hn3
 obtain ⟨hs, hb⟩ := hsb
 refine q0 (vb r3) (wpL_nil (th_n (wpE_seq (wpE_seq ?_))))
 refine wpE_via (fun ρ wJ => ∃ b2'0 : Bool, ∃ HJ : Nat → Prop, (((!r2) || (!r3)) = b2'0) ∧ Hst w0 H1 w3 HJ wJ ∧ HB HJ wJ [(p2, [(vi aF), (vi aK), (vi aL), (vu aI), (vs aJ), (vi aG), (vi aH)], 105), (p1, [(vi aE), (vi aA), (vi aB), (vu aC), (vs aD)], 103)] ∧ Has ρ [(2, how1), (8, (vi r1)), (10, (vp (some p2))), (36, (vb (b2'0 || (aF != 6))))]) ?_ ?_
 ·skip
  refine rg (q0 (vb r2) (q0 (vb (!r2)) (q0 (vb (!r2)) ?_)))
  refine wpL_join 3 (fun ρ wJ => ∃ b3'0 : Bool, ∃ HJ : Nat → Prop, ((!r2) = b3'0) ∧ Hst w0 H1 w3 HJ wJ ∧ HB HJ wJ [(p2, [(vi aF), (vi aK), (vi aL), (vu aI), (vs aJ), (vi aG), (vi aH)], 105), (p1, [(vi aE), (vi aA), (vi aB), (vu aC), (vs aD)], 103)] ∧ Has ρ [(2, how1), (8, (vi r1)), (10, (vp (some p2))), (31, (vb (b3'0 || (!r3))))]) ?_ ?_
  ·clear hs hb
   rintro ρ w8 ⟨b3'0, H5, he0, hs, hb, hH⟩
   subst he0
   refine wpL_has hH ?_
   clear hH
   refine q0 (vb ((!r2) || (!r3))) ?_
   rcases Bool.eq_false_or_eq_true ((!r2) || (!r3)) with hg6 | hg6
   ·skip
    refine sk (yD 32 hg6) (sk (yD 32 hg6) (sk (yD 32 hg6) (q2 (vb true) (xT hg6) (wpL_nil (th_n ?_)))))
    exact ⟨true, _, hg6, hs, hb, Has.mk (by kernel_rfl)⟩
   ·skip
    refine q1 (vp (some p2)) (want1 rfl (yD 32 hg6)) (stp (v := (vi aF)) (want1 rfl (yD 32 hg6)) (xl (Try.isAgg3 _) (hb.c0 0 gZ)) (q1 (vb (aF != 6)) (want1 rfl (yD 32 hg6)) (q2 (vb (aF != 6)) (xF hg6) (wpL_nil (th_n ?_)))))
    exact ⟨false, _, hg6, hs, hb, Has.mk (by kernel_rfl)⟩
  ·skip
   rcases Bool.eq_false_or_eq_true (!r2) with hg5 | hg5
   ·skip
    refine sk (yD 28 hg5) (sk (yD 28 hg5) (q2 (vb true) (xT hg5) (wpL_nil ?_)))
    exact ⟨true, _, hg5, hs, hb, Has.mk (by kernel_rfl)⟩
   ·skip
    refine q1 (vb r3) (want1 rfl (yD 28 hg5)) (q1 (vb (!r3)) (want1 rfl (yD 28 hg5)) (q2 (vb (!r3)) (xF hg5) (wpL_nil ?_)))
    exact ⟨false, _, hg5, hs, hb, Has.mk (by kernel_rfl)⟩
 ·clear hs hb
  rintro ρ w7 ⟨b2'0, H4, he0, hs, hb, hH⟩
  subst he0
  refine norm_has hH ?_
  clear hH
  refine th_n ?_
  refine wpE_cond (t := (((!r2) || (!r3)) || (aF != 6))) (by kernel_rfl) (fun hc1 => ?_) (fun hc1 => ?_)
  ·replace h := h.1 hc1
   refine wpE_seq (rg (q0 (vi 0) (q0 (vi 90) (wpL_nil (th_n (wpE_ret (th_r ?_)))))))
   replace h := h H4 w7 hs
   replace hs := hs.here
   refine res2 (.inl rfl) Try.results151 (v := (vi 0)) (by kernel_rfl) (v' := (vi 90)) (by kernel_rfl) ?_
   exact ⟨0, 90, rfl, h⟩
  ·replace h := h.2 hc1
   refine wpE_skip (th_n (wpE_seq (rg (q0 how1 (q0 (vp (some (p2.add 1))) (q2 (vi aK) (xl (Try.isAgg3 _) (hb.c 0 1 gZ)) (q0 (vi r1) ?_)))))))
   obtain ⟨f1, fs1, cs1, hp1, h⟩ := h
   replace h := h H4 w7 hs
   replace hs := hs.here
   obtain ⟨hf1, h⟩ := h
   refine st_call (want0 rfl) (x_callmE (fs := fs1) (caps := cs1) (args := #[(vi aK), (vi r1)]) (by kernel_rfl) hp1 hf1 (by kernel_rfl) rfl) (h.mono ?_)
   rintro e w9 ⟨r4, r5, rfl, hk, h⟩
   refine ⟨_, rfl, ?_⟩
   obtain ⟨hs, hb⟩ := hk.hh hs hb
   refine q0 (vi r4) (q0 (vi r5) (q0 (vi r4) (q0 (vi r5) (wpL_nil (th_n (wpE_ret (res2 (.inl rfl) Try.results151 (v := (vi r4)) (by kernel_rfl) (v' := (vi r5)) (by kernel_rfl) ?_)))))))
   exact ⟨r4, r5, rfl, h⟩
def m_recipe_cook_kitchen_9 (aE aA : Int) (aB aC : Int) (aD : ByteArray) (cap1 cap2 : Addr) (w0 : World) (K : Int → Int → World → Prop) : Prop :=
 ∀ (H1 : Nat → Prop) (w1 : World), Hst w0 None w0 H1 w1 →
 ∃ v1 : Option Addr, w1.cell? cap1 = some (vp v1) ∧
 ∃ v2 : Option Addr, w1.cell? cap2 = some (vp v2) ∧
 Calls Try.prog 151 #[(vp v1), (.agg #[(vi aE), (vi aA), (vi aB), (vu aC), (vs aD)]), (.func (.func 101) #[(vp v2)] #[])] w1 (fun e w2 => ∃ r1 r2 : Int, e = .returned (.tuple #[(vi r1), (vi r2)]) ∧ 
  Kept H1 w1 w2 ∧
  K r1 r2 w2)
theorem w_recipe_cook_kitchen_9 (aE aA : Int) (aB aC : Int) (aD : ByteArray) (cap1 cap2 : Addr) (w0 : World) (K : Int → Int → World → Prop) (h : m_recipe_cook_kitchen_9 aE aA aB aC aD cap1 cap2 w0 K) :
  Calls Try.prog 150 #[(.agg #[(vi aE), (vi aA), (vi aB), (vu aC), (vs aD)]), (vp (some cap1)), (vp (some cap2))] w0 (fun e w' => ∃ r3 r4 : Int, e = .returned (.tuple #[(vi r3), (vi r4)]) ∧ K r3 r4 w') := by
 unfold m_recipe_cook_kitchen_9 at h
 refine calls_of_wpE (args := [(.agg #[(vi aE), (vi aA), (vi aB), (vu aC), (vs aD)]), (vp (some cap1)), (vp (some cap2))]) Try.func150 rfl Try.ntmps150 (Nat.le_of_ble_eq_true rfl) ?_
 have hs := Hst.start w0
 have hb := HB.nil None w0
 refine wpE_seq (rg (sn (O := (.cells #[(vi aE), (vi aA), (vi aB), (vu aC), (vs aD)] 103)) xb ?_))
 intro p1 w1 hn1
 obtain ⟨H1, hs, hb⟩ := hs.alloc hb hn1
 refine q0 (vi 0) (q0 (vi 0) (wpL_nil (th_n (wpE_seq (rg ?_)))))
 replace h := h H1 w1 hs
 replace hs := hs.here
 obtain ⟨v1, hv2, h⟩ := h
 refine q2 (vp v1) (xl (Try.isAgg169 _) hv2) (q2 (.agg #[(vi aE), (vi aA), (vi aB), (vu aC), (vs aD)]) (x_loadA (a := p1) (vs := [(vi aE), (vi aA), (vi aB), (vu aC), (vs aD)]) (by kernel_rfl) (Try.isAgg103 _) (Try.sizeOf103 _) rfl (hb.row0 0 5 gZ (by kernel_rfl))) ?_)
 obtain ⟨v2, hv1, h⟩ := h
 refine q2 (vp v2) (xl (Try.isAgg32 _) hv1) (q0 (.func (.func 101) #[(vp v2)] #[]) ?_)
 refine st_call (want0 rfl) (xc Try.call151) (h.mono ?_)
 rintro e w2 ⟨r1, r2, rfl, hk, h⟩
 refine ⟨_, rfl, ?_⟩
 obtain ⟨hs, hb⟩ := hk.hh hs hb
 refine q0 (vi r1) (q0 (vi r2) (q0 (vi r1) (q0 (vi r2) (wpL_nil (th_n (wpE_ret (res2 (.inl rfl) Try.results150 (v := (vi r1)) (by kernel_rfl) (v' := (vi r2)) (by kernel_rfl) ?_)))))))
 exact ⟨r1, r2, rfl, h⟩
def m_recipe_cook_kitchen_10 (aE aA : Int) (aB aC : Int) (aD : ByteArray) (cap1 cap2 : Addr) (w0 : World) (K : Int → Int → World → Prop) : Prop :=
 ∀ (p1 : Addr) (w1 : World), New w0 (.cells #[(vi aE), (vi aA), (vi aB), (vu aC), (vs aD)] 103) p1 w1 →
 ∃ v1 : Option Addr, w1.cell? cap1 = some (vp v1) ∧
 ∃ aO aM : Int, ∃ aN aP : Int, ∃ aQ : ByteArray, Row w1 p1 [(vi aO), (vi aM), (vi aN), (vu aP), (vs aQ)] ∧
 Calls Try.prog 151 #[(vp v1), (.agg #[(vi aO), (vi aM), (vi aN), (vu aP), (vs aQ)]), (.func (.func 153) #[] #[(vp (some cap2)), (vp (some p1))])] w1 (fun e w2 => ∃ r1 r2 : Int, e = .returned (.tuple #[(vi r1), (vi r2)]) ∧ 
  K r1 r2 w2)
theorem w_recipe_cook_kitchen_10 (aE aA : Int) (aB aC : Int) (aD : ByteArray) (cap1 cap2 : Addr) (w0 : World) (K : Int → Int → World → Prop) (h : m_recipe_cook_kitchen_10 aE aA aB aC aD cap1 cap2 w0 K) :
  Calls Try.prog 152 #[(.agg #[(vi aE), (vi aA), (vi aB), (vu aC), (vs aD)]), (vp (some cap1)), (vp (some cap2))] w0 (fun e w' => ∃ r3 r4 : Int, e = .returned (.tuple #[(vi r3), (vi r4)]) ∧ K r3 r4 w') := by
 unfold m_recipe_cook_kitchen_10 at h
 refine calls_of_wpE (args := [(.agg #[(vi aE), (vi aA), (vi aB), (vu aC), (vs aD)]), (vp (some cap1)), (vp (some cap2))]) Try.func152 rfl Try.ntmps152 (Nat.le_of_ble_eq_true rfl) (wpE_seq (rg (sn (O := (.cells #[(vi aE), (vi aA), (vi aB), (vu aC), (vs aD)] 103)) xb ?_)))
 intro p1 w1 hn1
 replace h := h p1 w1 hn1
 refine q0 (vi 0) (q0 (vi 0) (wpL_nil (th_n (wpE_seq (rg ?_)))))
 obtain ⟨v1, hv2, h⟩ := h
 refine q2 (vp v1) (xl (Try.isAgg169 _) hv2) ?_
 obtain ⟨aO, aM, aN, aP, aQ, hv1, h⟩ := h
 refine q2 (.agg #[(vi aO), (vi aM), (vi aN), (vu aP), (vs aQ)]) (x_loadA (a := p1) (vs := [(vi aO), (vi aM), (vi aN), (vu aP), (vs aQ)]) (by kernel_rfl) (Try.isAgg103 _) (Try.sizeOf103 _) rfl hv1) (q0 (.func (.func 153) #[] #[(vp (some cap2)), (vp (some p1))]) ?_)
 refine st_call (want0 rfl) (xc Try.call151) (h.mono ?_)
 rintro e w2 ⟨r1, r2, rfl, h⟩
 refine ⟨_, rfl, ?_⟩
 refine q0 (vi r1) (q0 (vi r2) (q0 (vi r1) (q0 (vi r2) (wpL_nil (th_n (wpE_ret (res2 (.inl rfl) Try.results152 (v := (vi r1)) (by kernel_rfl) (v' := (vi r2)) (by kernel_rfl) ?_)))))))
 exact ⟨r1, r2, rfl, h⟩
def s_recipe_name (n1 : Int) : Int :=
 (cond (decide (n1 > 2147483648)) (-1) (IntKind.i64.wrap n1))
theorem pw_recipe_name (n1 : Int) (w0 : World) :
  Calls Try.prog 154 #[(vu n1)] w0 (fun e w' => ∃ b'0 : Bool, ((decide (n1 > 2147483648)) = b'0) ∧ (e = .returned (vi (cond b'0 (-1) (IntKind.i64.wrap n1)))) ∧ Pure w0 w') := by
 refine calls_of_wpE (args := [(vu n1)]) Try.func154 rfl Try.ntmps154 (Nat.le_of_ble_eq_true rfl) (wpE_seq (rg (q0 (vi 0) (wpL_nil (th_n (wpE_seq (wpE_seq (rg (q0 (vu n1) (q0 (vb (decide (n1 > 2147483648))) (wpL_nil ?_)))))))))))
 refine th_n ?_
 refine wpE_cond (t := (decide (n1 > 2147483648))) (by kernel_rfl) (fun hc1 => ?_) (fun hc1 => ?_)
 ·skip
  refine wpE_seq (rg (q0 (vi (-1)) (wpL_nil (th_n (wpE_ret (th_r (res1 (.inl rfl) Try.results154 (v := (vi (-1))) (by kernel_rfl) ?_)))))))
  exact ⟨true, hc1, by kernel_rfl, Ext.refl _⟩
 ·skip
  refine wpE_skip (th_n (wpE_seq (rg (q0 (vu n1) (q0 (vi (IntKind.i64.wrap n1)) (q0 (vi (IntKind.i64.wrap n1)) (wpL_nil (th_n (wpE_ret (res1 (.inl rfl) Try.results154 (v := (vi (IntKind.i64.wrap n1))) (by kernel_rfl) ?_))))))))))
  exact ⟨false, hc1, by kernel_rfl, Ext.refl _⟩
theorem p_recipe_name (n1 : Int) (w0 : World) : Calls Try.prog 154 #[(.int .u64 n1)] w0 (fun e w' => e = .returned (.int .i64 (s_recipe_name n1)) ∧ Pure w0 w') := by
 refine (pw_recipe_name n1 w0).mono ?_
 rintro e w' ⟨b'0, e0, h, E⟩
 subst e0
 exact ⟨h, E⟩
def m_recipe_cook_kitchen_10_1 (who1 a1 : Int) (cap1 cap2 : Addr) (w0 : World) (K : Int → Int → World → Prop) : Prop :=
 ∃ C1 : World → Prop, C1 w0.drew ∧ ∀ w1, w1 = w0.drew →
 ∃ v1 : Option Addr, (∀ w', C1 w' → w'.cell? cap1 = some (vp v1)) ∧
 ∃ v2 : Int, (∀ w', C1 w' → w'.cell? (cap2.add 3) = some (vu v2)) ∧
 Calls Try.prog 154 #[(vu v2)] w1 (fun e w2 => ∃ r1 : Int, e = .returned (vi r1) ∧ C1 w2 ∧ 
  Kept None w1 w2 ∧
  Calls Try.prog 95 #[(vp v1), (vi who1), (vi r1), (vi a1)] w2 (fun e w3 => ∃ r2 r3 : Int, e = .returned (.tuple #[(vi r2), (vi r3)]) ∧ C1 w3 ∧ 
   Kept None w2 w3 ∧
   K r2 r3 w3))
theorem w_recipe_cook_kitchen_10_1 (who1 a1 : Int) (cap1 cap2 : Addr) (w0 : World) (K : Int → Int → World → Prop) (h : m_recipe_cook_kitchen_10_1 who1 a1 cap1 cap2 w0 K) :
  Calls Try.prog 153 #[(vi who1), (vi a1), (vp (some cap1)), (vp (some cap2))] w0 (fun e w' => ∃ r4 r5 : Int, e = .returned (.tuple #[(vi r4), (vi r5)]) ∧ K r4 r5 w') := by
 unfold m_recipe_cook_kitchen_10_1 at h
 refine calls_of_wpE (args := [(vi who1), (vi a1), (vp (some cap1)), (vp (some cap2))]) Try.func153 rfl Try.ntmps153 (Nat.le_of_ble_eq_true rfl) ?_
 have hs := Hst.start w0
 have hb := HB.nil None w0
 refine wpE_seq (rg (q0 (vi 0) (q0 (vi 0) (wpL_nil (th_n (wpE_seq ?_))))))
 obtain ⟨C1, hC, h⟩ := h
 refine wpE_drawnC C1 [4, 6] [] (by kernel_rfl) (by kernel_rfl) (by kernel_rfl) (by kernel_rfl) hC ?_
 clear hC
 intro w1 hw1
 replace h := h w1 hw1
 replace hs : Hst w0 None w0 None w1 := by rw [hw1]; exact hs.drew
 replace hb : HB None w1 [] := by rw [hw1]; exact hb.drew
 replace hs := hs.here
 refine qgo (k := 0) (by kernel_rfl) ?_
 obtain ⟨v1, hv2, h⟩ := h
 refine sx (v := (vp v1)) Kp0 (want0 rfl) (by kernel_rfl) (fun w' hw' => (xl (Try.isAgg32 _) (hv2 w' hw'))) (qx 1 (vi who1) Kp1 (qx 2 (vp (some (cap2.add 3))) Kp2 (qgo (k := 3) (by kernel_rfl) ?_)))
 obtain ⟨v2, hv1, h⟩ := h
 refine sx (v := (vu v2)) Kp3 (want0 rfl) (by kernel_rfl) (fun w' hw' => (xl (Try.isAgg44 _) (hv1 w' hw'))) (qx 5 (vi a1) Kp5 (lgo (k := 4) (by kernel_rfl) ?_))
 refine sl_call Kp4 (want0 rfl) (by kernel_rfl) (xc Try.call154) (h.mono ?_)
 rintro e w2 ⟨r1, rfl, hC, hk, h⟩
 refine ⟨_, rfl, .inr hC, ?_⟩
 obtain ⟨hs, hb⟩ := hk.hh hs hb
 refine lgo (k := 6) (by kernel_rfl) ?_
 refine sl_call Kp6 (want0 rfl) (by kernel_rfl) (xc Try.call95) (h.mono ?_)
 rintro e w3 ⟨r2, r3, rfl, hC, hk, h⟩
 refine ⟨_, rfl, .inr hC, ?_⟩
 obtain ⟨hs, hb⟩ := hk.hh hs hb
 refine qx 7 (vi r2) Kp7 (qx 8 (vi r3) Kp8 (qx 9 (vi r2) Kp9 (qx 10 (vi r3) (pickA (S8 (pickS (pickS pickZ)))) (wpX_nil (by kernel_rfl) (th_n (wpE_ret (res2 (.inl rfl) Try.results153 (v := (vi r2)) (by kernel_rfl) (v' := (vi r3)) (by kernel_rfl) ?_)))))))
 exact ⟨r2, r3, rfl, h⟩
def m_recipe_cook_kitchen_11 (aE aA : Int) (aB aC : Int) (aD : ByteArray) (cap1 cap2 : Addr) (w0 : World) (K : Int → Int → World → Prop) : Prop :=
 ∀ (p1 : Addr) (w1 : World), New w0 (.cells #[(vi aE), (vi aA), (vi aB), (vu aC), (vs aD)] 103) p1 w1 →
 ∃ v1 : Option Addr, w1.cell? cap1 = some (vp v1) ∧
 ∃ aO aM : Int, ∃ aN aP : Int, ∃ aQ : ByteArray, Row w1 p1 [(vi aO), (vi aM), (vi aN), (vu aP), (vs aQ)] ∧
 Calls Try.prog 151 #[(vp v1), (.agg #[(vi aO), (vi aM), (vi aN), (vu aP), (vs aQ)]), (.func (.func 156) #[] #[(vp (some cap2)), (vp (some p1))])] w1 (fun e w2 => ∃ r1 r2 : Int, e = .returned (.tuple #[(vi r1), (vi r2)]) ∧ 
  K r1 r2 w2)
theorem w_recipe_cook_kitchen_11 (aE aA : Int) (aB aC : Int) (aD : ByteArray) (cap1 cap2 : Addr) (w0 : World) (K : Int → Int → World → Prop) (h : m_recipe_cook_kitchen_11 aE aA aB aC aD cap1 cap2 w0 K) :
  Calls Try.prog 155 #[(.agg #[(vi aE), (vi aA), (vi aB), (vu aC), (vs aD)]), (vp (some cap1)), (vp (some cap2))] w0 (fun e w' => ∃ r3 r4 : Int, e = .returned (.tuple #[(vi r3), (vi r4)]) ∧ K r3 r4 w') := by
 unfold m_recipe_cook_kitchen_11 at h
 refine calls_of_wpE (args := [(.agg #[(vi aE), (vi aA), (vi aB), (vu aC), (vs aD)]), (vp (some cap1)), (vp (some cap2))]) Try.func155 rfl Try.ntmps155 (Nat.le_of_ble_eq_true rfl) (wpE_seq (rg (sn (O := (.cells #[(vi aE), (vi aA), (vi aB), (vu aC), (vs aD)] 103)) xb ?_)))
 intro p1 w1 hn1
 replace h := h p1 w1 hn1
 refine q0 (vi 0) (q0 (vi 0) (wpL_nil (th_n (wpE_seq (rg ?_)))))
 obtain ⟨v1, hv2, h⟩ := h
 refine q2 (vp v1) (xl (Try.isAgg169 _) hv2) ?_
 obtain ⟨aO, aM, aN, aP, aQ, hv1, h⟩ := h
 refine q2 (.agg #[(vi aO), (vi aM), (vi aN), (vu aP), (vs aQ)]) (x_loadA (a := p1) (vs := [(vi aO), (vi aM), (vi aN), (vu aP), (vs aQ)]) (by kernel_rfl) (Try.isAgg103 _) (Try.sizeOf103 _) rfl hv1) (q0 (.func (.func 156) #[] #[(vp (some cap2)), (vp (some p1))]) ?_)
 refine st_call (want0 rfl) (xc Try.call151) (h.mono ?_)
 rintro e w2 ⟨r1, r2, rfl, h⟩
 refine ⟨_, rfl, ?_⟩
 refine q0 (vi r1) (q0 (vi r2) (q0 (vi r1) (q0 (vi r2) (wpL_nil (th_n (wpE_ret (res2 (.inl rfl) Try.results155 (v := (vi r1)) (by kernel_rfl) (v' := (vi r2)) (by kernel_rfl) ?_)))))))
 exact ⟨r1, r2, rfl, h⟩
def m_recipe_cook_kitchen_11_1 (who1 a1 : Int) (cap1 cap2 : Addr) (w0 : World) (K : Int → Int → World → Prop) : Prop :=
 ∃ C1 : World → Prop, C1 w0.drew ∧ ∀ w1, w1 = w0.drew →
 ∃ v1 : Option Addr, (∀ w', C1 w' → w'.cell? cap1 = some (vp v1)) ∧
 ∃ v2 : Int, (∀ w', C1 w' → w'.cell? (cap2.add 3) = some (vu v2)) ∧
 Calls Try.prog 154 #[(vu v2)] w1 (fun e w2 => ∃ r1 : Int, e = .returned (vi r1) ∧ C1 w2 ∧ 
  Kept None w1 w2 ∧
  Calls Try.prog 96 #[(vp v1), (vi r1), (vi who1), (vi a1)] w2 (fun e w3 => ∃ r2 r3 : Int, e = .returned (.tuple #[(vi r2), (vi r3)]) ∧ C1 w3 ∧ 
   Kept None w2 w3 ∧
   K r2 r3 w3))
theorem w_recipe_cook_kitchen_11_1 (who1 a1 : Int) (cap1 cap2 : Addr) (w0 : World) (K : Int → Int → World → Prop) (h : m_recipe_cook_kitchen_11_1 who1 a1 cap1 cap2 w0 K) :
  Calls Try.prog 156 #[(vi who1), (vi a1), (vp (some cap1)), (vp (some cap2))] w0 (fun e w' => ∃ r4 r5 : Int, e = .returned (.tuple #[(vi r4), (vi r5)]) ∧ K r4 r5 w') := by
 unfold m_recipe_cook_kitchen_11_1 at h
 refine calls_of_wpE (args := [(vi who1), (vi a1), (vp (some cap1)), (vp (some cap2))]) Try.func156 rfl Try.ntmps156 (Nat.le_of_ble_eq_true rfl) ?_
 have hs := Hst.start w0
 have hb := HB.nil None w0
 refine wpE_seq (rg (q0 (vi 0) (q0 (vi 0) (wpL_nil (th_n (wpE_seq ?_))))))
 obtain ⟨C1, hC, h⟩ := h
 refine wpE_drawnC C1 [3, 6] [] (by kernel_rfl) (by kernel_rfl) (by kernel_rfl) (by kernel_rfl) hC ?_
 clear hC
 intro w1 hw1
 replace h := h w1 hw1
 replace hs : Hst w0 None w0 None w1 := by rw [hw1]; exact hs.drew
 replace hb : HB None w1 [] := by rw [hw1]; exact hb.drew
 replace hs := hs.here
 refine qgo (k := 0) (by kernel_rfl) ?_
 obtain ⟨v1, hv2, h⟩ := h
 refine sx (v := (vp v1)) Kp0 (want0 rfl) (by kernel_rfl) (fun w' hw' => (xl (Try.isAgg32 _) (hv2 w' hw'))) (qx 1 (vp (some (cap2.add 3))) Kp1 (qgo (k := 2) (by kernel_rfl) ?_))
 obtain ⟨v2, hv1, h⟩ := h
 refine sx (v := (vu v2)) Kp2 (want0 rfl) (by kernel_rfl) (fun w' hw' => (xl (Try.isAgg44 _) (hv1 w' hw'))) (qx 4 (vi who1) Kp4 (qx 5 (vi a1) Kp5 (lgo (k := 3) (by kernel_rfl) ?_)))
 refine sl_call Kp3 (want0 rfl) (by kernel_rfl) (xc Try.call154) (h.mono ?_)
 rintro e w2 ⟨r1, rfl, hC, hk, h⟩
 refine ⟨_, rfl, .inr hC, ?_⟩
 obtain ⟨hs, hb⟩ := hk.hh hs hb
 refine lgo (k := 6) (by kernel_rfl) ?_
 refine sl_call Kp6 (want0 rfl) (by kernel_rfl) (xc Try.call96) (h.mono ?_)
 rintro e w3 ⟨r2, r3, rfl, hC, hk, h⟩
 refine ⟨_, rfl, .inr hC, ?_⟩
 obtain ⟨hs, hb⟩ := hk.hh hs hb
 refine qx 7 (vi r2) Kp7 (qx 8 (vi r3) Kp8 (qx 9 (vi r2) Kp9 (qx 10 (vi r3) (pickA (S8 (pickS (pickS pickZ)))) (wpX_nil (by kernel_rfl) (th_n (wpE_ret (res2 (.inl rfl) Try.results156 (v := (vi r2)) (by kernel_rfl) (v' := (vi r3)) (by kernel_rfl) ?_)))))))
 exact ⟨r2, r3, rfl, h⟩
end Go.Proofs
end
section
open Go Go.SE
namespace Go.Proofs
attribute [local irreducible] Calls
abbrev DoPost (p : Addr) (F : Nat → Prop) (w : World) (R : Sp.Res) (e : Ending) (w' : World) : Prop :=
 ∃ r1 : Int, ∃ r2 : Int, e = .returned (.tuple #[.int .i64 r1, .int .i64 r2]) ∧ ((r1, r2) = (R.1, R.2.1) ∧ ∃ F', PoolAt w' p R.2.2 F' ∧ Ext F w w' ∧ ∀ b, F' b → F b ∨ w.heap.size ≤ b)
section
variable (p : Addr) (w0 : World) {L : Sp.Pool} {F : Nat → Prop} (hP : PoolAt w0 p L F) (hok : Sp.Ok L)
include hP hok
theorem c_Prom (n t a : Int) : Calls Try.prog 95 #[.pointer (some p), .int .i64 n, .int .i64 t, .int .i64 a] w0 (MakePost p L F w0 ⟨8, n, t, 0, ⟨#[]⟩, a, 0⟩) := by
 refine w_term_Pool_Prom _ _ _ _ w0 (fun r1 r2 w' => (r1, r2) = ((Sp.make L ⟨8, n, t, 0, ⟨#[]⟩, a, 0⟩).1, (Sp.make L ⟨8, n, t, 0, ⟨#[]⟩, a, 0⟩).2.1) ∧ ∃ F', PoolAt w' p (Sp.make L ⟨8, n, t, 0, ⟨#[]⟩, a, 0⟩).2.2 F' ∧ Ext F w0 w' ∧ ∀ b, F' b → F b ∨ w0.heap.size ≤ b) ?_
 unfold m_term_Pool_Prom
 refine (c_Make p _ _ _ _ _ _ _ w0 hP hok).mono ?_
 rintro _ w1 ⟨r1, r2, rfl, h⟩
 exact ⟨r1, r2, rfl, h⟩
theorem c_Fake (n t a : Int) : Calls Try.prog 96 #[.pointer (some p), .int .i64 n, .int .i64 t, .int .i64 a] w0 (MakePost p L F w0 ⟨9, n, t, 0, ⟨#[]⟩, a, 0⟩) := by
 refine w_term_Pool_Fake _ _ _ _ w0 (fun r1 r2 w' => (r1, r2) = ((Sp.make L ⟨9, n, t, 0, ⟨#[]⟩, a, 0⟩).1, (Sp.make L ⟨9, n, t, 0, ⟨#[]⟩, a, 0⟩).2.1) ∧ ∃ F', PoolAt w' p (Sp.make L ⟨9, n, t, 0, ⟨#[]⟩, a, 0⟩).2.2 F' ∧ Ext F w0 w' ∧ ∀ b, F' b → F b ∨ w0.heap.size ≤ b) ?_
 unfold m_term_Pool_Fake
 refine (c_Make p _ _ _ _ _ _ _ w0 hP hok).mono ?_
 rintro _ w1 ⟨r1, r2, rfl, h⟩
 exact ⟨r1, r2, rfl, h⟩
theorem c_Data (x : ByteArray) : Calls Try.prog 142 #[.pointer (some p), .string x] w0 (MakePost p L F w0 ⟨3, 0, 0, 0, x, 0, 0⟩) := by
 refine w_term_Pool_Data _ _ w0 (fun r1 r2 w' => (r1, r2) = ((Sp.make L ⟨3, 0, 0, 0, x, 0, 0⟩).1, (Sp.make L ⟨3, 0, 0, 0, x, 0, 0⟩).2.1) ∧ ∃ F', PoolAt w' p (Sp.make L ⟨3, 0, 0, 0, x, 0, 0⟩).2.2 F' ∧ Ext F w0 w' ∧ ∀ b, F' b → F b ∨ w0.heap.size ≤ b) ?_
 unfold m_term_Pool_Data
 refine (c_Make p _ _ _ _ _ _ _ w0 hP hok).mono ?_
 rintro _ w1 ⟨r1, r2, rfl, h⟩
 exact ⟨r1, r2, rfl, h⟩
end
def oprow (o : Sp.Op) : List Value := [.int .i64 o.code, .int .i64 o.a, .int .i64 o.b, .int .u64 o.num, .string o.text]
def opv (o : Sp.Op) : Value := .agg #[.int .i64 o.code, .int .i64 o.a, .int .i64 o.b, .int .u64 o.num, .string o.text]
structure CookS (w : World) (c p : Addr) (sg sm : Sl) (G M : List Int) : Prop where
 box : Box w c [.pointer (some p), sg.v, sm.v] 171
 giv : Rws w 38 1 sg (tmr G)
 made : Rws w 38 1 sm (tmr M)
def CookF (c : Addr) (sg sm : Sl) (b : Nat) : Prop := b = c.block ∨ sg.blk b ∨ sm.blk b
section
variable {w w' : World} {c p : Addr} {sg sm : Sl} {G M : List Int}
theorem CookS.ext {X : Nat → Prop} (h : CookS w c p sg sm G M) (hE : Ext X w w') (hd : ∀ b, CookF c sg sm b → ¬ X b) : CookS w' c p sg sm G M :=
 ⟨h.box.ext hE (hd _ (.inl rfl)), h.giv.ext hE (fun b hb => hd _ (.inr (.inl hb))), h.made.ext hE (fun b hb => hd _ (.inr (.inr hb)))⟩
theorem CookS.pure (h : CookS w c p sg sm G M) (hE : Pure w w') : CookS w' c p sg sm G M := h.ext hE (fun _ _ h => h)
theorem CookS.lt (h : CookS w c p sg sm G M) {b : Nat} (hb : CookF c sg sm b) : b < w.heap.size := by
 rcases hb with rfl | hb | hb
 ·exact h.box.lt
 ·exact h.giv.lt hb
 ·exact h.made.lt hb
end
theorem tms_nth {w : World} {e : TypeId} {s : Sl} {ts : List Int} (h : Rws w e 1 s (tmr ts)) {i t : Int} (hi : Sp.atM ts i = some t) : ∃ a, At s i 1 a ∧ w.cell? a = some (.int .i64 t) := by
 obtain ⟨h0, h1, rfl⟩ := Sp.atM_some hi
 obtain ⟨a, h2, h3, _⟩ := h.at h0 (by simpa [tmr] using h1)
 exact ⟨a, h2, row_cell (by simpa [tmr] using h3)⟩
section
variable {w0 : World} {c p : Addr} {sg sm : Sl} {G M : List Int} (hC : CookS w0 c p sg sm G M)
include hC
theorem c_cook_at (i : Int) : Calls Try.prog 144 #[.pointer (some c), .int .i64 i] w0 (fun e w' => ∃ r : Int, ∃ ok : Bool, e = .returned (.tuple #[.int .i64 r, .bool ok]) ∧ ((match Sp.atM M i with | none => r = 0 ∧ ok = false | some t => r = t ∧ ok = true) ∧ w' = w0)) := by
 refine w_recipe_cook_at _ _ w0 (fun r ok w' => (match Sp.atM M i with | none => r = 0 ∧ ok = false | some t => r = t ∧ ok = true) ∧ w' = w0) ?_
 unfold m_recipe_cook_at
 have hl : sm.len = M.length := by rw [hC.made.len, tmr_len]
 refine ⟨fun h => ?_, fun h => ?_⟩
 ·rw [Sp.atM_out (.inl (of_decide_eq_true h))]; exact ⟨⟨rfl, rfl⟩, rfl⟩
 ·have h := of_decide_eq_false h
  refine ⟨c, rfl, sm, hC.box.cell rfl, fun h1 => ?_, fun h1 => ?_⟩
  ·rw [Sp.atM_out (.inr (by have := of_decide_eq_true h1; omega))]; exact ⟨⟨rfl, rfl⟩, rfl⟩
  ·have h1 := of_decide_eq_false h1
   have e : Sp.atM M i = some (M[i.toNat]'(by omega)) := Sp.atM_in (by omega) (by omega)
   obtain ⟨a, ha, hc⟩ := tms_nth hC.made e
   refine ⟨c, rfl, sm, hC.box.cell rfl, a, ha, _, hc, ?_⟩
   rw [e]; exact ⟨⟨rfl, rfl⟩, rfl⟩
variable {L : Sp.Pool} {F : Nat → Prop} (hP : PoolAt w0 p L F) (hok : Sp.Ok L)
include hP hok
theorem c_cook_node (i : Int) : Calls Try.prog 197 #[.pointer (some c), .int .i64 i] w0
  (fun e w' => ∃ k : Int, ∃ f : Int, ∃ t' : Int, ∃ u : Int, ∃ x : ByteArray, ∃ a : Int, ∃ b : Int, ∃ r : Bool, e = .returned (.tuple #[.agg #[.int .i64 k, .int .i64 f, .int .i64 t', .int .u64 u, .string x, .int .i64 a, .int .i64 b], .bool r]) ∧ (((⟨k, f, t', u, x, a, b⟩ : Sp.Node) = Sp.nodeAt L M i ∧ (r = false → Sp.nodeAt L M i = Sp.noNode)) ∧ Pure w0 w')) := by
 refine w_recipe_cook_node _ _ w0 (fun k f t' u x a b r w' => ((⟨k, f, t', u, x, a, b⟩ : Sp.Node) = Sp.nodeAt L M i ∧ (r = false → Sp.nodeAt L M i = Sp.noNode)) ∧ Pure w0 w') ?_
 unfold m_recipe_cook_node
 intro H1 w1 hs1
 have E1 := hs1.first
 refine (c_cook_at (hC.pure E1) i).mono ?_
 rintro _ _ ⟨r, ok, rfl, hr, rfl⟩
 refine ⟨_, _, rfl, Kept.refl _, ?_⟩
 unfold Sp.nodeAt
 cases ht : Sp.atM M i with
 | none =>
  rw [ht] at hr; obtain ⟨rfl, rfl⟩ := hr
  exact Br.t rfl (fun w3 hs3 => ⟨⟨rfl, fun _ => rfl⟩, E1.hst hs3⟩)
 | some t =>
  rw [ht] at hr; obtain ⟨rfl, rfl⟩ := hr
  refine Br.f rfl ⟨c, rfl, some p, (hC.pure E1).box.cell0, ?_⟩
  refine (c_Node p r _ (hP.pure E1) hok).mono ?_
  rintro _ w4 ⟨k, f, t', u, x, a, b, o, rfl, ⟨h1, h2⟩, E4⟩
  refine ⟨_, _, _, _, _, _, _, _, rfl, E4.keptP, fun w5 hs5 => ⟨⟨h1, fun ho => ?_⟩, (E1.trans E4).hst hs5⟩⟩
  exact Sp.nodeOf_out (h2.symm.trans ho)
theorem c_cook_part (o : Sp.Op) (s : Bool) : Calls Try.prog 147 #[.pointer (some c), opv o, .bool s] w0 (DoPost p F w0 (Sp.partOp L M o s)) := by
 obtain ⟨co, oa, ob, on, ox⟩ := o
 refine w_recipe_cook_part _ _ _ _ _ _ _ w0 (fun r1 r2 w' => (r1, r2) = ((Sp.partOp L M ⟨co, oa, ob, on, ox⟩ s).1, (Sp.partOp L M ⟨co, oa, ob, on, ox⟩ s).2.1) ∧ ∃ F', PoolAt w' p (Sp.partOp L M ⟨co, oa, ob, on, ox⟩ s).2.2 F' ∧ Ext F w0 w' ∧ ∀ b, F' b → F b ∨ w0.heap.size ≤ b) ?_
 unfold m_recipe_cook_part
 intro H1 w1 hs1
 have E1 := hs1.first
 refine (c_cook_node (hC.pure E1) (hP.pure E1) hok oa).mono ?_
 rintro _ w2 ⟨k, f, t', u, x, a, b, r, rfl, ⟨hn, hr⟩, E2⟩
 refine ⟨_, _, _, _, _, _, _, _, rfl, E2.keptP, ?_⟩
 have fin : ∀ {H' w'}, Hst w0 H1 w2 H' w' → ∃ F', PoolAt w' p L F' ∧ Ext F w0 w' ∧ ∀ b, F' b → F b ∨ w0.heap.size ≤ b := fun hs => by
  have E := (E1.trans E2).hst hs
  exact ⟨F, hP.pure E, E.pure, fun b hb => .inl hb⟩
 unfold Sp.partOp
 simp only
 rw [← hn] at hr ⊢
 refine ⟨fun h => fun H w hs => ?_, fun h => ?_⟩
 ·rw [if_neg]
  ·exact ⟨rfl, fin hs⟩
  ·intro h4
   simp only at h4
   subst h4
   have : r = false := by simpa using h
   have := hr this
   simp [Sp.noNode] at this
 ·have hk : k = 4 := by
   rw [Bool.or_eq_false_iff] at h
   simpa using h.2
  rw [if_pos hk]
  refine ⟨fun h => ?_, fun h => ?_⟩ <;> subst h <;> exact fun H w hs => ⟨rfl, fin hs⟩
theorem c_cook_shown (o : Sp.Op) : Calls Try.prog 149 #[.pointer (some c), opv o] w0 (DoPost p F w0 (Sp.shownOp L M o)) := by
 obtain ⟨co, oa, ob, on, ox⟩ := o
 refine w_recipe_cook_shown _ _ _ _ _ _ w0 (fun r1 r2 w' => (r1, r2) = ((Sp.shownOp L M ⟨co, oa, ob, on, ox⟩).1, (Sp.shownOp L M ⟨co, oa, ob, on, ox⟩).2.1) ∧ ∃ F', PoolAt w' p (Sp.shownOp L M ⟨co, oa, ob, on, ox⟩).2.2 F' ∧ Ext F w0 w' ∧ ∀ b, F' b → F b ∨ w0.heap.size ≤ b) ?_
 unfold m_recipe_cook_shown
 intro H1 w1 hs1
 have E1 := hs1.first
 refine (c_cook_node (hC.pure E1) (hP.pure E1) hok oa).mono ?_
 rintro _ w2 ⟨k, f, t', u, x, a, b, r, rfl, ⟨hn, hr⟩, E2⟩
 refine ⟨_, _, _, _, _, _, _, _, rfl, E2.keptP, ?_⟩
 have fin : ∀ {H' w'}, Hst w0 H1 w2 H' w' → ∃ F', PoolAt w' p L F' ∧ Ext F w0 w' ∧ ∀ b, F' b → F b ∨ w0.heap.size ≤ b := fun hs => by
  have E := (E1.trans E2).hst hs
  exact ⟨F, hP.pure E, E.pure, fun b hb => .inl hb⟩
 unfold Sp.shownOp
 simp only
 rw [← hn] at hr ⊢
 have hsk : Sp.showsK k = !((((k : Int) != 7) && ((k : Int) != 8)) && ((k : Int) != 9)) := by
  unfold Sp.showsK
  by_cases h7 : k = 7 <;> by_cases h8 : k = 8 <;> by_cases h9 : k = 9 <;> simp [bne, h7, h8, h9]
 refine ⟨fun h => fun H w hs => ?_, fun h => fun H w hs => ?_⟩
 ·rw [if_neg]
  ·exact ⟨rfl, fin hs⟩
  ·intro h4
   simp only at h4
   rw [hsk] at h4
   have h4' : ((((k : Int) != 7) && ((k : Int) != 8)) && ((k : Int) != 9)) = false := by simpa only [Bool.not_eq_true'] using h4
   rw [h4', Bool.or_false] at h
   have hrf : r = false := by simpa using h
   have hz := hr hrf
   simp only [Sp.noNode, Sp.Node.mk.injEq] at hz
   rw [hz.1] at h4'
   revert h4'; decide
 ·have hk : Sp.showsK k = true := by
   rw [Bool.or_eq_false_iff] at h
   rw [hsk, h.2]; rfl
  rw [if_pos hk]
  exact ⟨rfl, fin hs⟩
theorem c_cook_keyed (o : Sp.Op) (f1 : FuncId) (fs cs : Array Value) (mk : Int → Int → Sp.Node) (hf : ∀ args w, (callFunc f1 args).run Try.prog w = .ok (.enter f1 args) w)
  (how : ∀ (k a : Int) (w1 : World), Pure w0 w1 → Calls Try.prog f1 (fs ++ #[.int .i64 k, .int .i64 a] ++ cs) w1 (MakePost p L F w1 (mk k a))) :
  Calls Try.prog 151 #[.pointer (some c), opv o, .func (.func f1) fs cs] w0 (DoPost p F w0 (Sp.keyedOp L M o mk)) := by
 obtain ⟨co, oa, ob, on, ox⟩ := o
 refine w_recipe_cook_keyed _ _ _ _ _ _ _ w0 (fun r1 r2 w' => (r1, r2) = ((Sp.keyedOp L M ⟨co, oa, ob, on, ox⟩ mk).1, (Sp.keyedOp L M ⟨co, oa, ob, on, ox⟩ mk).2.1) ∧ ∃ F', PoolAt w' p (Sp.keyedOp L M ⟨co, oa, ob, on, ox⟩ mk).2.2 F' ∧ Ext F w0 w' ∧ ∀ b, F' b → F b ∨ w0.heap.size ≤ b) ?_
 unfold m_recipe_cook_keyed
 intro H1 w1 hs1
 have E1 := hs1.first
 refine (c_cook_at (hC.pure E1) oa).mono ?_
 rintro _ _ ⟨ra, oka, rfl, hra, rfl⟩
 refine ⟨_, _, rfl, Kept.refl _, ?_⟩
 refine (c_cook_node (hC.pure E1) (hP.pure E1) hok ob).mono ?_
 rintro _ w2 ⟨k, f, t', u, x, a, b, r, rfl, ⟨hn, hr⟩, E2⟩
 refine ⟨_, _, _, _, _, _, _, _, rfl, E2.keptP, ?_⟩
 have fin : ∀ {H' w'}, Hst w0 H1 w2 H' w' → ∃ F', PoolAt w' p L F' ∧ Ext F w0 w' ∧ ∀ b, F' b → F b ∨ w0.heap.size ≤ b := fun hs => by
  have E := (E1.trans E2).hst hs
  exact ⟨F, hP.pure E, E.pure, fun b hb => .inl hb⟩
 unfold Sp.keyedOp
 simp only
 rw [← hn] at hr ⊢
 have hrk : k = 6 → r = true := fun h6 => by
  cases r with
  | true => rfl
  | false => have := hr rfl; simp only [Sp.noNode, Sp.Node.mk.injEq] at this; omega
 cases ht : Sp.atM M oa with
 | none =>
  rw [ht] at hra; obtain ⟨rfl, rfl⟩ := hra
  exact Br.t (by simp) (fun H w hs => ⟨rfl, fin hs⟩)
 | some t =>
  rw [ht] at hra; obtain ⟨rfl, rfl⟩ := hra
  simp only
  refine ⟨fun h => fun H w hs => ?_, fun h => ?_⟩
  ·rw [if_neg]
   ·exact ⟨rfl, fin hs⟩
   ·intro h6
    rw [hrk h6, h6] at h
    revert h; decide
  ·have hk : k = 6 := by
    rw [Bool.or_eq_false_iff] at h
    simpa using h.2
   rw [if_pos hk]
   refine ⟨f1, fs, cs, rfl, fun H w hs => ⟨hf, ?_⟩⟩
   have E := (E1.trans E2).hst hs
   refine (how f ra w E).mono ?_
   rintro _ w9 ⟨r4, r5, rfl, h1, F', hP', X, hF'⟩
   exact ⟨r4, r5, rfl, X.kept (fun b hb hx => by have := hs.old b hb; have := hP.lt hx; omega), h1, F', hP', (E.pure (F := F)).trans X, fun b hb => (hF' b hb).imp_right (fun h => by have := E.size; omega)⟩
end
end Go.Proofs
end
section
open Go Go.SE
namespace Go.Proofs
set_option maxRecDepth 100000
set_option maxHeartbeats 4000000
attribute [local irreducible] wpL wpX opE wpE Calls
def m_ref05_Lent_l1 (aE aG : Int) (aH aI : Int) (aJ : ByteArray) (aD : Sl) (i1 bG : Int) (bH bI bJ : Int) (bK : ByteArray) (bD : Sl) (w0 : World) (Hl1 : Nat → Prop) (wl1 : World) (Kc1 : Int → Int → Int → Int → Int → ByteArray → Sl → (Nat → Prop) → World → Prop) (K : Int → Int → Int → Int → ByteArray → Sl → World → Prop) : Prop :=
 Br (decide (i1 < (aD.len : Int)))
  (∃ C1 : World → Prop, C1 wl1.drew ∧ ∀ w6, w6 = wl1.drew →
  ∃ a1 : Addr, At aD i1 6 a1 ∧
  ∃ aN aO : Int, ∃ aP aQ : Int, ∃ aR : ByteArray, ∃ aX : Sl, (∀ w', C1 w' → Row w' a1 [(vi aN), (vi aO), (vi aP), (vu aQ), (vs aR), aX.v]) ∧
  Calls Try.prog 24 #[(.agg #[(vi aN), (vi aO), (vi aP), (vu aQ), (vs aR), aX.v])] w6 (fun e w7 => ∃ bN bO : Int, ∃ bP bQ : Int, ∃ bR : ByteArray, ∃ bS : Sl, e = .returned (.agg #[(vi bN), (vi bO), (vi bP), (vu bQ), (vs bR), bS.v]) ∧ C1 w7 ∧ 
   Kept Hl1 w6 w7 ∧
   ∀ (p4 : Addr) (w8 : World), New w7 (.cells #[(vi bN), (vi bO), (vi bP), (vu bQ), (vs bR), bS.v] 46) p4 w8 → C1 w8 ∧
   ∃ s1 : Sl, ∃ w9 : World, (Builtin.append_ #[22, 22] 22 #[bD.v, (Sl.mk (some p4) 1 1).v]).run Try.prog w8 = .ok s1.v w9 ∧ C1 w9 ∧
   Kept Hl1 w8 w9 ∧
   ∀ (w10 : World), Hst w0 Hl1 w9 Hl1 w10 →
   Kc1 (IntKind.i64.wrap (i1 + 1)) bG bH bI bJ bK s1 Hl1 w10))
  (∃ C2 : World → Prop, C2 wl1.drew ∧ ∀ w11, w11 = wl1.drew →
  ∀ (p5 : Addr) (w12 : World), New w11 (.cells #[(vi (-1)), (vi 0), (vi 0), (vu 0), (vs ⟨#[]⟩), Sl.nil.v] 46) p5 w12 → C2 w12 ∧
  ∃ s2 : Sl, ∃ w13 : World, (Builtin.append_ #[22, 22] 22 #[bD.v, (Sl.mk (some p5) 1 1).v]).run Try.prog w12 = .ok s2.v w13 ∧ C2 w13 ∧
  Kept Hl1 w12 w13 ∧
  ∃ s3 : Sl, (∀ w', C2 w' → (Instr.sliceAt 22 s2.v none (some (vi (bD.len : Int))) none).run Try.prog w' = .ok s3.v w') ∧
  ∀ (w14 : World), Hst w0 Hl1 w13 Hl1 w14 →
  K aE aG aH aI aJ s3 w14)
def m_ref05_Lent (aE aG : Int) (aH aI : Int) (aJ : ByteArray) (aD : Sl) (w0 : World) (K : Int → Int → Int → Int → ByteArray → Sl → World → Prop) : Prop :=
 ∀ (H3 : Nat → Prop) (w5 : World), Hst w0 None w0 H3 w5 →
 ∃ (I1 : Int → Int → Int → Int → Int → ByteArray → Sl → (Nat → Prop) → World → Prop) (mu1 : Int → Int → Int → Int → Int → ByteArray → Sl → World → Nat), I1 0 aE aG aH aI aJ Sl.nil H3 w5 ∧
  ∀ (i1 bG : Int) (bH bI bJ : Int) (bK : ByteArray) (bD : Sl) (Hl1 : Nat → Prop) (wl1 : World), Hst w0 Hl1 wl1 Hl1 wl1 → I1 i1 bG bH bI bJ bK bD Hl1 wl1 → m_ref05_Lent_l1 aE aG aH aI aJ aD i1 bG bH bI bJ bK bD w0 Hl1 wl1 (fun y'0 y'1 y'2 y'3 y'4 y'5 y'6 H' w' => I1 y'0 y'1 y'2 y'3 y'4 y'5 y'6 H' w' ∧ mu1 y'0 y'1 y'2 y'3 y'4 y'5 y'6 w' < mu1 i1 bG bH bI bJ bK bD wl1) K
theorem w_ref05_Lent (aE aG : Int) (aH aI : Int) (aJ : ByteArray) (aD : Sl) (w0 : World) (K : Int → Int → Int → Int → ByteArray → Sl → World → Prop) (h : m_ref05_Lent aE aG aH aI aJ aD w0 K) :
  Calls Try.prog 24 #[(.agg #[(vi aE), (vi aG), (vi aH), (vu aI), (vs aJ), aD.v])] w0 (fun e w' => ∃ bZ cA : Int, ∃ cB cC : Int, ∃ cD : ByteArray, ∃ cE : Sl, e = .returned (.agg #[(vi bZ), (vi cA), (vi cB), (vu cC), (vs cD), cE.v]) ∧ K bZ cA cB cC cD cE w') := by
 unfold m_ref05_Lent at h
 refine calls_of_wpE (args := [(.agg #[(vi aE), (vi aG), (vi aH), (vu aI), (vs aJ), aD.v])]) Try.func24 rfl Try.ntmps24 (Nat.le_of_ble_eq_true rfl) ?_
 have hs := Hst.start w0
 have hb := HB.nil None w0
 refine wpE_seq (rg (sn (O := (.cells #[(vi aE), (vi aG), (vi aH), (vu aI), (vs aJ), aD.v] 46)) xb ?_))
 intro p1 w1 hn1
 obtain ⟨H1, hs, hb⟩ := hs.alloc hb hn1
 refine sn (O := (.cells #[(vi 0), (vi 0), (vi 0), (vu 0), (vs ⟨#[]⟩), Sl.nil.v] 46)) (x_alloc (Try.zeroValue46 _) rfl) ?_
 intro p2 w2 hn2
 obtain ⟨H2, hs, hb⟩ := hs.alloc hb hn2
 refine wpL_nil (th_n (wpE_seq (rg (q2 (.agg #[(vi aE), (vi aG), (vi aH), (vu aI), (vs aJ), aD.v]) (x_loadA (a := p1) (vs := [(vi aE), (vi aG), (vi aH), (vu aI), (vs aJ), aD.v]) (by kernel_rfl) (Try.isAgg46 _) (Try.sizeOf46 _) rfl (hb.row0 1 6 (gS gZ) (by kernel_rfl))) (sn (O := (.cells #[(vi 0), (vi 0), (vi 0), (vu 0), (vs ⟨#[]⟩), Sl.nil.v] 46)) (x_alloc (Try.zeroValue46 _) rfl) ?_)))))
 intro p3 w3 hn3
 obtain ⟨H3, hs, hb⟩ := hs.alloc hb hn3
 refine st_set (want0 rfl) (x_storeA (a := p3) (vs := [(vi aE), (vi aG), (vi aH), (vu aI), (vs aJ), aD.v]) (by kernel_rfl) (by kernel_rfl) rfl (Try.sizeOf46 _) rfl (hb.canWs0 0 6 gZ (by kernel_rfl))) ?_
 intro w4 hn4
 have hsb : Hst w0 None w0 H3 w4 ∧ HB H3 w4 [(p3, [(vi aE), (vi aG), (vi aH), (vu aI), (vs aJ), aD.v], 46), (p2, [(vi 0), (vi 0), (vi 0), (vu 0), (vs ⟨#[]⟩), Sl.nil.v], 46), (p1, [(vi aE), (vi aG), (vi aH), (vu aI), (vs aJ), aD.v], 46)] := by
  rw [hn4]
  exact hb.store0 (i := 0) (vs := [(vi aE), (vi aG), (vi aH), (vu aI), (vs aJ), aD.v]) hs gZ (by kernel_rfl) (by kernel_rfl)
 clear hs hb hn4
 obtain ⟨hs, hb⟩ := hsb
 refine wpL_nil (th_n (wpE_seq (rg (q0 (vp (some (p3.add 5))) (st_set (want0 rfl) (x_store (a := (p3.add 5)) (v := Sl.nil.v) (by kernel_rfl) (by kernel_rfl) rfl (Try.sizeOf22 _) (hb.canW 0 5 gZ (by kernel_rfl))) ?_)))))
 intro w5 hn5
 have hsb : Hst w0 None w0 H3 w5 ∧ HB H3 w5 [(p3, [(vi aE), (vi aG), (vi aH), (vu aI), (vs aJ), Sl.nil.v], 46), (p2, [(vi 0), (vi 0), (vi 0), (vu 0), (vs ⟨#[]⟩), Sl.nil.v], 46), (p1, [(vi aE), (vi aG), (vi aH), (vu aI), (vs aJ), aD.v], 46)] := by
  rw [hn5]
  exact hb.set (i := 0) 5 (v := Sl.nil.v) hs gZ (by kernel_rfl)
 clear hs hb hn5
 obtain ⟨hs, hb⟩ := hsb
 refine wpL_nil (th_n (wpE_seq (wpE_seq (rg (q0 (vi 0) (wpL_nil (th_n (wpE_block ?_))))))))
 replace h := h H3 w5 hs
 replace hs := hs.here
 obtain ⟨I1, mu1, h0, hr⟩ := h
 refine wpE_loop (σ := Int × Int × Int × Int × Int × ByteArray × Sl × (Nat → Prop) × World) (fun s ρ w => w = s.2.2.2.2.2.2.2.2 ∧ Has ρ [(1, (vp (some p1))), (2, (vp (some p2))), (3, (vp (some p3))), (4, (vi s.1))] ∧ Hst w0 s.2.2.2.2.2.2.2.1 w s.2.2.2.2.2.2.2.1 w ∧ HB s.2.2.2.2.2.2.2.1 w [(p3, [(vi s.2.1), (vi s.2.2.1), (vi s.2.2.2.1), (vu s.2.2.2.2.1), (vs s.2.2.2.2.2.1), s.2.2.2.2.2.2.1.v], 46), (p2, [(vi 0), (vi 0), (vi 0), (vu 0), (vs ⟨#[]⟩), Sl.nil.v], 46), (p1, [(vi aE), (vi aG), (vi aH), (vu aI), (vs aJ), aD.v], 46)] ∧ I1 s.1 s.2.1 s.2.2.1 s.2.2.2.1 s.2.2.2.2.1 s.2.2.2.2.2.1 s.2.2.2.2.2.2.1 s.2.2.2.2.2.2.2.1 s.2.2.2.2.2.2.2.2) (fun s => mu1 s.1 s.2.1 s.2.2.1 s.2.2.2.1 s.2.2.2.2.1 s.2.2.2.2.2.1 s.2.2.2.2.2.2.1 s.2.2.2.2.2.2.2.2) (0, aE, aG, aH, aI, aJ, Sl.nil, H3, w5) ⟨rfl, Has.mk (by kernel_rfl), hs, hb, h0⟩ ?_
 clear hs hb
 rintro ⟨i1, bG, bH, bI, bJ, bK, bD, Hl1, wl1⟩ ρ w ⟨hw, hH, hs, hb, hI⟩
 obtain rfl : wl1 = w := (show w = wl1 from hw).symm
 replace hH : Has ρ [(1, (vp (some p1))), (2, (vp (some p2))), (3, (vp (some p3))), (4, (vi i1))] := hH
 replace hs : Hst w0 Hl1 wl1 Hl1 wl1 := hs
 replace hb : HB Hl1 wl1 [(p3, [(vi bG), (vi bH), (vi bI), (vu bJ), (vs bK), bD.v], 46), (p2, [(vi 0), (vi 0), (vi 0), (vu 0), (vs ⟨#[]⟩), Sl.nil.v], 46), (p1, [(vi aE), (vi aG), (vi aH), (vu aI), (vs aJ), aD.v], 46)] := hb
 have h := hr i1 bG bH bI bJ bK bD Hl1 wl1 hs hI
 clear hr h0
 unfold m_ref05_Lent_l1 at h
 refine wpE_has hH ?_
 clear hH hI
 refine wpE_seq (wpE_seq (rg (q0 (vi i1) (q0 (vp (some (p1.add 5))) (q2 aD.v (xl (Try.isAgg22 _) (hb.c 2 5 (gS (gS gZ)))) (q0 (vi (aD.len : Int)) (q0 (vb (decide (i1 < (aD.len : Int)))) (wpL_nil (th_n ?_)))))))))
 refine wpE_cond (t := (decide (i1 < (aD.len : Int)))) (by kernel_rfl) (fun hc1 => ?_) (fun hc1 => ?_)
 ·replace h := h.1 hc1
  refine wpE_skip (th_n (wpE_seq (wpE_block ?_)))
  obtain ⟨C1, hC, h⟩ := h
  refine wpE_drawnC (fun x => C1 x ∧ HB Hl1 x [(p3, [(vi bG), (vi bH), (vi bI), (vu bJ), (vs bK), bD.v], 46), (p2, [(vi 0), (vi 0), (vi 0), (vu 0), (vs ⟨#[]⟩), Sl.nil.v], 46), (p1, [(vi aE), (vi aG), (vi aH), (vu aI), (vs aJ), aD.v], 46)]) [7, 8, 9, 11] [11] (by kernel_rfl) (by kernel_rfl) (by kernel_rfl) (by kernel_rfl) ⟨hC, hb.drew⟩ ?_
  clear hC
  intro w6 hw6
  replace h := h w6 hw6
  replace hs : Hst w0 Hl1 wl1 Hl1 w6 := by rw [hw6]; exact hs.drew
  replace hb : HB Hl1 w6 [(p3, [(vi bG), (vi bH), (vi bI), (vu bJ), (vs bK), bD.v], 46), (p2, [(vi 0), (vi 0), (vi 0), (vu 0), (vs ⟨#[]⟩), Sl.nil.v], 46), (p1, [(vi aE), (vi aG), (vi aH), (vu aI), (vs aJ), aD.v], 46)] := by rw [hw6]; exact hb.drew
  replace hs := hs.here
  refine qx 0 (vp (some (p3.add 5))) Kp0 (qz 1 bD.v Kp1 (fun w' hw' => (xl (Try.isAgg22 _) (hw'.2.cell 0 5 gZ (by kernel_rfl)))) (qx 2 (vp (some (p1.add 5))) Kp2 (qz 3 aD.v Kp3 (fun w' hw' => (xl (Try.isAgg22 _) (hw'.2.cell 2 5 (gS (gS gZ)) (by kernel_rfl)))) (qx 4 (vi i1) Kp4 (qgo (k := 5) (by kernel_rfl) ?_)))))
  obtain ⟨a1, hv3, h⟩ := h
  refine sx (v := (vp (some a1))) Kp5 (want0 rfl) (by kernel_rfl) (fun w' hw' => (x_indexAddr (s := aD) (k := .i64) (i := i1) (by kernel_rfl) (by kernel_rfl) (Try.runUnderlying22 _) (Try.sizeOf46 _) hv3)) (qgo (k := 6) (by kernel_rfl) ?_)
  obtain ⟨aN, aO, aP, aQ, aR, aX, hv2, h⟩ := h
  refine sx (v := (.agg #[(vi aN), (vi aO), (vi aP), (vu aQ), (vs aR), aX.v])) Kp6 (want0 rfl) (by kernel_rfl) (fun w' hw' => (x_loadA (a := a1) (vs := [(vi aN), (vi aO), (vi aP), (vu aQ), (vs aR), aX.v]) (by kernel_rfl) (Try.isAgg46 _) (Try.sizeOf46 _) rfl (hv2 w' hw'.1))) (lgo (k := 7) (by kernel_rfl) ?_)
  refine sl_call Kp7 (want0 rfl) (by kernel_rfl) (xc Try.call24) (h.mono ?_)
  rintro e w7 ⟨bN, bO, bP, bQ, bR, bS, rfl, hC, hk, h⟩
  refine ⟨_, rfl, .inr ⟨hC, hb.kept hk⟩, ?_⟩
  obtain ⟨hs, hb⟩ := hk.hh hs hb
  refine lgo (k := 8) (by kernel_rfl) (sl_new (O := (.cells #[(vi bN), (vi bO), (vi bP), (vu bQ), (vs bR), bS.v] 46)) (fun p => (Sl.mk (some p) 1 1).v) Kp8 (want0 rfl) (by kernel_rfl) (x_buildSlice (vs := #[(0, (.agg #[(vi bN), (vi bO), (vi bP), (vu bQ), (vs bR), bS.v]))]) (by kernel_rfl) (by kernel_rfl)) ?_)
  intro p4 w8 hn7
  replace h := h p4 w8 hn7
  refine ⟨.inr ⟨h.1, hb.kept (Ext.new (F := None) hn7).keptP⟩, ?_⟩
  replace h := h.2
  replace hs := hs.again (Ext.new (F := None) hn7).keptP
  replace hb := hb.kept (Ext.new (F := None) hn7).keptP
  refine lgo (k := 9) (by kernel_rfl) ?_
  obtain ⟨s1, w9, hv1, hC, hk, h⟩ := h
  refine sl (v := s1.v) Kp9 (want0 rfl) (by kernel_rfl) (x_builtin (args := #[bD.v, (Sl.mk (some p4) 1 1).v]) (by kernel_rfl) (fun _ => rfl) hv1) (.inr ⟨hC, hb.kept hk⟩) ?_
  clear hC
  obtain ⟨hs, hb⟩ := hk.hh hs hb
  refine qx 10 (vp (some (p3.add 5))) (pickA (S8 (pickS (pickS pickZ)))) (lgo (k := 11) (by kernel_rfl) (sl_set (pickA (S8 (pickS (pickS (pickS pickZ))))) (want0 rfl) (by kernel_rfl) (x_store (a := (p3.add 5)) (v := s1.v) (by kernel_rfl) (by kernel_rfl) rfl (Try.sizeOf22 _) (hb.canW 0 5 gZ (by kernel_rfl))) ?_))
  intro w10 hn6
  have hsb : Hst w0 Hl1 w9 Hl1 w10 ∧ HB Hl1 w10 [(p3, [(vi bG), (vi bH), (vi bI), (vu bJ), (vs bK), s1.v], 46), (p2, [(vi 0), (vi 0), (vi 0), (vu 0), (vs ⟨#[]⟩), Sl.nil.v], 46), (p1, [(vi aE), (vi aG), (vi aH), (vu aI), (vs aJ), aD.v], 46)] := by
   rw [hn6]
   exact hb.set (i := 0) 5 (v := s1.v) hs gZ (by kernel_rfl)
  clear hs hb hn6
  obtain ⟨hs, hb⟩ := hsb
  refine ⟨.inl (by kernel_rfl), ?_⟩
  refine wpX_nil (by kernel_rfl) (bl_n (th_n (rg (q0 (vi i1) (q0 (vi (IntKind.i64.wrap (i1 + 1))) (q0 (vi (IntKind.i64.wrap (i1 + 1))) (wpL_nil ?_)))))))
  replace h := h w10 hs
  replace hs := hs.here
  refine th_n ?_
  exact ⟨((IntKind.i64.wrap (i1 + 1)), bG, bH, bI, bJ, bK, s1, Hl1, w10), ⟨rfl, Has.mk (by kernel_rfl), hs, hb, h.1⟩, h.2⟩
 ·replace h := h.2 hc1
  refine wpE_exit (th_x (th_x (bl_eq (th_n (wpE_seq (rg (q0 (vp (some (p3.add 5))) (q2 bD.v (xl (Try.isAgg22 _) (hb.c 0 5 gZ)) (q0 (vi (bD.len : Int)) (q0 (vi (bD.len : Int)) (wpL_nil ?_)))))))))))
  refine th_n (wpE_seq ?_)
  obtain ⟨C2, hC, h⟩ := h
  refine wpE_drawnC (fun x => C2 x ∧ HB Hl1 x [(p3, [(vi bG), (vi bH), (vi bI), (vu bJ), (vs bK), bD.v], 46), (p2, [(vi 0), (vi 0), (vi 0), (vu 0), (vs ⟨#[]⟩), Sl.nil.v], 46), (p1, [(vi aE), (vi aG), (vi aH), (vu aI), (vs aJ), aD.v], 46)]) [13, 14, 18] [18] (by kernel_rfl) (by kernel_rfl) (by kernel_rfl) (by kernel_rfl) ⟨hC, hb.drew⟩ ?_
  clear hC
  intro w11 hw11
  replace h := h w11 hw11
  replace hs : Hst w0 Hl1 wl1 Hl1 w11 := by rw [hw11]; exact hs.drew
  replace hb : HB Hl1 w11 [(p3, [(vi bG), (vi bH), (vi bI), (vu bJ), (vs bK), bD.v], 46), (p2, [(vi 0), (vi 0), (vi 0), (vu 0), (vs ⟨#[]⟩), Sl.nil.v], 46), (p1, [(vi aE), (vi aG), (vi aH), (vu aI), (vs aJ), aD.v], 46)] := by rw [hw11]; exact hb.drew
  replace hs := hs.here
  refine qx 0 (vp (some p1)) Kp0 (qz 1 (vi aE) Kp1 (fun w' hw' => (xl (Try.isAgg3 _) (hw'.2.cell0 2 (gS (gS gZ)) (by kernel_rfl)))) (qx 2 (vp (some (p1.add 1))) Kp2 (qz 3 (vi aG) Kp3 (fun w' hw' => (xl (Try.isAgg3 _) (hw'.2.cell 2 1 (gS (gS gZ)) (by kernel_rfl)))) (qx 4 (vp (some (p1.add 2))) Kp4 (qz 5 (vi aH) Kp5 (fun w' hw' => (xl (Try.isAgg3 _) (hw'.2.cell 2 2 (gS (gS gZ)) (by kernel_rfl)))) (qx 6 (vp (some (p1.add 3))) Kp6 (qz 7 (vu aI) Kp7 (fun w' hw' => (xl (Try.isAgg44 _) (hw'.2.cell 2 3 (gS (gS gZ)) (by kernel_rfl)))) (qx 8 (vp (some (p1.add 4))) Kp8 (qz 9 (vs aJ) Kp9 (fun w' hw' => (xl (Try.isAgg9 _) (hw'.2.cell 2 4 (gS (gS gZ)) (by kernel_rfl)))) (qx 10 (vp (some (p3.add 5))) (pickA (S8 (pickS (pickS pickZ)))) (qz 11 bD.v (pickA (S8 (pickS (pickS (pickS pickZ))))) (fun w' hw' => (xl (Try.isAgg22 _) (hw'.2.cell 0 5 gZ (by kernel_rfl)))) ?_)))))))))))
  refine qx 12 (.agg #[(vi (-1)), (vi 0), (vi 0), (vu 0), (vs ⟨#[]⟩), Sl.nil.v]) (pickA (S8 (S4 pickZ))) (qx 15 (vi (bD.len : Int)) (pickA (S8 (S4 (pickS (pickS (pickS pickZ)))))) (lgo (k := 13) (by kernel_rfl) (sl_new (O := (.cells #[(vi (-1)), (vi 0), (vi 0), (vu 0), (vs ⟨#[]⟩), Sl.nil.v] 46)) (fun p => (Sl.mk (some p) 1 1).v) (pickA (S8 (S4 (pickS pickZ)))) (want0 rfl) (by kernel_rfl) (x_buildSlice (vs := #[(0, (.agg #[(vi (-1)), (vi 0), (vi 0), (vu 0), (vs ⟨#[]⟩), Sl.nil.v]))]) (by kernel_rfl) (by kernel_rfl)) ?_)))
  intro p5 w12 hn9
  replace h := h p5 w12 hn9
  refine ⟨.inr ⟨h.1, hb.kept (Ext.new (F := None) hn9).keptP⟩, ?_⟩
  replace h := h.2
  replace hs := hs.again (Ext.new (F := None) hn9).keptP
  replace hb := hb.kept (Ext.new (F := None) hn9).keptP
  refine lgo (k := 14) (by kernel_rfl) ?_
  obtain ⟨s2, w13, hv5, hC, hk, h⟩ := h
  refine sl (v := s2.v) (pickA (S8 (S4 (pickS (pickS pickZ))))) (want0 rfl) (by kernel_rfl) (x_builtin (args := #[bD.v, (Sl.mk (some p5) 1 1).v]) (by kernel_rfl) (fun _ => rfl) hv5) (.inr ⟨hC, hb.kept hk⟩) ?_
  clear hC
  obtain ⟨hs, hb⟩ := hk.hh hs hb
  refine qgo (k := 16) (by kernel_rfl) ?_
  obtain ⟨s3, hv4, h⟩ := h
  refine sx (v := s3.v) (pickA (S8 (S8 pickZ))) (want0 rfl) (by kernel_rfl) (fun w' hw' => (x_slice (by kernel_rfl) (by kernel_rfl) (by kernel_rfl) (by kernel_rfl) (hv4 w' hw'.1))) (qx 17 (.agg #[(vi aE), (vi aG), (vi aH), (vu aI), (vs aJ), s3.v]) (pickA (S8 (S8 (pickS pickZ)))) (lgo (k := 18) (by kernel_rfl) (sl_set (pickA (S8 (S8 (pickS (pickS pickZ))))) (want0 rfl) (by kernel_rfl) (x_storeA (a := p2) (vs := [(vi aE), (vi aG), (vi aH), (vu aI), (vs aJ), s3.v]) (by kernel_rfl) (by kernel_rfl) rfl (Try.sizeOf46 _) rfl (hb.canWs0 1 6 (gS gZ) (by kernel_rfl))) ?_)))
  intro w14 hn8
  have hsb : Hst w0 Hl1 w13 Hl1 w14 ∧ HB Hl1 w14 [(p3, [(vi bG), (vi bH), (vi bI), (vu bJ), (vs bK), bD.v], 46), (p2, [(vi aE), (vi aG), (vi aH), (vu aI), (vs aJ), s3.v], 46), (p1, [(vi aE), (vi aG), (vi aH), (vu aI), (vs aJ), aD.v], 46)] := by
   rw [hn8]
   exact hb.store0 (i := 1) (vs := [(vi aE), (vi aG), (vi aH), (vu aI), (vs aJ), s3.v]) hs (gS gZ) (by kernel_rfl) (by kernel_rfl)
  clear hs hb hn8
  obtain ⟨hs, hb⟩ := hsb
  refine ⟨.inl (by kernel_rfl), ?_⟩
  refine wpX_nil (by kernel_rfl) (th_n (wpE_ret ?_))
  replace h := h w14 hs
  replace hs := hs.here
  refine resG (.inl rfl) (vs := [(.agg #[(vi aE), (vi aG), (vi aH), (vu aI), (vs aJ), s3.v])]) (v := (.agg #[(vi aE), (vi aG), (vi aH), (vu aI), (vs aJ), s3.v])) Try.results24 ⟨(RV.cellA (by kernel_rfl) (Try.isAgg46 _) (Try.sizeOf46 _) rfl (hb.row0 1 6 (gS gZ) (by kernel_rfl))), trivial⟩ (by kernel_rfl) ?_
  exact ⟨aE, aG, aH, aI, aJ, s3, rfl, h⟩
def m_ref05_Pool_In (p1 : Option Addr) (t1 : Int) (w0 : World) (K : Bool → World → Prop) : Prop :=
 Br (decide (t1 ≥ 1))
  (∃ a1 : Addr, p1 = some a1 ∧
  ∃ v1 : Sl, w0.cell? a1 = some v1.v ∧
  K (decide (t1 ≤ (v1.len : Int))) w0)
  (K false w0)
theorem w_ref05_Pool_In (p1 : Option Addr) (t1 : Int) (w0 : World) (K : Bool → World → Prop) (h : m_ref05_Pool_In p1 t1 w0 K) :
  Calls Try.prog 30 #[(vp p1), (vi t1)] w0 (fun e w' => ∃ r1 : Bool, e = .returned (vb r1) ∧ K r1 w') := by
 unfold m_ref05_Pool_In at h
 refine calls_of_wpE (args := [(vp p1), (vi t1)]) Try.func30 rfl Try.ntmps30 (Nat.le_of_ble_eq_true rfl) (wpE_seq (rg (q0 (vb false) (wpL_nil (th_n (wpE_seq (rg (q0 (vi t1) (q0 (vb (decide (t1 ≥ 1))) (q0 (vb (decide (t1 ≥ 1))) ?_))))))))))
 rcases Bool.eq_false_or_eq_true (decide (t1 ≥ 1)) with hg1 | hg1
 ·replace h := h.1 hg1
  refine q1 (vi t1) (want1 rfl (yD 7 hg1)) (q1 (vp p1) (want1 rfl (yD 7 hg1)) ?_)
  obtain ⟨a1, hp1, h⟩ := h
  refine stp (v := (vp (some a1))) (want1 rfl (yD 7 hg1)) (x_nilCheck (p := p1) (by kernel_rfl) hp1) (q1 (vp (some a1)) (want1 rfl (yD 7 hg1)) ?_)
  obtain ⟨v1, hv1, h⟩ := h
  refine stp (v := v1.v) (want1 rfl (yD 7 hg1)) (xl (Try.isAgg65 _) hv1) (q1 (vi (v1.len : Int)) (want1 rfl (yD 7 hg1)) (q1 (vb (decide (t1 ≤ (v1.len : Int)))) (want1 rfl (yD 7 hg1)) (q2 (vb (decide (t1 ≤ (v1.len : Int)))) (xT hg1) (q0 (vb (decide (t1 ≤ (v1.len : Int)))) (wpL_nil (th_n (wpE_ret (res1 (.inl rfl) Try.results30 (v := (vb (decide (t1 ≤ (v1.len : Int))))) (by kernel_rfl) ?_))))))))
  exact ⟨(decide (t1 ≤ (v1.len : Int))), rfl, h⟩
 ·replace h := h.2 hg1
  refine sk (yD 7 hg1) (sk (yD 7 hg1) (sk (yD 7 hg1) (sk (yD 7 hg1) (sk (yD 7 hg1) (sk (yD 7 hg1) (sk (yD 7 hg1) (q2 (vb false) (xF hg1) (q0 (vb false) (wpL_nil (th_n (wpE_ret ?_)))))))))))
  refine res1 (.inl rfl) Try.results30 (v := (vb false)) (by kernel_rfl) ?_
  exact ⟨false, rfl, h⟩
def m_ref05_New  (w0 : World) (K : (Option Addr) → World → Prop) : Prop :=
 ∀ (p1 : Addr) (w1 : World), New w0 (.cells #[Sl.nil.v, Sl.nil.v, Sl.nil.v] 68) p1 w1 →
 K (some p1) w1
theorem w_ref05_New  (w0 : World) (K : (Option Addr) → World → Prop) (h : m_ref05_New  w0 K) :
  Calls Try.prog 63 #[] w0 (fun e w' => ∃ r1 : Option Addr, e = .returned (vp r1) ∧ K r1 w') := by
 unfold m_ref05_New at h
 refine calls_of_wpE (args := []) Try.func63 rfl Try.ntmps63 (Nat.le_of_ble_eq_true rfl) (wpE_seq (rg (q0 (vp none) (wpL_nil (th_n (wpE_seq (rg (q0 (.agg #[Sl.nil.v, Sl.nil.v, Sl.nil.v]) (sn (O := (.cells #[Sl.nil.v, Sl.nil.v, Sl.nil.v] 68)) xb ?_)))))))))
 intro p1 w1 hn1
 replace h := h p1 w1 hn1
 refine q0 (vp (some p1)) (wpL_nil (th_n (wpE_ret (res1 (.inl rfl) Try.results63 (v := (vp (some p1))) (by kernel_rfl) ?_))))
 exact ⟨(some p1), rfl, h⟩
def s_ref05_node (aE aG : Int) (aH aI : Int) (aJ : ByteArray) (aD : Sl) : Int × Int × Int × Int × ByteArray × Int × Int :=
 (aE, aG, aH, aI, aJ, 0, 0)
theorem pw_ref05_node (aE aG : Int) (aH aI : Int) (aJ : ByteArray) (aD : Sl) (w0 : World) :
  Calls Try.prog 136 #[(.agg #[(vi aE), (vi aG), (vi aH), (vu aI), (vs aJ), aD.v])] w0 (fun e w' => (e = .returned (.agg #[(vi aE), (vi aG), (vi aH), (vu aI), (vs aJ), (vi 0), (vi 0)])) ∧ Pure w0 w') := by
 refine calls_of_wpE (args := [(.agg #[(vi aE), (vi aG), (vi aH), (vu aI), (vs aJ), aD.v])]) Try.func136 rfl Try.ntmps136 (Nat.le_of_ble_eq_true rfl) ?_
 have hs := Hst.start w0
 have hb := HB.nil None w0
 refine wpE_seq (rg (sn (O := (.cells #[(vi aE), (vi aG), (vi aH), (vu aI), (vs aJ), aD.v] 46)) xb ?_))
 intro p1 w1 hn1
 obtain ⟨H1, hs, hb⟩ := hs.alloc hb hn1
 refine sn (O := (.cells #[(vi 0), (vi 0), (vi 0), (vu 0), (vs ⟨#[]⟩), (vi 0), (vi 0)] 105)) (x_alloc (Try.zeroValue105 _) rfl) ?_
 intro p2 w2 hn2
 obtain ⟨H2, hs, hb⟩ := hs.alloc hb hn2
 refine wpL_nil (th_n (wpE_seq (rg (q0 (vp (some p1)) (q2 (vi aE) (xl (Try.isAgg3 _) (hb.c0 1 (gS gZ))) (q0 (vp (some (p1.add 1))) (q2 (vi aG) (xl (Try.isAgg3 _) (hb.c 1 1 (gS gZ))) (q0 (vp (some (p1.add 2))) (q2 (vi aH) (xl (Try.isAgg3 _) (hb.c 1 2 (gS gZ))) (q0 (vp (some (p1.add 3))) (q2 (vu aI) (xl (Try.isAgg44 _) (hb.c 1 3 (gS gZ))) ?_)))))))))))
 refine q0 (vp (some (p1.add 4))) (q2 (vs aJ) (xl (Try.isAgg9 _) (hb.c 1 4 (gS gZ))) (q0 (.agg #[(vi aE), (vi aG), (vi aH), (vu aI), (vs aJ), (vi 0), (vi 0)]) (st_set (want0 rfl) (x_storeA (a := p2) (vs := [(vi aE), (vi aG), (vi aH), (vu aI), (vs aJ), (vi 0), (vi 0)]) (by kernel_rfl) (by kernel_rfl) rfl (Try.sizeOf105 _) rfl (hb.canWs0 0 7 gZ (by kernel_rfl))) ?_)))
 intro w3 hn3
 have hsb : Hst w0 None w0 H2 w3 ∧ HB H2 w3 [(p2, [(vi aE), (vi aG), (vi aH), (vu aI), (vs aJ), (vi 0), (vi 0)], 105), (p1, [(vi aE), (vi aG), (vi aH), (vu aI), (vs aJ), aD.v], 46)] := by
  rw [hn3]
  exact hb.store0 (i := 0) (vs := [(vi aE), (vi aG), (vi aH), (vu aI), (vs aJ), (vi 0), (vi 0)]) hs gZ (by kernel_rfl) (by kernel_rfl)
 clear hs hb hn3
 obtain ⟨hs, hb⟩ := hsb
 refine wpL_nil (th_n (wpE_ret (resG (.inl rfl) (vs := [(.agg #[(vi aE), (vi aG), (vi aH), (vu aI), (vs aJ), (vi 0), (vi 0)])]) (v := (.agg #[(vi aE), (vi aG), (vi aH), (vu aI), (vs aJ), (vi 0), (vi 0)])) Try.results136 ⟨(RV.cellA (by kernel_rfl) (Try.isAgg105 _) (Try.sizeOf105 _) rfl (hb.row0 0 7 gZ (by kernel_rfl))), trivial⟩ (by kernel_rfl) ?_)))
 exact ⟨by kernel_rfl, (Ext.refl (F := None) _).hst hs⟩
theorem p_ref05_node (aE aG : Int) (aH aI : Int) (aJ : ByteArray) (aD : Sl) (w0 : World) : Calls Try.prog 136 #[(.agg #[(.int .i64 aE), (.int .i64 aG), (.int .i64 aH), (.int .u64 aI), (.string aJ), aD.v])] w0 (fun e w' => e = .returned (.agg #[(.int .i64 (s_ref05_node aE aG aH aI aJ aD).1), (.int .i64 (s_ref05_node aE aG aH aI aJ aD).2.1), (.int .i64 (s_ref05_node aE aG aH aI aJ aD).2.2.1), (.int .u64 (s_ref05_node aE aG aH aI aJ aD).2.2.2.1), (.string (s_ref05_node aE aG aH aI aJ aD).2.2.2.2.1), (.int .i64 (s_ref05_node aE aG aH aI aJ aD).2.2.2.2.2.1), (.int .i64 (s_ref05_node aE aG aH aI aJ aD).2.2.2.2.2.2)]) ∧ Pure w0 w') := pw_ref05_node aE aG aH aI aJ aD w0
def s_ref05_two (kind1 : Int) : Bool :=
 ((kind1 == 8) || (kind1 == 9))
theorem pw_ref05_two (kind1 : Int) (w0 : World) :
  Calls Try.prog 215 #[(vi kind1)] w0 (fun e w' => (e = .returned (vb ((kind1 == 8) || (kind1 == 9)))) ∧ Pure w0 w') := by
 refine calls_of_wpE (args := [(vi kind1)]) Try.func215 rfl Try.ntmps215 (Nat.le_of_ble_eq_true rfl) (wpE_seq (rg (q0 (vb false) (wpL_nil (th_n (wpE_seq ?_))))))
 refine wpE_via (fun ρ wJ => w0 = wJ ∧ Has ρ [(2, (vb ((kind1 == 8) || (kind1 == 9))))]) ?_ ?_
 ·skip
  refine rg (q0 (vi kind1) (q0 (vb (kind1 == 8)) (q0 (vb (kind1 == 8)) ?_)))
  refine wpL_join 3 (fun ρ wJ => ∃ b3'0 : Bool, ((kind1 == 8) = b3'0) ∧ w0 = wJ ∧ Has ρ [(8, (vb (b3'0 || (kind1 == 9))))]) ?_ ?_
  ·rintro ρ w3 ⟨b3'0, he0, hw, hH⟩
   subst he0
   subst hw
   refine wpL_has hH ?_
   clear hH
   refine q0 (vb ((kind1 == 8) || (kind1 == 9))) (wpL_nil (th_n ?_))
   exact ⟨rfl, Has.mk (by kernel_rfl)⟩
  ·skip
   rcases Bool.eq_false_or_eq_true (kind1 == 8) with hg4 | hg4
   ·skip
    refine sk (yD 5 hg4) (sk (yD 5 hg4) (q2 (vb true) (xT hg4) (wpL_nil ?_)))
    exact ⟨true, hg4, rfl, Has.mk (by kernel_rfl)⟩
   ·skip
    refine q1 (vi kind1) (want1 rfl (yD 5 hg4)) (q1 (vb (kind1 == 9)) (want1 rfl (yD 5 hg4)) (q2 (vb (kind1 == 9)) (xF hg4) (wpL_nil ?_)))
    exact ⟨false, hg4, rfl, Has.mk (by kernel_rfl)⟩
 ·rintro ρ w2 ⟨hw, hH⟩
  subst hw
  refine norm_has hH ?_
  clear hH
  refine th_n (wpE_ret (res1 (.inl rfl) Try.results215 (v := (vb ((kind1 == 8) || (kind1 == 9)))) (by kernel_rfl) ?_))
  exact ⟨by kernel_rfl, Ext.refl _⟩
theorem p_ref05_two (kind1 : Int) (w0 : World) : Calls Try.prog 215 #[(.int .i64 kind1)] w0 (fun e w' => e = .returned (.bool (s_ref05_two kind1)) ∧ Pure w0 w') := pw_ref05_two kind1 w0
def s_ref05_named (kind1 : Int) : Bool :=
 ((((kind1 == 1) || (kind1 == 6)) || (kind1 == 7)) || ((kind1 == 8) || (kind1 == 9)))
theorem pw_ref05_named (kind1 : Int) (w0 : World) :
  Calls Try.prog 213 #[(vi kind1)] w0 (fun e w' => (e = .returned (vb ((((kind1 == 1) || (kind1 == 6)) || (kind1 == 7)) || ((kind1 == 8) || (kind1 == 9))))) ∧ Pure w0 w') := by
 refine calls_of_wpE (args := [(vi kind1)]) Try.func213 rfl Try.ntmps213 (Nat.le_of_ble_eq_true rfl) ?_
 have hs := Hst.start w0
 have hb := HB.nil None w0
 refine wpE_seq (rg (q0 (vb false) (wpL_nil (th_n (wpE_seq ?_)))))
 refine wpE_via (fun ρ wJ => ∃ HJ : Nat → Prop, Hst w0 None w0 HJ wJ ∧ HB HJ wJ [] ∧ Has ρ [(2, (vb ((((kind1 == 1) || (kind1 == 6)) || (kind1 == 7)) || ((kind1 == 8) || (kind1 == 9)))))]) ?_ ?_
 ·skip
  refine rg (q0 (vi kind1) (q0 (vb (kind1 == 1)) (q0 (vb (kind1 == 1)) ?_)))
  refine wpL_join 3 (fun ρ wJ => ∃ b5'0 : Bool, ∃ HJ : Nat → Prop, ((kind1 == 1) = b5'0) ∧ Hst w0 None w0 HJ wJ ∧ HB HJ wJ [] ∧ Has ρ [(0, (vi kind1)), (8, (vb (b5'0 || (kind1 == 6))))]) ?_ ?_
  ·clear hs hb
   rintro ρ w7 ⟨b5'0, H5, he0, hs, hb, hH⟩
   subst he0
   refine wpL_has hH ?_
   clear hH
   refine q0 (vb ((kind1 == 1) || (kind1 == 6))) ?_
   refine wpL_join 3 (fun ρ wJ => ∃ b6'0 : Bool, ∃ HJ : Nat → Prop, (((kind1 == 1) || (kind1 == 6)) = b6'0) ∧ Hst w0 None w0 HJ wJ ∧ HB HJ wJ [] ∧ Has ρ [(0, (vi kind1)), (12, (vb (b6'0 || (kind1 == 7))))]) ?_ ?_
   ·clear hs hb
    rintro ρ w8 ⟨b6'0, H6, he0, hs, hb, hH⟩
    subst he0
    refine wpL_has hH ?_
    clear hH
    refine q0 (vb (((kind1 == 1) || (kind1 == 6)) || (kind1 == 7))) ?_
    refine wpL_join 3 (fun ρ wJ => ∃ b7'0 : Bool, ∃ HJ : Nat → Prop, ((((kind1 == 1) || (kind1 == 6)) || (kind1 == 7)) = b7'0) ∧ Hst w0 None w0 HJ wJ ∧ HB HJ wJ [] ∧ Has ρ [(16, (vb (b7'0 || ((kind1 == 8) || (kind1 == 9)))))]) ?_ ?_
    ·clear hs hb
     rintro ρ w10 ⟨b7'0, H7, he0, hs, hb, hH⟩
     subst he0
     refine wpL_has hH ?_
     clear hH
     refine q0 (vb ((((kind1 == 1) || (kind1 == 6)) || (kind1 == 7)) || ((kind1 == 8) || (kind1 == 9)))) (wpL_nil (th_n ?_))
     exact ⟨_, hs, hb, Has.mk (by kernel_rfl)⟩
    ·skip
     rcases Bool.eq_false_or_eq_true (((kind1 == 1) || (kind1 == 6)) || (kind1 == 7)) with hg12 | hg12
     ·skip
      refine sk (yD 13 hg12) (sk (yD 13 hg12) (q2 (vb true) (xT hg12) (wpL_nil ?_)))
      exact ⟨true, _, hg12, hs, hb, Has.mk (by kernel_rfl)⟩
     ·skip
      refine q1 (vi kind1) (want1 rfl (yD 13 hg12)) ?_
      refine st_call (want1 rfl (yD 13 hg12)) (xc Try.call215) ((p_ref05_two kind1 w8).mono ?_)
      rintro e w11 ⟨he, hE⟩
      refine ⟨(vb ((kind1 == 8) || (kind1 == 9))), he.trans (by kernel_rfl), ?_⟩
      replace hs := hs.pure hE
      replace hb := hb.pure hE
      clear hE he
      refine q2 (vb ((kind1 == 8) || (kind1 == 9))) (xF hg12) (wpL_nil ?_)
      exact ⟨false, _, hg12, hs, hb, Has.mk (by kernel_rfl)⟩
   ·skip
    rcases Bool.eq_false_or_eq_true ((kind1 == 1) || (kind1 == 6)) with hg10 | hg10
    ·skip
     refine sk (yD 9 hg10) (sk (yD 9 hg10) (q2 (vb true) (xT hg10) (wpL_nil ?_)))
     exact ⟨true, _, hg10, hs, hb, Has.mk (by kernel_rfl)⟩
    ·skip
     refine q1 (vi kind1) (want1 rfl (yD 9 hg10)) (q1 (vb (kind1 == 7)) (want1 rfl (yD 9 hg10)) (q2 (vb (kind1 == 7)) (xF hg10) (wpL_nil ?_)))
     exact ⟨false, _, hg10, hs, hb, Has.mk (by kernel_rfl)⟩
  ·skip
   rcases Bool.eq_false_or_eq_true (kind1 == 1) with hg8 | hg8
   ·skip
    refine sk (yD 5 hg8) (sk (yD 5 hg8) (q2 (vb true) (xT hg8) (wpL_nil ?_)))
    exact ⟨true, _, hg8, hs, hb, Has.mk (by kernel_rfl)⟩
   ·skip
    refine q1 (vi kind1) (want1 rfl (yD 5 hg8)) (q1 (vb (kind1 == 6)) (want1 rfl (yD 5 hg8)) (q2 (vb (kind1 == 6)) (xF hg8) (wpL_nil ?_)))
    exact ⟨false, _, hg8, hs, hb, Has.mk (by kernel_rfl)⟩
 ·clear hs hb
  rintro ρ w6 ⟨H4, hs, hb, hH⟩
  refine norm_has hH ?_
  clear hH
  refine th_n (wpE_ret (res1 (.inl rfl) Try.results213 (v := (vb ((((kind1 == 1) || (kind1 == 6)) || (kind1 == 7)) || ((kind1 == 8) || (kind1 == 9))))) (by kernel_rfl) ?_))
  exact ⟨by kernel_rfl, (Ext.refl (F := None) _).hst hs⟩
theorem p_ref05_named (kind1 : Int) (w0 : World) : Calls Try.prog 213 #[(.int .i64 kind1)] w0 (fun e w' => e = .returned (.bool (s_ref05_named kind1)) ∧ Pure w0 w') := pw_ref05_named kind1 w0
def s_ref05_Kids (kind1 : Int) : Int :=
 (cond (kind1 == 4) 2 (cond (cond (kind1 == 5) (kind1 == 5) (cond (kind1 == 7) (kind1 == 7) (cond (kind1 == 8) (kind1 == 8) (kind1 == 9)))) 1 0))
theorem pw_ref05_Kids (kind1 : Int) (w0 : World) :
  Calls Try.prog 80 #[(vi kind1)] w0 (fun e w' => ∃ b'0 b'1 : Bool, ((kind1 == 4) = b'0 ∧ (cond (kind1 == 5) (kind1 == 5) (cond (kind1 == 7) (kind1 == 7) (cond (kind1 == 8) (kind1 == 8) (kind1 == 9)))) = b'1) ∧ (e = .returned (vi (cond b'0 2 (cond b'1 1 0)))) ∧ Pure w0 w') := by
 refine calls_of_wpE (args := [(vi kind1)]) Try.func80 rfl Try.ntmps80 (Nat.le_of_ble_eq_true rfl) (wpE_seq (rg (q0 (vi 0) (wpL_nil (th_n (wpE_seq (wpE_seq (rg (q0 (vi kind1) (wpL_nil (th_n ?_)))))))))))
 refine wpE_block (wpE_seq (rg (q0 (vb (kind1 == 4)) (q0 (vb (kind1 == 4)) (wpL_nil (th_n ?_))))))
 refine wpE_cond (t := (kind1 == 4)) (by kernel_rfl) (fun hc1 => ?_) (fun hc1 => ?_)
 ·skip
  refine wpE_seq (rg (q0 (vi 2) (wpL_nil (th_n (wpE_ret (bl_r (th_r (res1 (.inl rfl) Try.results80 (v := (vi 2)) (by kernel_rfl) ?_))))))))
  exact ⟨true, _, ⟨hc1, rfl⟩, by kernel_rfl, Ext.refl _⟩
 ·skip
  refine wpE_seq (wpE_seq (rg (q0 (vb (kind1 == 5)) (q0 (vb (kind1 == 5)) (wpL_nil (th_n ?_))))))
  refine wpE_via (fun ρ wJ => ∃ b1'0 b1'1 b1'2 : Bool, ((kind1 == 5) = b1'0) ∧ ((kind1 == 7) = b1'1) ∧ ((kind1 == 8) = b1'2) ∧ w0 = wJ ∧ Has ρ [(6, (vb (cond b1'0 (kind1 == 5) (cond b1'1 (kind1 == 7) (cond b1'2 (kind1 == 8) (kind1 == 9))))))]) ?_ ?_
  ·skip
   refine wpE_cond (t := (kind1 == 5)) (by kernel_rfl) (fun hc5 => ?_) (fun hc5 => ?_)
   ·skip
    refine wpE_skip (th_n ?_)
    exact ⟨true, _, _, hc5, rfl, rfl, rfl, Has.mk (by kernel_rfl)⟩
   ·skip
    refine wpE_seq (rg (q0 (vb (kind1 == 7)) (q0 (vb (kind1 == 7)) (wpL_nil (th_n ?_)))))
    refine wpE_cond (t := (kind1 == 7)) (by kernel_rfl) (fun hc6 => ?_) (fun hc6 => ?_)
    ·skip
     refine wpE_skip (th_n ?_)
     exact ⟨false, true, _, hc5, hc6, rfl, rfl, Has.mk (by kernel_rfl)⟩
    ·skip
     refine wpE_seq (rg (q0 (vb (kind1 == 8)) (q0 (vb (kind1 == 8)) (wpL_nil (th_n ?_)))))
     refine wpE_cond (t := (kind1 == 8)) (by kernel_rfl) (fun hc7 => ?_) (fun hc7 => ?_)
     ·skip
      refine wpE_skip (th_n ?_)
      exact ⟨false, false, true, hc5, hc6, hc7, rfl, Has.mk (by kernel_rfl)⟩
     ·skip
      refine rg (q0 (vb (kind1 == 9)) (q0 (vb (kind1 == 9)) (wpL_nil (th_n ?_))))
      exact ⟨false, false, false, hc5, hc6, hc7, rfl, Has.mk (by kernel_rfl)⟩
  ·rintro ρ w1 ⟨b1'0, b1'1, b1'2, he0, he1, he2, hw, hH⟩
   subst he0
   subst he1
   subst he2
   subst hw
   refine norm_has hH ?_
   clear hH
   refine th_n ?_
   refine wpE_cond (t := (cond (kind1 == 5) (kind1 == 5) (cond (kind1 == 7) (kind1 == 7) (cond (kind1 == 8) (kind1 == 8) (kind1 == 9))))) (by kernel_rfl) (fun hc8 => ?_) (fun hc8 => ?_)
   ·skip
    refine wpE_seq (rg (q0 (vi 1) (wpL_nil (th_n (wpE_ret (bl_r (th_r (res1 (.inl rfl) Try.results80 (v := (vi 1)) (by kernel_rfl) ?_))))))))
    exact ⟨false, true, ⟨hc1, hc8⟩, by kernel_rfl, Ext.refl _⟩
   ·skip
    refine wpE_skip (bl_n (th_n (wpE_seq (rg (q0 (vi 0) (wpL_nil (th_n (wpE_ret (res1 (.inl rfl) Try.results80 (v := (vi 0)) (by kernel_rfl) ?_)))))))))
    exact ⟨false, false, ⟨hc1, hc8⟩, by kernel_rfl, Ext.refl _⟩
theorem p_ref05_Kids (kind1 : Int) (w0 : World) : Calls Try.prog 80 #[(.int .i64 kind1)] w0 (fun e w' => e = .returned (.int .i64 (s_ref05_Kids kind1)) ∧ Pure w0 w') := by
 refine (pw_ref05_Kids kind1 w0).mono ?_
 rintro e w' ⟨b'0, b'1, ⟨e0, e1⟩, h, E⟩
 subst e0
 subst e1
 exact ⟨h, E⟩
def s_ref05_plain (aA aB : Int) (aC aK : Int) (aF : ByteArray) (aL aM : Int) : Bool :=
 (!((decide (aA < 1)) || (decide (aA > 9))) && (((((((s_ref05_named aA) || (aB == 0)) && (((aA == 8) || (aA == 9)) || (aC == 0))) && ((aA == 2) || (aK == 0))) && ((aA == 3) || (decide (aF = ⟨#[]⟩)))) && ((decide ((s_ref05_Kids aA) ≥ 1)) || (aL == 0))) && ((((s_ref05_Kids aA) : Int) == 2) || (aM == 0))))
theorem pw_ref05_plain (aA aB : Int) (aC aK : Int) (aF : ByteArray) (aL aM : Int) (w0 : World) :
  Calls Try.prog 212 #[(.agg #[(vi aA), (vi aB), (vi aC), (vu aK), (vs aF), (vi aL), (vi aM)])] w0 (fun e w' => ∃ b'0 : Bool, (((decide (aA < 1)) || (decide (aA > 9))) = b'0) ∧ (e = .returned (vb (!b'0 && (((((((s_ref05_named aA) || (aB == 0)) && (((aA == 8) || (aA == 9)) || (aC == 0))) && ((aA == 2) || (aK == 0))) && ((aA == 3) || (decide (aF = ⟨#[]⟩)))) && ((decide ((s_ref05_Kids aA) ≥ 1)) || (aL == 0))) && ((((s_ref05_Kids aA) : Int) == 2) || (aM == 0)))))) ∧ Pure w0 w') := by
 refine calls_of_wpE (args := [(.agg #[(vi aA), (vi aB), (vi aC), (vu aK), (vs aF), (vi aL), (vi aM)])]) Try.func212 rfl Try.ntmps212 (Nat.le_of_ble_eq_true rfl) ?_
 have hs := Hst.start w0
 have hb := HB.nil None w0
 refine wpE_seq (rg (sn (O := (.cells #[(vi aA), (vi aB), (vi aC), (vu aK), (vs aF), (vi aL), (vi aM)] 105)) xb ?_))
 intro p1 w1 hn1
 obtain ⟨H1, hs, hb⟩ := hs.alloc hb hn1
 refine q0 (vb false) (wpL_nil (th_n (wpE_seq (wpE_seq ?_))))
 refine wpE_via (fun ρ wJ => ∃ b1'0 : Bool, ∃ HJ : Nat → Prop, ((decide (aA < 1)) = b1'0) ∧ Hst w0 None w0 HJ wJ ∧ HB HJ wJ [(p1, [(vi aA), (vi aB), (vi aC), (vu aK), (vs aF), (vi aL), (vi aM)], 105)] ∧ Has ρ [(1, (vp (some p1))), (10, (vb (b1'0 || (decide (aA > 9)))))]) ?_ ?_
 ·skip
  refine rg (q0 (vp (some p1)) (q2 (vi aA) (xl (Try.isAgg3 _) (hb.c0 0 gZ)) (q0 (vb (decide (aA < 1))) (q0 (vb (decide (aA < 1))) ?_))))
  rcases Bool.eq_false_or_eq_true (decide (aA < 1)) with hg2 | hg2
  ·skip
   refine sk (yD 6 hg2) (sk (yD 6 hg2) (sk (yD 6 hg2) (q2 (vb true) (xT hg2) (wpL_nil (th_n ?_)))))
   exact ⟨true, _, hg2, hs, hb, Has.mk (by kernel_rfl)⟩
  ·skip
   refine q1 (vp (some p1)) (want1 rfl (yD 6 hg2)) (stp (v := (vi aA)) (want1 rfl (yD 6 hg2)) (xl (Try.isAgg3 _) (hb.c0 0 gZ)) (q1 (vb (decide (aA > 9))) (want1 rfl (yD 6 hg2)) (q2 (vb (decide (aA > 9))) (xF hg2) (wpL_nil (th_n ?_)))))
   exact ⟨false, _, hg2, hs, hb, Has.mk (by kernel_rfl)⟩
 ·clear hs hb
  rintro ρ w2 ⟨b1'0, H2, he0, hs, hb, hH⟩
  subst he0
  refine norm_has hH ?_
  clear hH
  refine th_n ?_
  refine wpE_cond (t := ((decide (aA < 1)) || (decide (aA > 9)))) (by kernel_rfl) (fun hc1 => ?_) (fun hc1 => ?_)
  ·skip
   refine wpE_seq (rg (q0 (vb false) (wpL_nil (th_n (wpE_ret (th_r (res1 (.inl rfl) Try.results212 (v := (vb false)) (by kernel_rfl) ?_)))))))
   exact ⟨true, hc1, by kernel_rfl, (Ext.refl (F := None) _).hst hs⟩
  ·skip
   refine wpE_skip (th_n (wpE_seq ?_))
   refine wpE_via (fun ρ wJ => ∃ HJ : Nat → Prop, Hst w0 None w0 HJ wJ ∧ HB HJ wJ [(p1, [(vi aA), (vi aB), (vi aC), (vu aK), (vs aF), (vi aL), (vi aM)], 105)] ∧ Has ρ [(2, (vb (((((((s_ref05_named aA) || (aB == 0)) && (((aA == 8) || (aA == 9)) || (aC == 0))) && ((aA == 2) || (aK == 0))) && ((aA == 3) || (decide (aF = ⟨#[]⟩)))) && ((decide ((s_ref05_Kids aA) ≥ 1)) || (aL == 0))) && ((((s_ref05_Kids aA) : Int) == 2) || (aM == 0)))))]) ?_ ?_
   ·skip
    refine rg (q0 (vp (some p1)) (q2 (vi aA) (xl (Try.isAgg3 _) (hb.c0 0 gZ)) ?_))
    refine st_call (want0 rfl) (xc Try.call213) ((p_ref05_named aA w2).mono ?_)
    rintro e w27 ⟨he, hE⟩
    refine ⟨(vb (s_ref05_named aA)), he.trans (by kernel_rfl), ?_⟩
    replace hs := hs.pure hE
    replace hb := hb.pure hE
    clear hE he
    refine q0 (vb (s_ref05_named aA)) ?_
    refine wpL_join 4 (fun ρ wJ => ∃ b19'0 : Bool, ∃ HJ : Nat → Prop, ((s_ref05_named aA) = b19'0) ∧ Hst w0 None w0 HJ wJ ∧ HB HJ wJ [(p1, [(vi aA), (vi aB), (vi aC), (vu aK), (vs aF), (vi aL), (vi aM)], 105)] ∧ Has ρ [(1, (vp (some p1))), (18, (vb (b19'0 || (aB == 0))))]) ?_ ?_
    ·clear hs hb
     rintro ρ w28 ⟨b19'0, H20, he0, hs, hb, hH⟩
     subst he0
     refine wpL_has hH ?_
     clear hH
     refine q0 (vb ((s_ref05_named aA) || (aB == 0))) ?_
     refine wpL_join 9 (fun ρ wJ => ∃ b21'0 : Bool, ∃ HJ : Nat → Prop, (((s_ref05_named aA) || (aB == 0)) = b21'0) ∧ Hst w0 None w0 HJ wJ ∧ HB HJ wJ [(p1, [(vi aA), (vi aB), (vi aC), (vu aK), (vs aF), (vi aL), (vi aM)], 105)] ∧ Has ρ [(1, (vp (some p1))), (28, (vb (b21'0 && (((aA == 8) || (aA == 9)) || (aC == 0)))))]) ?_ ?_
     ·clear hs hb
      rintro ρ w31 ⟨b21'0, H22, he0, hs, hb, hH⟩
      subst he0
      refine wpL_has hH ?_
      clear hH
      refine q0 (vb (((s_ref05_named aA) || (aB == 0)) && (((aA == 8) || (aA == 9)) || (aC == 0)))) ?_
      refine wpL_join 9 (fun ρ wJ => ∃ b24'0 : Bool, ∃ HJ : Nat → Prop, ((((s_ref05_named aA) || (aB == 0)) && (((aA == 8) || (aA == 9)) || (aC == 0))) = b24'0) ∧ Hst w0 None w0 HJ wJ ∧ HB HJ wJ [(p1, [(vi aA), (vi aB), (vi aC), (vu aK), (vs aF), (vi aL), (vi aM)], 105)] ∧ Has ρ [(1, (vp (some p1))), (38, (vb (b24'0 && ((aA == 2) || (aK == 0)))))]) ?_ ?_
      ·clear hs hb
       rintro ρ w35 ⟨b24'0, H25, he0, hs, hb, hH⟩
       subst he0
       refine wpL_has hH ?_
       clear hH
       refine q0 (vb ((((s_ref05_named aA) || (aB == 0)) && (((aA == 8) || (aA == 9)) || (aC == 0))) && ((aA == 2) || (aK == 0)))) ?_
       refine wpL_join 9 (fun ρ wJ => ∃ b27'0 : Bool, ∃ HJ : Nat → Prop, (((((s_ref05_named aA) || (aB == 0)) && (((aA == 8) || (aA == 9)) || (aC == 0))) && ((aA == 2) || (aK == 0))) = b27'0) ∧ Hst w0 None w0 HJ wJ ∧ HB HJ wJ [(p1, [(vi aA), (vi aB), (vi aC), (vu aK), (vs aF), (vi aL), (vi aM)], 105)] ∧ Has ρ [(1, (vp (some p1))), (48, (vb (b27'0 && ((aA == 3) || (decide (aF = ⟨#[]⟩))))))]) ?_ ?_
       ·clear hs hb
        rintro ρ w38 ⟨b27'0, H28, he0, hs, hb, hH⟩
        subst he0
        refine wpL_has hH ?_
        clear hH
        refine q0 (vb (((((s_ref05_named aA) || (aB == 0)) && (((aA == 8) || (aA == 9)) || (aC == 0))) && ((aA == 2) || (aK == 0))) && ((aA == 3) || (decide (aF = ⟨#[]⟩))))) ?_
        refine wpL_join 10 (fun ρ wJ => ∃ b30'0 : Bool, ∃ HJ : Nat → Prop, ((((((s_ref05_named aA) || (aB == 0)) && (((aA == 8) || (aA == 9)) || (aC == 0))) && ((aA == 2) || (aK == 0))) && ((aA == 3) || (decide (aF = ⟨#[]⟩)))) = b30'0) ∧ Hst w0 None w0 HJ wJ ∧ HB HJ wJ [(p1, [(vi aA), (vi aB), (vi aC), (vu aK), (vs aF), (vi aL), (vi aM)], 105)] ∧ Has ρ [(1, (vp (some p1))), (59, (vb (b30'0 && ((decide ((s_ref05_Kids aA) ≥ 1)) || (aL == 0)))))]) ?_ ?_
        ·clear hs hb
         rintro ρ w42 ⟨b30'0, H31, he0, hs, hb, hH⟩
         subst he0
         refine wpL_has hH ?_
         clear hH
         refine q0 (vb ((((((s_ref05_named aA) || (aB == 0)) && (((aA == 8) || (aA == 9)) || (aC == 0))) && ((aA == 2) || (aK == 0))) && ((aA == 3) || (decide (aF = ⟨#[]⟩)))) && ((decide ((s_ref05_Kids aA) ≥ 1)) || (aL == 0)))) ?_
         refine wpL_join 10 (fun ρ wJ => ∃ b33'0 : Bool, ∃ HJ : Nat → Prop, (((((((s_ref05_named aA) || (aB == 0)) && (((aA == 8) || (aA == 9)) || (aC == 0))) && ((aA == 2) || (aK == 0))) && ((aA == 3) || (decide (aF = ⟨#[]⟩)))) && ((decide ((s_ref05_Kids aA) ≥ 1)) || (aL == 0))) = b33'0) ∧ Hst w0 None w0 HJ wJ ∧ HB HJ wJ [(p1, [(vi aA), (vi aB), (vi aC), (vu aK), (vs aF), (vi aL), (vi aM)], 105)] ∧ Has ρ [(70, (vb (b33'0 && ((((s_ref05_Kids aA) : Int) == 2) || (aM == 0)))))]) ?_ ?_
         ·clear hs hb
          rintro ρ w47 ⟨b33'0, H34, he0, hs, hb, hH⟩
          subst he0
          refine wpL_has hH ?_
          clear hH
          refine q0 (vb (((((((s_ref05_named aA) || (aB == 0)) && (((aA == 8) || (aA == 9)) || (aC == 0))) && ((aA == 2) || (aK == 0))) && ((aA == 3) || (decide (aF = ⟨#[]⟩)))) && ((decide ((s_ref05_Kids aA) ≥ 1)) || (aL == 0))) && ((((s_ref05_Kids aA) : Int) == 2) || (aM == 0)))) (wpL_nil (th_n ?_))
          exact ⟨_, hs, hb, Has.mk (by kernel_rfl)⟩
         ·skip
          rcases Bool.eq_false_or_eq_true ((((((s_ref05_named aA) || (aB == 0)) && (((aA == 8) || (aA == 9)) || (aC == 0))) && ((aA == 2) || (aK == 0))) && ((aA == 3) || (decide (aF = ⟨#[]⟩)))) && ((decide ((s_ref05_Kids aA) ≥ 1)) || (aL == 0))) with hg64 | hg64
          ·skip
           refine q1 (vp (some p1)) (want1 rfl (yD 60 hg64)) (stp (v := (vi aA)) (want1 rfl (yD 60 hg64)) (xl (Try.isAgg3 _) (hb.c0 0 gZ)) ?_)
           refine st_call (want1 rfl (yD 60 hg64)) (xc Try.call80) ((p_ref05_Kids aA w42).mono ?_)
           rintro e w48 ⟨he, hE⟩
           refine ⟨(vi (s_ref05_Kids aA)), he.trans (by kernel_rfl), ?_⟩
           replace hs := hs.pure hE
           replace hb := hb.pure hE
           clear hE he
           refine q1 (vb (((s_ref05_Kids aA) : Int) == 2)) (want1 rfl (yD 60 hg64)) (q1 (vb (((s_ref05_Kids aA) : Int) == 2)) (want1 rfl (yD 60 hg64)) ?_)
           refine wpL_join 4 (fun ρ wJ => ∃ b34'0 : Bool, ∃ HJ : Nat → Prop, ((((s_ref05_Kids aA) : Int) == 2) = b34'0) ∧ Hst w0 None w0 HJ wJ ∧ HB HJ wJ [(p1, [(vi aA), (vi aB), (vi aC), (vu aK), (vs aF), (vi aL), (vi aM)], 105)] ∧ Has ρ [(60, (vb ((((((s_ref05_named aA) || (aB == 0)) && (((aA == 8) || (aA == 9)) || (aC == 0))) && ((aA == 2) || (aK == 0))) && ((aA == 3) || (decide (aF = ⟨#[]⟩)))) && ((decide ((s_ref05_Kids aA) ≥ 1)) || (aL == 0))))), (69, (vb (b34'0 || (aM == 0))))]) ?_ ?_
           ·clear hs hb
            rintro ρ w49 ⟨b34'0, H35, he0, hs, hb, hH⟩
            subst he0
            refine wpL_has hH ?_
            clear hH
            refine q2 (vb ((((s_ref05_Kids aA) : Int) == 2) || (aM == 0))) (xT hg64) (wpL_nil ?_)
            exact ⟨true, _, hg64, hs, hb, Has.mk (by kernel_rfl)⟩
           ·skip
            rcases Bool.eq_false_or_eq_true (((s_ref05_Kids aA) : Int) == 2) with hg66 | hg66
            ·skip
             refine sk (yD 65 hg66) (sk (yD 65 hg66) (sk (yD 65 hg66) (stp (v := (vb true)) (want1 rfl (yD 60 hg64)) (xT hg66) (wpL_nil ?_))))
             exact ⟨true, _, hg66, hs, hb, Has.mk (by kernel_rfl)⟩
            ·skip
             refine q1 (vp (some (p1.add 6))) (want1 rfl (yD 65 hg66)) (stp (v := (vi aM)) (want1 rfl (yD 65 hg66)) (xl (Try.isAgg38 _) (hb.c 0 6 gZ)) (q1 (vb (aM == 0)) (want1 rfl (yD 65 hg66)) (stp (v := (vb (aM == 0))) (want1 rfl (yD 60 hg64)) (xF hg66) (wpL_nil ?_))))
             exact ⟨false, _, hg66, hs, hb, Has.mk (by kernel_rfl)⟩
          ·skip
           refine sk (yD 60 hg64) (sk (yD 60 hg64) (sk (yD 60 hg64) (sk (yD 60 hg64) (sk (yD 60 hg64) (st_not (by kernel_rfl) (st_not (by kernel_rfl) (st_not (by kernel_rfl) (sk (yD 60 hg64) (q2 (vb false) (xF hg64) (wpL_nil ?_))))))))))
           exact ⟨false, _, hg64, hs, hb, Has.mk (by kernel_rfl)⟩
        ·skip
         rcases Bool.eq_false_or_eq_true (((((s_ref05_named aA) || (aB == 0)) && (((aA == 8) || (aA == 9)) || (aC == 0))) && ((aA == 2) || (aK == 0))) && ((aA == 3) || (decide (aF = ⟨#[]⟩)))) with hg58 | hg58
         ·skip
          refine q1 (vp (some p1)) (want1 rfl (yD 49 hg58)) (stp (v := (vi aA)) (want1 rfl (yD 49 hg58)) (xl (Try.isAgg3 _) (hb.c0 0 gZ)) ?_)
          refine st_call (want1 rfl (yD 49 hg58)) (xc Try.call80) ((p_ref05_Kids aA w38).mono ?_)
          rintro e w43 ⟨he, hE⟩
          refine ⟨(vi (s_ref05_Kids aA)), he.trans (by kernel_rfl), ?_⟩
          replace hs := hs.pure hE
          replace hb := hb.pure hE
          clear hE he
          refine q1 (vb (decide ((s_ref05_Kids aA) ≥ 1))) (want1 rfl (yD 49 hg58)) (q1 (vb (decide ((s_ref05_Kids aA) ≥ 1))) (want1 rfl (yD 49 hg58)) ?_)
          refine wpL_join 4 (fun ρ wJ => ∃ b31'0 : Bool, ∃ HJ : Nat → Prop, ((decide ((s_ref05_Kids aA) ≥ 1)) = b31'0) ∧ Hst w0 None w0 HJ wJ ∧ HB HJ wJ [(p1, [(vi aA), (vi aB), (vi aC), (vu aK), (vs aF), (vi aL), (vi aM)], 105)] ∧ Has ρ [(1, (vp (some p1))), (49, (vb (((((s_ref05_named aA) || (aB == 0)) && (((aA == 8) || (aA == 9)) || (aC == 0))) && ((aA == 2) || (aK == 0))) && ((aA == 3) || (decide (aF = ⟨#[]⟩)))))), (58, (vb (b31'0 || (aL == 0))))]) ?_ ?_
          ·clear hs hb
           rintro ρ w44 ⟨b31'0, H32, he0, hs, hb, hH⟩
           subst he0
           refine wpL_has hH ?_
           clear hH
           refine q2 (vb ((decide ((s_ref05_Kids aA) ≥ 1)) || (aL == 0))) (xT hg58) (wpL_nil ?_)
           exact ⟨true, _, hg58, hs, hb, Has.mk (by kernel_rfl)⟩
          ·skip
           rcases Bool.eq_false_or_eq_true (decide ((s_ref05_Kids aA) ≥ 1)) with hg60 | hg60
           ·skip
            refine sk (yD 54 hg60) (sk (yD 54 hg60) (sk (yD 54 hg60) (stp (v := (vb true)) (want1 rfl (yD 49 hg58)) (xT hg60) (wpL_nil ?_))))
            exact ⟨true, _, hg60, hs, hb, Has.mk (by kernel_rfl)⟩
           ·skip
            refine q1 (vp (some (p1.add 5))) (want1 rfl (yD 54 hg60)) (stp (v := (vi aL)) (want1 rfl (yD 54 hg60)) (xl (Try.isAgg38 _) (hb.c 0 5 gZ)) (q1 (vb (aL == 0)) (want1 rfl (yD 54 hg60)) (stp (v := (vb (aL == 0))) (want1 rfl (yD 49 hg58)) (xF hg60) (wpL_nil ?_))))
            exact ⟨false, _, hg60, hs, hb, Has.mk (by kernel_rfl)⟩
         ·skip
          refine sk (yD 49 hg58) (sk (yD 49 hg58) (sk (yD 49 hg58) (sk (yD 49 hg58) (sk (yD 49 hg58) (st_not (by kernel_rfl) (st_not (by kernel_rfl) (st_not (by kernel_rfl) (sk (yD 49 hg58) (q2 (vb false) (xF hg58) (wpL_nil ?_))))))))))
          exact ⟨false, _, hg58, hs, hb, Has.mk (by kernel_rfl)⟩
       ·skip
        rcases Bool.eq_false_or_eq_true ((((s_ref05_named aA) || (aB == 0)) && (((aA == 8) || (aA == 9)) || (aC == 0))) && ((aA == 2) || (aK == 0))) with hg52 | hg52
        ·skip
         refine q1 (vp (some p1)) (want1 rfl (yD 39 hg52)) (stp (v := (vi aA)) (want1 rfl (yD 39 hg52)) (xl (Try.isAgg3 _) (hb.c0 0 gZ)) (q1 (vb (aA == 3)) (want1 rfl (yD 39 hg52)) (q1 (vb (aA == 3)) (want1 rfl (yD 39 hg52)) ?_)))
         refine wpL_join 4 (fun ρ wJ => ∃ b28'0 : Bool, ∃ HJ : Nat → Prop, ((aA == 3) = b28'0) ∧ Hst w0 None w0 HJ wJ ∧ HB HJ wJ [(p1, [(vi aA), (vi aB), (vi aC), (vu aK), (vs aF), (vi aL), (vi aM)], 105)] ∧ Has ρ [(1, (vp (some p1))), (39, (vb ((((s_ref05_named aA) || (aB == 0)) && (((aA == 8) || (aA == 9)) || (aC == 0))) && ((aA == 2) || (aK == 0))))), (47, (vb (b28'0 || (decide (aF = ⟨#[]⟩)))))]) ?_ ?_
         ·clear hs hb
          rintro ρ w39 ⟨b28'0, H29, he0, hs, hb, hH⟩
          subst he0
          refine wpL_has hH ?_
          clear hH
          refine q2 (vb ((aA == 3) || (decide (aF = ⟨#[]⟩)))) (xT hg52) (wpL_nil ?_)
          exact ⟨true, _, hg52, hs, hb, Has.mk (by kernel_rfl)⟩
         ·skip
          rcases Bool.eq_false_or_eq_true (aA == 3) with hg54 | hg54
          ·skip
           refine sk (yD 43 hg54) (sk (yD 43 hg54) (sk (yD 43 hg54) (stp (v := (vb true)) (want1 rfl (yD 39 hg52)) (xT hg54) (wpL_nil ?_))))
           exact ⟨true, _, hg54, hs, hb, Has.mk (by kernel_rfl)⟩
          ·skip
           refine q1 (vp (some (p1.add 4))) (want1 rfl (yD 43 hg54)) (stp (v := (vs aF)) (want1 rfl (yD 43 hg54)) (xl (Try.isAgg9 _) (hb.c 0 4 gZ)) (stp (v := (vb (decide (aF = ⟨#[]⟩)))) (want1 rfl (yD 43 hg54)) (x_streq (by kernel_rfl) (by kernel_rfl)) (stp (v := (vb (decide (aF = ⟨#[]⟩)))) (want1 rfl (yD 39 hg52)) (xF hg54) (wpL_nil ?_))))
           exact ⟨false, _, hg54, hs, hb, Has.mk (by kernel_rfl)⟩
        ·skip
         refine sk (yD 39 hg52) (sk (yD 39 hg52) (sk (yD 39 hg52) (sk (yD 39 hg52) (st_not (by kernel_rfl) (st_not (by kernel_rfl) (st_not (by kernel_rfl) (sk (yD 39 hg52) (q2 (vb false) (xF hg52) (wpL_nil ?_)))))))))
         exact ⟨false, _, hg52, hs, hb, Has.mk (by kernel_rfl)⟩
      ·skip
       rcases Bool.eq_false_or_eq_true (((s_ref05_named aA) || (aB == 0)) && (((aA == 8) || (aA == 9)) || (aC == 0))) with hg46 | hg46
       ·skip
        refine q1 (vp (some p1)) (want1 rfl (yD 29 hg46)) (stp (v := (vi aA)) (want1 rfl (yD 29 hg46)) (xl (Try.isAgg3 _) (hb.c0 0 gZ)) (q1 (vb (aA == 2)) (want1 rfl (yD 29 hg46)) (q1 (vb (aA == 2)) (want1 rfl (yD 29 hg46)) ?_)))
        refine wpL_join 4 (fun ρ wJ => ∃ b25'0 : Bool, ∃ HJ : Nat → Prop, ((aA == 2) = b25'0) ∧ Hst w0 None w0 HJ wJ ∧ HB HJ wJ [(p1, [(vi aA), (vi aB), (vi aC), (vu aK), (vs aF), (vi aL), (vi aM)], 105)] ∧ Has ρ [(1, (vp (some p1))), (29, (vb (((s_ref05_named aA) || (aB == 0)) && (((aA == 8) || (aA == 9)) || (aC == 0))))), (37, (vb (b25'0 || (aK == 0))))]) ?_ ?_
        ·clear hs hb
         rintro ρ w36 ⟨b25'0, H26, he0, hs, hb, hH⟩
         subst he0
         refine wpL_has hH ?_
         clear hH
         refine q2 (vb ((aA == 2) || (aK == 0))) (xT hg46) (wpL_nil ?_)
         exact ⟨true, _, hg46, hs, hb, Has.mk (by kernel_rfl)⟩
        ·skip
         rcases Bool.eq_false_or_eq_true (aA == 2) with hg48 | hg48
         ·skip
          refine sk (yD 33 hg48) (sk (yD 33 hg48) (sk (yD 33 hg48) (stp (v := (vb true)) (want1 rfl (yD 29 hg46)) (xT hg48) (wpL_nil ?_))))
          exact ⟨true, _, hg48, hs, hb, Has.mk (by kernel_rfl)⟩
         ·skip
          refine q1 (vp (some (p1.add 3))) (want1 rfl (yD 33 hg48)) (stp (v := (vu aK)) (want1 rfl (yD 33 hg48)) (xl (Try.isAgg44 _) (hb.c 0 3 gZ)) (q1 (vb (aK == 0)) (want1 rfl (yD 33 hg48)) (stp (v := (vb (aK == 0))) (want1 rfl (yD 29 hg46)) (xF hg48) (wpL_nil ?_))))
          exact ⟨false, _, hg48, hs, hb, Has.mk (by kernel_rfl)⟩
       ·skip
        refine sk (yD 29 hg46) (sk (yD 29 hg46) (sk (yD 29 hg46) (sk (yD 29 hg46) (st_not (by kernel_rfl) (st_not (by kernel_rfl) (st_not (by kernel_rfl) (sk (yD 29 hg46) (q2 (vb false) (xF hg46) (wpL_nil ?_)))))))))
        exact ⟨false, _, hg46, hs, hb, Has.mk (by kernel_rfl)⟩
     ·skip
      rcases Bool.eq_false_or_eq_true ((s_ref05_named aA) || (aB == 0)) with hg40 | hg40
      ·skip
       refine q1 (vp (some p1)) (want1 rfl (yD 19 hg40)) (stp (v := (vi aA)) (want1 rfl (yD 19 hg40)) (xl (Try.isAgg3 _) (hb.c0 0 gZ)) ?_)
       refine st_call (want1 rfl (yD 19 hg40)) (xc Try.call215) ((p_ref05_two aA w28).mono ?_)
       rintro e w32 ⟨he, hE⟩
       refine ⟨(vb ((aA == 8) || (aA == 9))), he.trans (by kernel_rfl), ?_⟩
       replace hs := hs.pure hE
       replace hb := hb.pure hE
       clear hE he
       refine q1 (vb ((aA == 8) || (aA == 9))) (want1 rfl (yD 19 hg40)) ?_
       refine wpL_join 4 (fun ρ wJ => ∃ b22'0 : Bool, ∃ HJ : Nat → Prop, (((aA == 8) || (aA == 9)) = b22'0) ∧ Hst w0 None w0 HJ wJ ∧ HB HJ wJ [(p1, [(vi aA), (vi aB), (vi aC), (vu aK), (vs aF), (vi aL), (vi aM)], 105)] ∧ Has ρ [(1, (vp (some p1))), (19, (vb ((s_ref05_named aA) || (aB == 0)))), (27, (vb (b22'0 || (aC == 0))))]) ?_ ?_
       ·clear hs hb
        rintro ρ w33 ⟨b22'0, H23, he0, hs, hb, hH⟩
        subst he0
        refine wpL_has hH ?_
        clear hH
        refine q2 (vb (((aA == 8) || (aA == 9)) || (aC == 0))) (xT hg40) (wpL_nil ?_)
        exact ⟨true, _, hg40, hs, hb, Has.mk (by kernel_rfl)⟩
       ·skip
        rcases Bool.eq_false_or_eq_true ((aA == 8) || (aA == 9)) with hg42 | hg42
        ·skip
         refine sk (yD 23 hg42) (sk (yD 23 hg42) (sk (yD 23 hg42) (stp (v := (vb true)) (want1 rfl (yD 19 hg40)) (xT hg42) (wpL_nil ?_))))
         exact ⟨true, _, hg42, hs, hb, Has.mk (by kernel_rfl)⟩
        ·skip
         refine q1 (vp (some (p1.add 2))) (want1 rfl (yD 23 hg42)) (stp (v := (vi aC)) (want1 rfl (yD 23 hg42)) (xl (Try.isAgg3 _) (hb.c 0 2 gZ)) (q1 (vb (aC == 0)) (want1 rfl (yD 23 hg42)) (stp (v := (vb (aC == 0))) (want1 rfl (yD 19 hg40)) (xF hg42) (wpL_nil ?_))))
         exact ⟨false, _, hg42, hs, hb, Has.mk (by kernel_rfl)⟩
      ·skip
       refine sk (yD 19 hg40) (sk (yD 19 hg40) (sk (yD 19 hg40) (sk (yD 19 hg40) (st_not (by kernel_rfl) (st_not (by kernel_rfl) (st_not (by kernel_rfl) (sk (yD 19 hg40) (q2 (vb false) (xF hg40) (wpL_nil ?_)))))))))
       exact ⟨false, _, hg40, hs, hb, Has.mk (by kernel_rfl)⟩
    ·skip
     rcases Bool.eq_false_or_eq_true (s_ref05_named aA) with hg36 | hg36
     ·skip
      refine sk (yD 14 hg36) (sk (yD 14 hg36) (sk (yD 14 hg36) (q2 (vb true) (xT hg36) (wpL_nil ?_))))
      exact ⟨true, _, hg36, hs, hb, Has.mk (by kernel_rfl)⟩
     ·skip
      refine q1 (vp (some (p1.add 1))) (want1 rfl (yD 14 hg36)) (stp (v := (vi aB)) (want1 rfl (yD 14 hg36)) (xl (Try.isAgg3 _) (hb.c 0 1 gZ)) (q1 (vb (aB == 0)) (want1 rfl (yD 14 hg36)) (q2 (vb (aB == 0)) (xF hg36) (wpL_nil ?_))))
      exact ⟨false, _, hg36, hs, hb, Has.mk (by kernel_rfl)⟩
   ·clear hs hb
    rintro ρ w26 ⟨H19, hs, hb, hH⟩
    refine norm_has hH ?_
    clear hH
    refine th_n (wpE_ret (res1 (.inl rfl) Try.results212 (v := (vb (((((((s_ref05_named aA) || (aB == 0)) && (((aA == 8) || (aA == 9)) || (aC == 0))) && ((aA == 2) || (aK == 0))) && ((aA == 3) || (decide (aF = ⟨#[]⟩)))) && ((decide ((s_ref05_Kids aA) ≥ 1)) || (aL == 0))) && ((((s_ref05_Kids aA) : Int) == 2) || (aM == 0))))) (by kernel_rfl) ?_))
    exact ⟨false, hc1, by kernel_rfl, (Ext.refl (F := None) _).hst hs⟩
theorem p_ref05_plain (aA aB : Int) (aC aK : Int) (aF : ByteArray) (aL aM : Int) (w0 : World) : Calls Try.prog 212 #[(.agg #[(.int .i64 aA), (.int .i64 aB), (.int .i64 aC), (.int .u64 aK), (.string aF), (.int .i64 aL), (.int .i64 aM)])] w0 (fun e w' => e = .returned (.bool (s_ref05_plain aA aB aC aK aF aL aM)) ∧ Pure w0 w') := by
 refine (pw_ref05_plain aA aB aC aK aF aL aM w0).mono ?_
 rintro e w' ⟨b'0, e0, h, E⟩
 subst e0
 exact ⟨h, E⟩
def s_ref05_name (n1 : Int) : Bool :=
 ((decide (n1 ≥ 0)) && (decide (n1 < 16)))
theorem pw_ref05_name (n1 : Int) (w0 : World) :
  Calls Try.prog 214 #[(vi n1)] w0 (fun e w' => (e = .returned (vb ((decide (n1 ≥ 0)) && (decide (n1 < 16))))) ∧ Pure w0 w') := by
 refine calls_of_wpE (args := [(vi n1)]) Try.func214 rfl Try.ntmps214 (Nat.le_of_ble_eq_true rfl) (wpE_seq (rg (q0 (vb false) (wpL_nil (th_n (wpE_seq ?_))))))
 refine wpE_via (fun ρ wJ => w0 = wJ ∧ Has ρ [(2, (vb ((decide (n1 ≥ 0)) && (decide (n1 < 16)))))]) ?_ ?_
 ·skip
  refine rg (q0 (vi n1) (q0 (vb (decide (n1 ≥ 0))) (q0 (vb (decide (n1 ≥ 0))) ?_)))
  refine wpL_join 3 (fun ρ wJ => ∃ b3'0 : Bool, ((decide (n1 ≥ 0)) = b3'0) ∧ w0 = wJ ∧ Has ρ [(8, (vb (b3'0 && (decide (n1 < 16)))))]) ?_ ?_
  ·rintro ρ w3 ⟨b3'0, he0, hw, hH⟩
   subst he0
   subst hw
   refine wpL_has hH ?_
   clear hH
   refine q0 (vb ((decide (n1 ≥ 0)) && (decide (n1 < 16)))) (wpL_nil (th_n ?_))
   exact ⟨rfl, Has.mk (by kernel_rfl)⟩
  ·skip
   rcases Bool.eq_false_or_eq_true (decide (n1 ≥ 0)) with hg4 | hg4
   ·skip
    refine q1 (vi n1) (want1 rfl (yD 5 hg4)) (q1 (vb (decide (n1 < 16))) (want1 rfl (yD 5 hg4)) (q2 (vb (decide (n1 < 16))) (xT hg4) (wpL_nil ?_)))
    exact ⟨true, hg4, rfl, Has.mk (by kernel_rfl)⟩
   ·skip
    refine sk (yD 5 hg4) (sk (yD 5 hg4) (q2 (vb false) (xF hg4) (wpL_nil ?_)))
    exact ⟨false, hg4, rfl, Has.mk (by kernel_rfl)⟩
 ·rintro ρ w2 ⟨hw, hH⟩
  subst hw
  refine norm_has hH ?_
  clear hH
  refine th_n (wpE_ret (res1 (.inl rfl) Try.results214 (v := (vb ((decide (n1 ≥ 0)) && (decide (n1 < 16))))) (by kernel_rfl) ?_))
  exact ⟨by kernel_rfl, Ext.refl _⟩
theorem p_ref05_name (n1 : Int) (w0 : World) : Calls Try.prog 214 #[(.int .i64 n1)] w0 (fun e w' => e = .returned (.bool (s_ref05_name n1)) ∧ Pure w0 w') := pw_ref05_name n1 w0
def s_ref05_shape (aA aB : Int) (aC aK : Int) (aF : ByteArray) (aL aM : Int) : Int :=
 (cond (!(s_ref05_plain aA aB aC aK aF aL aM)) 53 (cond (((s_ref05_named aA) && (!((decide (aB ≥ 0)) && (decide (aB < 16))))) || (((aA == 8) || (aA == 9)) && ((!((decide (aC ≥ 0)) && (decide (aC < 16)))) || (aB == aC)))) 50 (cond (decide ((aF.size : Int) > 64)) 1 0)))
theorem pw_ref05_shape (aA aB : Int) (aC aK : Int) (aF : ByteArray) (aL aM : Int) (w0 : World) :
  Calls Try.prog 193 #[(.agg #[(vi aA), (vi aB), (vi aC), (vu aK), (vs aF), (vi aL), (vi aM)])] w0 (fun e w' => ∃ b'0 b'1 b'2 : Bool, ((!(s_ref05_plain aA aB aC aK aF aL aM)) = b'0 ∧ (((s_ref05_named aA) && (!((decide (aB ≥ 0)) && (decide (aB < 16))))) || (((aA == 8) || (aA == 9)) && ((!((decide (aC ≥ 0)) && (decide (aC < 16)))) || (aB == aC)))) = b'1 ∧ (decide ((aF.size : Int) > 64)) = b'2) ∧ (e = .returned (vi (cond b'0 53 (cond b'1 50 (cond b'2 1 0))))) ∧ Pure w0 w') := by
 refine calls_of_wpE (args := [(.agg #[(vi aA), (vi aB), (vi aC), (vu aK), (vs aF), (vi aL), (vi aM)])]) Try.func193 rfl Try.ntmps193 (Nat.le_of_ble_eq_true rfl) ?_
 have hs := Hst.start w0
 have hb := HB.nil None w0
 refine wpE_seq (rg (sn (O := (.cells #[(vi aA), (vi aB), (vi aC), (vu aK), (vs aF), (vi aL), (vi aM)] 105)) xb ?_))
 intro p1 w1 hn1
 obtain ⟨H1, hs, hb⟩ := hs.alloc hb hn1
 refine q0 (vi 0) (wpL_nil (th_n (wpE_seq (wpE_seq (rg (q2 (.agg #[(vi aA), (vi aB), (vi aC), (vu aK), (vs aF), (vi aL), (vi aM)]) (x_loadA (a := p1) (vs := [(vi aA), (vi aB), (vi aC), (vu aK), (vs aF), (vi aL), (vi aM)]) (by kernel_rfl) (Try.isAgg105 _) (Try.sizeOf105 _) rfl (hb.row0 0 7 gZ (by kernel_rfl))) ?_))))))
 refine st_call (want0 rfl) (xc Try.call212) ((p_ref05_plain aA aB aC aK aF aL aM w1).mono ?_)
 rintro e w2 ⟨he, hE⟩
 refine ⟨(vb (s_ref05_plain aA aB aC aK aF aL aM)), he.trans (by kernel_rfl), ?_⟩
 replace hs := hs.pure hE
 replace hb := hb.pure hE
 clear hE he
 refine q0 (vb (!(s_ref05_plain aA aB aC aK aF aL aM))) (wpL_nil (th_n ?_))
 refine wpE_cond (t := (!(s_ref05_plain aA aB aC aK aF aL aM))) (by kernel_rfl) (fun hc1 => ?_) (fun hc1 => ?_)
 ·skip
  refine wpE_seq (rg (q0 (vi 53) (wpL_nil (th_n (wpE_ret (th_r (res1 (.inl rfl) Try.results193 (v := (vi 53)) (by kernel_rfl) ?_)))))))
  exact ⟨true, _, _, ⟨hc1, rfl, rfl⟩, by kernel_rfl, (Ext.refl (F := None) _).hst hs⟩
 ·skip
  refine wpE_skip (th_n (wpE_seq (wpE_seq ?_)))
  refine wpE_via (fun ρ wJ => ∃ b5'0 : Bool, ∃ HJ : Nat → Prop, (((s_ref05_named aA) && (!((decide (aB ≥ 0)) && (decide (aB < 16))))) = b5'0) ∧ Hst w0 None w0 HJ wJ ∧ HB HJ wJ [(p1, [(vi aA), (vi aB), (vi aC), (vu aK), (vs aF), (vi aL), (vi aM)], 105)] ∧ Has ρ [(1, (vp (some p1))), (32, (vb (b5'0 || (((aA == 8) || (aA == 9)) && ((!((decide (aC ≥ 0)) && (decide (aC < 16)))) || (aB == aC))))))]) ?_ ?_
  ·skip
   refine rg (q0 (vp (some p1)) (q2 (vi aA) (xl (Try.isAgg3 _) (hb.c0 0 gZ)) ?_))
   refine st_call (want0 rfl) (xc Try.call213) ((p_ref05_named aA w2).mono ?_)
   rintro e w14 ⟨he, hE⟩
   refine ⟨(vb (s_ref05_named aA)), he.trans (by kernel_rfl), ?_⟩
   replace hs := hs.pure hE
   replace hb := hb.pure hE
   clear hE he
   refine q0 (vb (s_ref05_named aA)) ?_
   refine wpL_join 5 (fun ρ wJ => ∃ b6'0 : Bool, ∃ HJ : Nat → Prop, ((s_ref05_named aA) = b6'0) ∧ Hst w0 None w0 HJ wJ ∧ HB HJ wJ [(p1, [(vi aA), (vi aB), (vi aC), (vu aK), (vs aF), (vi aL), (vi aM)], 105)] ∧ Has ρ [(1, (vp (some p1))), (14, (vb (b6'0 && (!((decide (aB ≥ 0)) && (decide (aB < 16)))))))]) ?_ ?_
   ·clear hs hb
    rintro ρ w16 ⟨b6'0, H7, he0, hs, hb, hH⟩
    subst he0
    refine wpL_has hH ?_
    clear hH
    refine q0 (vb ((s_ref05_named aA) && (!((decide (aB ≥ 0)) && (decide (aB < 16)))))) ?_
    rcases Bool.eq_false_or_eq_true ((s_ref05_named aA) && (!((decide (aB ≥ 0)) && (decide (aB < 16))))) with hg12 | hg12
    ·skip
     refine sk (yD 15 hg12) (sk (yD 15 hg12) (sk (yD 15 hg12) (sk (yD 15 hg12) (st_not (by kernel_rfl) (st_not (by kernel_rfl) (st_not (by kernel_rfl) (st_not (by kernel_rfl) (st_not (by kernel_rfl) (st_not (by kernel_rfl) (st_not (by kernel_rfl) (st_not (by kernel_rfl) ?_)))))))))))
     refine st_not (by kernel_rfl) (st_not (by kernel_rfl) (st_not (by kernel_rfl) (sk (yD 15 hg12) (q2 (vb true) (xT hg12) (wpL_nil (th_n ?_))))))
     exact ⟨true, _, hg12, hs, hb, Has.mk (by kernel_rfl)⟩
    ·skip
     refine q1 (vp (some p1)) (want1 rfl (yD 15 hg12)) (stp (v := (vi aA)) (want1 rfl (yD 15 hg12)) (xl (Try.isAgg3 _) (hb.c0 0 gZ)) ?_)
     refine st_call (want1 rfl (yD 15 hg12)) (xc Try.call215) ((p_ref05_two aA w16).mono ?_)
     rintro e w18 ⟨he, hE⟩
     refine ⟨(vb ((aA == 8) || (aA == 9))), he.trans (by kernel_rfl), ?_⟩
     replace hs := hs.pure hE
     replace hb := hb.pure hE
     clear hE he
     refine q1 (vb ((aA == 8) || (aA == 9))) (want1 rfl (yD 15 hg12)) ?_
     refine wpL_join 12 (fun ρ wJ => ∃ b8'0 : Bool, ∃ HJ : Nat → Prop, (((aA == 8) || (aA == 9)) = b8'0) ∧ Hst w0 None w0 HJ wJ ∧ HB HJ wJ [(p1, [(vi aA), (vi aB), (vi aC), (vu aK), (vs aF), (vi aL), (vi aM)], 105)] ∧ Has ρ [(1, (vp (some p1))), (15, (vb ((s_ref05_named aA) && (!((decide (aB ≥ 0)) && (decide (aB < 16))))))), (31, (vb (b8'0 && ((!((decide (aC ≥ 0)) && (decide (aC < 16)))) || (aB == aC)))))]) ?_ ?_
     ·clear hs hb
      rintro ρ w21 ⟨b8'0, H9, he0, hs, hb, hH⟩
      subst he0
      refine wpL_has hH ?_
      clear hH
      refine q2 (vb (((aA == 8) || (aA == 9)) && ((!((decide (aC ≥ 0)) && (decide (aC < 16)))) || (aB == aC)))) (xF hg12) (wpL_nil (th_n ?_))
      exact ⟨false, _, hg12, hs, hb, Has.mk (by kernel_rfl)⟩
     ·skip
      rcases Bool.eq_false_or_eq_true ((aA == 8) || (aA == 9)) with hg16 | hg16
      ·skip
       refine q1 (vp (some (p1.add 2))) (want1 rfl (yD 19 hg16)) (stp (v := (vi aC)) (want1 rfl (yD 19 hg16)) (xl (Try.isAgg3 _) (hb.c 0 2 gZ)) ?_)
       refine st_call (want1 rfl (yD 19 hg16)) (xc Try.call214) ((p_ref05_name aC w18).mono ?_)
       rintro e w22 ⟨he, hE⟩
       refine ⟨(vb ((decide (aC ≥ 0)) && (decide (aC < 16)))), he.trans (by kernel_rfl), ?_⟩
       replace hs := hs.pure hE
       replace hb := hb.pure hE
       clear hE he
       refine q1 (vb (!((decide (aC ≥ 0)) && (decide (aC < 16))))) (want1 rfl (yD 19 hg16)) (q1 (vb (!((decide (aC ≥ 0)) && (decide (aC < 16))))) (want1 rfl (yD 19 hg16)) ?_)
       refine wpL_join 6 (fun ρ wJ => ∃ b9'0 : Bool, ∃ HJ : Nat → Prop, ((!((decide (aC ≥ 0)) && (decide (aC < 16)))) = b9'0) ∧ Hst w0 None w0 HJ wJ ∧ HB HJ wJ [(p1, [(vi aA), (vi aB), (vi aC), (vu aK), (vs aF), (vi aL), (vi aM)], 105)] ∧ Has ρ [(1, (vp (some p1))), (15, (vb ((s_ref05_named aA) && (!((decide (aB ≥ 0)) && (decide (aB < 16))))))), (19, (vb ((aA == 8) || (aA == 9)))), (30, (vb (b9'0 || (aB == aC))))]) ?_ ?_
       ·clear hs hb
        rintro ρ w23 ⟨b9'0, H10, he0, hs, hb, hH⟩
        subst he0
        refine wpL_has hH ?_
        clear hH
        refine stp (v := (vb ((!((decide (aC ≥ 0)) && (decide (aC < 16)))) || (aB == aC)))) (want1 rfl (yD 15 hg12)) (xT hg16) (wpL_nil ?_)
        exact ⟨true, _, hg16, hs, hb, Has.mk (by kernel_rfl)⟩
       ·skip
        rcases Bool.eq_false_or_eq_true (!((decide (aC ≥ 0)) && (decide (aC < 16)))) with hg18 | hg18
        ·skip
         refine sk (yD 24 hg18) (sk (yD 24 hg18) (sk (yD 24 hg18) (sk (yD 24 hg18) (sk (yD 24 hg18) (stp (v := (vb true)) (want1 rfl (yD 19 hg16)) (xT hg18) (wpL_nil ?_))))))
         exact ⟨true, _, hg18, hs, hb, Has.mk (by kernel_rfl)⟩
        ·skip
         refine q1 (vp (some (p1.add 1))) (want1 rfl (yD 24 hg18)) (stp (v := (vi aB)) (want1 rfl (yD 24 hg18)) (xl (Try.isAgg3 _) (hb.c 0 1 gZ)) (q1 (vp (some (p1.add 2))) (want1 rfl (yD 24 hg18)) (stp (v := (vi aC)) (want1 rfl (yD 24 hg18)) (xl (Try.isAgg3 _) (hb.c 0 2 gZ)) (q1 (vb (aB == aC)) (want1 rfl (yD 24 hg18)) (stp (v := (vb (aB == aC))) (want1 rfl (yD 19 hg16)) (xF hg18) (wpL_nil ?_))))))
         exact ⟨false, _, hg18, hs, hb, Has.mk (by kernel_rfl)⟩
      ·skip
       refine sk (yD 19 hg16) (sk (yD 19 hg16) (sk (yD 19 hg16) (sk (yD 19 hg16) (sk (yD 19 hg16) (st_not (by kernel_rfl) (st_not (by kernel_rfl) (st_not (by kernel_rfl) (st_not (by kernel_rfl) (st_not (by kernel_rfl) (sk (yD 19 hg16) (stp (v := (vb false)) (want1 rfl (yD 15 hg12)) (xF hg16) ?_)))))))))))
       refine wpL_nil ?_
       exact ⟨false, _, hg16, hs, hb, Has.mk (by kernel_rfl)⟩
   ·skip
    rcases Bool.eq_false_or_eq_true (s_ref05_named aA) with hg11 | hg11
    ·skip
     refine q1 (vp (some (p1.add 1))) (want1 rfl (yD 9 hg11)) (stp (v := (vi aB)) (want1 rfl (yD 9 hg11)) (xl (Try.isAgg3 _) (hb.c 0 1 gZ)) ?_)
     refine st_call (want1 rfl (yD 9 hg11)) (xc Try.call214) ((p_ref05_name aB w14).mono ?_)
     rintro e w17 ⟨he, hE⟩
     refine ⟨(vb ((decide (aB ≥ 0)) && (decide (aB < 16)))), he.trans (by kernel_rfl), ?_⟩
     replace hs := hs.pure hE
     replace hb := hb.pure hE
     clear hE he
     refine q1 (vb (!((decide (aB ≥ 0)) && (decide (aB < 16))))) (want1 rfl (yD 9 hg11)) (q2 (vb (!((decide (aB ≥ 0)) && (decide (aB < 16))))) (xT hg11) (wpL_nil ?_))
     exact ⟨true, _, hg11, hs, hb, Has.mk (by kernel_rfl)⟩
    ·skip
     refine sk (yD 9 hg11) (sk (yD 9 hg11) (sk (yD 9 hg11) (sk (yD 9 hg11) (q2 (vb false) (xF hg11) (wpL_nil ?_)))))
     exact ⟨false, _, hg11, hs, hb, Has.mk (by kernel_rfl)⟩
  ·clear hs hb
   rintro ρ w13 ⟨b5'0, H6, he0, hs, hb, hH⟩
   subst he0
   refine norm_has hH ?_
   clear hH
   refine th_n ?_
   refine wpE_cond (t := (((s_ref05_named aA) && (!((decide (aB ≥ 0)) && (decide (aB < 16))))) || (((aA == 8) || (aA == 9)) && ((!((decide (aC ≥ 0)) && (decide (aC < 16)))) || (aB == aC))))) (by kernel_rfl) (fun hc2 => ?_) (fun hc2 => ?_)
   ·skip
    refine wpE_seq (rg (q0 (vi 50) (wpL_nil (th_n (wpE_ret (th_r (res1 (.inl rfl) Try.results193 (v := (vi 50)) (by kernel_rfl) ?_)))))))
    exact ⟨false, true, _, ⟨hc1, hc2, rfl⟩, by kernel_rfl, (Ext.refl (F := None) _).hst hs⟩
   ·skip
    refine wpE_skip (th_n (wpE_seq (wpE_seq (rg (q0 (vp (some (p1.add 4))) (q2 (vs aF) (xl (Try.isAgg9 _) (hb.c 0 4 gZ)) (q0 (vi (aF.size : Int)) (q0 (vb (decide ((aF.size : Int) > 64))) (wpL_nil (th_n ?_))))))))))
    refine wpE_cond (t := (decide ((aF.size : Int) > 64))) (by kernel_rfl) (fun hc3 => ?_) (fun hc3 => ?_)
    ·skip
     refine wpE_seq (rg (q0 (vi 1) (wpL_nil (th_n (wpE_ret (th_r (res1 (.inl rfl) Try.results193 (v := (vi 1)) (by kernel_rfl) ?_)))))))
     exact ⟨false, false, true, ⟨hc1, hc2, hc3⟩, by kernel_rfl, (Ext.refl (F := None) _).hst hs⟩
    ·skip
     refine wpE_skip (th_n (wpE_seq (rg (q0 (vi 0) (wpL_nil (th_n (wpE_ret (res1 (.inl rfl) Try.results193 (v := (vi 0)) (by kernel_rfl) ?_))))))))
     exact ⟨false, false, false, ⟨hc1, hc2, hc3⟩, by kernel_rfl, (Ext.refl (F := None) _).hst hs⟩
theorem p_ref05_shape (aA aB : Int) (aC aK : Int) (aF : ByteArray) (aL aM : Int) (w0 : World) : Calls Try.prog 193 #[(.agg #[(.int .i64 aA), (.int .i64 aB), (.int .i64 aC), (.int .u64 aK), (.string aF), (.int .i64 aL), (.int .i64 aM)])] w0 (fun e w' => e = .returned (.int .i64 (s_ref05_shape aA aB aC aK aF aL aM)) ∧ Pure w0 w') := by
 refine (pw_ref05_shape aA aB aC aK aF aL aM w0).mono ?_
 rintro e w' ⟨b'0, b'1, b'2, ⟨e0, e1, e2⟩, h, E⟩
 subst e0
 subst e1
 subst e2
 exact ⟨h, E⟩
def m_ref05_looked_l2 (aD : Sl) (deep1 : Int) (seen1 : Option Addr) (e1 i1 : Int) (w0 : World) (Hl1 : Nat → Prop) (wl1 : World) (Kc2 : Int → Int → (Nat → Prop) → World → Prop) (K : Int → World → Prop) : Prop :=
 Br ((e1 == 0) && (decide (i1 < (aD.len : Int))))
  (∃ a3 : Addr, At aD i1 6 a3 ∧
  ∀ (H4 : Nat → Prop) (w11 : World), Hst w0 Hl1 wl1 H4 w11 →
  ∃ aN aO : Int, ∃ aP aQ : Int, ∃ aR : ByteArray, ∃ aX : Sl, Row w11 a3 [(vi aN), (vi aO), (vi aP), (vu aQ), (vs aR), aX.v] ∧
  Calls Try.prog 135 #[(.agg #[(vi aN), (vi aO), (vi aP), (vu aQ), (vs aR), aX.v]), (vi (IntKind.i64.wrap (deep1 + 1))), (vp seen1)] w11 (fun e w12 => ∃ r1 : Int, e = .returned (vi r1) ∧ 
   Kept H4 w11 w12 ∧
   Kc2 r1 (IntKind.i64.wrap (i1 + 1)) H4 w12))
  (∀ (H4 : Nat → Prop) (w11 : World), Hst w0 Hl1 wl1 H4 w11 →
  K e1 w11)
def m_ref05_looked_j1 (aE aG : Int) (aH aI : Int) (aJ : ByteArray) (aD : Sl) (deep1 : Int) (seen1 : Option Addr) (x1 : Bool) (w0 : World) (H : Nat → Prop) (w : World) (K : Int → World → Prop) : Prop :=
 Br x1
  (K 52 w)
  (∃ a1 : Addr, seen1 = some a1 ∧
  ∃ v1 : Int, w.cell? a1 = some (vi v1) ∧
  ∃ a2 : Addr, seen1 = some a2 ∧
  CanW w a2 ∧ ¬ H a2.block ∧ ∀ w2 : World, w2 = w.setCell a2 (vi (IntKind.i64.wrap (v1 + 1))) →
  ∀ y1 : Bool, y1 = ((((s_ref05_shape aE aG aH aI aJ 0 0) : Int) != 53) && (((aD.len : Int) : Int) != (s_ref05_Kids aE))) →
  ∀ (H3 : Nat → Prop) (w10 : World), Hst w0 H w2 H3 w10 →
  ∃ (I1 : Int → Int → (Nat → Prop) → World → Prop) (mu1 : Int → Int → World → Nat), I1 (cond y1 53 (s_ref05_shape aE aG aH aI aJ 0 0)) 0 H3 w10 ∧
   ∀ (e1 i1 : Int) (Hl1 : Nat → Prop) (wl1 : World), Hst w0 Hl1 wl1 Hl1 wl1 → I1 e1 i1 Hl1 wl1 → m_ref05_looked_l2 aD deep1 seen1 e1 i1 w0 Hl1 wl1 (fun y'0 y'1 H' w' => I1 y'0 y'1 H' w' ∧ mu1 y'0 y'1 w' < mu1 e1 i1 wl1) K)
def m_ref05_looked (aE aG : Int) (aH aI : Int) (aJ : ByteArray) (aD : Sl) (deep1 : Int) (seen1 : Option Addr) (w0 : World) (K : Int → World → Prop) : Prop :=
 ∃ a4 : Addr, seen1 = some a4 ∧
 ∀ (H1 : Nat → Prop) (w1 : World), Hst w0 None w0 H1 w1 →
 ∃ v2 : Int, w1.cell? a4 = some (vi v2) ∧
 ∀ (H5 : Nat → Prop) (w13 : World), Hst w0 H1 w1 H5 w13 →
 m_ref05_looked_j1 aE aG aH aI aJ aD deep1 seen1 ((decide (v2 ≥ 4096)) || (decide (deep1 ≥ 64))) w0 H5 w13 K
theorem w_ref05_looked (aE aG : Int) (aH aI : Int) (aJ : ByteArray) (aD : Sl) (deep1 : Int) (seen1 : Option Addr) (w0 : World) (K : Int → World → Prop) (h : m_ref05_looked aE aG aH aI aJ aD deep1 seen1 w0 K) :
  Calls Try.prog 135 #[(.agg #[(vi aE), (vi aG), (vi aH), (vu aI), (vs aJ), aD.v]), (vi deep1), (vp seen1)] w0 (fun e w' => ∃ r2 : Int, e = .returned (vi r2) ∧ K r2 w') := by
 unfold m_ref05_looked at h
 refine calls_of_wpE (args := [(.agg #[(vi aE), (vi aG), (vi aH), (vu aI), (vs aJ), aD.v]), (vi deep1), (vp seen1)]) Try.func135 rfl Try.ntmps135 (Nat.le_of_ble_eq_true rfl) ?_
 have hs := Hst.start w0
 have hb := HB.nil None w0
 refine wpE_seq (rg (sn (O := (.cells #[(vi aE), (vi aG), (vi aH), (vu aI), (vs aJ), aD.v] 46)) xb ?_))
 intro p1 w1 hn1
 obtain ⟨H1, hs, hb⟩ := hs.alloc hb hn1
 refine q0 (vi 0) (wpL_nil (th_n (wpE_seq (wpE_seq ?_))))
 refine wpE_joinT (fun ρ w => ∃ x1 : Bool, ∃ H : Nat → Prop, Has ρ [(1, (vi deep1)), (2, (vp seen1)), (3, (vp (some p1))), (16, (vb x1))] ∧ Hst w0 H w H w ∧ HB H w [(p1, [(vi aE), (vi aG), (vi aH), (vu aI), (vs aJ), aD.v], 46)] ∧ m_ref05_looked_j1 aE aG aH aI aJ aD deep1 seen1 x1 w0 H w K) ?_ ?_
 ·clear h hs hb
  rintro ρ w ⟨x1, H, hH, hs, hb, h⟩
  unfold m_ref05_looked_j1 at h
  refine wpE_has hH ?_
  clear hH
  refine wpE_cond (t := x1) (by kernel_rfl) (fun hc1 => ?_) (fun hc1 => ?_)
  ·replace h := h.1 hc1
   refine wpE_seq (rg (q0 (vi 52) (wpL_nil (th_n (wpE_ret (th_r (res1 (.inl rfl) Try.results135 (v := (vi 52)) (by kernel_rfl) ?_)))))))
   exact ⟨52, rfl, h⟩
  ·replace h := h.2 hc1
   refine wpE_skip (th_n (wpE_seq (rg (q0 (vp seen1) (q0 (vp seen1) ?_)))))
   obtain ⟨a1, hp1, h⟩ := h
   refine q2 (vp (some a1)) (x_nilCheck (p := seen1) (by kernel_rfl) hp1) ?_
   obtain ⟨v1, hv3, h⟩ := h
   refine q2 (vi v1) (xl (Try.isAgg3 _) hv3) (q0 (vi (IntKind.i64.wrap (v1 + 1))) ?_)
   obtain ⟨a2, hp2, h⟩ := h
   refine q2 (vp (some a2)) (x_nilCheck (p := seen1) (by kernel_rfl) hp2) ?_
   obtain ⟨hp3, hnh, h⟩ := h
   refine st_set (want0 rfl) (x_store (a := a2) (v := (vi (IntKind.i64.wrap (v1 + 1)))) (by kernel_rfl) (by kernel_rfl) rfl (Try.sizeOf3 _) hp3) ?_
   intro w2 hn2
   replace h := h w2 hn2
   have hk : Kept H w w2 := by rw [hn2]; exact Kept.setCell hnh
   replace hs := hs.again hk
   replace hb := hb.kept hk
   clear hk hnh
   refine wpL_nil (th_n (wpE_seq (rg (q2 (.agg #[(vi aE), (vi aG), (vi aH), (vu aI), (vs aJ), aD.v]) (x_loadA (a := p1) (vs := [(vi aE), (vi aG), (vi aH), (vu aI), (vs aJ), aD.v]) (by kernel_rfl) (Try.isAgg46 _) (Try.sizeOf46 _) rfl (hb.row0 0 6 gZ (by kernel_rfl))) ?_))))
   refine st_call (want0 rfl) (xc Try.call136) ((p_ref05_node aE aG aH aI aJ aD w2).mono ?_)
   rintro e w3 ⟨he, hE⟩
   refine ⟨(.agg #[(vi aE), (vi aG), (vi aH), (vu aI), (vs aJ), (vi 0), (vi 0)]), he.trans (by kernel_rfl), ?_⟩
   replace hs := hs.pure hE
   replace hb := hb.pure hE
   clear hE he
   refine st_call (want0 rfl) (xc Try.call193) ((p_ref05_shape aE aG aH aI aJ 0 0 w3).mono ?_)
   rintro e w4 ⟨he, hE⟩
   refine ⟨(vi (s_ref05_shape aE aG aH aI aJ 0 0)), he.trans (by kernel_rfl), ?_⟩
   replace hs := hs.pure hE
   replace hb := hb.pure hE
   clear hE he
   refine q0 (vi (s_ref05_shape aE aG aH aI aJ 0 0)) (wpL_nil (th_n (wpE_seq (wpE_seq ?_))))
   refine wpE_via (fun ρ wJ => ∃ b1'0 y1 : Bool, ∃ HJ : Nat → Prop, ((((s_ref05_shape aE aG aH aI aJ 0 0) : Int) != 53) = b1'0) ∧ (y1 = (b1'0 && (((aD.len : Int) : Int) != (s_ref05_Kids aE)))) ∧ Hst w0 H w2 HJ wJ ∧ HB HJ wJ [(p1, [(vi aE), (vi aG), (vi aH), (vu aI), (vs aJ), aD.v], 46)] ∧ Has ρ [(1, (vi deep1)), (2, (vp seen1)), (3, (vp (some p1))), (7, (vi (s_ref05_shape aE aG aH aI aJ 0 0))), (36, (vb y1))]) ?_ ?_
   ·skip
    refine wpE_drawnC (fun x => ∃ H', Hst w0 H w2 H' x ∧ HB H' x [(p1, [(vi aE), (vi aG), (vi aH), (vu aI), (vs aJ), aD.v], 46)]) [8] [] (by kernel_rfl) (by kernel_rfl) (by kernel_rfl) (by kernel_rfl) ⟨_, hs.drew, hb.drew⟩ ?_
    intro w8 hw8
    replace hs : Hst w0 H w2 H w8 := by rw [hw8]; exact hs.drew
    replace hb : HB H w8 [(p1, [(vi aE), (vi aG), (vi aH), (vu aI), (vs aJ), aD.v], 46)] := by rw [hw8]; exact hb.drew
    clear hw8
    refine qx 0 (vi (s_ref05_shape aE aG aH aI aJ 0 0)) Kp0 (qx 1 (vb (((s_ref05_shape aE aG aH aI aJ 0 0) : Int) != 53)) Kp1 (qx 2 (vb (((s_ref05_shape aE aG aH aI aJ 0 0) : Int) != 53)) Kp2 (qgo (k := 3) (by kernel_rfl) ?_)))
    rcases Bool.eq_false_or_eq_true (((s_ref05_shape aE aG aH aI aJ 0 0) : Int) != 53) with hg2 | hg2
    ·skip
     refine sx (v := (vp (some (p1.add 5)))) Kp3 (want1 rfl (yD 28 hg2)) (by kernel_rfl) (fun w' hw' => (by kernel_rfl)) (qgo (k := 4) (by kernel_rfl) (sx (v := aD.v) Kp4 (want1 rfl (yD 28 hg2)) (by kernel_rfl) (fun w' hw' => (by obtain ⟨H', hs', hb'⟩ := hw'; exact (xl (Try.isAgg22 _) (hb'.cell 0 5 gZ (by kernel_rfl))))) (qw 5 (vi (aD.len : Int)) Kp5 (want1 rfl (yD 28 hg2)) (qw 6 (vp (some p1)) Kp6 (want1 rfl (yD 28 hg2)) (qgo (k := 7) (by kernel_rfl) (sx (v := (vi aE)) Kp7 (want1 rfl (yD 28 hg2)) (by kernel_rfl) (fun w' hw' => (by obtain ⟨H', hs', hb'⟩ := hw'; exact (xl (Try.isAgg3 _) (hb'.cell0 0 gZ (by kernel_rfl))))) (lgo (k := 8) (by kernel_rfl) ?_)))))))
     refine sl_call Kp8 (want1 rfl (yD 28 hg2)) (by kernel_rfl) (xc Try.call80) ((p_ref05_Kids aE w8).mono ?_)
     rintro e w9 ⟨he, hE⟩
     replace hs := hs.pure hE
     replace hb := hb.pure hE
     refine ⟨(vi (s_ref05_Kids aE)), he.trans (by kernel_rfl), .inr ⟨_, hs, hb⟩, ?_⟩
     clear hE he
     refine qw 9 (vb (((aD.len : Int) : Int) != (s_ref05_Kids aE))) Kp9 (want1 rfl (yD 28 hg2)) (qz 10 (vb (((aD.len : Int) : Int) != (s_ref05_Kids aE))) (pickA (S8 (pickS (pickS pickZ)))) (fun w' hw' => (xT hg2)) (wpX_nil (by kernel_rfl) (th_n ?_)))
     exact ⟨true, _, _, hg2, rfl, hs, hb, Has.mk (by kernel_rfl)⟩
    ·skip
     refine sx_not Kp3 (unwant rfl (yD 28 hg2) rfl) (qn 4 Kp4 (unwant rfl (yD 28 hg2) rfl) (qn 5 Kp5 (unwant rfl (yD 28 hg2) rfl) (qn 6 Kp6 (unwant rfl (yD 28 hg2) rfl) (qn 7 Kp7 (unwant rfl (yD 28 hg2) rfl) (lgo (k := 8) (by kernel_rfl) (sx_not Kp8 (unwant rfl (yD 28 hg2) rfl) (qn 9 Kp9 (unwant rfl (yD 28 hg2) rfl) (qz 10 (vb false) (pickA (S8 (pickS (pickS pickZ)))) (fun w' hw' => (xF hg2)) (wpX_nil (by kernel_rfl) (th_n ?_))))))))))
     exact ⟨false, _, _, hg2, rfl, hs, hb, Has.mk (by kernel_rfl)⟩
   ·clear hs hb
    rintro ρ w7 ⟨b1'0, y1, H2, he0, hy1, hs, hb, hH⟩
    subst he0
    replace h := h y1 hy1
    refine norm_has hH ?_
    clear hH
    refine th_n ?_
    refine wpE_via (fun ρ wJ => ∃ b2'0 : Bool, ∃ HJ : Nat → Prop, (y1 = b2'0) ∧ Hst w0 H w2 HJ wJ ∧ HB HJ wJ [(p1, [(vi aE), (vi aG), (vi aH), (vu aI), (vs aJ), aD.v], 46)] ∧ Has ρ [(1, (vi deep1)), (2, (vp seen1)), (3, (vp (some p1))), (7, (vi (cond b2'0 53 (s_ref05_shape aE aG aH aI aJ 0 0))))]) ?_ ?_
    ·skip
     refine wpE_cond (t := y1) (by kernel_rfl) (fun hc3 => ?_) (fun hc3 => ?_)
     ·skip
      refine rg (q0 (vi 53) (wpL_nil (th_n ?_)))
      exact ⟨true, _, hc3, hs, hb, Has.mk (by kernel_rfl)⟩
     ·skip
      refine wpE_skip (th_n ?_)
      exact ⟨false, _, hc3, hs, hb, Has.mk (by kernel_rfl)⟩
    ·clear hs hb
     rintro ρ w10 ⟨b2'0, H3, he0, hs, hb, hH⟩
     subst he0
     refine norm_has hH ?_
     clear hH
     refine th_n (wpE_seq (wpE_seq (rg (q0 (vi 0) (wpL_nil (th_n (wpE_block ?_)))))))
     replace h := h H3 w10 hs
     replace hs := hs.here
     obtain ⟨I1, mu1, h0, hr⟩ := h
     refine wpE_loop (σ := Int × Int × (Nat → Prop) × World) (fun s ρ w => w = s.2.2.2 ∧ Has ρ [(1, (vi deep1)), (2, (vp seen1)), (3, (vp (some p1))), (7, (vi s.1)), (8, (vi s.2.1))] ∧ Hst w0 s.2.2.1 w s.2.2.1 w ∧ HB s.2.2.1 w [(p1, [(vi aE), (vi aG), (vi aH), (vu aI), (vs aJ), aD.v], 46)] ∧ I1 s.1 s.2.1 s.2.2.1 s.2.2.2) (fun s => mu1 s.1 s.2.1 s.2.2.2) ((cond y1 53 (s_ref05_shape aE aG aH aI aJ 0 0)), 0, H3, w10) ⟨rfl, Has.mk (by kernel_rfl), hs, hb, h0⟩ ?_
     clear hs hb
     rintro ⟨e1, i1, Hl1, wl1⟩ ρ w ⟨hw, hH, hs, hb, hI⟩
     obtain rfl : wl1 = w := (show w = wl1 from hw).symm
     replace hH : Has ρ [(1, (vi deep1)), (2, (vp seen1)), (3, (vp (some p1))), (7, (vi e1)), (8, (vi i1))] := hH
     replace hs : Hst w0 Hl1 wl1 Hl1 wl1 := hs
     replace hb : HB Hl1 wl1 [(p1, [(vi aE), (vi aG), (vi aH), (vu aI), (vs aJ), aD.v], 46)] := hb
     have h := hr e1 i1 Hl1 wl1 hs hI
     clear hr h0
     unfold m_ref05_looked_l2 at h
     refine wpE_has hH ?_
     clear hH hI
     refine wpE_seq (wpE_seq ?_)
     refine wpE_via (fun ρ wJ => ∃ b3'0 : Bool, ∃ HJ : Nat → Prop, ((e1 == 0) = b3'0) ∧ Hst w0 Hl1 wl1 HJ wJ ∧ HB HJ wJ [(p1, [(vi aE), (vi aG), (vi aH), (vu aI), (vs aJ), aD.v], 46)] ∧ Has ρ [(1, (vi deep1)), (2, (vp seen1)), (3, (vp (some p1))), (7, (vi e1)), (8, (vi i1)), (45, (vb (b3'0 && (decide (i1 < (aD.len : Int))))))]) ?_ ?_
     ·skip
      refine rg (q0 (vi e1) (q0 (vb (e1 == 0)) (q0 (vb (e1 == 0)) ?_)))
      rcases Bool.eq_false_or_eq_true (e1 == 0) with hg4 | hg4
      ·skip
       refine q1 (vi i1) (want1 rfl (yD 39 hg4)) (q1 (vp (some (p1.add 5))) (want1 rfl (yD 39 hg4)) (stp (v := aD.v) (want1 rfl (yD 39 hg4)) (xl (Try.isAgg22 _) (hb.c 0 5 gZ)) (q1 (vi (aD.len : Int)) (want1 rfl (yD 39 hg4)) (q1 (vb (decide (i1 < (aD.len : Int)))) (want1 rfl (yD 39 hg4)) (q2 (vb (decide (i1 < (aD.len : Int)))) (xT hg4) (wpL_nil (th_n ?_)))))))
       exact ⟨true, _, hg4, hs, hb, Has.mk (by kernel_rfl)⟩
      ·skip
       refine sk (yD 39 hg4) (sk (yD 39 hg4) (sk (yD 39 hg4) (sk (yD 39 hg4) (sk (yD 39 hg4) (q2 (vb false) (xF hg4) (wpL_nil (th_n ?_)))))))
       exact ⟨false, _, hg4, hs, hb, Has.mk (by kernel_rfl)⟩
     ·clear hs hb
      rintro ρ w11 ⟨b3'0, H4, he0, hs, hb, hH⟩
      subst he0
      refine norm_has hH ?_
      clear hH
      refine th_n ?_
      refine wpE_cond (t := ((e1 == 0) && (decide (i1 < (aD.len : Int))))) (by kernel_rfl) (fun hc4 => ?_) (fun hc4 => ?_)
      ·replace h := h.1 hc4
       refine wpE_skip (th_n (wpE_seq (wpE_block (rg (q0 (vp (some (p1.add 5))) (q2 aD.v (xl (Try.isAgg22 _) (hb.c 0 5 gZ)) (q0 (vi i1) ?_)))))))
       obtain ⟨a3, hv2, h⟩ := h
       refine q2 (vp (some a3)) (x_indexAddr (s := aD) (k := .i64) (i := i1) (by kernel_rfl) (by kernel_rfl) (Try.runUnderlying22 _) (Try.sizeOf46 _) hv2) ?_
       replace h := h H4 w11 hs
       replace hs := hs.here
       obtain ⟨aN, aO, aP, aQ, aR, aX, hv1, h⟩ := h
       refine q2 (.agg #[(vi aN), (vi aO), (vi aP), (vu aQ), (vs aR), aX.v]) (x_loadA (a := a3) (vs := [(vi aN), (vi aO), (vi aP), (vu aQ), (vs aR), aX.v]) (by kernel_rfl) (Try.isAgg46 _) (Try.sizeOf46 _) rfl hv1) (q0 (vi deep1) (q0 (vi (IntKind.i64.wrap (deep1 + 1))) (q0 (vp seen1) ?_)))
       refine st_call (want0 rfl) (xc Try.call135) (h.mono ?_)
       rintro e w12 ⟨r1, rfl, hk, h⟩
       refine ⟨_, rfl, ?_⟩
       obtain ⟨hs, hb⟩ := hk.hh hs hb
       refine q0 (vi r1) (wpL_nil (bl_n (th_n (rg (q0 (vi i1) (q0 (vi (IntKind.i64.wrap (i1 + 1))) (q0 (vi (IntKind.i64.wrap (i1 + 1))) (wpL_nil (th_n ?_)))))))))
       exact ⟨(r1, (IntKind.i64.wrap (i1 + 1)), H4, w12), ⟨rfl, Has.mk (by kernel_rfl), hs, hb, h.1⟩, h.2⟩
      ·replace h := h.2 hc4
       refine wpE_exit (th_x (th_x (bl_eq (th_n (wpE_seq (rg (q0 (vi e1) (q0 (vi e1) (wpL_nil (th_n (wpE_ret ?_)))))))))))
       replace h := h H4 w11 hs
       replace hs := hs.here
       refine res1 (.inl rfl) Try.results135 (v := (vi e1)) (by kernel_rfl) ?_
       exact ⟨e1, rfl, h⟩
 ·skip
  refine rg (q0 (vp seen1) ?_)
  obtain ⟨a4, hp4, h⟩ := h
  refine q2 (vp (some a4)) (x_nilCheck (p := seen1) (by kernel_rfl) hp4) ?_
  replace h := h H1 w1 hs
  replace hs := hs.here
  obtain ⟨v2, hv4, h⟩ := h
  refine q2 (vi v2) (xl (Try.isAgg3 _) hv4) (q0 (vb (decide (v2 ≥ 4096))) (q0 (vb (decide (v2 ≥ 4096))) ?_))
  refine wpL_join 3 (fun ρ wJ => ∃ b4'0 : Bool, ∃ HJ : Nat → Prop, ((decide (v2 ≥ 4096)) = b4'0) ∧ Hst w0 H1 w1 HJ wJ ∧ HB HJ wJ [(p1, [(vi aE), (vi aG), (vi aH), (vu aI), (vs aJ), aD.v], 46)] ∧ Has ρ [(1, (vi deep1)), (2, (vp seen1)), (3, (vp (some p1))), (16, (vb (b4'0 || (decide (deep1 ≥ 64)))))]) ?_ ?_
  ·clear hs hb
   rintro ρ w13 ⟨b4'0, H5, he0, hs, hb, hH⟩
   subst he0
   refine wpL_has hH ?_
   clear hH
   refine wpL_nil ?_
   replace h := h H5 w13 hs
   replace hs := hs.here
   refine th_n ?_
   exact ⟨((decide (v2 ≥ 4096)) || (decide (deep1 ≥ 64))), H5, Has.mk (by kernel_rfl), hs, hb, h⟩
  ·skip
   rcases Bool.eq_false_or_eq_true (decide (v2 ≥ 4096)) with hg6 | hg6
   ·skip
    refine sk (yD 13 hg6) (sk (yD 13 hg6) (q2 (vb true) (xT hg6) (wpL_nil ?_)))
    exact ⟨true, _, hg6, hs, hb, Has.mk (by kernel_rfl)⟩
   ·skip
    refine q1 (vi deep1) (want1 rfl (yD 13 hg6)) (q1 (vb (decide (deep1 ≥ 64))) (want1 rfl (yD 13 hg6)) (q2 (vb (decide (deep1 ≥ 64))) (xF hg6) (wpL_nil ?_)))
    exact ⟨false, _, hg6, hs, hb, Has.mk (by kernel_rfl)⟩
def m_ref05_Looks (aE aG : Int) (aH aI : Int) (aJ : ByteArray) (aD : Sl) (w0 : World) (K : Int → World → Prop) : Prop :=
 ∀ (H1 : Nat → Prop) (w1 : World), Hst w0 None w0 H1 w1 →
 ∀ (p2 : Addr) (w2 : World), New w1 (.cells #[(vi 0)] 3) p2 w2 →
 CanW w2 p2 ∧ ¬ H1 p2.block ∧ ∀ w3 : World, w3 = w2.setCell p2 (vi 0) →
 Calls Try.prog 135 #[(.agg #[(vi aE), (vi aG), (vi aH), (vu aI), (vs aJ), aD.v]), (vi 0), (vp (some p2))] w3 (fun e w4 => ∃ r1 : Int, e = .returned (vi r1) ∧ 
  Kept H1 w3 w4 ∧
  K r1 w4)
theorem w_ref05_Looks (aE aG : Int) (aH aI : Int) (aJ : ByteArray) (aD : Sl) (w0 : World) (K : Int → World → Prop) (h : m_ref05_Looks aE aG aH aI aJ aD w0 K) :
  Calls Try.prog 111 #[(.agg #[(vi aE), (vi aG), (vi aH), (vu aI), (vs aJ), aD.v])] w0 (fun e w' => ∃ r2 : Int, e = .returned (vi r2) ∧ K r2 w') := by
 unfold m_ref05_Looks at h
 refine calls_of_wpE (args := [(.agg #[(vi aE), (vi aG), (vi aH), (vu aI), (vs aJ), aD.v])]) Try.func111 rfl Try.ntmps111 (Nat.le_of_ble_eq_true rfl) ?_
 have hs := Hst.start w0
 have hb := HB.nil None w0
 refine wpE_seq (rg (sn (O := (.cells #[(vi aE), (vi aG), (vi aH), (vu aI), (vs aJ), aD.v] 46)) xb ?_))
 intro p1 w1 hn1
 obtain ⟨H1, hs, hb⟩ := hs.alloc hb hn1
 refine q0 (vi 0) (wpL_nil (th_n (wpE_seq (rg ?_))))
 replace h := h H1 w1 hs
 replace hs := hs.here
 refine sn (O := (.cells #[(vi 0)] 3)) (x_alloc (Try.zeroValue3 _) rfl) ?_
 intro p2 w2 hn3
 replace h := h p2 w2 hn3
 replace hs := hs.again (Ext.new (F := None) hn3).keptP
 replace hb := hb.kept (Ext.new (F := None) hn3).keptP
 obtain ⟨hp1, hnh, h⟩ := h
 refine st_set (want0 rfl) (x_store (a := p2) (v := (vi 0)) (by kernel_rfl) (by kernel_rfl) rfl (Try.sizeOf3 _) hp1) ?_
 intro w3 hn2
 replace h := h w3 hn2
 have hk : Kept H1 w2 w3 := by rw [hn2]; exact Kept.setCell hnh
 replace hs := hs.again hk
 replace hb := hb.kept hk
 clear hk hnh
 refine wpL_nil (th_n (wpE_seq (rg (q2 (.agg #[(vi aE), (vi aG), (vi aH), (vu aI), (vs aJ), aD.v]) (x_loadA (a := p1) (vs := [(vi aE), (vi aG), (vi aH), (vu aI), (vs aJ), aD.v]) (by kernel_rfl) (Try.isAgg46 _) (Try.sizeOf46 _) rfl (hb.row0 0 6 gZ (by kernel_rfl))) ?_))))
 refine st_call (want0 rfl) (xc Try.call135) (h.mono ?_)
 rintro e w4 ⟨r1, rfl, hk, h⟩
 refine ⟨_, rfl, ?_⟩
 obtain ⟨hs, hb⟩ := hk.hh hs hb
 refine q0 (vi r1) (wpL_nil (th_n (wpE_ret (res1 (.inl rfl) Try.results111 (v := (vi r1)) (by kernel_rfl) ?_))))
 exact ⟨r1, rfl, h⟩
def m_ref05_Pool_Size (p1 : Option Addr) (t1 : Int) (w0 : World) (K : Int → World → Prop) : Prop :=
 Calls Try.prog 30 #[(vp p1), (vi t1)] w0 (fun e w1 => ∃ r1 : Bool, e = .returned (vb r1) ∧ 
  Br (!r1)
   (K 0 w1)
   (∃ a1 : Addr, p1 = some a1 ∧
   ∃ v1 : Sl, w1.cell? (a1.add 1) = some v1.v ∧
   ∃ a2 : Addr, At v1 (IntKind.i64.wrap (t1 - 1)) 1 a2 ∧
   ∃ v2 : Int, w1.cell? a2 = some (vi v2) ∧
   K v2 w1))
theorem w_ref05_Pool_Size (p1 : Option Addr) (t1 : Int) (w0 : World) (K : Int → World → Prop) (h : m_ref05_Pool_Size p1 t1 w0 K) :
  Calls Try.prog 194 #[(vp p1), (vi t1)] w0 (fun e w' => ∃ r2 : Int, e = .returned (vi r2) ∧ K r2 w') := by
 unfold m_ref05_Pool_Size at h
 refine calls_of_wpE (args := [(vp p1), (vi t1)]) Try.func194 rfl Try.ntmps194 (Nat.le_of_ble_eq_true rfl) (wpE_seq (rg (q0 (vi 0) (wpL_nil (th_n (wpE_seq (wpE_seq (rg (q0 (vp p1) (q0 (vi t1) ?_))))))))))
 refine st_call (want0 rfl) (xc Try.call30) (h.mono ?_)
 rintro e w1 ⟨r1, rfl, h⟩
 refine ⟨_, rfl, ?_⟩
 refine q0 (vb (!r1)) (wpL_nil (th_n ?_))
 refine wpE_cond (t := (!r1)) (by kernel_rfl) (fun hc1 => ?_) (fun hc1 => ?_)
 ·replace h := h.1 hc1
  refine wpE_seq (rg (q0 (vi 0) (wpL_nil (th_n (wpE_ret (th_r (res1 (.inl rfl) Try.results194 (v := (vi 0)) (by kernel_rfl) ?_)))))))
  exact ⟨0, rfl, h⟩
 ·replace h := h.2 hc1
  refine wpE_skip (th_n (wpE_seq (rg (q0 (vp p1) ?_))))
  obtain ⟨a1, hp1, h⟩ := h
  refine q2 (vp (some a1)) (x_nilCheck (p := p1) (by kernel_rfl) hp1) (q0 (vp (some (a1.add 1))) ?_)
  obtain ⟨v1, hv3, h⟩ := h
  refine q2 v1.v (xl (Try.isAgg66 _) hv3) (q0 (vi t1) (q0 (vi (IntKind.i64.wrap (t1 - 1))) ?_))
  obtain ⟨a2, hv2, h⟩ := h
  refine q2 (vp (some a2)) (x_indexAddr (s := v1) (k := .i64) (i := (IntKind.i64.wrap (t1 - 1))) (by kernel_rfl) (by kernel_rfl) (Try.runUnderlying66 _) (Try.sizeOf3 _) hv2) ?_
  obtain ⟨v2, hv1, h⟩ := h
  refine q2 (vi v2) (xl (Try.isAgg3 _) hv1) (q0 (vi v2) (wpL_nil (th_n (wpE_ret (res1 (.inl rfl) Try.results194 (v := (vi v2)) (by kernel_rfl) ?_)))))
  exact ⟨v2, rfl, h⟩
def m_ref05_Pool_Depth (p1 : Option Addr) (t1 : Int) (w0 : World) (K : Int → World → Prop) : Prop :=
 Calls Try.prog 30 #[(vp p1), (vi t1)] w0 (fun e w1 => ∃ r1 : Bool, e = .returned (vb r1) ∧ 
  Br (!r1)
   (K 0 w1)
   (∃ a1 : Addr, p1 = some a1 ∧
   ∃ v1 : Sl, w1.cell? (a1.add 2) = some v1.v ∧
   ∃ a2 : Addr, At v1 (IntKind.i64.wrap (t1 - 1)) 1 a2 ∧
   ∃ v2 : Int, w1.cell? a2 = some (vi v2) ∧
   K v2 w1))
theorem w_ref05_Pool_Depth (p1 : Option Addr) (t1 : Int) (w0 : World) (K : Int → World → Prop) (h : m_ref05_Pool_Depth p1 t1 w0 K) :
  Calls Try.prog 195 #[(vp p1), (vi t1)] w0 (fun e w' => ∃ r2 : Int, e = .returned (vi r2) ∧ K r2 w') := by
 unfold m_ref05_Pool_Depth at h
 refine calls_of_wpE (args := [(vp p1), (vi t1)]) Try.func195 rfl Try.ntmps195 (Nat.le_of_ble_eq_true rfl) (wpE_seq (rg (q0 (vi 0) (wpL_nil (th_n (wpE_seq (wpE_seq (rg (q0 (vp p1) (q0 (vi t1) ?_))))))))))
 refine st_call (want0 rfl) (xc Try.call30) (h.mono ?_)
 rintro e w1 ⟨r1, rfl, h⟩
 refine ⟨_, rfl, ?_⟩
 refine q0 (vb (!r1)) (wpL_nil (th_n ?_))
 refine wpE_cond (t := (!r1)) (by kernel_rfl) (fun hc1 => ?_) (fun hc1 => ?_)
 ·replace h := h.1 hc1
  refine wpE_seq (rg (q0 (vi 0) (wpL_nil (th_n (wpE_ret (th_r (res1 (.inl rfl) Try.results195 (v := (vi 0)) (by kernel_rfl) ?_)))))))
  exact ⟨0, rfl, h⟩
 ·replace h := h.2 hc1
  refine wpE_skip (th_n (wpE_seq (rg (q0 (vp p1) ?_))))
  obtain ⟨a1, hp1, h⟩ := h
  refine q2 (vp (some a1)) (x_nilCheck (p := p1) (by kernel_rfl) hp1) (q0 (vp (some (a1.add 2))) ?_)
  obtain ⟨v1, hv3, h⟩ := h
  refine q2 v1.v (xl (Try.isAgg66 _) hv3) (q0 (vi t1) (q0 (vi (IntKind.i64.wrap (t1 - 1))) ?_))
  obtain ⟨a2, hv2, h⟩ := h
  refine q2 (vp (some a2)) (x_indexAddr (s := v1) (k := .i64) (i := (IntKind.i64.wrap (t1 - 1))) (by kernel_rfl) (by kernel_rfl) (Try.runUnderlying66 _) (Try.sizeOf3 _) hv2) ?_
  obtain ⟨v2, hv1, h⟩ := h
  refine q2 (vi v2) (xl (Try.isAgg3 _) hv1) (q0 (vi v2) (wpL_nil (th_n (wpE_ret (res1 (.inl rfl) Try.results195 (v := (vi v2)) (by kernel_rfl) ?_)))))
  exact ⟨v2, rfl, h⟩
theorem eqt_ref05_Pool_Has_eql_105 (a0 a1 : Int) (a2 a3 : Int) (a4 : ByteArray) (a5 a6 : Int) (b0 b1 : Int) (b2 b3 : Int) (b4 : ByteArray) (b5 b6 : Int) (w : World) : (Go.binOp .eql 105 (.agg #[(.int .i64 a0), (.int .i64 a1), (.int .i64 a2), (.int .u64 a3), (.string a4), (.int .i64 a5), (.int .i64 a6)]) (.agg #[(.int .i64 b0), (.int .i64 b1), (.int .i64 b2), (.int .u64 b3), (.string b4), (.int .i64 b5), (.int .i64 b6)])).run Try.prog w = .ok (.bool ((a0 == b0) && ((a1 == b1) && ((a2 == b2) && ((a3 == b3) && ((decide (a4 = b4)) && ((a5 == b5) && (a6 == b6)))))))) w := by
 simp [Go.binOp, Op.equal, Op.maxDepth, go_sem, streq, bne]
 repeat' split
 all_goals simp_all
def m_ref05_Pool_Has_l1 (p1 : Option Addr) (aA aB : Int) (aC aK : Int) (aF : ByteArray) (aL aM i1 : Int) (w0 : World) (Hl1 : Nat → Prop) (wl1 : World) (Kc1 : Int → (Nat → Prop) → World → Prop) (K : Int → Bool → World → Prop) : Prop :=
 ∃ a1 : Addr, p1 = some a1 ∧
 ∃ v1 : Sl, wl1.cell? a1 = some v1.v ∧
 Br (decide (i1 < (v1.len : Int)))
  (∃ a2 : Addr, p1 = some a2 ∧
  ∀ (w2 : World), Hst w0 Hl1 wl1 Hl1 w2 →
  ∃ v2 : Sl, w2.cell? a2 = some v2.v ∧
  ∃ a3 : Addr, At v2 i1 7 a3 ∧
  ∃ aN aO : Int, ∃ aP aQ : Int, ∃ aR : ByteArray, ∃ bL bM : Int, Row w2 a3 [(vi aN), (vi aO), (vi aP), (vu aQ), (vs aR), (vi bL), (vi bM)] ∧
  Br ((aN == aA) && ((aO == aB) && ((aP == aC) && ((aQ == aK) && ((decide (aR = aF)) && ((bL == aL) && (bM == aM)))))))
   (K (IntKind.i64.wrap (i1 + 1)) true w2)
   (Kc1 (IntKind.i64.wrap (i1 + 1)) Hl1 w2))
  (K 0 false wl1)
def m_ref05_Pool_Has (p1 : Option Addr) (aA aB : Int) (aC aK : Int) (aF : ByteArray) (aL aM : Int) (w0 : World) (K : Int → Bool → World → Prop) : Prop :=
 ∀ (H1 : Nat → Prop) (w1 : World), Hst w0 None w0 H1 w1 →
 ∃ (I1 : Int → (Nat → Prop) → World → Prop) (mu1 : Int → World → Nat), I1 0 H1 w1 ∧
  ∀ (i1 : Int) (Hl1 : Nat → Prop) (wl1 : World), Hst w0 Hl1 wl1 Hl1 wl1 → I1 i1 Hl1 wl1 → m_ref05_Pool_Has_l1 p1 aA aB aC aK aF aL aM i1 w0 Hl1 wl1 (fun y'0 H' w' => I1 y'0 H' w' ∧ mu1 y'0 w' < mu1 i1 wl1) K
theorem w_ref05_Pool_Has (p1 : Option Addr) (aA aB : Int) (aC aK : Int) (aF : ByteArray) (aL aM : Int) (w0 : World) (K : Int → Bool → World → Prop) (h : m_ref05_Pool_Has p1 aA aB aC aK aF aL aM w0 K) :
  Calls Try.prog 196 #[(vp p1), (.agg #[(vi aA), (vi aB), (vi aC), (vu aK), (vs aF), (vi aL), (vi aM)])] w0 (fun e w' => ∃ r1 : Int, ∃ r2 : Bool, e = .returned (.tuple #[(vi r1), (vb r2)]) ∧ K r1 r2 w') := by
 unfold m_ref05_Pool_Has at h
 refine calls_of_wpE (args := [(vp p1), (.agg #[(vi aA), (vi aB), (vi aC), (vu aK), (vs aF), (vi aL), (vi aM)])]) Try.func196 rfl Try.ntmps196 (Nat.le_of_ble_eq_true rfl) ?_
 have hs := Hst.start w0
 have hb := HB.nil None w0
 refine wpE_seq (rg (sn (O := (.cells #[(vi aA), (vi aB), (vi aC), (vu aK), (vs aF), (vi aL), (vi aM)] 105)) xb ?_))
 intro p2 w1 hn1
 obtain ⟨H1, hs, hb⟩ := hs.alloc hb hn1
 refine q0 (vi 0) (q0 (vb false) (wpL_nil (th_n (wpE_seq (wpE_seq (rg (q0 (vi 0) (wpL_nil (th_n (wpE_block ?_))))))))))
 replace h := h H1 w1 hs
 replace hs := hs.here
 obtain ⟨I1, mu1, h0, hr⟩ := h
 refine wpE_loop (σ := Int × (Nat → Prop) × World) (fun s ρ w => w = s.2.2 ∧ Has ρ [(0, (vp p1)), (3, (vp (some p2))), (6, (vi s.1))] ∧ Hst w0 s.2.1 w s.2.1 w ∧ HB s.2.1 w [(p2, [(vi aA), (vi aB), (vi aC), (vu aK), (vs aF), (vi aL), (vi aM)], 105)] ∧ I1 s.1 s.2.1 s.2.2) (fun s => mu1 s.1 s.2.2) (0, H1, w1) ⟨rfl, Has.mk (by kernel_rfl), hs, hb, h0⟩ ?_
 clear hs hb
 rintro ⟨i1, Hl1, wl1⟩ ρ w ⟨hw, hH, hs, hb, hI⟩
 obtain rfl : wl1 = w := (show w = wl1 from hw).symm
 replace hH : Has ρ [(0, (vp p1)), (3, (vp (some p2))), (6, (vi i1))] := hH
 replace hs : Hst w0 Hl1 wl1 Hl1 wl1 := hs
 replace hb : HB Hl1 wl1 [(p2, [(vi aA), (vi aB), (vi aC), (vu aK), (vs aF), (vi aL), (vi aM)], 105)] := hb
 have h := hr i1 Hl1 wl1 hs hI
 clear hr h0
 unfold m_ref05_Pool_Has_l1 at h
 refine wpE_has hH ?_
 clear hH hI
 refine wpE_seq (wpE_seq (rg (q0 (vi i1) (q0 (vp p1) ?_))))
 obtain ⟨a1, hp1, h⟩ := h
 refine q2 (vp (some a1)) (x_nilCheck (p := p1) (by kernel_rfl) hp1) (q0 (vp (some a1)) ?_)
 obtain ⟨v1, hv4, h⟩ := h
 refine q2 v1.v (xl (Try.isAgg65 _) hv4) (q0 (vi (v1.len : Int)) (q0 (vb (decide (i1 < (v1.len : Int)))) (wpL_nil (th_n ?_))))
 refine wpE_cond (t := (decide (i1 < (v1.len : Int)))) (by kernel_rfl) (fun hc1 => ?_) (fun hc1 => ?_)
 ·replace h := h.1 hc1
  refine wpE_skip (th_n (wpE_seq (wpE_block (wpE_seq (wpE_drawnQ (by kernel_rfl) (by kernel_rfl) (by kernel_rfl) (by kernel_rfl) ?_)))))
  intro w2 hw2
  replace hs : Hst w0 Hl1 wl1 Hl1 w2 := by rw [hw2]; exact hs.drew
  replace hb : HB Hl1 w2 [(p2, [(vi aA), (vi aB), (vi aC), (vu aK), (vs aF), (vi aL), (vi aM)], 105)] := by rw [hw2]; exact hb.drew
  clear hw2
  refine qq 0 (vp p1) Kp0 (qgo (k := 1) (by kernel_rfl) ?_)
  obtain ⟨a2, hp2, h⟩ := h
  refine sxQ (v := (vp (some a2))) Kp1 (want0 rfl) rfl (x_nilCheck (p := p1) (by kernel_rfl) hp2) (qq 2 (vp (some a2)) Kp2 (qgo (k := 3) (by kernel_rfl) ?_))
  replace h := h w2 hs
  replace hs := hs.here
  obtain ⟨v2, hv3, h⟩ := h
  refine sxQ (v := v2.v) Kp3 (want0 rfl) rfl (xl (Try.isAgg65 _) hv3) (qq 4 (vi i1) Kp4 (qgo (k := 5) (by kernel_rfl) ?_))
  obtain ⟨a3, hv2, h⟩ := h
  refine sxQ (v := (vp (some a3))) Kp5 (want0 rfl) rfl (x_indexAddr (s := v2) (k := .i64) (i := i1) (by kernel_rfl) (by kernel_rfl) (Try.runUnderlying65 _) (Try.sizeOf105 _) hv2) (qgo (k := 6) (by kernel_rfl) ?_)
  obtain ⟨aN, aO, aP, aQ, aR, bL, bM, hv1, h⟩ := h
  refine sxQ (v := (.agg #[(vi aN), (vi aO), (vi aP), (vu aQ), (vs aR), (vi bL), (vi bM)])) Kp6 (want0 rfl) rfl (x_loadA (a := a3) (vs := [(vi aN), (vi aO), (vi aP), (vu aQ), (vs aR), (vi bL), (vi bM)]) (by kernel_rfl) (Try.isAgg105 _) (Try.sizeOf105 _) rfl hv1) (qr 7 (.agg #[(vi aA), (vi aB), (vi aC), (vu aK), (vs aF), (vi aL), (vi aM)]) Kp7 (x_loadA (a := p2) (vs := [(vi aA), (vi aB), (vi aC), (vu aK), (vs aF), (vi aL), (vi aM)]) (by kernel_rfl) (Try.isAgg105 _) (Try.sizeOf105 _) rfl (hb.row0 0 7 gZ (by kernel_rfl))) (qr 8 (vb ((aN == aA) && ((aO == aB) && ((aP == aC) && ((aQ == aK) && ((decide (aR = aF)) && ((bL == aL) && (bM == aM)))))))) Kp8 (x_aggeq (by kernel_rfl) (by kernel_rfl) (by kernel_rfl) (eqt_ref05_Pool_Has_eql_105 aN aO aP aQ aR bL bM aA aB aC aK aF aL aM _)) (wpX_nil (by kernel_rfl) (th_n ?_))))
  refine wpE_cond (t := ((aN == aA) && ((aO == aB) && ((aP == aC) && ((aQ == aK) && ((decide (aR = aF)) && ((bL == aL) && (bM == aM)))))))) (by kernel_rfl) (fun hc2 => ?_) (fun hc2 => ?_)
  ·replace h := h.1 hc2
   refine wpE_seq (rg (q0 (vi i1) (q0 (vi (IntKind.i64.wrap (i1 + 1))) (q0 (vi (IntKind.i64.wrap (i1 + 1))) (q0 (vb true) (wpL_nil (th_n (wpE_ret (bl_r (th_r (th_r ?_)))))))))))
   refine bl_r (th_r (res2 (.inl rfl) Try.results196 (v := (vi (IntKind.i64.wrap (i1 + 1)))) (by kernel_rfl) (v' := (vb true)) (by kernel_rfl) ?_))
   exact ⟨(IntKind.i64.wrap (i1 + 1)), true, rfl, h⟩
  ·replace h := h.2 hc2
   refine wpE_skip (bl_n (th_n (rg (q0 (vi i1) (q0 (vi (IntKind.i64.wrap (i1 + 1))) (q0 (vi (IntKind.i64.wrap (i1 + 1))) (wpL_nil (th_n ?_))))))))
   exact ⟨((IntKind.i64.wrap (i1 + 1)), Hl1, w2), ⟨rfl, Has.mk (by kernel_rfl), hs, hb, h.1⟩, h.2⟩
 ·replace h := h.2 hc1
  refine wpE_exit (th_x (th_x (bl_eq (th_n (wpE_seq (rg (q0 (vi 0) (q0 (vb false) (wpL_nil (th_n (wpE_ret ?_)))))))))))
  refine res2 (.inl rfl) Try.results196 (v := (vi 0)) (by kernel_rfl) (v' := (vb false)) (by kernel_rfl) ?_
  exact ⟨0, false, rfl, h⟩
def m_ref05_Pool_Make_j1 (p1 : Option Addr) (aA aB : Int) (aC aK : Int) (aF : ByteArray) (aL aM : Int) (x1 : Bool) (w0 : World) (H : Nat → Prop) (w : World) (K : Int → Int → World → Prop) : Prop :=
 Br x1
  (K 0 51 w)
  (∃ C1 : World → Prop, C1 w.drew ∧ ∀ w4, w4 = w.drew →
  Calls Try.prog 194 #[(vp p1), (vi aL)] w4 (fun e w5 => ∃ r1 : Int, e = .returned (vi r1) ∧ C1 w5 ∧ 
   Kept H w4 w5 ∧
   Calls Try.prog 194 #[(vp p1), (vi aM)] w5 (fun e w6 => ∃ r2 : Int, e = .returned (vi r2) ∧ C1 w6 ∧ 
    Kept H w5 w6 ∧
    ∃ C2 : World → Prop, C2 w6.drew ∧ ∀ w7, w7 = w6.drew →
    Calls Try.prog 195 #[(vp p1), (vi aL)] w7 (fun e w8 => ∃ r3 : Int, e = .returned (vi r3) ∧ C2 w8 ∧ 
     Kept H w7 w8 ∧
     Calls Try.prog 195 #[(vp p1), (vi aM)] w8 (fun e w9 => ∃ r4 : Int, e = .returned (vi r4) ∧ C2 w9 ∧ 
      Kept H w8 w9 ∧
      ∃ z1 : Int, (∀ w', C2 w' → (Builtin.max_ #[3, 3] 3 #[(vi r3), (vi r4)]).run Try.prog w' = .ok (vi z1) w') ∧
      ∀ y1 : Bool, y1 = ((decide ((IntKind.i64.wrap ((IntKind.i64.wrap (1 + r1)) + r2)) > 4096)) || (decide ((IntKind.i64.wrap (1 + z1)) > 64))) →
      Br y1
       (∀ (H2 : Nat → Prop) (w10 : World), Hst w0 H w9 H2 w10 →
       K 0 52 w10)
       (∀ (H2 : Nat → Prop) (w10 : World), Hst w0 H w9 H2 w10 →
       Calls Try.prog 196 #[(vp p1), (.agg #[(vi aA), (vi aB), (vi aC), (vu aK), (vs aF), (vi aL), (vi aM)])] w10 (fun e w11 => ∃ r5 : Int, ∃ r6 : Bool, e = .returned (.tuple #[(vi r5), (vb r6)]) ∧ 
        Kept H2 w10 w11 ∧
        Br r6
         (K r5 0 w11)
         (∃ a1 : Addr, p1 = some a1 ∧
         ∃ v1 : Sl, w11.cell? a1 = some v1.v ∧
         Br (decide ((v1.len : Int) ≥ 65536))
          (K 0 6 w11)
          (∃ C3 : World → Prop, C3 w11.drew ∧ ∀ w12, w12 = w11.drew →
          ∃ a2 : Addr, p1 = some a2 ∧
          ∃ v2 : Sl, (∀ w', C3 w' → w'.cell? a2 = some v2.v) ∧
          ∀ (p3 : Addr) (w13 : World), New w12 (.cells #[(vi aA), (vi aB), (vi aC), (vu aK), (vs aF), (vi aL), (vi aM)] 105) p3 w13 → C3 w13 ∧
          ∃ s1 : Sl, ∃ w14 : World, (Builtin.append_ #[65, 65] 65 #[v2.v, (Sl.mk (some p3) 1 1).v]).run Try.prog w13 = .ok s1.v w14 ∧ C3 w14 ∧
          Kept H2 w13 w14 ∧
          ∃ a3 : Addr, p1 = some a3 ∧
          CanW w14 a3 ∧ ¬ H2 a3.block ∧ ∀ w15 : World, w15 = w14.setCell a3 s1.v →
          ∃ a4 : Addr, p1 = some a4 ∧
          ∃ v3 : Sl, w15.cell? (a4.add 1) = some v3.v ∧
          ∀ (p4 : Addr) (w16 : World), New w15 (.cells #[(vi (IntKind.i64.wrap ((IntKind.i64.wrap (1 + r1)) + r2)))] 3) p4 w16 →
          ∃ s2 : Sl, ∃ w17 : World, (Builtin.append_ #[66, 66] 66 #[v3.v, (Sl.mk (some p4) 1 1).v]).run Try.prog w16 = .ok s2.v w17 ∧
          Kept H2 w16 w17 ∧
          ∃ a5 : Addr, p1 = some a5 ∧
          CanW w17 (a5.add 1) ∧ ¬ H2 (a5.add 1).block ∧ ∀ w18 : World, w18 = w17.setCell (a5.add 1) s2.v →
          ∃ a6 : Addr, p1 = some a6 ∧
          ∃ v4 : Sl, w18.cell? (a6.add 2) = some v4.v ∧
          ∀ (p5 : Addr) (w19 : World), New w18 (.cells #[(vi (IntKind.i64.wrap (1 + z1)))] 3) p5 w19 →
          ∃ s3 : Sl, ∃ w20 : World, (Builtin.append_ #[66, 66] 66 #[v4.v, (Sl.mk (some p5) 1 1).v]).run Try.prog w19 = .ok s3.v w20 ∧
          Kept H2 w19 w20 ∧
          ∃ a7 : Addr, p1 = some a7 ∧
          CanW w20 (a7.add 2) ∧ ¬ H2 (a7.add 2).block ∧ ∀ w21 : World, w21 = w20.setCell (a7.add 2) s3.v →
          ∃ a8 : Addr, p1 = some a8 ∧
          ∃ v5 : Sl, w21.cell? a8 = some v5.v ∧
          K (v5.len : Int) 0 w21)))))))))
def m_ref05_Pool_Make_j2 (p1 : Option Addr) (aA aB : Int) (aC aK : Int) (aF : ByteArray) (aL aM : Int) (x2 : Bool) (w0 : World) (H : Nat → Prop) (w : World) (K : Int → Int → World → Prop) : Prop :=
 Br x2
  (m_ref05_Pool_Make_j1 p1 aA aB aC aK aF aL aM true w0 H w K)
  (Br (((s_ref05_Kids aA) : Int) == 2)
   (Calls Try.prog 30 #[(vp p1), (vi aM)] w (fun e w22 => ∃ r7 : Bool, e = .returned (vb r7) ∧ 
    Kept H w w22 ∧
    m_ref05_Pool_Make_j1 p1 aA aB aC aK aF aL aM (!r7) w0 H w22 K))
   (m_ref05_Pool_Make_j1 p1 aA aB aC aK aF aL aM false w0 H w K))
def m_ref05_Pool_Make (p1 : Option Addr) (aA aB : Int) (aC aK : Int) (aF : ByteArray) (aL aM : Int) (w0 : World) (K : Int → Int → World → Prop) : Prop :=
 Br (((s_ref05_shape aA aB aC aK aF aL aM) : Int) != 0)
  (∀ (H1 : Nat → Prop) (w2 : World), Hst w0 None w0 H1 w2 →
  K 0 (s_ref05_shape aA aB aC aK aF aL aM) w2)
  (Br (decide ((s_ref05_Kids aA) ≥ 1))
   (∀ (H1 : Nat → Prop) (w3 : World), Hst w0 None w0 H1 w3 →
   Calls Try.prog 30 #[(vp p1), (vi aL)] w3 (fun e w23 => ∃ r8 : Bool, e = .returned (vb r8) ∧ 
    Kept H1 w3 w23 ∧
    m_ref05_Pool_Make_j2 p1 aA aB aC aK aF aL aM (!r8) w0 H1 w23 K))
   (∀ (H1 : Nat → Prop) (w3 : World), Hst w0 None w0 H1 w3 →
   m_ref05_Pool_Make_j2 p1 aA aB aC aK aF aL aM false w0 H1 w3 K))
theorem w_ref05_Pool_Make (p1 : Option Addr) (aA aB : Int) (aC aK : Int) (aF : ByteArray) (aL aM : Int) (w0 : World) (K : Int → Int → World → Prop) (h : m_ref05_Pool_Make p1 aA aB aC aK aF aL aM w0 K) :
  Calls Try.prog 137 #[(vp p1), (.agg #[(vi aA), (vi aB), (vi aC), (vu aK), (vs aF), (vi aL), (vi aM)])] w0 (fun e w' => ∃ r9 r10 : Int, e = .returned (.tuple #[(vi r9), (vi r10)]) ∧ K r9 r10 w') := by
 unfold m_ref05_Pool_Make at h
 refine calls_of_wpE (args := [(vp p1), (.agg #[(vi aA), (vi aB), (vi aC), (vu aK), (vs aF), (vi aL), (vi aM)])]) Try.func137 rfl Try.ntmps137 (Nat.le_of_ble_eq_true rfl) ?_
 have hs := Hst.start w0
 have hb := HB.nil None w0
 refine wpE_seq (rg (sn (O := (.cells #[(vi aA), (vi aB), (vi aC), (vu aK), (vs aF), (vi aL), (vi aM)] 105)) xb ?_))
 intro p2 w1 hn1
 obtain ⟨H1, hs, hb⟩ := hs.alloc hb hn1
 refine q0 (vi 0) (q0 (vi 0) (wpL_nil (th_n (wpE_seq (rg (q2 (.agg #[(vi aA), (vi aB), (vi aC), (vu aK), (vs aF), (vi aL), (vi aM)]) (x_loadA (a := p2) (vs := [(vi aA), (vi aB), (vi aC), (vu aK), (vs aF), (vi aL), (vi aM)]) (by kernel_rfl) (Try.isAgg105 _) (Try.sizeOf105 _) rfl (hb.row0 0 7 gZ (by kernel_rfl))) ?_))))))
 refine st_call (want0 rfl) (xc Try.call193) ((p_ref05_shape aA aB aC aK aF aL aM w1).mono ?_)
 rintro e w2 ⟨he, hE⟩
 refine ⟨(vi (s_ref05_shape aA aB aC aK aF aL aM)), he.trans (by kernel_rfl), ?_⟩
 replace hs := hs.pure hE
 replace hb := hb.pure hE
 clear hE he
 refine q0 (vi (s_ref05_shape aA aB aC aK aF aL aM)) (wpL_nil (th_n (wpE_seq (wpE_seq (rg (q0 (vi (s_ref05_shape aA aB aC aK aF aL aM)) (q0 (vb (((s_ref05_shape aA aB aC aK aF aL aM) : Int) != 0)) (wpL_nil (th_n ?_)))))))))
 refine wpE_cond (t := (((s_ref05_shape aA aB aC aK aF aL aM) : Int) != 0)) (by kernel_rfl) (fun hc1 => ?_) (fun hc1 => ?_)
 ·replace h := h.1 hc1
  refine wpE_seq (rg (q0 (vi (s_ref05_shape aA aB aC aK aF aL aM)) (q0 (vi 0) (q0 (vi (s_ref05_shape aA aB aC aK aF aL aM)) (wpL_nil (th_n (wpE_ret (th_r ?_))))))))
  replace h := h H1 w2 hs
  replace hs := hs.here
  refine res2 (.inl rfl) Try.results137 (v := (vi 0)) (by kernel_rfl) (v' := (vi (s_ref05_shape aA aB aC aK aF aL aM))) (by kernel_rfl) ?_
  exact ⟨0, (s_ref05_shape aA aB aC aK aF aL aM), rfl, h⟩
 ·replace h := h.2 hc1
  refine wpE_skip (th_n (wpE_seq (rg (q0 (vp (some p2)) (q2 (vi aA) (xl (Try.isAgg3 _) (hb.c0 0 gZ)) ?_)))))
  refine st_call (want0 rfl) (xc Try.call80) ((p_ref05_Kids aA w2).mono ?_)
  rintro e w3 ⟨he, hE⟩
  refine ⟨(vi (s_ref05_Kids aA)), he.trans (by kernel_rfl), ?_⟩
  replace hs := hs.pure hE
  replace hb := hb.pure hE
  clear hE he
  refine q0 (vi (s_ref05_Kids aA)) (wpL_nil (th_n (wpE_seq (wpE_seq ?_))))
  refine wpE_joinT (fun ρ w => ∃ x1 : Bool, ∃ H : Nat → Prop, Has ρ [(0, (vp p1)), (3, (vp (some p2))), (39, (vb x1))] ∧ Hst w0 H w H w ∧ HB H w [(p2, [(vi aA), (vi aB), (vi aC), (vu aK), (vs aF), (vi aL), (vi aM)], 105)] ∧ m_ref05_Pool_Make_j1 p1 aA aB aC aK aF aL aM x1 w0 H w K) ?_ ?_
  ·clear h hs hb
   rintro ρ w ⟨x1, H, hH, hs, hb, h⟩
   unfold m_ref05_Pool_Make_j1 at h
   refine wpE_has hH ?_
   clear hH
   refine wpE_cond (t := x1) (by kernel_rfl) (fun hc2 => ?_) (fun hc2 => ?_)
   ·replace h := h.1 hc2
    refine wpE_seq (rg (q0 (vi 0) (q0 (vi 51) (wpL_nil (th_n (wpE_ret (th_r (res2 (.inl rfl) Try.results137 (v := (vi 0)) (by kernel_rfl) (v' := (vi 51)) (by kernel_rfl) ?_))))))))
    exact ⟨0, 51, rfl, h⟩
   ·replace h := h.2 hc2
    refine wpE_skip (th_n (wpE_seq ?_))
    obtain ⟨C1, hC, h⟩ := h
    refine wpE_drawnC (fun x => C1 x ∧ HB H x [(p2, [(vi aA), (vi aB), (vi aC), (vu aK), (vs aF), (vi aL), (vi aM)], 105)]) [3, 8] [] (by kernel_rfl) (by kernel_rfl) (by kernel_rfl) (by kernel_rfl) ⟨hC, hb.drew⟩ ?_
    clear hC
    intro w4 hw4
    replace h := h w4 hw4
    replace hs : Hst w0 H w H w4 := by rw [hw4]; exact hs.drew
    replace hb : HB H w4 [(p2, [(vi aA), (vi aB), (vi aC), (vu aK), (vs aF), (vi aL), (vi aM)], 105)] := by rw [hw4]; exact hb.drew
    replace hs := hs.here
    refine qx 0 (vp p1) Kp0 (qx 1 (vp (some (p2.add 5))) Kp1 (qz 2 (vi aL) Kp2 (fun w' hw' => (xl (Try.isAgg38 _) (hw'.2.cell 0 5 gZ (by kernel_rfl)))) (qx 5 (vp p1) Kp5 (qx 6 (vp (some (p2.add 6))) Kp6 (qz 7 (vi aM) Kp7 (fun w' hw' => (xl (Try.isAgg38 _) (hw'.2.cell 0 6 gZ (by kernel_rfl)))) (lgo (k := 3) (by kernel_rfl) ?_))))))
    refine sl_call Kp3 (want0 rfl) (by kernel_rfl) (xc Try.call194) (h.mono ?_)
    rintro e w5 ⟨r1, rfl, hC, hk, h⟩
    refine ⟨_, rfl, .inr ⟨hC, hb.kept hk⟩, ?_⟩
    obtain ⟨hs, hb⟩ := hk.hh hs hb
    refine qx 4 (vi (IntKind.i64.wrap (1 + r1))) Kp4 (lgo (k := 8) (by kernel_rfl) ?_)
    refine sl_call Kp8 (want0 rfl) (by kernel_rfl) (xc Try.call194) (h.mono ?_)
    rintro e w6 ⟨r2, rfl, hC, hk, h⟩
    refine ⟨_, rfl, .inr ⟨hC, hb.kept hk⟩, ?_⟩
    obtain ⟨hs, hb⟩ := hk.hh hs hb
    refine qx 9 (vi (IntKind.i64.wrap ((IntKind.i64.wrap (1 + r1)) + r2))) Kp9 (qx 10 (vi (IntKind.i64.wrap ((IntKind.i64.wrap (1 + r1)) + r2))) (pickA (S8 (pickS (pickS pickZ)))) (wpX_nil (by kernel_rfl) (th_n (wpE_seq ?_))))
    obtain ⟨C2, hC, h⟩ := h
    refine wpE_drawnC (fun x => C2 x ∧ HB H x [(p2, [(vi aA), (vi aB), (vi aC), (vu aK), (vs aF), (vi aL), (vi aM)], 105)]) [3, 7] [] (by kernel_rfl) (by kernel_rfl) (by kernel_rfl) (by kernel_rfl) ⟨hC, hb.drew⟩ ?_
    clear hC
    intro w7 hw7
    replace h := h w7 hw7
    replace hs : Hst w0 H w6 H w7 := by rw [hw7]; exact hs.drew
    replace hb : HB H w7 [(p2, [(vi aA), (vi aB), (vi aC), (vu aK), (vs aF), (vi aL), (vi aM)], 105)] := by rw [hw7]; exact hb.drew
    replace hs := hs.here
    refine qx 0 (vp p1) Kp0 (qx 1 (vp (some (p2.add 5))) Kp1 (qz 2 (vi aL) Kp2 (fun w' hw' => (xl (Try.isAgg38 _) (hw'.2.cell 0 5 gZ (by kernel_rfl)))) (qx 4 (vp p1) Kp4 (qx 5 (vp (some (p2.add 6))) Kp5 (qz 6 (vi aM) Kp6 (fun w' hw' => (xl (Try.isAgg38 _) (hw'.2.cell 0 6 gZ (by kernel_rfl)))) (lgo (k := 3) (by kernel_rfl) ?_))))))
    refine sl_call Kp3 (want0 rfl) (by kernel_rfl) (xc Try.call195) (h.mono ?_)
    rintro e w8 ⟨r3, rfl, hC, hk, h⟩
    refine ⟨_, rfl, .inr ⟨hC, hb.kept hk⟩, ?_⟩
    obtain ⟨hs, hb⟩ := hk.hh hs hb
    refine lgo (k := 7) (by kernel_rfl) ?_
    refine sl_call Kp7 (want0 rfl) (by kernel_rfl) (xc Try.call195) (h.mono ?_)
    rintro e w9 ⟨r4, rfl, hC, hk, h⟩
    refine ⟨_, rfl, .inr ⟨hC, hb.kept hk⟩, ?_⟩
    obtain ⟨hs, hb⟩ := hk.hh hs hb
    refine qgo (k := 8) (by kernel_rfl) ?_
    obtain ⟨z1, hv9, h⟩ := h
    refine sx (v := (vi z1)) Kp8 (want0 rfl) (by kernel_rfl) (fun w' hw' => (x_builtin (args := #[(vi r3), (vi r4)]) (by kernel_rfl) (fun _ => rfl) (hv9 w' hw'.1))) (qx 9 (vi (IntKind.i64.wrap (1 + z1))) Kp9 (qx 10 (vi (IntKind.i64.wrap (1 + z1))) (pickA (S8 (pickS (pickS pickZ)))) (wpX_nil (by kernel_rfl) (th_n (wpE_seq (wpE_seq ?_))))))
    refine wpE_via (fun ρ wJ => ∃ b1'0 y1 : Bool, ∃ HJ : Nat → Prop, ((decide ((IntKind.i64.wrap ((IntKind.i64.wrap (1 + r1)) + r2)) > 4096)) = b1'0) ∧ (y1 = (b1'0 || (decide ((IntKind.i64.wrap (1 + z1)) > 64)))) ∧ Hst w0 H w9 HJ wJ ∧ HB HJ wJ [(p2, [(vi aA), (vi aB), (vi aC), (vu aK), (vs aF), (vi aL), (vi aM)], 105)] ∧ Has ρ [(0, (vp p1)), (3, (vp (some p2))), (8, (vi (IntKind.i64.wrap ((IntKind.i64.wrap (1 + r1)) + r2)))), (9, (vi (IntKind.i64.wrap (1 + z1)))), (65, (vb y1))]) ?_ ?_
    ·skip
     refine rg (q0 (vi (IntKind.i64.wrap ((IntKind.i64.wrap (1 + r1)) + r2))) (q0 (vb (decide ((IntKind.i64.wrap ((IntKind.i64.wrap (1 + r1)) + r2)) > 4096))) (q0 (vb (decide ((IntKind.i64.wrap ((IntKind.i64.wrap (1 + r1)) + r2)) > 4096))) ?_)))
     rcases Bool.eq_false_or_eq_true (decide ((IntKind.i64.wrap ((IntKind.i64.wrap (1 + r1)) + r2)) > 4096)) with hg2 | hg2
     ·skip
      refine sk (yD 62 hg2) (sk (yD 62 hg2) (q2 (vb true) (xT hg2) (wpL_nil (th_n ?_))))
      exact ⟨true, _, _, hg2, rfl, hs, hb, Has.mk (by kernel_rfl)⟩
     ·skip
      refine q1 (vi (IntKind.i64.wrap (1 + z1))) (want1 rfl (yD 62 hg2)) (q1 (vb (decide ((IntKind.i64.wrap (1 + z1)) > 64))) (want1 rfl (yD 62 hg2)) (q2 (vb (decide ((IntKind.i64.wrap (1 + z1)) > 64))) (xF hg2) (wpL_nil (th_n ?_))))
      exact ⟨false, _, _, hg2, rfl, hs, hb, Has.mk (by kernel_rfl)⟩
    ·clear hs hb
     rintro ρ w10 ⟨b1'0, y1, H2, he0, hy1, hs, hb, hH⟩
     subst he0
     replace h := h y1 hy1
     refine norm_has hH ?_
     clear hH
     refine th_n ?_
     refine wpE_cond (t := y1) (by kernel_rfl) (fun hc3 => ?_) (fun hc3 => ?_)
     ·replace h := h.1 hc3
      refine wpE_seq (rg (q0 (vi 0) (q0 (vi 52) (wpL_nil (th_n (wpE_ret (th_r ?_)))))))
      replace h := h H2 w10 hs
      replace hs := hs.here
      refine res2 (.inl rfl) Try.results137 (v := (vi 0)) (by kernel_rfl) (v' := (vi 52)) (by kernel_rfl) ?_
      exact ⟨0, 52, rfl, h⟩
     ·replace h := h.2 hc3
      refine wpE_skip (th_n (wpE_seq (rg (q0 (vp p1) (q2 (.agg #[(vi aA), (vi aB), (vi aC), (vu aK), (vs aF), (vi aL), (vi aM)]) (x_loadA (a := p2) (vs := [(vi aA), (vi aB), (vi aC), (vu aK), (vs aF), (vi aL), (vi aM)]) (by kernel_rfl) (Try.isAgg105 _) (Try.sizeOf105 _) rfl (hb.row0 0 7 gZ (by kernel_rfl))) ?_)))))
      replace h := h H2 w10 hs
      replace hs := hs.here
      refine st_call (want0 rfl) (xc Try.call196) (h.mono ?_)
      rintro e w11 ⟨r5, r6, rfl, hk, h⟩
      refine ⟨_, rfl, ?_⟩
      obtain ⟨hs, hb⟩ := hk.hh hs hb
      refine q0 (.tuple #[(vi r5), (vb r6)]) (q0 (vi r5) (q0 (vb r6) (q0 (vi r5) (q0 (vb r6) (wpL_nil (th_n (wpE_seq (wpE_seq (rg (q0 (vb r6) (wpL_nil ?_)))))))))))
      refine th_n ?_
      refine wpE_cond (t := r6) (by kernel_rfl) (fun hc4 => ?_) (fun hc4 => ?_)
      ·replace h := h.1 hc4
       refine wpE_seq (rg (q0 (vi r5) (q0 (vi r5) (q0 (vi 0) (wpL_nil (th_n (wpE_ret (th_r (res2 (.inl rfl) Try.results137 (v := (vi r5)) (by kernel_rfl) (v' := (vi 0)) (by kernel_rfl) ?_)))))))))
       exact ⟨r5, 0, rfl, h⟩
      ·replace h := h.2 hc4
       refine wpE_skip (th_n (wpE_seq (wpE_seq (rg (q0 (vp p1) ?_)))))
       obtain ⟨a1, hp1, h⟩ := h
       refine q2 (vp (some a1)) (x_nilCheck (p := p1) (by kernel_rfl) hp1) (q0 (vp (some a1)) ?_)
       obtain ⟨v1, hv8, h⟩ := h
       refine q2 v1.v (xl (Try.isAgg65 _) hv8) (q0 (vi (v1.len : Int)) (q0 (vb (decide ((v1.len : Int) ≥ 65536))) (wpL_nil (th_n ?_))))
       refine wpE_cond (t := (decide ((v1.len : Int) ≥ 65536))) (by kernel_rfl) (fun hc5 => ?_) (fun hc5 => ?_)
       ·replace h := h.1 hc5
        refine wpE_seq (rg (q0 (vi 0) (q0 (vi 6) (wpL_nil (th_n (wpE_ret (th_r (res2 (.inl rfl) Try.results137 (v := (vi 0)) (by kernel_rfl) (v' := (vi 6)) (by kernel_rfl) ?_))))))))
        exact ⟨0, 6, rfl, h⟩
       ·replace h := h.2 hc5
        refine wpE_skip (th_n (wpE_seq ?_))
        obtain ⟨C3, hC, h⟩ := h
        refine wpE_drawnC (fun x => C3 x ∧ HB H2 x [(p2, [(vi aA), (vi aB), (vi aC), (vu aK), (vs aF), (vi aL), (vi aM)], 105)]) [6, 7, 10] [10] (by kernel_rfl) (by kernel_rfl) (by kernel_rfl) (by kernel_rfl) ⟨hC, hb.drew⟩ ?_
        clear hC
        intro w12 hw12
        replace h := h w12 hw12
        replace hs : Hst w0 H2 w11 H2 w12 := by rw [hw12]; exact hs.drew
        replace hb : HB H2 w12 [(p2, [(vi aA), (vi aB), (vi aC), (vu aK), (vs aF), (vi aL), (vi aM)], 105)] := by rw [hw12]; exact hb.drew
        replace hs := hs.here
        refine qx 0 (vp p1) Kp0 (qx 1 (vp p1) Kp1 (qgo (k := 2) (by kernel_rfl) ?_))
        obtain ⟨a2, hp2, h⟩ := h
        refine sx (v := (vp (some a2))) Kp2 (want0 rfl) (by kernel_rfl) (fun w' hw' => (x_nilCheck (p := p1) (by kernel_rfl) hp2)) (qx 3 (vp (some a2)) Kp3 (qgo (k := 4) (by kernel_rfl) ?_))
        obtain ⟨v2, hv7, h⟩ := h
        refine sx (v := v2.v) Kp4 (want0 rfl) (by kernel_rfl) (fun w' hw' => (xl (Try.isAgg65 _) (hv7 w' hw'.1))) (qz 5 (.agg #[(vi aA), (vi aB), (vi aC), (vu aK), (vs aF), (vi aL), (vi aM)]) Kp5 (fun w' hw' => (x_loadA (a := p2) (vs := [(vi aA), (vi aB), (vi aC), (vu aK), (vs aF), (vi aL), (vi aM)]) (by kernel_rfl) (Try.isAgg105 _) (Try.sizeOf105 _) rfl (hw'.2.row0 0 7 gZ (by kernel_rfl)))) (lgo (k := 6) (by kernel_rfl) (sl_new (O := (.cells #[(vi aA), (vi aB), (vi aC), (vu aK), (vs aF), (vi aL), (vi aM)] 105)) (fun p => (Sl.mk (some p) 1 1).v) Kp6 (want0 rfl) (by kernel_rfl) (x_buildSlice (vs := #[(0, (.agg #[(vi aA), (vi aB), (vi aC), (vu aK), (vs aF), (vi aL), (vi aM)]))]) (by kernel_rfl) (by kernel_rfl)) ?_)))
        intro p3 w13 hn7
        replace h := h p3 w13 hn7
        refine ⟨.inr ⟨h.1, hb.kept (Ext.new (F := None) hn7).keptP⟩, ?_⟩
        replace h := h.2
        replace hs := hs.again (Ext.new (F := None) hn7).keptP
        replace hb := hb.kept (Ext.new (F := None) hn7).keptP
        refine lgo (k := 7) (by kernel_rfl) ?_
        obtain ⟨s1, w14, hv6, hC, hk, h⟩ := h
        refine sl (v := s1.v) Kp7 (want0 rfl) (by kernel_rfl) (x_builtin (args := #[v2.v, (Sl.mk (some p3) 1 1).v]) (by kernel_rfl) (fun _ => rfl) hv6) (.inr ⟨hC, hb.kept hk⟩) ?_
        clear hC
        obtain ⟨hs, hb⟩ := hk.hh hs hb
        refine qgo (k := 8) (by kernel_rfl) ?_
        obtain ⟨a3, hp3, h⟩ := h
        refine sx (v := (vp (some a3))) Kp8 (want0 rfl) (by kernel_rfl) (fun w' hw' => (x_nilCheck (p := p1) (by kernel_rfl) hp3)) (qx 9 (vp (some a3)) Kp9 (lgo (k := 10) (by kernel_rfl) ?_))
        obtain ⟨hp4, hnh, h⟩ := h
        refine sl_set (pickA (S8 (pickS (pickS pickZ)))) (want0 rfl) (by kernel_rfl) (x_store (a := a3) (v := s1.v) (by kernel_rfl) (by kernel_rfl) rfl (Try.sizeOf65 _) hp4) ?_
        intro w15 hn2
        replace h := h w15 hn2
        refine ⟨.inl (by kernel_rfl), ?_⟩
        have hk : Kept H2 w14 w15 := by rw [hn2]; exact Kept.setCell hnh
        replace hs := hs.again hk
        replace hb := hb.kept hk
        clear hk hnh
        refine wpX_nil (by kernel_rfl) (th_n (wpE_seq (rg (q0 (vp p1) (q0 (vp p1) ?_)))))
        obtain ⟨a4, hp5, h⟩ := h
        refine q2 (vp (some a4)) (x_nilCheck (p := p1) (by kernel_rfl) hp5) (q0 (vp (some (a4.add 1))) ?_)
        obtain ⟨v3, hv5, h⟩ := h
        refine q2 v3.v (xl (Try.isAgg66 _) hv5) (q0 (vi (IntKind.i64.wrap ((IntKind.i64.wrap (1 + r1)) + r2))) (st_new (O := (.cells #[(vi (IntKind.i64.wrap ((IntKind.i64.wrap (1 + r1)) + r2)))] 3)) (fun p => (Sl.mk (some p) 1 1).v) (want0 rfl) (x_buildSlice (vs := #[(0, (vi (IntKind.i64.wrap ((IntKind.i64.wrap (1 + r1)) + r2))))]) (by kernel_rfl) (by kernel_rfl)) ?_))
        intro p4 w16 hn6
        replace h := h p4 w16 hn6
        replace hs := hs.again (Ext.new (F := None) hn6).keptP
        replace hb := hb.kept (Ext.new (F := None) hn6).keptP
        obtain ⟨s2, w17, hv4, hk, h⟩ := h
        refine st (v := s2.v) (want0 rfl) (x_builtin (args := #[v3.v, (Sl.mk (some p4) 1 1).v]) (by kernel_rfl) (fun _ => rfl) hv4) ?_
        obtain ⟨hs, hb⟩ := hk.hh hs hb
        obtain ⟨a5, hp6, h⟩ := h
        refine q2 (vp (some a5)) (x_nilCheck (p := p1) (by kernel_rfl) hp6) (q0 (vp (some (a5.add 1))) ?_)
        obtain ⟨hp7, hnh, h⟩ := h
        refine st_set (want0 rfl) (x_store (a := (a5.add 1)) (v := s2.v) (by kernel_rfl) (by kernel_rfl) rfl (Try.sizeOf66 _) hp7) ?_
        intro w18 hn3
        replace h := h w18 hn3
        have hk : Kept H2 w17 w18 := by rw [hn3]; exact Kept.setCell hnh
        replace hs := hs.again hk
        replace hb := hb.kept hk
        clear hk hnh
        refine wpL_nil (th_n (wpE_seq (rg (q0 (vp p1) (q0 (vp p1) ?_)))))
        obtain ⟨a6, hp8, h⟩ := h
        refine q2 (vp (some a6)) (x_nilCheck (p := p1) (by kernel_rfl) hp8) (q0 (vp (some (a6.add 2))) ?_)
        obtain ⟨v4, hv3, h⟩ := h
        refine q2 v4.v (xl (Try.isAgg66 _) hv3) (q0 (vi (IntKind.i64.wrap (1 + z1))) (st_new (O := (.cells #[(vi (IntKind.i64.wrap (1 + z1)))] 3)) (fun p => (Sl.mk (some p) 1 1).v) (want0 rfl) (x_buildSlice (vs := #[(0, (vi (IntKind.i64.wrap (1 + z1))))]) (by kernel_rfl) (by kernel_rfl)) ?_))
        intro p5 w19 hn5
        replace h := h p5 w19 hn5
        replace hs := hs.again (Ext.new (F := None) hn5).keptP
        replace hb := hb.kept (Ext.new (F := None) hn5).keptP
        obtain ⟨s3, w20, hv2, hk, h⟩ := h
        refine st (v := s3.v) (want0 rfl) (x_builtin (args := #[v4.v, (Sl.mk (some p5) 1 1).v]) (by kernel_rfl) (fun _ => rfl) hv2) ?_
        obtain ⟨hs, hb⟩ := hk.hh hs hb
        obtain ⟨a7, hp9, h⟩ := h
        refine q2 (vp (some a7)) (x_nilCheck (p := p1) (by kernel_rfl) hp9) (q0 (vp (some (a7.add 2))) ?_)
        obtain ⟨hp10, hnh, h⟩ := h
        refine st_set (want0 rfl) (x_store (a := (a7.add 2)) (v := s3.v) (by kernel_rfl) (by kernel_rfl) rfl (Try.sizeOf66 _) hp10) ?_
        intro w21 hn4
        replace h := h w21 hn4
        have hk : Kept H2 w20 w21 := by rw [hn4]; exact Kept.setCell hnh
        replace hs := hs.again hk
        replace hb := hb.kept hk
        clear hk hnh
        refine wpL_nil (th_n (wpE_seq (rg (q0 (vp p1) ?_))))
        obtain ⟨a8, hp11, h⟩ := h
        refine q2 (vp (some a8)) (x_nilCheck (p := p1) (by kernel_rfl) hp11) (q0 (vp (some a8)) ?_)
        obtain ⟨v5, hv1, h⟩ := h
        refine q2 v5.v (xl (Try.isAgg65 _) hv1) (q0 (vi (v5.len : Int)) (q0 (vi (v5.len : Int)) (q0 (vi 0) (wpL_nil (th_n (wpE_ret (res2 (.inl rfl) Try.results137 (v := (vi (v5.len : Int))) (by kernel_rfl) (v' := (vi 0)) (by kernel_rfl) ?_)))))))
        exact ⟨(v5.len : Int), 0, rfl, h⟩
  ·skip
   refine rg (q0 (vi (s_ref05_Kids aA)) (q0 (vb (decide ((s_ref05_Kids aA) ≥ 1))) (q0 (vb (decide ((s_ref05_Kids aA) ≥ 1))) ?_)))
   refine wpL_join 6 (fun ρ w => ∃ x2 : Bool, ∃ H : Nat → Prop, Has ρ [(0, (vp p1)), (3, (vp (some p2))), (7, (vi (s_ref05_Kids aA))), (28, (vb x2))] ∧ Hst w0 H w H w ∧ HB H w [(p2, [(vi aA), (vi aB), (vi aC), (vu aK), (vs aF), (vi aL), (vi aM)], 105)] ∧ m_ref05_Pool_Make_j2 p1 aA aB aC aK aF aL aM x2 w0 H w K) ?_ ?_
   ·clear h hs hb
    rintro ρ w ⟨x2, H, hH, hs, hb, h⟩
    unfold m_ref05_Pool_Make_j2 at h
    refine wpL_has hH ?_
    clear hH
    refine q0 (vb x2) ?_
    rcases Bool.eq_false_or_eq_true x2 with hg3 | hg3
    ·replace h := h.1 hg3
     refine sk (yD 29 hg3) (sk (yD 29 hg3) (sk (yD 29 hg3) (st_not (by kernel_rfl) (st_not (by kernel_rfl) (st_not (by kernel_rfl) (st_not (by kernel_rfl) (st_not (by kernel_rfl) (sk (yD 29 hg3) (q2 (vb true) (xT hg3) (wpL_nil (th_n ?_)))))))))))
     exact ⟨true, H, Has.mk (by kernel_rfl), hs, hb, h⟩
    ·replace h := h.2 hg3
     refine q1 (vi (s_ref05_Kids aA)) (want1 rfl (yD 29 hg3)) (q1 (vb (((s_ref05_Kids aA) : Int) == 2)) (want1 rfl (yD 29 hg3)) (q1 (vb (((s_ref05_Kids aA) : Int) == 2)) (want1 rfl (yD 29 hg3)) ?_))
     rcases Bool.eq_false_or_eq_true (((s_ref05_Kids aA) : Int) == 2) with hg4 | hg4
     ·replace h := h.1 hg4
      refine q1 (vp p1) (want1 rfl (yD 32 hg4)) (q1 (vp (some (p2.add 6))) (want1 rfl (yD 32 hg4)) (stp (v := (vi aM)) (want1 rfl (yD 32 hg4)) (xl (Try.isAgg38 _) (hb.c 0 6 gZ)) ?_))
      refine st_call (want1 rfl (yD 32 hg4)) (xc Try.call30) (h.mono ?_)
      rintro e w22 ⟨r7, rfl, hk, h⟩
      refine ⟨_, rfl, ?_⟩
      obtain ⟨hs, hb⟩ := hk.hh hs hb
      refine q1 (vb (!r7)) (want1 rfl (yD 32 hg4)) (stp (v := (vb (!r7))) (want1 rfl (yD 29 hg3)) (xT hg4) (q2 (vb (!r7)) (xF hg3) (wpL_nil (th_n ?_))))
      exact ⟨(!r7), H, Has.mk (by kernel_rfl), hs, hb, h⟩
     ·replace h := h.2 hg4
      refine sk (yD 32 hg4) (sk (yD 32 hg4) (sk (yD 32 hg4) (sk (yD 32 hg4) (sk (yD 32 hg4) (stp (v := (vb false)) (want1 rfl (yD 29 hg3)) (xF hg4) (q2 (vb false) (xF hg3) (wpL_nil (th_n ?_))))))))
      exact ⟨false, H, Has.mk (by kernel_rfl), hs, hb, h⟩
   ·skip
    rcases Bool.eq_false_or_eq_true (decide ((s_ref05_Kids aA) ≥ 1)) with hg5 | hg5
    ·replace h := h.1 hg5
     refine q1 (vp p1) (want1 rfl (yD 22 hg5)) (q1 (vp (some (p2.add 5))) (want1 rfl (yD 22 hg5)) (stp (v := (vi aL)) (want1 rfl (yD 22 hg5)) (xl (Try.isAgg38 _) (hb.c 0 5 gZ)) ?_))
     replace h := h H1 w3 hs
     replace hs := hs.here
     refine st_call (want1 rfl (yD 22 hg5)) (xc Try.call30) (h.mono ?_)
     rintro e w23 ⟨r8, rfl, hk, h⟩
     refine ⟨_, rfl, ?_⟩
     obtain ⟨hs, hb⟩ := hk.hh hs hb
     refine q1 (vb (!r8)) (want1 rfl (yD 22 hg5)) (q2 (vb (!r8)) (xT hg5) (wpL_nil ?_))
     exact ⟨(!r8), H1, Has.mk (by kernel_rfl), hs, hb, h⟩
    ·replace h := h.2 hg5
     refine sk (yD 22 hg5) (sk (yD 22 hg5) (sk (yD 22 hg5) (sk (yD 22 hg5) (sk (yD 22 hg5) (q2 (vb false) (xF hg5) (wpL_nil ?_))))))
     replace h := h H1 w3 hs
     replace hs := hs.here
     exact ⟨false, H1, Has.mk (by kernel_rfl), hs, hb, h⟩
def m_ref05_Pool_made_l1 (p1 : Option Addr) (aD : Sl) (i1 aA : Int) (aB aC aK : Int) (aF : ByteArray) (aL aM : Int) (w0 : World) (Hl1 : Nat → Prop) (wl1 : World) (Kc1 : Int → Int → Int → Int → Int → ByteArray → Int → Int → (Nat → Prop) → World → Prop) (K : Int → Int → World → Prop) : Prop :=
 Br (decide (i1 < (aD.len : Int)))
  (∃ a1 : Addr, At aD i1 6 a1 ∧
  ∃ aN aO : Int, ∃ aP aQ : Int, ∃ aR : ByteArray, ∃ aX : Sl, Row wl1 a1 [(vi aN), (vi aO), (vi aP), (vu aQ), (vs aR), aX.v] ∧
  Calls Try.prog 112 #[(vp p1), (.agg #[(vi aN), (vi aO), (vi aP), (vu aQ), (vs aR), aX.v])] wl1 (fun e w5 => ∃ r1 r2 : Int, e = .returned (.tuple #[(vi r1), (vi r2)]) ∧ 
   Kept Hl1 wl1 w5 ∧
   Br (r2 != 0)
    (K 0 r2 w5)
    (∀ (H3 : Nat → Prop) (w8 : World), Hst w0 Hl1 w5 H3 w8 →
    Kc1 (IntKind.i64.wrap (i1 + 1)) aA aB aC aK aF (cond (i1 == 0) r1 aL) (cond (i1 == 0) aM r1) H3 w8)))
  (Calls Try.prog 137 #[(vp p1), (.agg #[(vi aA), (vi aB), (vi aC), (vu aK), (vs aF), (vi aL), (vi aM)])] wl1 (fun e w11 => ∃ r3 r4 : Int, e = .returned (.tuple #[(vi r3), (vi r4)]) ∧ 
   Kept Hl1 wl1 w11 ∧
   K r3 r4 w11))
def m_ref05_Pool_made (p1 : Option Addr) (aE aG : Int) (aH aI : Int) (aJ : ByteArray) (aD : Sl) (w0 : World) (K : Int → Int → World → Prop) : Prop :=
 ∀ (H2 : Nat → Prop) (w4 : World), Hst w0 None w0 H2 w4 →
 ∃ (I1 : Int → Int → Int → Int → Int → ByteArray → Int → Int → (Nat → Prop) → World → Prop) (mu1 : Int → Int → Int → Int → Int → ByteArray → Int → Int → World → Nat), I1 0 aE aG aH aI aJ 0 0 H2 w4 ∧
  ∀ (i1 aA : Int) (aB aC aK : Int) (aF : ByteArray) (aL aM : Int) (Hl1 : Nat → Prop) (wl1 : World), Hst w0 Hl1 wl1 Hl1 wl1 → I1 i1 aA aB aC aK aF aL aM Hl1 wl1 → m_ref05_Pool_made_l1 p1 aD i1 aA aB aC aK aF aL aM w0 Hl1 wl1 (fun y'0 y'1 y'2 y'3 y'4 y'5 y'6 y'7 H' w' => I1 y'0 y'1 y'2 y'3 y'4 y'5 y'6 y'7 H' w' ∧ mu1 y'0 y'1 y'2 y'3 y'4 y'5 y'6 y'7 w' < mu1 i1 aA aB aC aK aF aL aM wl1) K
theorem w_ref05_Pool_made (p1 : Option Addr) (aE aG : Int) (aH aI : Int) (aJ : ByteArray) (aD : Sl) (w0 : World) (K : Int → Int → World → Prop) (h : m_ref05_Pool_made p1 aE aG aH aI aJ aD w0 K) :
  Calls Try.prog 112 #[(vp p1), (.agg #[(vi aE), (vi aG), (vi aH), (vu aI), (vs aJ), aD.v])] w0 (fun e w' => ∃ r5 r6 : Int, e = .returned (.tuple #[(vi r5), (vi r6)]) ∧ K r5 r6 w') := by
 unfold m_ref05_Pool_made at h
 refine calls_of_wpE (args := [(vp p1), (.agg #[(vi aE), (vi aG), (vi aH), (vu aI), (vs aJ), aD.v])]) Try.func112 rfl Try.ntmps112 (Nat.le_of_ble_eq_true rfl) ?_
 have hs := Hst.start w0
 have hb := HB.nil None w0
 refine wpE_seq (rg (sn (O := (.cells #[(vi aE), (vi aG), (vi aH), (vu aI), (vs aJ), aD.v] 46)) xb ?_))
 intro p2 w1 hn1
 obtain ⟨H1, hs, hb⟩ := hs.alloc hb hn1
 refine q0 (vi 0) (q0 (vi 0) (wpL_nil (th_n (wpE_seq (rg (q2 (.agg #[(vi aE), (vi aG), (vi aH), (vu aI), (vs aJ), aD.v]) (x_loadA (a := p2) (vs := [(vi aE), (vi aG), (vi aH), (vu aI), (vs aJ), aD.v]) (by kernel_rfl) (Try.isAgg46 _) (Try.sizeOf46 _) rfl (hb.row0 0 6 gZ (by kernel_rfl))) ?_))))))
 refine st_call (want0 rfl) (xc Try.call136) ((p_ref05_node aE aG aH aI aJ aD w1).mono ?_)
 rintro e w2 ⟨he, hE⟩
 refine ⟨(.agg #[(vi aE), (vi aG), (vi aH), (vu aI), (vs aJ), (vi 0), (vi 0)]), he.trans (by kernel_rfl), ?_⟩
 replace hs := hs.pure hE
 replace hb := hb.pure hE
 clear hE he
 refine sn (O := (.cells #[(vi 0), (vi 0), (vi 0), (vu 0), (vs ⟨#[]⟩), (vi 0), (vi 0)] 105)) (x_alloc (Try.zeroValue105 _) rfl) ?_
 intro p3 w3 hn2
 obtain ⟨H2, hs, hb⟩ := hs.alloc hb hn2
 refine st_set (want0 rfl) (x_storeA (a := p3) (vs := [(vi aE), (vi aG), (vi aH), (vu aI), (vs aJ), (vi 0), (vi 0)]) (by kernel_rfl) (by kernel_rfl) rfl (Try.sizeOf105 _) rfl (hb.canWs0 0 7 gZ (by kernel_rfl))) ?_
 intro w4 hn3
 have hsb : Hst w0 None w0 H2 w4 ∧ HB H2 w4 [(p3, [(vi aE), (vi aG), (vi aH), (vu aI), (vs aJ), (vi 0), (vi 0)], 105), (p2, [(vi aE), (vi aG), (vi aH), (vu aI), (vs aJ), aD.v], 46)] := by
  rw [hn3]
  exact hb.store0 (i := 0) (vs := [(vi aE), (vi aG), (vi aH), (vu aI), (vs aJ), (vi 0), (vi 0)]) hs gZ (by kernel_rfl) (by kernel_rfl)
 clear hs hb hn3
 obtain ⟨hs, hb⟩ := hsb
 refine wpL_nil (th_n (wpE_seq (wpE_seq (rg (q0 (vi 0) (wpL_nil (th_n (wpE_block ?_))))))))
 replace h := h H2 w4 hs
 replace hs := hs.here
 obtain ⟨I1, mu1, h0, hr⟩ := h
 refine wpE_loop (σ := Int × Int × Int × Int × Int × ByteArray × Int × Int × (Nat → Prop) × World) (fun s ρ w => w = s.2.2.2.2.2.2.2.2.2 ∧ Has ρ [(0, (vp p1)), (3, (vp (some p2))), (6, (vp (some p3))), (7, (vi s.1))] ∧ Hst w0 s.2.2.2.2.2.2.2.2.1 w s.2.2.2.2.2.2.2.2.1 w ∧ HB s.2.2.2.2.2.2.2.2.1 w [(p3, [(vi s.2.1), (vi s.2.2.1), (vi s.2.2.2.1), (vu s.2.2.2.2.1), (vs s.2.2.2.2.2.1), (vi s.2.2.2.2.2.2.1), (vi s.2.2.2.2.2.2.2.1)], 105), (p2, [(vi aE), (vi aG), (vi aH), (vu aI), (vs aJ), aD.v], 46)] ∧ I1 s.1 s.2.1 s.2.2.1 s.2.2.2.1 s.2.2.2.2.1 s.2.2.2.2.2.1 s.2.2.2.2.2.2.1 s.2.2.2.2.2.2.2.1 s.2.2.2.2.2.2.2.2.1 s.2.2.2.2.2.2.2.2.2) (fun s => mu1 s.1 s.2.1 s.2.2.1 s.2.2.2.1 s.2.2.2.2.1 s.2.2.2.2.2.1 s.2.2.2.2.2.2.1 s.2.2.2.2.2.2.2.1 s.2.2.2.2.2.2.2.2.2) (0, aE, aG, aH, aI, aJ, 0, 0, H2, w4) ⟨rfl, Has.mk (by kernel_rfl), hs, hb, h0⟩ ?_
 clear hs hb
 rintro ⟨i1, aA, aB, aC, aK, aF, aL, aM, Hl1, wl1⟩ ρ w ⟨hw, hH, hs, hb, hI⟩
 obtain rfl : wl1 = w := (show w = wl1 from hw).symm
 replace hH : Has ρ [(0, (vp p1)), (3, (vp (some p2))), (6, (vp (some p3))), (7, (vi i1))] := hH
 replace hs : Hst w0 Hl1 wl1 Hl1 wl1 := hs
 replace hb : HB Hl1 wl1 [(p3, [(vi aA), (vi aB), (vi aC), (vu aK), (vs aF), (vi aL), (vi aM)], 105), (p2, [(vi aE), (vi aG), (vi aH), (vu aI), (vs aJ), aD.v], 46)] := hb
 have h := hr i1 aA aB aC aK aF aL aM Hl1 wl1 hs hI
 clear hr h0
 unfold m_ref05_Pool_made_l1 at h
 refine wpE_has hH ?_
 clear hH hI
 refine wpE_seq (wpE_seq (rg (q0 (vi i1) (q0 (vp (some (p2.add 5))) (q2 aD.v (xl (Try.isAgg22 _) (hb.c 1 5 (gS gZ))) (q0 (vi (aD.len : Int)) (q0 (vb (decide (i1 < (aD.len : Int)))) (wpL_nil (th_n ?_)))))))))
 refine wpE_cond (t := (decide (i1 < (aD.len : Int)))) (by kernel_rfl) (fun hc1 => ?_) (fun hc1 => ?_)
 ·replace h := h.1 hc1
  refine wpE_skip (th_n (wpE_seq (wpE_block (wpE_seq (rg (q0 (vp p1) (q0 (vp (some (p2.add 5))) (q2 aD.v (xl (Try.isAgg22 _) (hb.c 1 5 (gS gZ))) (q0 (vi i1) ?_)))))))))
  obtain ⟨a1, hv2, h⟩ := h
  refine q2 (vp (some a1)) (x_indexAddr (s := aD) (k := .i64) (i := i1) (by kernel_rfl) (by kernel_rfl) (Try.runUnderlying22 _) (Try.sizeOf46 _) hv2) ?_
  obtain ⟨aN, aO, aP, aQ, aR, aX, hv1, h⟩ := h
  refine q2 (.agg #[(vi aN), (vi aO), (vi aP), (vu aQ), (vs aR), aX.v]) (x_loadA (a := a1) (vs := [(vi aN), (vi aO), (vi aP), (vu aQ), (vs aR), aX.v]) (by kernel_rfl) (Try.isAgg46 _) (Try.sizeOf46 _) rfl hv1) ?_
  refine st_call (want0 rfl) (xc Try.call112) (h.mono ?_)
  rintro e w5 ⟨r1, r2, rfl, hk, h⟩
  refine ⟨_, rfl, ?_⟩
  obtain ⟨hs, hb⟩ := hk.hh hs hb
  refine q0 (.tuple #[(vi r1), (vi r2)]) (q0 (vi r1) (q0 (vi r2) (q0 (vi r1) (q0 (vi r2) (wpL_nil (th_n (wpE_seq (wpE_seq (rg (q0 (vi r2) (q0 (vb (r2 != 0)) ?_)))))))))))
  refine wpL_nil (th_n ?_)
  refine wpE_cond (t := (r2 != 0)) (by kernel_rfl) (fun hc2 => ?_) (fun hc2 => ?_)
  ·replace h := h.1 hc2
   refine wpE_seq (rg (q0 (vi r2) (q0 (vi 0) (q0 (vi r2) (wpL_nil (th_n (wpE_ret (th_r (bl_r (th_r (th_r ?_)))))))))))
   refine bl_r (th_r (res2 (.inl rfl) Try.results112 (v := (vi 0)) (by kernel_rfl) (v' := (vi r2)) (by kernel_rfl) ?_))
   exact ⟨0, r2, rfl, h⟩
  ·replace h := h.2 hc2
   refine wpE_skip (th_n (wpE_seq (rg (q0 (vi i1) (q0 (vb (i1 == 0)) (wpL_nil (th_n ?_)))))))
   refine wpE_via (fun ρ wJ => ∃ b1'0 : Bool, ∃ HJ : Nat → Prop, ((i1 == 0) = b1'0) ∧ Hst w0 Hl1 w5 HJ wJ ∧ HB HJ wJ [(p3, [(vi aA), (vi aB), (vi aC), (vu aK), (vs aF), (vi (cond b1'0 r1 aL)), (vi (cond b1'0 aM r1))], 105), (p2, [(vi aE), (vi aG), (vi aH), (vu aI), (vs aJ), aD.v], 46)] ∧ Has ρ [(0, (vp p1)), (3, (vp (some p2))), (6, (vp (some p3))), (7, (vi i1))]) ?_ ?_
   ·skip
    refine wpE_cond (t := (i1 == 0)) (by kernel_rfl) (fun hc4 => ?_) (fun hc4 => ?_)
    ·skip
     refine rg (q0 (vi r1) (q0 (vp (some (p3.add 5))) (st_set (want0 rfl) (x_store (a := (p3.add 5)) (v := (vi r1)) (by kernel_rfl) (by kernel_rfl) rfl (Try.sizeOf38 _) (hb.canW 0 5 gZ (by kernel_rfl))) ?_)))
     intro w9 hn6
     have hsb : Hst w0 Hl1 w5 Hl1 w9 ∧ HB Hl1 w9 [(p3, [(vi aA), (vi aB), (vi aC), (vu aK), (vs aF), (vi r1), (vi aM)], 105), (p2, [(vi aE), (vi aG), (vi aH), (vu aI), (vs aJ), aD.v], 46)] := by
      rw [hn6]
      exact hb.set (i := 0) 5 (v := (vi r1)) hs gZ (by kernel_rfl)
     clear hs hb hn6
     obtain ⟨hs, hb⟩ := hsb
     refine wpL_nil (th_n ?_)
     exact ⟨true, _, hc4, hs, hb, Has.mk (by kernel_rfl)⟩
    ·skip
     refine rg (q0 (vi r1) (q0 (vp (some (p3.add 6))) (st_set (want0 rfl) (x_store (a := (p3.add 6)) (v := (vi r1)) (by kernel_rfl) (by kernel_rfl) rfl (Try.sizeOf38 _) (hb.canW 0 6 gZ (by kernel_rfl))) ?_)))
     intro w10 hn7
     have hsb : Hst w0 Hl1 w5 Hl1 w10 ∧ HB Hl1 w10 [(p3, [(vi aA), (vi aB), (vi aC), (vu aK), (vs aF), (vi aL), (vi r1)], 105), (p2, [(vi aE), (vi aG), (vi aH), (vu aI), (vs aJ), aD.v], 46)] := by
      rw [hn7]
      exact hb.set (i := 0) 6 (v := (vi r1)) hs gZ (by kernel_rfl)
     clear hs hb hn7
     obtain ⟨hs, hb⟩ := hsb
     refine wpL_nil (th_n ?_)
     exact ⟨false, _, hc4, hs, hb, Has.mk (by kernel_rfl)⟩
   ·clear hs hb
    rintro ρ w8 ⟨b1'0, H3, he0, hs, hb, hH⟩
    subst he0
    refine norm_has hH ?_
    clear hH
    refine bl_n (th_n (rg (q0 (vi i1) (q0 (vi (IntKind.i64.wrap (i1 + 1))) (q0 (vi (IntKind.i64.wrap (i1 + 1))) (wpL_nil ?_))))))
    replace h := h H3 w8 hs
    replace hs := hs.here
    refine th_n ?_
    exact ⟨((IntKind.i64.wrap (i1 + 1)), aA, aB, aC, aK, aF, (cond (i1 == 0) r1 aL), (cond (i1 == 0) aM r1), H3, w8), ⟨rfl, Has.mk (by kernel_rfl), hs, hb, h.1⟩, h.2⟩
 ·replace h := h.2 hc1
  refine wpE_exit (th_x (th_x (bl_eq (th_n (wpE_seq (rg (q0 (vp p1) (q2 (.agg #[(vi aA), (vi aB), (vi aC), (vu aK), (vs aF), (vi aL), (vi aM)]) (x_loadA (a := p3) (vs := [(vi aA), (vi aB), (vi aC), (vu aK), (vs aF), (vi aL), (vi aM)]) (by kernel_rfl) (Try.isAgg105 _) (Try.sizeOf105 _) rfl (hb.row0 0 7 gZ (by kernel_rfl))) ?_))))))))
  refine st_call (want0 rfl) (xc Try.call137) (h.mono ?_)
  rintro e w11 ⟨r3, r4, rfl, hk, h⟩
  refine ⟨_, rfl, ?_⟩
  obtain ⟨hs, hb⟩ := hk.hh hs hb
  refine q0 (vi r3) (q0 (vi r4) (q0 (vi r3) (q0 (vi r4) (wpL_nil (th_n (wpE_ret (res2 (.inl rfl) Try.results112 (v := (vi r3)) (by kernel_rfl) (v' := (vi r4)) (by kernel_rfl) ?_)))))))
  exact ⟨r3, r4, rfl, h⟩
def m_ref05_Pool_cut (p1 : Option Addr) (n1 : Int) (w0 : World) (K : World → Prop) : Prop :=
 ∃ a1 : Addr, p1 = some a1 ∧
 ∃ v1 : Sl, w0.cell? a1 = some v1.v ∧
 ∃ s1 : Sl, (Instr.sliceAt 65 v1.v none (some (vi n1)) none).run Try.prog w0 = .ok s1.v w0 ∧
 ∃ a2 : Addr, p1 = some a2 ∧
 CanW w0 a2 ∧ ∀ w1 : World, w1 = w0.setCell a2 s1.v →
 ∃ a3 : Addr, p1 = some a3 ∧
 ∃ v2 : Sl, w1.cell? (a3.add 1) = some v2.v ∧
 ∃ s2 : Sl, (Instr.sliceAt 66 v2.v none (some (vi n1)) none).run Try.prog w1 = .ok s2.v w1 ∧
 ∃ a4 : Addr, p1 = some a4 ∧
 CanW w1 (a4.add 1) ∧ ∀ w2 : World, w2 = w1.setCell (a4.add 1) s2.v →
 ∃ a5 : Addr, p1 = some a5 ∧
 ∃ v3 : Sl, w2.cell? (a5.add 2) = some v3.v ∧
 ∃ s3 : Sl, (Instr.sliceAt 66 v3.v none (some (vi n1)) none).run Try.prog w2 = .ok s3.v w2 ∧
 ∃ a6 : Addr, p1 = some a6 ∧
 CanW w2 (a6.add 2) ∧ ∀ w3 : World, w3 = w2.setCell (a6.add 2) s3.v →
 K w3
theorem w_ref05_Pool_cut (p1 : Option Addr) (n1 : Int) (w0 : World) (K : World → Prop) (h : m_ref05_Pool_cut p1 n1 w0 K) :
  Calls Try.prog 113 #[(vp p1), (vi n1)] w0 (fun e w' => e = .returned (.tuple #[]) ∧ K  w') := by
 unfold m_ref05_Pool_cut at h
 refine calls_of_wpE (args := [(vp p1), (vi n1)]) Try.func113 rfl Try.ntmps113 (Nat.le_of_ble_eq_true rfl) (wpE_seq (rg (q0 (vp p1) (q0 (vp p1) ?_))))
 obtain ⟨a1, hp1, h⟩ := h
 refine q2 (vp (some a1)) (x_nilCheck (p := p1) (by kernel_rfl) hp1) (q0 (vp (some a1)) ?_)
 obtain ⟨v1, hv6, h⟩ := h
 refine q2 v1.v (xl (Try.isAgg65 _) hv6) (q0 (vi n1) ?_)
 obtain ⟨s1, hv5, h⟩ := h
 refine q2 s1.v (x_slice (by kernel_rfl) (by kernel_rfl) (by kernel_rfl) (by kernel_rfl) hv5) ?_
 obtain ⟨a2, hp2, h⟩ := h
 refine q2 (vp (some a2)) (x_nilCheck (p := p1) (by kernel_rfl) hp2) (q0 (vp (some a2)) ?_)
 obtain ⟨hp3, h⟩ := h
 refine st_set (want0 rfl) (x_store (a := a2) (v := s1.v) (by kernel_rfl) (by kernel_rfl) rfl (Try.sizeOf65 _) hp3) ?_
 intro w1 hn1
 replace h := h w1 hn1
 refine wpL_nil (th_n (wpE_seq (rg (q0 (vp p1) (q0 (vp p1) ?_)))))
 obtain ⟨a3, hp4, h⟩ := h
 refine q2 (vp (some a3)) (x_nilCheck (p := p1) (by kernel_rfl) hp4) (q0 (vp (some (a3.add 1))) ?_)
 obtain ⟨v2, hv4, h⟩ := h
 refine q2 v2.v (xl (Try.isAgg66 _) hv4) (q0 (vi n1) ?_)
 obtain ⟨s2, hv3, h⟩ := h
 refine q2 s2.v (x_slice (by kernel_rfl) (by kernel_rfl) (by kernel_rfl) (by kernel_rfl) hv3) ?_
 obtain ⟨a4, hp5, h⟩ := h
 refine q2 (vp (some a4)) (x_nilCheck (p := p1) (by kernel_rfl) hp5) (q0 (vp (some (a4.add 1))) ?_)
 obtain ⟨hp6, h⟩ := h
 refine st_set (want0 rfl) (x_store (a := (a4.add 1)) (v := s2.v) (by kernel_rfl) (by kernel_rfl) rfl (Try.sizeOf66 _) hp6) ?_
 intro w2 hn2
 replace h := h w2 hn2
 refine wpL_nil (th_n (rg (q0 (vp p1) (q0 (vp p1) ?_))))
 obtain ⟨a5, hp7, h⟩ := h
 refine q2 (vp (some a5)) (x_nilCheck (p := p1) (by kernel_rfl) hp7) (q0 (vp (some (a5.add 2))) ?_)
 obtain ⟨v3, hv2, h⟩ := h
 refine q2 v3.v (xl (Try.isAgg66 _) hv2) (q0 (vi n1) ?_)
 obtain ⟨s3, hv1, h⟩ := h
 refine q2 s3.v (x_slice (by kernel_rfl) (by kernel_rfl) (by kernel_rfl) (by kernel_rfl) hv1) ?_
 obtain ⟨a6, hp8, h⟩ := h
 refine q2 (vp (some a6)) (x_nilCheck (p := p1) (by kernel_rfl) hp8) (q0 (vp (some (a6.add 2))) ?_)
 obtain ⟨hp9, h⟩ := h
 refine st_set (want0 rfl) (x_store (a := (a6.add 2)) (v := s3.v) (by kernel_rfl) (by kernel_rfl) rfl (Try.sizeOf66 _) hp9) ?_
 intro w3 hn3
 replace h := h w3 hn3
 refine wpL_nil (res0 (.inr rfl) Try.results113 ?_)
 exact ⟨rfl, h⟩
def m_ref05_Pool_Of (p1 : Option Addr) (aE aG : Int) (aH aI : Int) (aJ : ByteArray) (aD : Sl) (w0 : World) (K : Int → Int → World → Prop) : Prop :=
 ∀ (H1 : Nat → Prop) (w1 : World), Hst w0 None w0 H1 w1 →
 Calls Try.prog 111 #[(.agg #[(vi aE), (vi aG), (vi aH), (vu aI), (vs aJ), aD.v])] w1 (fun e w2 => ∃ r1 : Int, e = .returned (vi r1) ∧ 
  Kept H1 w1 w2 ∧
  Br (r1 != 0)
   (K 0 r1 w2)
   (∃ a1 : Addr, p1 = some a1 ∧
   ∃ v1 : Sl, w2.cell? a1 = some v1.v ∧
   Calls Try.prog 112 #[(vp p1), (.agg #[(vi aE), (vi aG), (vi aH), (vu aI), (vs aJ), aD.v])] w2 (fun e w3 => ∃ r2 r3 : Int, e = .returned (.tuple #[(vi r2), (vi r3)]) ∧ 
    Kept H1 w2 w3 ∧
    Br (r3 != 0)
     (Calls Try.prog 113 #[(vp p1), (vi (v1.len : Int))] w3 (fun e w4 => e = .returned (.tuple #[]) ∧ 
      Kept H1 w3 w4 ∧
      K r2 r3 w4))
     (K r2 r3 w3))))
theorem w_ref05_Pool_Of (p1 : Option Addr) (aE aG : Int) (aH aI : Int) (aJ : ByteArray) (aD : Sl) (w0 : World) (K : Int → Int → World → Prop) (h : m_ref05_Pool_Of p1 aE aG aH aI aJ aD w0 K) :
  Calls Try.prog 64 #[(vp p1), (.agg #[(vi aE), (vi aG), (vi aH), (vu aI), (vs aJ), aD.v])] w0 (fun e w' => ∃ r4 r5 : Int, e = .returned (.tuple #[(vi r4), (vi r5)]) ∧ K r4 r5 w') := by
 unfold m_ref05_Pool_Of at h
 refine calls_of_wpE (args := [(vp p1), (.agg #[(vi aE), (vi aG), (vi aH), (vu aI), (vs aJ), aD.v])]) Try.func64 rfl Try.ntmps64 (Nat.le_of_ble_eq_true rfl) ?_
 have hs := Hst.start w0
 have hb := HB.nil None w0
 refine wpE_seq (rg (sn (O := (.cells #[(vi aE), (vi aG), (vi aH), (vu aI), (vs aJ), aD.v] 46)) xb ?_))
 intro p2 w1 hn1
 obtain ⟨H1, hs, hb⟩ := hs.alloc hb hn1
 refine q0 (vi 0) (q0 (vi 0) (wpL_nil (th_n (wpE_seq (rg (q2 (.agg #[(vi aE), (vi aG), (vi aH), (vu aI), (vs aJ), aD.v]) (x_loadA (a := p2) (vs := [(vi aE), (vi aG), (vi aH), (vu aI), (vs aJ), aD.v]) (by kernel_rfl) (Try.isAgg46 _) (Try.sizeOf46 _) rfl (hb.row0 0 6 gZ (by kernel_rfl))) ?_))))))
 replace h := h H1 w1 hs
 replace hs := hs.here
 refine st_call (want0 rfl) (xc Try.call111) (h.mono ?_)
 rintro e w2 ⟨r1, rfl, hk, h⟩
 refine ⟨_, rfl, ?_⟩
 obtain ⟨hs, hb⟩ := hk.hh hs hb
 refine q0 (vi r1) (wpL_nil (th_n (wpE_seq (wpE_seq (rg (q0 (vi r1) (q0 (vb (r1 != 0)) (wpL_nil (th_n ?_)))))))))
 refine wpE_cond (t := (r1 != 0)) (by kernel_rfl) (fun hc1 => ?_) (fun hc1 => ?_)
 ·replace h := h.1 hc1
  refine wpE_seq (rg (q0 (vi r1) (q0 (vi 0) (q0 (vi r1) (wpL_nil (th_n (wpE_ret (th_r (res2 (.inl rfl) Try.results64 (v := (vi 0)) (by kernel_rfl) (v' := (vi r1)) (by kernel_rfl) ?_)))))))))
  exact ⟨0, r1, rfl, h⟩
 ·replace h := h.2 hc1
  refine wpE_skip (th_n (wpE_seq (rg (q0 (vp p1) ?_))))
  obtain ⟨a1, hp1, h⟩ := h
  refine q2 (vp (some a1)) (x_nilCheck (p := p1) (by kernel_rfl) hp1) (q0 (vp (some a1)) ?_)
  obtain ⟨v1, hv1, h⟩ := h
  refine q2 v1.v (xl (Try.isAgg65 _) hv1) (q0 (vi (v1.len : Int)) (q0 (vi (v1.len : Int)) (wpL_nil (th_n (wpE_seq (rg (q0 (vp p1) (q2 (.agg #[(vi aE), (vi aG), (vi aH), (vu aI), (vs aJ), aD.v]) (x_loadA (a := p2) (vs := [(vi aE), (vi aG), (vi aH), (vu aI), (vs aJ), aD.v]) (by kernel_rfl) (Try.isAgg46 _) (Try.sizeOf46 _) rfl (hb.row0 0 6 gZ (by kernel_rfl))) ?_))))))))
  refine st_call (want0 rfl) (xc Try.call112) (h.mono ?_)
  rintro e w3 ⟨r2, r3, rfl, hk, h⟩
  refine ⟨_, rfl, ?_⟩
  obtain ⟨hs, hb⟩ := hk.hh hs hb
  refine q0 (.tuple #[(vi r2), (vi r3)]) (q0 (vi r2) (q0 (vi r3) (q0 (vi r2) (q0 (vi r3) (wpL_nil (th_n (wpE_seq (wpE_seq (rg (q0 (vi r3) (q0 (vb (r3 != 0)) ?_)))))))))))
  refine wpL_nil (th_n ?_)
  refine wpE_cond (t := (r3 != 0)) (by kernel_rfl) (fun hc2 => ?_) (fun hc2 => ?_)
  ·replace h := h.1 hc2
   refine rg (q0 (vp p1) (q0 (vi (v1.len : Int)) ?_))
   refine st_call (want0 rfl) (xc Try.call113) (h.mono ?_)
   rintro e w4 ⟨rfl, hk, h⟩
   refine ⟨_, rfl, ?_⟩
   obtain ⟨hs, hb⟩ := hk.hh hs hb
   refine wpL_nil (th_n (wpE_seq (rg (q0 (vi r2) (q0 (vi r3) (q0 (vi r2) (q0 (vi r3) (wpL_nil (th_n (wpE_ret (res2 (.inl rfl) Try.results64 (v := (vi r2)) (by kernel_rfl) (v' := (vi r3)) (by kernel_rfl) ?_)))))))))))
   exact ⟨r2, r3, rfl, h⟩
  ·replace h := h.2 hc2
   refine wpE_skip (th_n (wpE_seq (rg (q0 (vi r2) (q0 (vi r3) (q0 (vi r2) (q0 (vi r3) (wpL_nil (th_n (wpE_ret (res2 (.inl rfl) Try.results64 (v := (vi r2)) (by kernel_rfl) (v' := (vi r3)) (by kernel_rfl) ?_)))))))))))
   exact ⟨r2, r3, rfl, h⟩
end Go.Proofs
end
section
open Go Go.SE
namespace Go.Proofs
attribute [local irreducible] Calls
theorem kind_cases (k : Int) : (k = 1 ∨ k = 2 ∨ k = 3 ∨ k = 4 ∨ k = 5 ∨ k = 6 ∨ k = 7 ∨ k = 8 ∨ k = 9) ∨ (Sp.shapeOf k = Sp.noShape ∧ Sp.isKind k = false ∧ ∀ m : Int, 1 ≤ m → m ≤ 9 → (k == m) = false) := by
 by_cases h : k = 1 ∨ k = 2 ∨ k = 3 ∨ k = 4 ∨ k = 5 ∨ k = 6 ∨ k = 7 ∨ k = 8 ∨ k = 9
 ·exact .inl h
 ·right
  refine ⟨?_, ?_, fun m h1 h2 => ?_⟩
  ·unfold Sp.shapeOf; repeat rw [if_neg (by omega)]
  ·unfold Sp.isKind; apply Bool.eq_false_iff.2; intro h3; simp at h3; omega
  ·rw [beq_eq_false_iff_ne]; omega
theorem ref05_kids (k : Int) : s_ref05_Kids k = (Sp.shapeOf k).kids := by
 rcases kind_cases k with h | ⟨h, _, hm⟩
 ·rcases h with rfl | rfl | rfl | rfl | rfl | rfl | rfl | rfl | rfl <;> decide
 ·rw [h]; unfold s_ref05_Kids; simp [hm, Sp.noShape]
theorem ref05_named (k : Int) : s_ref05_named k = (Sp.shapeOf k).frm := by
 rcases kind_cases k with h | ⟨h, _, hm⟩
 ·rcases h with rfl | rfl | rfl | rfl | rfl | rfl | rfl | rfl | rfl <;> decide
 ·rw [h]; unfold s_ref05_named; simp [hm, Sp.noShape]
theorem shape_two (k : Int) : ((k == 8) || (k == 9)) = (Sp.shapeOf k).to := by
 rcases kind_cases k with h | ⟨h, _, hm⟩
 ·rcases h with rfl | rfl | rfl | rfl | rfl | rfl | rfl | rfl | rfl <;> decide
 ·rw [h]; simp [hm, Sp.noShape]
theorem shape_num (k : Int) : (k == 2) = (Sp.shapeOf k).num := by
 rcases kind_cases k with h | ⟨h, _, hm⟩
 ·rcases h with rfl | rfl | rfl | rfl | rfl | rfl | rfl | rfl | rfl <;> decide
 ·rw [h]; simp [hm, Sp.noShape]
theorem shape_text (k : Int) : (k == 3) = (Sp.shapeOf k).text := by
 rcases kind_cases k with h | ⟨h, _, hm⟩
 ·rcases h with rfl | rfl | rfl | rfl | rfl | rfl | rfl | rfl | rfl <;> decide
 ·rw [h]; simp [hm, Sp.noShape]
theorem shape_kind (k : Int) : (!(decide (k < 1) || decide (k > 9))) = Sp.isKind k := by
 unfold Sp.isKind
 by_cases h1 : k < 1 <;> by_cases h2 : k > 9 <;> simp [h1, h2] <;> omega
theorem ite53 (q : Bool) : decide ((if q = true then (53 : Int) else 0) = 0) = !q := by cases q <;> rfl
def Sp.nodeErr (n : Sp.Node) : Int :=
 if Sp.plainErr n ≠ 0 then 53 else if (decide ((Sp.shapeOf n.kind).kids < 1) && n.a != 0) || (decide ((Sp.shapeOf n.kind).kids < 2) && n.b != 0) then 53 else Sp.fieldsErr (Sp.shapeOf n.kind) n
theorem ref05_plain (n : Sp.Node) : s_ref05_plain n.kind n.frm n.to n.num n.text n.a n.b = (decide (Sp.plainErr n = 0) && !((decide ((Sp.shapeOf n.kind).kids < 1) && n.a != 0) || (decide ((Sp.shapeOf n.kind).kids < 2) && n.b != 0))) := by
 obtain ⟨k, f, t, u, x, a, b⟩ := n
 unfold s_ref05_plain Sp.plainErr
 simp only [ref05_kids, ref05_named, shape_two k, shape_num k, shape_text k, shape_kind]
 have hk := Sp.kids_le k
 generalize Sp.shapeOf k = s at *
 obtain ⟨s1, s2, s3, s4, s5⟩ := s
 generalize Sp.isKind k = i
 have e1 : decide (s5 ≥ 1) = !decide (s5 < 1) := by by_cases h : s5 < 1 <;> simp [h] <;> omega
 have e2 : (s5 == 2) = !decide (s5 < 2) := by
  by_cases h : s5 < 2
  ·simp [h]; omega
  ·simp [h]; simp at hk; omega
 simp only [e1, e2, bne, ite53]
 generalize (f == 0) = c1; generalize (t == 0) = c2; generalize (u == 0) = c3; generalize decide (x = ⟨#[]⟩) = c4; generalize (a == 0) = c5; generalize (b == 0) = c6; generalize decide (s5 < 1) = c7; generalize decide (s5 < 2) = c8
 cases i <;> cases s1 <;> cases s2 <;> cases s3 <;> cases s4 <;> cases c1 <;> cases c2 <;> cases c3 <;> cases c4 <;> simp
theorem ref05_shape (n : Sp.Node) : s_ref05_shape n.kind n.frm n.to n.num n.text n.a n.b = Sp.nodeErr n := by
 unfold s_ref05_shape Sp.nodeErr
 rw [ref05_plain, ref05_named, shape_two]
 by_cases h1 : Sp.plainErr n = 0
 ·by_cases h2 : ((decide ((Sp.shapeOf n.kind).kids < 1) && n.a != 0) || (decide ((Sp.shapeOf n.kind).kids < 2) && n.b != 0)) = true
  ·rw [h2]; simp [h1]
  ·have h2 : ((decide ((Sp.shapeOf n.kind).kids < 1) && n.a != 0) || (decide ((Sp.shapeOf n.kind).kids < 2) && n.b != 0)) = false := by simpa using h2
   rw [h2]
   simp only [h1, ne_eq, not_true_eq_false, if_false, Bool.false_eq_true, decide_true, Bool.not_false, Bool.and_true, Bool.not_true, cond_false]
   unfold Sp.fieldsErr Sp.isName
   have e1 : (decide (n.frm ≥ 0) && decide (n.frm < 16)) = (decide (0 ≤ n.frm) && decide (n.frm < 16)) := rfl
   have e2 : (decide (n.to ≥ 0) && decide (n.to < 16)) = (decide (0 ≤ n.to) && decide (n.to < 16)) := rfl
   have e3 : (n.frm == n.to) = (n.to == n.frm) := by rw [Bool.eq_iff_iff]; simp only [beq_iff_eq]; exact eq_comm
   rw [e1, e2, e3]
   have e4 : decide (((n.text.size : Int)) > 64) = decide (n.text.size > 64) := decide_eq_decide.2 (by omega)
   rw [e4]
   generalize ((Sp.shapeOf n.kind).frm && !(decide (0 ≤ n.frm) && decide (n.frm < 16)) || (Sp.shapeOf n.kind).to && (!(decide (0 ≤ n.to) && decide (n.to < 16)) || n.to == n.frm)) = c
   cases c
   ·by_cases h : n.text.size > 64 <;> simp [h]
   ·rfl
 ·simp [h1]
end Go.Proofs
end
