/- Symbolic execution, part M: short words for the steps that are printed most. -/
import Derived.Test.YtakogcapgbilaaaSeL
import Derived.KernelRfl
namespace Go.SE
section
variable {P : Program} {ops : Array Oper} {Q : Env → World → Prop} {ρ : Env} {w : World} {rest : List Oper} {o : Oper}
theorem yD (d : Nat) {j : Nat} {c t : Bool} (hc : c = t) (hd : (ops[j]?).bind (·.dst) = some d := by kernel_rfl) (hv : ρ d = .bool c := by kernel_rfl) : yieldedE ops ρ j = some t := yE hd hv hc
theorem q0 (v : Value) (h : wpL P ops Q rest (put ρ o.dst v) w) (hw : Region.wanted o (yieldedE ops ρ) = true := by kernel_rfl) (hr : (execOp (evE ρ) o).run P w = .ok (.value v) w := by kernel_rfl) : wpL P ops Q (o :: rest) ρ w := stp hw hr h
theorem q1 (v : Value) (hw : Region.wanted o (yieldedE ops ρ) = true) (h : wpL P ops Q rest (put ρ o.dst v) w) (hr : (execOp (evE ρ) o).run P w = .ok (.value v) w := by kernel_rfl) : wpL P ops Q (o :: rest) ρ w := stp hw hr h
theorem q2 (v : Value) (hr : (execOp (evE ρ) o).run P w = .ok (.value v) w) (h : wpL P ops Q rest (put ρ o.dst v) w) (hw : Region.wanted o (yieldedE ops ρ) = true := by kernel_rfl) : wpL P ops Q (o :: rest) ρ w := stp hw hr h
variable {C : World → Prop} {loud free : Nat → Bool} {fuel : Nat} {listed : Array Bool}
theorem qx (k : Nat) (v : Value) (ho : ops[k]? = some o) (h : wpX P ops C loud free Q fuel (listed.setIfInBounds k true) (put ρ o.dst v) w) (hg : goes ops listed loud k = true := by kernel_rfl) (hw : Region.wanted o (yieldedE ops ρ) = true := by kernel_rfl) (hl : loud k = false := by kernel_rfl) (hr : ∀ w', (execOp (evE ρ) o).run P w' = .ok (.value v) w' := by intro _; kernel_rfl) : wpX P ops C loud free Q (fuel + 1) listed ρ w :=
  qgo hg (sx ho hw hl (fun w' _ => hr w') h)
theorem qw (k : Nat) (v : Value) (ho : ops[k]? = some o) (hw : Region.wanted o (yieldedE ops ρ) = true) (h : wpX P ops C loud free Q fuel (listed.setIfInBounds k true) (put ρ o.dst v) w) (hg : goes ops listed loud k = true := by kernel_rfl) (hl : loud k = false := by kernel_rfl) (hr : ∀ w', (execOp (evE ρ) o).run P w' = .ok (.value v) w' := by intro _; kernel_rfl) : wpX P ops C loud free Q (fuel + 1) listed ρ w :=
  qgo hg (sx ho hw hl (fun w' _ => hr w') h)
theorem qz (k : Nat) (v : Value) (ho : ops[k]? = some o) (hr : ∀ w', C w' → (execOp (evE ρ) o).run P w' = .ok (.value v) w') (h : wpX P ops C loud free Q fuel (listed.setIfInBounds k true) (put ρ o.dst v) w) (hg : goes ops listed loud k = true := by kernel_rfl) (hw : Region.wanted o (yieldedE ops ρ) = true := by kernel_rfl) (hl : loud k = false := by kernel_rfl) : wpX P ops C loud free Q (fuel + 1) listed ρ w :=
  qgo hg (sx ho hw hl hr h)
theorem qn (k : Nat) (ho : ops[k]? = some o) (hw : Region.wanted o (yieldedE ops ρ) = false) (h : wpX P ops C loud free Q fuel (listed.setIfInBounds k true) (put ρ o.dst undef) w) (hg : goes ops listed loud k = true := by kernel_rfl) : wpX P ops C loud free Q (fuel + 1) listed ρ w :=
  qgo hg (sx_not ho hw h)
theorem qq {W : World} (k : Nat) (v : Value) (ho : ops[k]? = some o) (h : wpX P ops (fun x => x = W) loud free Q fuel (listed.setIfInBounds k true) (put ρ o.dst v) w) (hg : goes ops listed loud k = true := by kernel_rfl) (hw : Region.wanted o (yieldedE ops ρ) = true := by kernel_rfl) (hl : loud k = false := by kernel_rfl) (hr : (execOp (evE ρ) o).run P W = .ok (.value v) W := by kernel_rfl) : wpX P ops (fun x => x = W) loud free Q (fuel + 1) listed ρ w :=
  qgo hg (sxQ ho hw hl hr h)
theorem qr {W : World} (k : Nat) (v : Value) (ho : ops[k]? = some o) (hr : (execOp (evE ρ) o).run P W = .ok (.value v) W) (h : wpX P ops (fun x => x = W) loud free Q fuel (listed.setIfInBounds k true) (put ρ o.dst v) w) (hg : goes ops listed loud k = true := by kernel_rfl) (hw : Region.wanted o (yieldedE ops ρ) = true := by kernel_rfl) (hl : loud k = false := by kernel_rfl) : wpX P ops (fun x => x = W) loud free Q (fuel + 1) listed ρ w :=
  qgo hg (sxQ ho hw hl hr h)
end
section
variable {P : Program} {n : Nat} {Q : Exit → Env → World → Prop} {ρ : Env} {w : World}
theorem rg {id : Nat} {l : List Oper} (h : wpL P l.toArray (fun ρ w => Q .normal ρ w) l ρ w) (hd : dstsIn n l = true := by kernel_rfl) : wpE P n (.region id l.toArray false) Q ρ w := wpE_region hd h
theorem ns {y : Code} {ρ : Env} {w : World} (h : wpE P n y Q ρ w) : thenE (fun ρ w => wpE P n y Q ρ w) Q .normal ρ w := h
end
section
variable {α : Type} {x0 x1 x2 x3 x4 x5 x6 x7 x8 x9 o : α} {l : List α}
theorem Kp0 : (o :: l).toArray[0]? = some o := rfl
theorem Kp1 : (x0 :: o :: l).toArray[1]? = some o := rfl
theorem Kp2 : (x0 :: x1 :: o :: l).toArray[2]? = some o := rfl
theorem Kp3 : (x0 :: x1 :: x2 :: o :: l).toArray[3]? = some o := rfl
theorem Kp4 : (x0 :: x1 :: x2 :: x3 :: o :: l).toArray[4]? = some o := rfl
theorem Kp5 : (x0 :: x1 :: x2 :: x3 :: x4 :: o :: l).toArray[5]? = some o := rfl
theorem Kp6 : (x0 :: x1 :: x2 :: x3 :: x4 :: x5 :: o :: l).toArray[6]? = some o := rfl
theorem Kp7 : (x0 :: x1 :: x2 :: x3 :: x4 :: x5 :: x6 :: o :: l).toArray[7]? = some o := rfl
theorem Kp8 : (x0 :: x1 :: x2 :: x3 :: x4 :: x5 :: x6 :: x7 :: o :: l).toArray[8]? = some o := rfl
theorem Kp9 : (x0 :: x1 :: x2 :: x3 :: x4 :: x5 :: x6 :: x7 :: x8 :: o :: l).toArray[9]? = some o := rfl
end
end Go.SE
