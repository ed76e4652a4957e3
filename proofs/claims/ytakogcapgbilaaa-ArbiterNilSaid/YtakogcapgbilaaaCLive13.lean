/- escrowlaw13, live: what it computes, closed. -/
import Derived.Test.YtakogcapgbilaaaCArbE
open Go Go.SE
namespace Go.Sp
def wt : ByteArray := ⟨#[116]⟩
def wu : ByteArray := ⟨#[117]⟩
def lvA : Tree := letterT ⟨2, 1, 7, wt, false⟩ false false
def lvB : Tree := letterT ⟨1, 1, 7, wt, false⟩ false false
def lvC : Tree := letterT ⟨2, 1, 7, wu, false⟩ false false
def lv1 : Pool := (of [] lvA).2.2
def lv2 : Pool := (of lv1 lvB).2.2
def lv3 : Pool := (of lv2 lvC).2.2
theorem lv_a : (of [] lvA).1 = 6 ∧ (of [] lvA).2.1 = 0 := by constructor <;> kernel_rfl
theorem lv_b : (of lv1 lvB).1 = 7 ∧ (of lv1 lvB).2.1 = 0 := by constructor <;> kernel_rfl
theorem lv_c : (of lv2 lvC).1 = 11 ∧ (of lv2 lvC).2.1 = 0 := by constructor <;> kernel_rfl
theorem lv_x : judgeFrom 1 7 wt 0 (Go.Proofs.readAll lv3 [7, 6]) = (true, 1, 1) := by kernel_rfl
theorem lv_y : judgeFrom 1 7 wt 0 (Go.Proofs.readAll lv3 [7]) = (false, 0, -1) := by kernel_rfl
theorem lv_l : faults (Go.Proofs.readAll lv3 [6, 7, 11]) = [⟨1, 7, 1, 0, 2⟩] := by kernel_rfl
end Go.Sp
