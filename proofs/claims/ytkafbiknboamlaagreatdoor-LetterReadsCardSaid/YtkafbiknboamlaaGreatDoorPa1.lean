import Derived.Test.YtkafbiknboamlaaGreatDoorProg
import Derived.WalkKit
import Derived.Shelf.Strings.Builder1
section
namespace Go.Proofs
open Tryz
open Go.Shelf
def jFO:Go.Shelf.Ren:=⟨fun | 169=>81 | n=>n,fun | 70=>124 | 9=>9 | 0=>0 | 72=>126 | 37=>54 | 127=>195 | 3=>3 | 5=>5 | n=>n,fun | n=>n⟩
theorem jVA:Go.Proofs.Lays.n169 prog jFO:={
 mixed:=by kernel_rfl
 f169:=func81.trans (congrArg some (by kernel_rfl))
 t0:=underlying0
 a0:=isAgg0
 z0:=sizeOf0
 v0:=zeroValue0
 t3:=underlying3
 a3:=isAgg3
 z3:=sizeOf3
 v3:=zeroValue3
 t9:=underlying9
 a9:=isAgg9
 z9:=sizeOf9
 v9:=zeroValue9
 t37:=underlying54
 a37:=isAgg54
 z37:=sizeOf54
 v37:=zeroValue54
 t70:=underlying124
 a70:=isAgg124
 z70:=sizeOf124
 v70:=zeroValue124
 t72:=underlying126
 a72:=isAgg126
 z72:=sizeOf126
 v72:=zeroValue126
 t127:=underlying195
 a127:=isAgg195
 z127:=sizeOf195
 v127:=zeroValue195 }
theorem bld169:Builder.Extra prog jFO:={
 sizeBuilder:=by kernel_rfl
 liesBuilder:=by kernel_rfl
 t5:=underlying5
 a5:=isAgg5
 z5:=sizeOf5
 v5:=zeroValue5
 infoByte:=by kernel_rfl
 cellsByte:=by kernel_rfl
 sizeByte:=by kernel_rfl
 neB5:=by decide }
open Go.RowKit in
theorem jSP (B b:Nat) (l:List UInt8) (w:World) (h:Lib.IsBuilder 126 5 B b (Lib.byteCells l) w) (hBw:B≤w.heap.size) :
  Calls prog 81 #[.pointer (some ⟨b,0,none⟩)] w fun e w'=>e=.returned (.string ⟨l.toArray⟩)∧Below B w w':=Any.Builder_String_any jVA bld169 B b l w h hBw
set_option maxHeartbeats 1000000 in
set_option maxRecDepth 100000 in
theorem jVJ (b:Nat) (w:World) (h0:w.cell? ⟨b,0,none⟩=some (.pointer (some ⟨b,0,none⟩))) :
  Calls prog 133 #[.pointer (some ⟨b,0,none⟩)] w fun e w'=>e=.returned (.tuple #[])∧w'=w:=by
 obtain ⟨j,hj,_⟩:=Option.map_eq_some_iff.1 (show (prog.info? 126).map (·.size)=some 2 by kernel_rfl)
 go_enter func133,ntmps133
 go_wp2
 rw [Lib.run_neq_ptr_same w _ underlying124 hj]
 go_wp2
 go_end0
 exact ⟨rfl,rfl⟩
set_option maxHeartbeats 1000000 in
set_option maxRecDepth 100000 in
theorem jTC (b:Nat) (w:World) (h0:w.cell? ⟨b,0,none⟩=some (.pointer none)) (hsh:w.shape? b=some (126,2)) (hfz:w.frozen? ⟨b,0,none⟩=false) :
  Calls prog 133 #[.pointer (some ⟨b,0,none⟩)] w fun e w'=>e=.returned (.tuple #[])∧w'=w.setCell ⟨b,0,none⟩ (.pointer (some ⟨b,0,none⟩)):=by
 obtain ⟨j,hj,hjs⟩:=Option.map_eq_some_iff.1 (show (prog.info? 126).map (·.size)=some 2 by kernel_rfl)
 go_enter func133,ntmps133
 go_wp2
 rw [Lib.run_to_unsafe w ⟨b,0,none⟩ underlying124 underlying241 hj (by rw [hjs];decide) hsh (Nat.zero_lt_succ 1)]
 simp only [Result.andThen]
 rw [Oper.upon_value]
 go_wp2
 rw [run_callFunc_extern func174 (by kernel_rfl) (by kernel_rfl) (by kernel_rfl) (e:=Extern.AbiNoEscape.same) (by kernel_rfl)]
 rw [Lib.run_noEscape]
 simp only [Result.andThen]
 rw [Oper.upon_value]
 go_wp2
 rw [Lib.run_from_unsafe w ⟨b,0,none⟩ underlying241 underlying124 hj hsh (by kernel_rfl)]
 simp only [Result.andThen]
 rw [Oper.upon_value]
 go_wp2
 go_end0
 exact ⟨rfl,rfl⟩
end Go.Proofs
end
