import Derived.Test.YtkiijeiccioelaaGreatDoorProg
import Derived.WalkKit
import Derived.Shelf.Strings.Builder1
section
namespace Go.Proofs
open Tryz
open Go.Shelf
def jCO:Go.Shelf.Ren:=⟨fun | 169=>36 | n=>n,fun | 70=>83 | 9=>9 | 0=>0 | 72=>85 | 37=>25 | 127=>120 | 3=>3 | 5=>5 | n=>n,fun | n=>n⟩
theorem jUE:Go.Proofs.Lays.n169 prog jCO:={
 mixed:=by kernel_rfl
 f169:=func36.trans (congrArg some (by kernel_rfl))
 t0:=underlying0
 a0:=isAgg0
 z0:=sizeOf0
 v0:=zeroValue0
 t3:=underlying3
 a3:=isAgg3
 z3:=sizeOf3
 v3:=zeroValue3
 t9:=underlying9
 a9:=isAgg9
 z9:=sizeOf9
 v9:=zeroValue9
 t37:=underlying25
 a37:=isAgg25
 z37:=sizeOf25
 v37:=zeroValue25
 t70:=underlying83
 a70:=isAgg83
 z70:=sizeOf83
 v70:=zeroValue83
 t72:=underlying85
 a72:=isAgg85
 z72:=sizeOf85
 v72:=zeroValue85
 t127:=underlying120
 a127:=isAgg120
 z127:=sizeOf120
 v127:=zeroValue120 }
theorem bld169:Builder.Extra prog jCO:={
 sizeBuilder:=by kernel_rfl
 liesBuilder:=by kernel_rfl
 t5:=underlying5
 a5:=isAgg5
 z5:=sizeOf5
 v5:=zeroValue5
 infoByte:=by kernel_rfl
 cellsByte:=by kernel_rfl
 sizeByte:=by kernel_rfl
 neB5:=by decide }
open Go.RowKit in
theorem jRE (B b:Nat) (l:List UInt8) (w:World) (h:Lib.IsBuilder 85 5 B b (Lib.byteCells l) w) (hBw:B≤w.heap.size) :
  Calls prog 36 #[.pointer (some ⟨b,0,none⟩)] w fun e w'=>e=.returned (.string ⟨l.toArray⟩)∧Below B w w':=Any.Builder_String_any jUE bld169 B b l w h hBw
set_option maxHeartbeats 1000000 in
set_option maxRecDepth 100000 in
theorem jUN (b:Nat) (w:World) (h0:w.cell? ⟨b,0,none⟩=some (.pointer (some ⟨b,0,none⟩))) :
  Calls prog 57 #[.pointer (some ⟨b,0,none⟩)] w fun e w'=>e=.returned (.tuple #[])∧w'=w:=by
 obtain ⟨j,hj,_⟩:=Option.map_eq_some_iff.1 (show (prog.info? 85).map (·.size)=some 2 by kernel_rfl)
 go_enter func57,ntmps57
 go_wp2
 rw [Lib.run_neq_ptr_same w _ underlying83 hj]
 go_wp2
 go_end0
 exact ⟨rfl,rfl⟩
set_option maxHeartbeats 1000000 in
set_option maxRecDepth 100000 in
theorem jRR (b:Nat) (w:World) (h0:w.cell? ⟨b,0,none⟩=some (.pointer none)) (hsh:w.shape? b=some (85,2)) (hfz:w.frozen? ⟨b,0,none⟩=false) :
  Calls prog 57 #[.pointer (some ⟨b,0,none⟩)] w fun e w'=>e=.returned (.tuple #[])∧w'=w.setCell ⟨b,0,none⟩ (.pointer (some ⟨b,0,none⟩)):=by
 obtain ⟨j,hj,hjs⟩:=Option.map_eq_some_iff.1 (show (prog.info? 85).map (·.size)=some 2 by kernel_rfl)
 go_enter func57,ntmps57
 go_wp2
 rw [Lib.run_to_unsafe w ⟨b,0,none⟩ underlying83 underlying147 hj (by rw [hjs];decide) hsh (Nat.zero_lt_succ 1)]
 simp only [Result.andThen]
 rw [Oper.upon_value]
 go_wp2
 rw [run_callFunc_extern func74 (by kernel_rfl) (by kernel_rfl) (by kernel_rfl) (e:=Extern.AbiNoEscape.same) (by kernel_rfl)]
 rw [Lib.run_noEscape]
 simp only [Result.andThen]
 rw [Oper.upon_value]
 go_wp2
 rw [Lib.run_from_unsafe w ⟨b,0,none⟩ underlying147 underlying83 hj hsh (by kernel_rfl)]
 simp only [Result.andThen]
 rw [Oper.upon_value]
 go_wp2
 go_end0
 exact ⟨rfl,rfl⟩
end Go.Proofs
end
