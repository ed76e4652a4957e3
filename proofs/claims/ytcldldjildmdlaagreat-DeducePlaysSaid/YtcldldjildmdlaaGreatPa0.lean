import Derived.Test.YtcldldjildmdlaaGreatProg
import Derived.WalkKit
import Derived.Shelf.SlMaps.Clone
section
namespace Go.Proofs
open Tryz
open Go.Shelf
def jAS:Go.Shelf.Ren:=⟨fun | 5=>57 | 7=>95 | n=>n,fun | 23=>107 | 25=>30 | 3=>113 | 4=>4 | 20=>20 | n=>n,fun | n=>n⟩
theorem cloneM:Go.Proofs.SlLaysW.n5 prog jAS:={
 mixed:=by kernel_rfl
 f5:=⟨f57.name,by decide,func57.trans (congrArg some (by kernel_rfl))⟩
 f7:=func95.trans (congrArg some (by kernel_rfl))
 t4:=underlying4
 a4:=isAgg4
 z4:=sizeOf4
 v4:=zeroValue4
 t20:=underlying20
 a20:=isAgg20
 z20:=sizeOf20
 v20:=zeroValue20
 t23:=underlying107
 a23:=isAgg107
 z23:=sizeOf107
 v23:=zeroValue107 }
theorem tH (b:Nat) (es:Array MapEntry) (clock:Nat) (w:World) (hb:w.heap[b]?=some (.map es clock)) :
  Calls prog 57 #[.map (some b)] w fun e w'=>e=.returned (.map (some w.heap.size))∧w'=w.alloc (.map es clock) :=
 AnyW.maps_Clone cloneM b es clock w hb
end Go.Proofs
end
