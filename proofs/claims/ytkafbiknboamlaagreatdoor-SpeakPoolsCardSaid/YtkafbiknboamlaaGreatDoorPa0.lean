import Derived.Test.YtkafbiknboamlaaGreatDoorProg
import Derived.WalkKit
import Derived.Shelf.Strconv.Itoa3
import Derived.Ground.NamesProg
section
namespace Go.Proofs
open Tryz
open Go.Shelf
def jDS:Go.Shelf.Ren:=⟨fun | 283=>176 | n=>n,fun | 3=>3 | 9=>9 | 4=>4 | n=>n,fun | n=>n⟩
theorem jMB:Go.Proofs.Lays.n283 prog jDS:={
 mixed:=by kernel_rfl
 f283:=func176.trans (congrArg some (by kernel_rfl))
 t3:=underlying3
 a3:=isAgg3
 z3:=sizeOf3
 v3:=zeroValue3
 t4:=underlying4
 a4:=isAgg4
 z4:=sizeOf4
 v4:=zeroValue4
 t9:=underlying9
 a9:=isAgg9
 z9:=sizeOf9
 v9:=zeroValue9 }
def jBV:Go.Shelf.Ren:=⟨fun | 284=>177 | 129=>223 | 317=>222 | 318=>224 | n=>n,fun | 53=>26 | 3=>3 | 212=>269 | 0=>0 | 4=>4 | 46=>194 | 5=>5 | 9=>9 | n=>n,fun | 17=>0 | n=>n⟩
theorem jJY:Go.Proofs.LaysM.n284 prog jBV:={
 mixed:=by kernel_rfl
 f129:=func223.trans (congrArg some (by kernel_rfl))
 f284:=func177.trans (congrArg some (by kernel_rfl))
 f317:=func222.trans (congrArg some (by kernel_rfl))
 f318:=func224.trans (congrArg some (by kernel_rfl))
 t0:=underlying0
 a0:=isAgg0
 z0:=sizeOf0
 v0:=zeroValue0
 t3:=underlying3
 a3:=isAgg3
 z3:=sizeOf3
 v3:=zeroValue3
 t4:=underlying4
 a4:=isAgg4
 z4:=sizeOf4
 v4:=zeroValue4
 t5:=underlying5
 a5:=isAgg5
 z5:=sizeOf5
 v5:=zeroValue5
 t9:=underlying9
 a9:=isAgg9
 z9:=sizeOf9
 v9:=zeroValue9
 t46:=underlying194
 a46:=isAgg194
 z46:=sizeOf194
 v46:=zeroValue194
 t53:=underlying26
 a53:=isAgg26
 z53:=sizeOf26
 v53:=zeroValue26
 t212:=underlying269
 a212:=isAgg269
 z212:=sizeOf269
 v212:=zeroValue269
 g17:=by kernel_rfl
 i0:=by kernel_rfl
 i3:=by kernel_rfl
 i4:=by kernel_rfl
 i5:=by kernel_rfl
 i9:=by kernel_rfl
 i46:=by kernel_rfl
 i53:=by kernel_rfl
 i212:=by kernel_rfl
 m17:=by kernel_rfl }
def jDR:Go.Shelf.Ren:=⟨fun | 285=>178 | n=>n,fun | 37=>54 | 53=>26 | 3=>3 | 4=>4 | 51=>270 | 9=>9 | 5=>5 | 0=>0 | n=>n,fun | n=>n⟩
theorem jMA:Go.Proofs.Lays.n285 prog jDR:={
 mixed:=by kernel_rfl
 f285:=func178.trans (congrArg some (by kernel_rfl))
 t0:=underlying0
 a0:=isAgg0
 z0:=sizeOf0
 v0:=zeroValue0
 t3:=underlying3
 a3:=isAgg3
 z3:=sizeOf3
 v3:=zeroValue3
 t4:=underlying4
 a4:=isAgg4
 z4:=sizeOf4
 v4:=zeroValue4
 t5:=underlying5
 a5:=isAgg5
 z5:=sizeOf5
 v5:=zeroValue5
 t9:=underlying9
 a9:=isAgg9
 z9:=sizeOf9
 v9:=zeroValue9
 t37:=underlying54
 a37:=isAgg54
 z37:=sizeOf54
 v37:=zeroValue54
 t51:=underlying270
 a51:=isAgg270
 z51:=sizeOf270
 v51:=zeroValue270
 t53:=underlying26
 a53:=isAgg26
 z53:=sizeOf26
 v53:=zeroValue26 }
theorem jHZ (i:Nat) (h:i<100) (w:World) :
  Calls prog 176 #[.int .i64 i] w (fun e w'=>e=.returned (.string ⟨(Lib.decDigits i).toArray⟩)∧w'=w):=Any.internal_strconv_small jMB i h w
theorem jAH (u : Nat) (h1 : 1 ≤ u) (h2 : u < 18446744073709551616) (w : World) (ht : Lib.TabIs prog w "internal/strconv.uint64pow10" .u64 Lib.pow10Tab) :
  Calls prog 177 #[.int .u64 u] w (fun e w'=>e=.returned (.int .i64 (Lib.nDigits u))∧w'=w):=Any.internal_strconv_numDigits jJY u h1 h2 w ht
theorem jFQ (b off cap:Nat) (u:Nat) (d:Array UInt8) (w:World) (hH:Sort.Holds (fun (b:UInt8)=>Value.int .u8 (b.toNat:Int)) w b off d) (hu:u<10 ^ d.size) (h2:u<18446744073709551616) (hs:d.size<4611686018427387904) :
  Calls prog 178 #[.slice (some ⟨b,off,none⟩) d.size cap,.int .u64 u] w (fun e w' =>
   e=.returned (.tuple #[])∧∃(n v':Nat) (dk:Array UInt8),w'=(Sort.putRow (fun (b:UInt8)=>Value.int .u8 (b.toNat:Int)) w b off dk).drewN n∧Lib.FmtInv d.size u 0 v' dk):=Any.internal_strconv_formatBase10 jMA b off cap u d w hH hu h2 hs
end Go.Proofs
end
