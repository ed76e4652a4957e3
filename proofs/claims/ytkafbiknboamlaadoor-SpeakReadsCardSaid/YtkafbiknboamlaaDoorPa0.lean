import Derived.Test.YtkafbiknboamlaaDoorProg
import Derived.WalkKit
import Derived.Shelf.Strconv.Itoa3
import Derived.Ground.NamesProg
section
namespace Go.Proofs
open Tryd
open Go.Shelf
def tS:Go.Shelf.Ren:=⟨fun | 283=>76 | n=>n,fun | 3=>3 | 9=>9 | 4=>4 | n=>n,fun | n=>n⟩
theorem jGR:Go.Proofs.Lays.n283 prog tS:={
 mixed:=by kernel_rfl
 f283:=func76.trans (congrArg some (by kernel_rfl))
 t3:=underlying3
 a3:=isAgg3
 z3:=sizeOf3
 v3:=zeroValue3
 t4:=underlying4
 a4:=isAgg4
 z4:=sizeOf4
 v4:=zeroValue4
 t9:=underlying9
 a9:=isAgg9
 z9:=sizeOf9
 v9:=zeroValue9 }
def oN:Go.Shelf.Ren:=⟨fun | 284=>77 | 129=>88 | 317=>87 | 318=>89 | n=>n,fun | 53=>22 | 3=>3 | 212=>133 | 0=>0 | 4=>4 | 46=>97 | 5=>5 | 9=>9 | n=>n,fun | 17=>0 | n=>n⟩
theorem jEP:Go.Proofs.LaysM.n284 prog oN:={
 mixed:=by kernel_rfl
 f129:=func88.trans (congrArg some (by kernel_rfl))
 f284:=func77.trans (congrArg some (by kernel_rfl))
 f317:=func87.trans (congrArg some (by kernel_rfl))
 f318:=func89.trans (congrArg some (by kernel_rfl))
 t0:=underlying0
 a0:=isAgg0
 z0:=sizeOf0
 v0:=zeroValue0
 t3:=underlying3
 a3:=isAgg3
 z3:=sizeOf3
 v3:=zeroValue3
 t4:=underlying4
 a4:=isAgg4
 z4:=sizeOf4
 v4:=zeroValue4
 t5:=underlying5
 a5:=isAgg5
 z5:=sizeOf5
 v5:=zeroValue5
 t9:=underlying9
 a9:=isAgg9
 z9:=sizeOf9
 v9:=zeroValue9
 t46:=underlying97
 a46:=isAgg97
 z46:=sizeOf97
 v46:=zeroValue97
 t53:=underlying22
 a53:=isAgg22
 z53:=sizeOf22
 v53:=zeroValue22
 t212:=underlying133
 a212:=isAgg133
 z212:=sizeOf133
 v212:=zeroValue133
 g17:=by kernel_rfl
 i0:=by kernel_rfl
 i3:=by kernel_rfl
 i4:=by kernel_rfl
 i5:=by kernel_rfl
 i9:=by kernel_rfl
 i46:=by kernel_rfl
 i53:=by kernel_rfl
 i212:=by kernel_rfl
 m17:=by kernel_rfl }
def tR:Go.Shelf.Ren:=⟨fun | 285=>78 | n=>n,fun | 37=>49 | 53=>22 | 3=>3 | 4=>4 | 51=>134 | 9=>9 | 5=>5 | 0=>0 | n=>n,fun | n=>n⟩
theorem jGQ:Go.Proofs.Lays.n285 prog tR:={
 mixed:=by kernel_rfl
 f285:=func78.trans (congrArg some (by kernel_rfl))
 t0:=underlying0
 a0:=isAgg0
 z0:=sizeOf0
 v0:=zeroValue0
 t3:=underlying3
 a3:=isAgg3
 z3:=sizeOf3
 v3:=zeroValue3
 t4:=underlying4
 a4:=isAgg4
 z4:=sizeOf4
 v4:=zeroValue4
 t5:=underlying5
 a5:=isAgg5
 z5:=sizeOf5
 v5:=zeroValue5
 t9:=underlying9
 a9:=isAgg9
 z9:=sizeOf9
 v9:=zeroValue9
 t37:=underlying49
 a37:=isAgg49
 z37:=sizeOf49
 v37:=zeroValue49
 t51:=underlying134
 a51:=isAgg134
 z51:=sizeOf134
 v51:=zeroValue134
 t53:=underlying22
 a53:=isAgg22
 z53:=sizeOf22
 v53:=zeroValue22 }
theorem jCU (i:Nat) (h:i<100) (w:World) :
  Calls prog 76 #[.int .i64 i] w (fun e w'=>e=.returned (.string ⟨(Lib.decDigits i).toArray⟩)∧w'=w):=Any.internal_strconv_small jGR i h w
theorem lH (u : Nat) (h1 : 1 ≤ u) (h2 : u < 18446744073709551616) (w : World) (ht : Lib.TabIs prog w "internal/strconv.uint64pow10" .u64 Lib.pow10Tab) :
  Calls prog 77 #[.int .u64 u] w (fun e w'=>e=.returned (.int .i64 (Lib.nDigits u))∧w'=w):=Any.internal_strconv_numDigits jEP u h1 h2 w ht
theorem jBG (b off cap:Nat) (u:Nat) (d:Array UInt8) (w:World) (hH:Sort.Holds (fun (b:UInt8)=>Value.int .u8 (b.toNat:Int)) w b off d) (hu:u<10 ^ d.size) (h2:u<18446744073709551616) (hs:d.size<4611686018427387904) :
  Calls prog 78 #[.slice (some ⟨b,off,none⟩) d.size cap,.int .u64 u] w (fun e w' =>
   e=.returned (.tuple #[])∧∃(n v':Nat) (dk:Array UInt8),w'=(Sort.putRow (fun (b:UInt8)=>Value.int .u8 (b.toNat:Int)) w b off dk).drewN n∧Lib.FmtInv d.size u 0 v' dk):=Any.internal_strconv_formatBase10 jGQ b off cap u d w hH hu h2 hs
end Go.Proofs
end
