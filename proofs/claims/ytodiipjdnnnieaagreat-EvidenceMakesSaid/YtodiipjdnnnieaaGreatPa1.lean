import Derived.Test.YtodiipjdnnnieaaGreatProg
import Derived.WalkKit
import Derived.Shelf.SortG.Plain
import Derived.Shelf.SortG.SortNone
section
namespace Go.Proofs
open Tryz
open Go.Shelf
def jLW:Go.Shelf.Ren:=⟨fun | 53=>207 | 64=>155 | 63=>284 | 78=>217 | 79=>218 | 70=>308 | 71=>309 | 72=>310 | 73=>311 | 74=>312 | 75=>313 | 59=>314 | 76=>315 | 77=>316 | 88=>322 | 89=>286 | 90=>287 | 91=>323 | 92=>324 | 68=>325 | 96=>326 | n=>n,fun | 22=>46 | 23=>78 | 3=>3 | 51=>242 | 0=>0 | 67=>322 | 69=>23 | 4=>4 | 61=>316 | 60=>315 | 44=>280 | 5=>5 | 9=>9 | 75=>351 | 79=>230 | 83=>373 | 84=>374 | n=>n,fun | n=>n⟩
theorem sortT:Go.Proofs.SlLaysN.n53 prog jLW:={
 mixed:=by kernel_rfl
 f53:=⟨f207.name,by decide,func207.trans (congrArg some (by kernel_rfl))⟩
 f59:=⟨f314.name,by decide,func314.trans (congrArg some (by kernel_rfl))⟩
 f63:=⟨f284.name,by decide,func284.trans (congrArg some (by kernel_rfl))⟩
 f64:=func155.trans (congrArg some (by kernel_rfl))
 f68:=⟨f325.name,by decide,func325.trans (congrArg some (by kernel_rfl))⟩
 f70:=⟨f308.name,by decide,func308.trans (congrArg some (by kernel_rfl))⟩
 f71:=⟨f309.name,by decide,func309.trans (congrArg some (by kernel_rfl))⟩
 f72:=⟨f310.name,by decide,func310.trans (congrArg some (by kernel_rfl))⟩
 f73:=⟨f311.name,by decide,func311.trans (congrArg some (by kernel_rfl))⟩
 f74:=⟨f312.name,by decide,func312.trans (congrArg some (by kernel_rfl))⟩
 f75:=⟨f313.name,by decide,func313.trans (congrArg some (by kernel_rfl))⟩
 f76:=⟨f315.name,by decide,func315.trans (congrArg some (by kernel_rfl))⟩
 f77:=⟨f316.name,by decide,func316.trans (congrArg some (by kernel_rfl))⟩
 f78:=func217.trans (congrArg some (by kernel_rfl))
 f79:=func218.trans (congrArg some (by kernel_rfl))
 f88:=⟨f322.name,by decide,func322.trans (congrArg some (by kernel_rfl))⟩
 f89:=func286.trans (congrArg some (by kernel_rfl))
 f90:=func287.trans (congrArg some (by kernel_rfl))
 f91:=⟨f323.name,by decide,func323.trans (congrArg some (by kernel_rfl))⟩
 f92:=⟨f324.name,by decide,func324.trans (congrArg some (by kernel_rfl))⟩
 f96:=⟨f326.name,by decide,func326.trans (congrArg some (by kernel_rfl))⟩
 t0:=underlying0
 a0:=isAgg0
 z0:=sizeOf0
 v0:=zeroValue0
 t3:=underlying3
 a3:=isAgg3
 z3:=sizeOf3
 v3:=zeroValue3
 t4:=underlying4
 a4:=isAgg4
 z4:=sizeOf4
 v4:=zeroValue4
 t5:=underlying5
 a5:=isAgg5
 z5:=sizeOf5
 v5:=zeroValue5
 t9:=underlying9
 a9:=isAgg9
 z9:=sizeOf9
 v9:=zeroValue9
 t22:=underlying46
 a22:=isAgg46
 z22:=sizeOf46
 v22:=zeroValue46
 t23:=underlying78
 a23:=isAgg78
 z23:=sizeOf78
 v23:=zeroValue78
 t44:=underlying280
 a44:=isAgg280
 z44:=sizeOf280
 v44:=zeroValue280
 t51:=underlying242
 a51:=isAgg242
 z51:=sizeOf242
 v51:=zeroValue242
 t60:=underlying315
 a60:=isAgg315
 z60:=sizeOf315
 v60:=zeroValue315
 t61:=underlying316
 a61:=isAgg316
 z61:=sizeOf316
 v61:=zeroValue316
 t67:=underlying322
 a67:=isAgg322
 z67:=sizeOf322
 v67:=zeroValue322
 t69:=underlying23
 a69:=isAgg23
 z69:=sizeOf23
 v69:=zeroValue23
 t75:=underlying351
 a75:=isAgg351
 z75:=sizeOf351
 v75:=zeroValue351
 t79:=underlying230
 a79:=isAgg230
 z79:=sizeOf230
 v79:=zeroValue230
 t83:=underlying373
 a83:=isAgg373
 z83:=sizeOf373
 v83:=zeroValue373
 t84:=underlying374
 a84:=isAgg374
 z84:=sizeOf374
 v84:=zeroValue374 }
end Go.Proofs
end
