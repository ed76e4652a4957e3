import Derived.Test.YtodiipjdnnnieaaGreatProg
import Derived.WalkKit
import Derived.Shelf.SortG.Plain
import Derived.Shelf.SortG.SortNone
section
namespace Go.Proofs
open Go.Shelf
def Tryz.sortT_ren:Go.Shelf.Ren:=⟨fun | 53=>207 | 64=>155 | 63=>284 | 78=>217 | 79=>218 | 70=>308 | 71=>309 | 72=>310 | 73=>311 | 74=>312 | 75=>313 | 59=>314 | 76=>315 | 77=>316 | 88=>322 | 89=>286 | 90=>287 | 91=>323 | 92=>324 | 68=>325 | 96=>326 | n=>n,fun | 22=>46 | 23=>78 | 3=>3 | 51=>242 | 0=>0 | 67=>322 | 69=>23 | 4=>4 | 61=>316 | 60=>315 | 44=>280 | 5=>5 | 9=>9 | 75=>351 | 79=>230 | 83=>373 | 84=>374 | n=>n,fun | n=>n⟩
theorem Tryz.sortT:Go.Proofs.SlLaysN.n53 Tryz.prog Tryz.sortT_ren:={
 mixed:=by kernel_rfl
 f53:=⟨Tryz.f207.name,by decide,Tryz.func207.trans (congrArg some (by kernel_rfl))⟩
 f59:=⟨Tryz.f314.name,by decide,Tryz.func314.trans (congrArg some (by kernel_rfl))⟩
 f63:=⟨Tryz.f284.name,by decide,Tryz.func284.trans (congrArg some (by kernel_rfl))⟩
 f64:=Tryz.func155.trans (congrArg some (by kernel_rfl))
 f68:=⟨Tryz.f325.name,by decide,Tryz.func325.trans (congrArg some (by kernel_rfl))⟩
 f70:=⟨Tryz.f308.name,by decide,Tryz.func308.trans (congrArg some (by kernel_rfl))⟩
 f71:=⟨Tryz.f309.name,by decide,Tryz.func309.trans (congrArg some (by kernel_rfl))⟩
 f72:=⟨Tryz.f310.name,by decide,Tryz.func310.trans (congrArg some (by kernel_rfl))⟩
 f73:=⟨Tryz.f311.name,by decide,Tryz.func311.trans (congrArg some (by kernel_rfl))⟩
 f74:=⟨Tryz.f312.name,by decide,Tryz.func312.trans (congrArg some (by kernel_rfl))⟩
 f75:=⟨Tryz.f313.name,by decide,Tryz.func313.trans (congrArg some (by kernel_rfl))⟩
 f76:=⟨Tryz.f315.name,by decide,Tryz.func315.trans (congrArg some (by kernel_rfl))⟩
 f77:=⟨Tryz.f316.name,by decide,Tryz.func316.trans (congrArg some (by kernel_rfl))⟩
 f78:=Tryz.func217.trans (congrArg some (by kernel_rfl))
 f79:=Tryz.func218.trans (congrArg some (by kernel_rfl))
 f88:=⟨Tryz.f322.name,by decide,Tryz.func322.trans (congrArg some (by kernel_rfl))⟩
 f89:=Tryz.func286.trans (congrArg some (by kernel_rfl))
 f90:=Tryz.func287.trans (congrArg some (by kernel_rfl))
 f91:=⟨Tryz.f323.name,by decide,Tryz.func323.trans (congrArg some (by kernel_rfl))⟩
 f92:=⟨Tryz.f324.name,by decide,Tryz.func324.trans (congrArg some (by kernel_rfl))⟩
 f96:=⟨Tryz.f326.name,by decide,Tryz.func326.trans (congrArg some (by kernel_rfl))⟩
 t0:=Tryz.underlying0
 a0:=Tryz.isAgg0
 z0:=Tryz.sizeOf0
 v0:=Tryz.zeroValue0
 t3:=Tryz.underlying3
 a3:=Tryz.isAgg3
 z3:=Tryz.sizeOf3
 v3:=Tryz.zeroValue3
 t4:=Tryz.underlying4
 a4:=Tryz.isAgg4
 z4:=Tryz.sizeOf4
 v4:=Tryz.zeroValue4
 t5:=Tryz.underlying5
 a5:=Tryz.isAgg5
 z5:=Tryz.sizeOf5
 v5:=Tryz.zeroValue5
 t9:=Tryz.underlying9
 a9:=Tryz.isAgg9
 z9:=Tryz.sizeOf9
 v9:=Tryz.zeroValue9
 t22:=Tryz.underlying46
 a22:=Tryz.isAgg46
 z22:=Tryz.sizeOf46
 v22:=Tryz.zeroValue46
 t23:=Tryz.underlying78
 a23:=Tryz.isAgg78
 z23:=Tryz.sizeOf78
 v23:=Tryz.zeroValue78
 t44:=Tryz.underlying280
 a44:=Tryz.isAgg280
 z44:=Tryz.sizeOf280
 v44:=Tryz.zeroValue280
 t51:=Tryz.underlying242
 a51:=Tryz.isAgg242
 z51:=Tryz.sizeOf242
 v51:=Tryz.zeroValue242
 t60:=Tryz.underlying315
 a60:=Tryz.isAgg315
 z60:=Tryz.sizeOf315
 v60:=Tryz.zeroValue315
 t61:=Tryz.underlying316
 a61:=Tryz.isAgg316
 z61:=Tryz.sizeOf316
 v61:=Tryz.zeroValue316
 t67:=Tryz.underlying322
 a67:=Tryz.isAgg322
 z67:=Tryz.sizeOf322
 v67:=Tryz.zeroValue322
 t69:=Tryz.underlying23
 a69:=Tryz.isAgg23
 z69:=Tryz.sizeOf23
 v69:=Tryz.zeroValue23
 t75:=Tryz.underlying351
 a75:=Tryz.isAgg351
 z75:=Tryz.sizeOf351
 v75:=Tryz.zeroValue351
 t79:=Tryz.underlying230
 a79:=Tryz.isAgg230
 z79:=Tryz.sizeOf230
 v79:=Tryz.zeroValue230
 t83:=Tryz.underlying373
 a83:=Tryz.isAgg373
 z83:=Tryz.sizeOf373
 v83:=Tryz.zeroValue373
 t84:=Tryz.underlying374
 a84:=Tryz.isAgg374
 z84:=Tryz.sizeOf374
 v84:=Tryz.zeroValue374 }
end Go.Proofs
end
