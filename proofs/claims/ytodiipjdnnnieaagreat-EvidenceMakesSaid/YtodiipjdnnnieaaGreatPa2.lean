import Derived.Test.YtodiipjdnnnieaaGreatProg
import Derived.WalkKit
import Derived.Shelf.SlSortCmp.NoneTotal
section
namespace Go.Proofs
open Tryz
open Go.Shelf
def jLX:Go.Shelf.Ren:=⟨fun | 6=>81 | 15=>155 | 14=>154 | 28=>217 | 29=>218 | 20=>209 | 21=>210 | 22=>211 | 23=>212 | 24=>213 | 25=>214 | 26=>215 | 27=>216 | 46=>285 | 47=>286 | 48=>287 | 49=>288 | 50=>289 | 57=>317 | n=>n,fun | 22=>71 | 24=>75 | 25=>76 | 3=>3 | 39=>242 | 0=>0 | 53=>322 | 55=>23 | 4=>4 | 46=>316 | 45=>315 | 50=>280 | 5=>5 | 9=>9 | 66=>351 | 70=>230 | 76=>373 | 77=>374 | n=>n,fun | n=>n⟩
theorem sortF:Go.Proofs.SlLaysF0.n6 prog jLX:={
 mixed:=by kernel_rfl
 f6:=⟨f81.name,by decide,func81.trans (congrArg some (by kernel_rfl))⟩
 f14:=⟨f154.name,by decide,func154.trans (congrArg some (by kernel_rfl))⟩
 f15:=func155.trans (congrArg some (by kernel_rfl))
 f20:=⟨f209.name,by decide,func209.trans (congrArg some (by kernel_rfl))⟩
 f21:=⟨f210.name,by decide,func210.trans (congrArg some (by kernel_rfl))⟩
 f22:=⟨f211.name,by decide,func211.trans (congrArg some (by kernel_rfl))⟩
 f23:=⟨f212.name,by decide,func212.trans (congrArg some (by kernel_rfl))⟩
 f24:=⟨f213.name,by decide,func213.trans (congrArg some (by kernel_rfl))⟩
 f25:=⟨f214.name,by decide,func214.trans (congrArg some (by kernel_rfl))⟩
 f26:=⟨f215.name,by decide,func215.trans (congrArg some (by kernel_rfl))⟩
 f27:=⟨f216.name,by decide,func216.trans (congrArg some (by kernel_rfl))⟩
 f28:=func217.trans (congrArg some (by kernel_rfl))
 f29:=func218.trans (congrArg some (by kernel_rfl))
 f46:=⟨f285.name,by decide,func285.trans (congrArg some (by kernel_rfl))⟩
 f47:=func286.trans (congrArg some (by kernel_rfl))
 f48:=func287.trans (congrArg some (by kernel_rfl))
 f49:=⟨f288.name,by decide,func288.trans (congrArg some (by kernel_rfl))⟩
 f50:=⟨f289.name,by decide,func289.trans (congrArg some (by kernel_rfl))⟩
 f57:=⟨f317.name,by decide,func317.trans (congrArg some (by kernel_rfl))⟩
 t0:=underlying0
 a0:=isAgg0
 z0:=sizeOf0
 v0:=zeroValue0
 t3:=underlying3
 a3:=isAgg3
 z3:=sizeOf3
 v3:=zeroValue3
 t4:=underlying4
 a4:=isAgg4
 z4:=sizeOf4
 v4:=zeroValue4
 t5:=underlying5
 a5:=isAgg5
 z5:=sizeOf5
 v5:=zeroValue5
 t9:=underlying9
 a9:=isAgg9
 z9:=sizeOf9
 v9:=zeroValue9
 t22:=underlying71
 a22:=isAgg71
 z22:=sizeOf71
 v22:=zeroValue71
 t25:=underlying76
 a25:=isAgg76
 z25:=sizeOf76
 v25:=zeroValue76
 t39:=underlying242
 a39:=isAgg242
 z39:=sizeOf242
 v39:=zeroValue242
 t45:=underlying315
 a45:=isAgg315
 z45:=sizeOf315
 v45:=zeroValue315
 t46:=underlying316
 a46:=isAgg316
 z46:=sizeOf316
 v46:=zeroValue316
 t50:=underlying280
 a50:=isAgg280
 z50:=sizeOf280
 v50:=zeroValue280
 t53:=underlying322
 a53:=isAgg322
 z53:=sizeOf322
 v53:=zeroValue322
 t55:=underlying23
 a55:=isAgg23
 z55:=sizeOf23
 v55:=zeroValue23
 t66:=underlying351
 a66:=isAgg351
 z66:=sizeOf351
 v66:=zeroValue351
 t70:=underlying230
 a70:=isAgg230
 z70:=sizeOf230
 v70:=zeroValue230
 t76:=underlying373
 a76:=isAgg373
 z76:=sizeOf373
 v76:=zeroValue373
 t77:=underlying374
 a77:=isAgg374
 z77:=sizeOf374
 v77:=zeroValue374 }
end Go.Proofs
end
