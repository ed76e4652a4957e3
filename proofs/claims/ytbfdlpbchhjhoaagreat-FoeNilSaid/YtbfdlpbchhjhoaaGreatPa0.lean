import Derived.Test.YtbfdlpbchhjhoaaGreatProg
import Derived.WalkKit
import Derived.Shelf.SortG.Plain
import Derived.Shelf.SortG.SortNone
section
namespace Go.Proofs
open Go.Shelf
def Tryz.sortSt_ren:Go.Shelf.Ren:=⟨fun | 54=>92 | 64=>147 | 65=>151 | 78=>200 | 79=>201 | 80=>202 | 81=>203 | 82=>204 | 83=>205 | 84=>206 | 85=>207 | 61=>208 | 86=>209 | 87=>210 | 93=>285 | 89=>281 | 90=>282 | 94=>286 | 95=>287 | 69=>150 | 97=>309 | n=>n,fun | 25=>82 | 26=>9 | 3=>3 | 51=>223 | 0=>0 | 67=>288 | 69=>23 | 4=>4 | 61=>282 | 60=>281 | 44=>248 | 5=>5 | 9=>9 | 75=>328 | 79=>204 | 83=>345 | 84=>346 | n=>n,fun | n=>n⟩
theorem Tryz.sortSt:Go.Proofs.SlLaysN.n54 Tryz.prog Tryz.sortSt_ren:={
 mixed:=by kernel_rfl
 f54:=⟨Tryz.f92.name,by decide,Tryz.func92.trans (congrArg some (by kernel_rfl))⟩
 f61:=⟨Tryz.f208.name,by decide,Tryz.func208.trans (congrArg some (by kernel_rfl))⟩
 f64:=Tryz.func147.trans (congrArg some (by kernel_rfl))
 f65:=⟨Tryz.f151.name,by decide,Tryz.func151.trans (congrArg some (by kernel_rfl))⟩
 f69:=⟨Tryz.f150.name,by decide,Tryz.func150.trans (congrArg some (by kernel_rfl))⟩
 f78:=Tryz.func200.trans (congrArg some (by kernel_rfl))
 f79:=Tryz.func201.trans (congrArg some (by kernel_rfl))
 f80:=⟨Tryz.f202.name,by decide,Tryz.func202.trans (congrArg some (by kernel_rfl))⟩
 f81:=⟨Tryz.f203.name,by decide,Tryz.func203.trans (congrArg some (by kernel_rfl))⟩
 f82:=⟨Tryz.f204.name,by decide,Tryz.func204.trans (congrArg some (by kernel_rfl))⟩
 f83:=⟨Tryz.f205.name,by decide,Tryz.func205.trans (congrArg some (by kernel_rfl))⟩
 f84:=⟨Tryz.f206.name,by decide,Tryz.func206.trans (congrArg some (by kernel_rfl))⟩
 f85:=⟨Tryz.f207.name,by decide,Tryz.func207.trans (congrArg some (by kernel_rfl))⟩
 f86:=⟨Tryz.f209.name,by decide,Tryz.func209.trans (congrArg some (by kernel_rfl))⟩
 f87:=⟨Tryz.f210.name,by decide,Tryz.func210.trans (congrArg some (by kernel_rfl))⟩
 f89:=Tryz.func281.trans (congrArg some (by kernel_rfl))
 f90:=Tryz.func282.trans (congrArg some (by kernel_rfl))
 f93:=⟨Tryz.f285.name,by decide,Tryz.func285.trans (congrArg some (by kernel_rfl))⟩
 f94:=⟨Tryz.f286.name,by decide,Tryz.func286.trans (congrArg some (by kernel_rfl))⟩
 f95:=⟨Tryz.f287.name,by decide,Tryz.func287.trans (congrArg some (by kernel_rfl))⟩
 f97:=⟨Tryz.f309.name,by decide,Tryz.func309.trans (congrArg some (by kernel_rfl))⟩
 t0:=Tryz.underlying0
 a0:=Tryz.isAgg0
 z0:=Tryz.sizeOf0
 v0:=Tryz.zeroValue0
 t3:=Tryz.underlying3
 a3:=Tryz.isAgg3
 z3:=Tryz.sizeOf3
 v3:=Tryz.zeroValue3
 t4:=Tryz.underlying4
 a4:=Tryz.isAgg4
 z4:=Tryz.sizeOf4
 v4:=Tryz.zeroValue4
 t5:=Tryz.underlying5
 a5:=Tryz.isAgg5
 z5:=Tryz.sizeOf5
 v5:=Tryz.zeroValue5
 t9:=Tryz.underlying9
 a9:=Tryz.isAgg9
 z9:=Tryz.sizeOf9
 v9:=Tryz.zeroValue9
 t25:=Tryz.underlying82
 a25:=Tryz.isAgg82
 z25:=Tryz.sizeOf82
 v25:=Tryz.zeroValue82
 t26:=Tryz.underlying9
 a26:=Tryz.isAgg9
 z26:=Tryz.sizeOf9
 v26:=Tryz.zeroValue9
 t44:=Tryz.underlying248
 a44:=Tryz.isAgg248
 z44:=Tryz.sizeOf248
 v44:=Tryz.zeroValue248
 t51:=Tryz.underlying223
 a51:=Tryz.isAgg223
 z51:=Tryz.sizeOf223
 v51:=Tryz.zeroValue223
 t60:=Tryz.underlying281
 a60:=Tryz.isAgg281
 z60:=Tryz.sizeOf281
 v60:=Tryz.zeroValue281
 t61:=Tryz.underlying282
 a61:=Tryz.isAgg282
 z61:=Tryz.sizeOf282
 v61:=Tryz.zeroValue282
 t67:=Tryz.underlying288
 a67:=Tryz.isAgg288
 z67:=Tryz.sizeOf288
 v67:=Tryz.zeroValue288
 t69:=Tryz.underlying23
 a69:=Tryz.isAgg23
 z69:=Tryz.sizeOf23
 v69:=Tryz.zeroValue23
 t75:=Tryz.underlying328
 a75:=Tryz.isAgg328
 z75:=Tryz.sizeOf328
 v75:=Tryz.zeroValue328
 t79:=Tryz.underlying204
 a79:=Tryz.isAgg204
 z79:=Tryz.sizeOf204
 v79:=Tryz.zeroValue204
 t83:=Tryz.underlying345
 a83:=Tryz.isAgg345
 z83:=Tryz.sizeOf345
 v83:=Tryz.zeroValue345
 t84:=Tryz.underlying346
 a84:=Tryz.isAgg346
 z84:=Tryz.sizeOf346
 v84:=Tryz.zeroValue346 }
end Go.Proofs
end
