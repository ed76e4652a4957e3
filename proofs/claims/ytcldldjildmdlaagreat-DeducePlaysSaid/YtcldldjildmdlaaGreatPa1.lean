import Derived.Test.YtcldldjildmdlaaGreatProg
import Derived.WalkKit
import Derived.Shelf.SortG.Plain
import Derived.Shelf.SortG.SortNone
section
namespace Go.Proofs
open Tryz
open Go.Shelf
def jBQ:Go.Shelf.Ren:=⟨fun | 53=>140 | 64=>155 | 63=>154 | 78=>166 | 79=>167 | 70=>157 | 71=>158 | 72=>159 | 73=>160 | 74=>161 | 75=>162 | 59=>163 | 76=>164 | 77=>165 | 88=>168 | 89=>169 | 90=>170 | 91=>171 | 92=>172 | 68=>173 | 96=>174 | n=>n,fun | 22=>52 | 23=>30 | 3=>3 | 51=>194 | 0=>0 | 67=>216 | 69=>47 | 4=>4 | 61=>209 | 60=>208 | 44=>155 | 5=>5 | 9=>9 | 75=>217 | 79=>122 | 83=>221 | 84=>222 | n=>n,fun | n=>n⟩
theorem sortT:Go.Proofs.SlLaysN.n53 prog jBQ:={
 mixed:=by kernel_rfl
 f53:=⟨f140.name,by decide,func140.trans (congrArg some (by kernel_rfl))⟩
 f59:=⟨f163.name,by decide,func163.trans (congrArg some (by kernel_rfl))⟩
 f63:=⟨f154.name,by decide,func154.trans (congrArg some (by kernel_rfl))⟩
 f64:=func155.trans (congrArg some (by kernel_rfl))
 f68:=⟨f173.name,by decide,func173.trans (congrArg some (by kernel_rfl))⟩
 f70:=⟨f157.name,by decide,func157.trans (congrArg some (by kernel_rfl))⟩
 f71:=⟨f158.name,by decide,func158.trans (congrArg some (by kernel_rfl))⟩
 f72:=⟨f159.name,by decide,func159.trans (congrArg some (by kernel_rfl))⟩
 f73:=⟨f160.name,by decide,func160.trans (congrArg some (by kernel_rfl))⟩
 f74:=⟨f161.name,by decide,func161.trans (congrArg some (by kernel_rfl))⟩
 f75:=⟨f162.name,by decide,func162.trans (congrArg some (by kernel_rfl))⟩
 f76:=⟨f164.name,by decide,func164.trans (congrArg some (by kernel_rfl))⟩
 f77:=⟨f165.name,by decide,func165.trans (congrArg some (by kernel_rfl))⟩
 f78:=func166.trans (congrArg some (by kernel_rfl))
 f79:=func167.trans (congrArg some (by kernel_rfl))
 f88:=⟨f168.name,by decide,func168.trans (congrArg some (by kernel_rfl))⟩
 f89:=func169.trans (congrArg some (by kernel_rfl))
 f90:=func170.trans (congrArg some (by kernel_rfl))
 f91:=⟨f171.name,by decide,func171.trans (congrArg some (by kernel_rfl))⟩
 f92:=⟨f172.name,by decide,func172.trans (congrArg some (by kernel_rfl))⟩
 f96:=⟨f174.name,by decide,func174.trans (congrArg some (by kernel_rfl))⟩
 t0:=underlying0
 a0:=isAgg0
 z0:=sizeOf0
 v0:=zeroValue0
 t3:=underlying3
 a3:=isAgg3
 z3:=sizeOf3
 v3:=zeroValue3
 t4:=underlying4
 a4:=isAgg4
 z4:=sizeOf4
 v4:=zeroValue4
 t5:=underlying5
 a5:=isAgg5
 z5:=sizeOf5
 v5:=zeroValue5
 t9:=underlying9
 a9:=isAgg9
 z9:=sizeOf9
 v9:=zeroValue9
 t22:=underlying52
 a22:=isAgg52
 z22:=sizeOf52
 v22:=zeroValue52
 t23:=underlying30
 a23:=isAgg30
 z23:=sizeOf30
 v23:=zeroValue30
 t44:=underlying155
 a44:=isAgg155
 z44:=sizeOf155
 v44:=zeroValue155
 t51:=underlying194
 a51:=isAgg194
 z51:=sizeOf194
 v51:=zeroValue194
 t60:=underlying208
 a60:=isAgg208
 z60:=sizeOf208
 v60:=zeroValue208
 t61:=underlying209
 a61:=isAgg209
 z61:=sizeOf209
 v61:=zeroValue209
 t67:=underlying216
 a67:=isAgg216
 z67:=sizeOf216
 v67:=zeroValue216
 t69:=underlying47
 a69:=isAgg47
 z69:=sizeOf47
 v69:=zeroValue47
 t75:=underlying217
 a75:=isAgg217
 z75:=sizeOf217
 v75:=zeroValue217
 t79:=underlying122
 a79:=isAgg122
 z79:=sizeOf122
 v79:=zeroValue122
 t83:=underlying221
 a83:=isAgg221
 z83:=sizeOf221
 v83:=zeroValue221
 t84:=underlying222
 a84:=isAgg222
 z84:=sizeOf222
 v84:=zeroValue222 }
end Go.Proofs
end
