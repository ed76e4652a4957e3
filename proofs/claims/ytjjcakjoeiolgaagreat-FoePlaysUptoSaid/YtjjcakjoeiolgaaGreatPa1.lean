import Derived.Test.YtjjcakjoeiolgaaGreatProg
import Derived.WalkKit
import Derived.Shelf.SortG.Plain
import Derived.Shelf.SortG.SortNone
set_option linter.defProp false
set_option linter.unusedVariables false
set_option linter.unusedSimpArgs false
section
namespace Go.Proofs
open Tryz
open Go.Shelf
def jYL:Go.Shelf.Ren:=⟨fun|54=>88|64=>144|65=>148|78=>198|79=>199|80=>200|81=>201|82=>202|83=>203|84=>204|85=>205|61=>206|86=>207|87=>208|93=>283|89=>279|90=>280|94=>284|95=>285|69=>147|97=>307|n=>n,fun|25=>79|26=>9|3=>3|51=>220|0=>0|67=>286|69=>23|4=>4|61=>280|60=>279|44=>234|5=>5|9=>9|75=>326|79=>194|83=>343|84=>344|n=>n,fun|n=>n⟩
def SF:Go.Proofs.SlLaysN.n54 prog jYL:={
 mixed:=by kernel_rfl
 f54:=⟨f88.name,by decide,func88.trans<|congrArg some<|by kernel_rfl⟩
 f61:=⟨f206.name,by decide,func206.trans<|congrArg some<|by kernel_rfl⟩
 f64:=func144.trans<|congrArg some (by kernel_rfl)
 f65:=⟨f148.name,by decide,func148.trans<|congrArg some<|by kernel_rfl⟩
 f69:=⟨f147.name,by decide,func147.trans<|congrArg some<|by kernel_rfl⟩
 f78:=func198.trans<|congrArg some (by kernel_rfl)
 f79:=func199.trans<|congrArg some (by kernel_rfl)
 f80:=⟨f200.name,by decide,func200.trans<|congrArg some<|by kernel_rfl⟩
 f81:=⟨f201.name,by decide,func201.trans<|congrArg some<|by kernel_rfl⟩
 f82:=⟨f202.name,by decide,func202.trans<|congrArg some<|by kernel_rfl⟩
 f83:=⟨f203.name,by decide,func203.trans<|congrArg some<|by kernel_rfl⟩
 f84:=⟨f204.name,by decide,func204.trans<|congrArg some<|by kernel_rfl⟩
 f85:=⟨f205.name,by decide,func205.trans<|congrArg some<|by kernel_rfl⟩
 f86:=⟨f207.name,by decide,func207.trans<|congrArg some<|by kernel_rfl⟩
 f87:=⟨f208.name,by decide,func208.trans<|congrArg some<|by kernel_rfl⟩
 f89:=func279.trans<|congrArg some (by kernel_rfl)
 f90:=func280.trans<|congrArg some (by kernel_rfl)
 f93:=⟨f283.name,by decide,func283.trans<|congrArg some<|by kernel_rfl⟩
 f94:=⟨f284.name,by decide,func284.trans<|congrArg some<|by kernel_rfl⟩
 f95:=⟨f285.name,by decide,func285.trans<|congrArg some<|by kernel_rfl⟩
 f97:=⟨f307.name,by decide,func307.trans<|congrArg some<|by kernel_rfl⟩
 t0:=underlying0
 a0:=isAgg0
 z0:=sizeOf0
 v0:=zeroValue0
 t3:=underlying3
 a3:=isAgg3
 z3:=sizeOf3
 v3:=zeroValue3
 t4:=underlying4
 a4:=isAgg4
 z4:=sizeOf4
 v4:=zeroValue4
 t5:=underlying5
 a5:=isAgg5
 z5:=sizeOf5
 v5:=zeroValue5
 t9:=underlying9
 a9:=isAgg9
 z9:=sizeOf9
 v9:=zeroValue9
 t25:=underlying79
 a25:=isAgg79
 z25:=sizeOf79
 v25:=zeroValue79
 t26:=underlying9
 a26:=isAgg9
 z26:=sizeOf9
 v26:=zeroValue9
 t44:=underlying234
 a44:=isAgg234
 z44:=sizeOf234
 v44:=zeroValue234
 t51:=underlying220
 a51:=isAgg220
 z51:=sizeOf220
 v51:=zeroValue220
 t60:=underlying279
 a60:=isAgg279
 z60:=sizeOf279
 v60:=zeroValue279
 t61:=underlying280
 a61:=isAgg280
 z61:=sizeOf280
 v61:=zeroValue280
 t67:=underlying286
 a67:=isAgg286
 z67:=sizeOf286
 v67:=zeroValue286
 t69:=underlying23
 a69:=isAgg23
 z69:=sizeOf23
 v69:=zeroValue23
 t75:=underlying326
 a75:=isAgg326
 z75:=sizeOf326
 v75:=zeroValue326
 t79:=underlying194
 a79:=isAgg194
 z79:=sizeOf194
 v79:=zeroValue194
 t83:=underlying343
 a83:=isAgg343
 z83:=sizeOf343
 v83:=zeroValue343
 t84:=underlying344
 a84:=isAgg344
 z84:=sizeOf344
 v84:=zeroValue344 }
end Go.Proofs
end
