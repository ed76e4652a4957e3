import Derived.Test.YtjjcakjoeiolgaaGreatProg
import Derived.WalkKit
import Derived.Shelf.SortG.Plain
import Derived.Shelf.SortG.SortNone
set_option linter.defProp false
set_option linter.unusedVariables false
set_option linter.unusedSimpArgs false
section
namespace Go.Proofs
open Tryz
open Go.Shelf
def zBH:Go.Shelf.Ren:=⟨fun|53=>187|64=>144|63=>277|78=>198|79=>199|70=>297|71=>298|72=>299|73=>300|74=>301|75=>302|59=>303|76=>304|77=>305|88=>309|89=>279|90=>280|91=>310|92=>311|68=>312|96=>313|n=>n,fun|22=>46|23=>73|3=>3|51=>220|0=>0|67=>286|69=>23|4=>4|61=>280|60=>279|44=>234|5=>5|9=>9|75=>326|79=>194|83=>343|84=>344|n=>n,fun|n=>n⟩
def PH:Go.Proofs.SlLaysN.n53 prog zBH:={
 mixed:=by kernel_rfl
 f53:=⟨f187.name,by decide,func187.trans<|congrArg some<|by kernel_rfl⟩
 f59:=⟨f303.name,by decide,func303.trans<|congrArg some<|by kernel_rfl⟩
 f63:=⟨f277.name,by decide,func277.trans<|congrArg some<|by kernel_rfl⟩
 f64:=func144.trans<|congrArg some (by kernel_rfl)
 f68:=⟨f312.name,by decide,func312.trans<|congrArg some<|by kernel_rfl⟩
 f70:=⟨f297.name,by decide,func297.trans<|congrArg some<|by kernel_rfl⟩
 f71:=⟨f298.name,by decide,func298.trans<|congrArg some<|by kernel_rfl⟩
 f72:=⟨f299.name,by decide,func299.trans<|congrArg some<|by kernel_rfl⟩
 f73:=⟨f300.name,by decide,func300.trans<|congrArg some<|by kernel_rfl⟩
 f74:=⟨f301.name,by decide,func301.trans<|congrArg some<|by kernel_rfl⟩
 f75:=⟨f302.name,by decide,func302.trans<|congrArg some<|by kernel_rfl⟩
 f76:=⟨f304.name,by decide,func304.trans<|congrArg some<|by kernel_rfl⟩
 f77:=⟨f305.name,by decide,func305.trans<|congrArg some<|by kernel_rfl⟩
 f78:=func198.trans<|congrArg some (by kernel_rfl)
 f79:=func199.trans<|congrArg some (by kernel_rfl)
 f88:=⟨f309.name,by decide,func309.trans<|congrArg some<|by kernel_rfl⟩
 f89:=func279.trans<|congrArg some (by kernel_rfl)
 f90:=func280.trans<|congrArg some (by kernel_rfl)
 f91:=⟨f310.name,by decide,func310.trans<|congrArg some<|by kernel_rfl⟩
 f92:=⟨f311.name,by decide,func311.trans<|congrArg some<|by kernel_rfl⟩
 f96:=⟨f313.name,by decide,func313.trans<|congrArg some<|by kernel_rfl⟩
 t0:=underlying0
 a0:=isAgg0
 z0:=sizeOf0
 v0:=zeroValue0
 t3:=underlying3
 a3:=isAgg3
 z3:=sizeOf3
 v3:=zeroValue3
 t4:=underlying4
 a4:=isAgg4
 z4:=sizeOf4
 v4:=zeroValue4
 t5:=underlying5
 a5:=isAgg5
 z5:=sizeOf5
 v5:=zeroValue5
 t9:=underlying9
 a9:=isAgg9
 z9:=sizeOf9
 v9:=zeroValue9
 t22:=underlying46
 a22:=isAgg46
 z22:=sizeOf46
 v22:=zeroValue46
 t23:=underlying73
 a23:=isAgg73
 z23:=sizeOf73
 v23:=zeroValue73
 t44:=underlying234
 a44:=isAgg234
 z44:=sizeOf234
 v44:=zeroValue234
 t51:=underlying220
 a51:=isAgg220
 z51:=sizeOf220
 v51:=zeroValue220
 t60:=underlying279
 a60:=isAgg279
 z60:=sizeOf279
 v60:=zeroValue279
 t61:=underlying280
 a61:=isAgg280
 z61:=sizeOf280
 v61:=zeroValue280
 t67:=underlying286
 a67:=isAgg286
 z67:=sizeOf286
 v67:=zeroValue286
 t69:=underlying23
 a69:=isAgg23
 z69:=sizeOf23
 v69:=zeroValue23
 t75:=underlying326
 a75:=isAgg326
 z75:=sizeOf326
 v75:=zeroValue326
 t79:=underlying194
 a79:=isAgg194
 z79:=sizeOf194
 v79:=zeroValue194
 t83:=underlying343
 a83:=isAgg343
 z83:=sizeOf343
 v83:=zeroValue343
 t84:=underlying344
 a84:=isAgg344
 z84:=sizeOf344
 v84:=zeroValue344 }
end Go.Proofs
end
