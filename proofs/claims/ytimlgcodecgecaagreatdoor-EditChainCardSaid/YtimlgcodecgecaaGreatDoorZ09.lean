/-
  The contracts of the library functions at this translation, laid by the kit (lay-plain.mjs).
-/
import Derived.Shelf.SlSortCmp.WholeK
import Derived.Shelf.SlicesQ.IndexFunc
import Derived.Shelf.SlicesE.Clone
import Derived.Shelf.Utf8.RuneCount
import Derived.Shelf.Unicode.DecodeAny
import Derived.Shelf.Small.Strs
import Derived.Shelf.Strings.OnBuilder
import Derived.Test.YtimlgcodecgecaaGreatDoorZ05
import Derived.Shelf.SlSortCmp.NoneTotal
import Derived.Maps.AppendAt
import Derived.BigRegionIn
import Derived.Deep.DeepCutAuto
set_option maxRecDepth 100000
set_option maxHeartbeats 20000000
set_option linter.all false
namespace Go.Proofs
open Go.Shelf
def Tryz.sortRng_ren:Go.Shelf.Ren:=⟨fun|6=>178|15=>204|14=>229|28=>253|29=>254|20=>266|21=>267|22=>268|23=>269|24=>270|25=>271|26=>272|27=>273|46=>296|47=>285|48=>286|49=>297|50=>298|57=>317|n=>n,fun|22=>92|24=>154|25=>245|3=>3|39=>78|0=>0|53=>35|55=>43|4=>4|46=>304|45=>303|50=>182|5=>5|9=>9|66=>331|70=>334|76=>349|77=>188|n=>n,fun|n=>n⟩
theorem Tryz.sortRng:Go.Proofs.SlLaysF0.n6 Tryz.prog Tryz.sortRng_ren:={
 mixed:=by kernel_rfl
 f6:=⟨Tryz.f178.name,by decide,Tryz.func178.trans (congrArg some (by kernel_rfl))⟩
 f14:=⟨Tryz.f229.name,by decide,Tryz.func229.trans (congrArg some (by kernel_rfl))⟩
 f15:=Tryz.func204.trans (congrArg some (by kernel_rfl))
 f20:=⟨Tryz.f266.name,by decide,Tryz.func266.trans (congrArg some (by kernel_rfl))⟩
 f21:=⟨Tryz.f267.name,by decide,Tryz.func267.trans (congrArg some (by kernel_rfl))⟩
 f22:=⟨Tryz.f268.name,by decide,Tryz.func268.trans (congrArg some (by kernel_rfl))⟩
 f23:=⟨Tryz.f269.name,by decide,Tryz.func269.trans (congrArg some (by kernel_rfl))⟩
 f24:=⟨Tryz.f270.name,by decide,Tryz.func270.trans (congrArg some (by kernel_rfl))⟩
 f25:=⟨Tryz.f271.name,by decide,Tryz.func271.trans (congrArg some (by kernel_rfl))⟩
 f26:=⟨Tryz.f272.name,by decide,Tryz.func272.trans (congrArg some (by kernel_rfl))⟩
 f27:=⟨Tryz.f273.name,by decide,Tryz.func273.trans (congrArg some (by kernel_rfl))⟩
 f28:=Tryz.func253.trans (congrArg some (by kernel_rfl))
 f29:=Tryz.func254.trans (congrArg some (by kernel_rfl))
 f46:=⟨Tryz.f296.name,by decide,Tryz.func296.trans (congrArg some (by kernel_rfl))⟩
 f47:=Tryz.func285.trans (congrArg some (by kernel_rfl))
 f48:=Tryz.func286.trans (congrArg some (by kernel_rfl))
 f49:=⟨Tryz.f297.name,by decide,Tryz.func297.trans (congrArg some (by kernel_rfl))⟩
 f50:=⟨Tryz.f298.name,by decide,Tryz.func298.trans (congrArg some (by kernel_rfl))⟩
 f57:=⟨Tryz.f317.name,by decide,Tryz.func317.trans (congrArg some (by kernel_rfl))⟩
 t0:=Tryz.underlying0
 a0:=Tryz.isAgg0
 z0:=Tryz.sizeOf0
 v0:=Tryz.zeroValue0
 t3:=Tryz.underlying3
 a3:=Tryz.isAgg3
 z3:=Tryz.sizeOf3
 v3:=Tryz.zeroValue3
 t4:=Tryz.underlying4
 a4:=Tryz.isAgg4
 z4:=Tryz.sizeOf4
 v4:=Tryz.zeroValue4
 t5:=Tryz.underlying5
 a5:=Tryz.isAgg5
 z5:=Tryz.sizeOf5
 v5:=Tryz.zeroValue5
 t9:=Tryz.underlying9
 a9:=Tryz.isAgg9
 z9:=Tryz.sizeOf9
 v9:=Tryz.zeroValue9
 t22:=Tryz.underlying92
 a22:=Tryz.isAgg92
 z22:=Tryz.sizeOf92
 v22:=Tryz.zeroValue92
 t25:=Tryz.underlying245
 a25:=Tryz.isAgg245
 z25:=Tryz.sizeOf245
 v25:=Tryz.zeroValue245
 t39:=Tryz.underlying78
 a39:=Tryz.isAgg78
 z39:=Tryz.sizeOf78
 v39:=Tryz.zeroValue78
 t45:=Tryz.underlying303
 a45:=Tryz.isAgg303
 z45:=Tryz.sizeOf303
 v45:=Tryz.zeroValue303
 t46:=Tryz.underlying304
 a46:=Tryz.isAgg304
 z46:=Tryz.sizeOf304
 v46:=Tryz.zeroValue304
 t50:=Tryz.underlying182
 a50:=Tryz.isAgg182
 z50:=Tryz.sizeOf182
 v50:=Tryz.zeroValue182
 t53:=Tryz.underlying35
 a53:=Tryz.isAgg35
 z53:=Tryz.sizeOf35
 v53:=Tryz.zeroValue35
 t55:=Tryz.underlying43
 a55:=Tryz.isAgg43
 z55:=Tryz.sizeOf43
 v55:=Tryz.zeroValue43
 t66:=Tryz.underlying331
 a66:=Tryz.isAgg331
 z66:=Tryz.sizeOf331
 v66:=Tryz.zeroValue331
 t70:=Tryz.underlying334
 a70:=Tryz.isAgg334
 z70:=Tryz.sizeOf334
 v70:=Tryz.zeroValue334
 t76:=Tryz.underlying349
 a76:=Tryz.isAgg349
 z76:=Tryz.sizeOf349
 v76:=Tryz.zeroValue349
 t77:=Tryz.underlying188
 a77:=Tryz.isAgg188
 z77:=Tryz.sizeOf188
 v77:=Tryz.zeroValue188}
def Tryz.sortTurn_ren:Go.Shelf.Ren:=⟨fun|6=>143|15=>204|14=>203|28=>253|29=>254|20=>245|21=>246|22=>247|23=>248|24=>249|25=>250|26=>251|27=>252|46=>284|47=>285|48=>286|49=>287|50=>288|57=>312|n=>n,fun|22=>37|24=>68|25=>225|3=>3|39=>78|0=>0|53=>35|55=>43|4=>4|46=>304|45=>303|50=>182|5=>5|9=>9|66=>331|70=>334|76=>349|77=>188|n=>n,fun|n=>n⟩
theorem Tryz.sortTurn:Go.Proofs.SlLaysF0.n6 Tryz.prog Tryz.sortTurn_ren:={
 mixed:=by kernel_rfl
 f6:=⟨Tryz.f143.name,by decide,Tryz.func143.trans (congrArg some (by kernel_rfl))⟩
 f14:=⟨Tryz.f203.name,by decide,Tryz.func203.trans (congrArg some (by kernel_rfl))⟩
 f15:=Tryz.func204.trans (congrArg some (by kernel_rfl))
 f20:=⟨Tryz.f245.name,by decide,Tryz.func245.trans (congrArg some (by kernel_rfl))⟩
 f21:=⟨Tryz.f246.name,by decide,Tryz.func246.trans (congrArg some (by kernel_rfl))⟩
 f22:=⟨Tryz.f247.name,by decide,Tryz.func247.trans (congrArg some (by kernel_rfl))⟩
 f23:=⟨Tryz.f248.name,by decide,Tryz.func248.trans (congrArg some (by kernel_rfl))⟩
 f24:=⟨Tryz.f249.name,by decide,Tryz.func249.trans (congrArg some (by kernel_rfl))⟩
 f25:=⟨Tryz.f250.name,by decide,Tryz.func250.trans (congrArg some (by kernel_rfl))⟩
 f26:=⟨Tryz.f251.name,by decide,Tryz.func251.trans (congrArg some (by kernel_rfl))⟩
 f27:=⟨Tryz.f252.name,by decide,Tryz.func252.trans (congrArg some (by kernel_rfl))⟩
 f28:=Tryz.func253.trans (congrArg some (by kernel_rfl))
 f29:=Tryz.func254.trans (congrArg some (by kernel_rfl))
 f46:=⟨Tryz.f284.name,by decide,Tryz.func284.trans (congrArg some (by kernel_rfl))⟩
 f47:=Tryz.func285.trans (congrArg some (by kernel_rfl))
 f48:=Tryz.func286.trans (congrArg some (by kernel_rfl))
 f49:=⟨Tryz.f287.name,by decide,Tryz.func287.trans (congrArg some (by kernel_rfl))⟩
 f50:=⟨Tryz.f288.name,by decide,Tryz.func288.trans (congrArg some (by kernel_rfl))⟩
 f57:=⟨Tryz.f312.name,by decide,Tryz.func312.trans (congrArg some (by kernel_rfl))⟩
 t0:=Tryz.underlying0
 a0:=Tryz.isAgg0
 z0:=Tryz.sizeOf0
 v0:=Tryz.zeroValue0
 t3:=Tryz.underlying3
 a3:=Tryz.isAgg3
 z3:=Tryz.sizeOf3
 v3:=Tryz.zeroValue3
 t4:=Tryz.underlying4
 a4:=Tryz.isAgg4
 z4:=Tryz.sizeOf4
 v4:=Tryz.zeroValue4
 t5:=Tryz.underlying5
 a5:=Tryz.isAgg5
 z5:=Tryz.sizeOf5
 v5:=Tryz.zeroValue5
 t9:=Tryz.underlying9
 a9:=Tryz.isAgg9
 z9:=Tryz.sizeOf9
 v9:=Tryz.zeroValue9
 t22:=Tryz.underlying37
 a22:=Tryz.isAgg37
 z22:=Tryz.sizeOf37
 v22:=Tryz.zeroValue37
 t25:=Tryz.underlying225
 a25:=Tryz.isAgg225
 z25:=Tryz.sizeOf225
 v25:=Tryz.zeroValue225
 t39:=Tryz.underlying78
 a39:=Tryz.isAgg78
 z39:=Tryz.sizeOf78
 v39:=Tryz.zeroValue78
 t45:=Tryz.underlying303
 a45:=Tryz.isAgg303
 z45:=Tryz.sizeOf303
 v45:=Tryz.zeroValue303
 t46:=Tryz.underlying304
 a46:=Tryz.isAgg304
 z46:=Tryz.sizeOf304
 v46:=Tryz.zeroValue304
 t50:=Tryz.underlying182
 a50:=Tryz.isAgg182
 z50:=Tryz.sizeOf182
 v50:=Tryz.zeroValue182
 t53:=Tryz.underlying35
 a53:=Tryz.isAgg35
 z53:=Tryz.sizeOf35
 v53:=Tryz.zeroValue35
 t55:=Tryz.underlying43
 a55:=Tryz.isAgg43
 z55:=Tryz.sizeOf43
 v55:=Tryz.zeroValue43
 t66:=Tryz.underlying331
 a66:=Tryz.isAgg331
 z66:=Tryz.sizeOf331
 v66:=Tryz.zeroValue331
 t70:=Tryz.underlying334
 a70:=Tryz.isAgg334
 z70:=Tryz.sizeOf334
 v70:=Tryz.zeroValue334
 t76:=Tryz.underlying349
 a76:=Tryz.isAgg349
 z76:=Tryz.sizeOf349
 v76:=Tryz.zeroValue349
 t77:=Tryz.underlying188
 a77:=Tryz.isAgg188
 z77:=Tryz.sizeOf188
 v77:=Tryz.zeroValue188}
def Tryz.containsRng_ren:Go.Shelf.Ren:=⟨fun|8=>212|6=>256|n=>n,fun|22=>92|23=>154|25=>216|4=>4|3=>3|0=>0|n=>n,fun|n=>n⟩
theorem Tryz.containsRng:Go.Proofs.SlLaysH0.n8 Tryz.prog Tryz.containsRng_ren:={
 mixed:=by kernel_rfl
 f6:=⟨Tryz.f256.name,by decide,Tryz.func256.trans (congrArg some (by kernel_rfl))⟩
 f8:=⟨Tryz.f212.name,by decide,Tryz.func212.trans (congrArg some (by kernel_rfl))⟩
 t0:=Tryz.underlying0
 a0:=Tryz.isAgg0
 z0:=Tryz.sizeOf0
 v0:=Tryz.zeroValue0
 t3:=Tryz.underlying3
 a3:=Tryz.isAgg3
 z3:=Tryz.sizeOf3
 v3:=Tryz.zeroValue3
 t4:=Tryz.underlying4
 a4:=Tryz.isAgg4
 z4:=Tryz.sizeOf4
 v4:=Tryz.zeroValue4
 t22:=Tryz.underlying92
 a22:=Tryz.isAgg92
 z22:=Tryz.sizeOf92
 v22:=Tryz.zeroValue92
 t25:=Tryz.underlying216
 a25:=Tryz.isAgg216
 z25:=Tryz.sizeOf216
 v25:=Tryz.zeroValue216}
def Tryz.containsId_ren:Go.Shelf.Ren:=⟨fun|8=>164|6=>214|n=>n,fun|22=>76|23=>62|25=>175|4=>4|3=>3|0=>0|n=>n,fun|n=>n⟩
theorem Tryz.containsId:Go.Proofs.SlLaysH0.n8 Tryz.prog Tryz.containsId_ren:={
 mixed:=by kernel_rfl
 f6:=⟨Tryz.f214.name,by decide,Tryz.func214.trans (congrArg some (by kernel_rfl))⟩
 f8:=⟨Tryz.f164.name,by decide,Tryz.func164.trans (congrArg some (by kernel_rfl))⟩
 t0:=Tryz.underlying0
 a0:=Tryz.isAgg0
 z0:=Tryz.sizeOf0
 v0:=Tryz.zeroValue0
 t3:=Tryz.underlying3
 a3:=Tryz.isAgg3
 z3:=Tryz.sizeOf3
 v3:=Tryz.zeroValue3
 t4:=Tryz.underlying4
 a4:=Tryz.isAgg4
 z4:=Tryz.sizeOf4
 v4:=Tryz.zeroValue4
 t22:=Tryz.underlying76
 a22:=Tryz.isAgg76
 z22:=Tryz.sizeOf76
 v22:=Tryz.zeroValue76
 t25:=Tryz.underlying175
 a25:=Tryz.isAgg175
 z25:=Tryz.sizeOf175
 v25:=Tryz.zeroValue175}
def Tryz.indexId_ren:Go.Shelf.Ren:=⟨fun|6=>214|n=>n,fun|22=>76|23=>62|25=>175|3=>3|0=>0|4=>4|n=>n,fun|n=>n⟩
theorem Tryz.indexId:Go.Proofs.SlLaysH0.n6 Tryz.prog Tryz.indexId_ren:={
 mixed:=by kernel_rfl
 f6:=⟨Tryz.f214.name,by decide,Tryz.func214.trans (congrArg some (by kernel_rfl))⟩
 t0:=Tryz.underlying0
 a0:=Tryz.isAgg0
 z0:=Tryz.sizeOf0
 v0:=Tryz.zeroValue0
 t3:=Tryz.underlying3
 a3:=Tryz.isAgg3
 z3:=Tryz.sizeOf3
 v3:=Tryz.zeroValue3
 t4:=Tryz.underlying4
 a4:=Tryz.isAgg4
 z4:=Tryz.sizeOf4
 v4:=Tryz.zeroValue4
 t22:=Tryz.underlying76
 a22:=Tryz.isAgg76
 z22:=Tryz.sizeOf76
 v22:=Tryz.zeroValue76
 t25:=Tryz.underlying175
 a25:=Tryz.isAgg175
 z25:=Tryz.sizeOf175
 v25:=Tryz.zeroValue175}
def Tryz.indexTurn_ren:Go.Shelf.Ren:=⟨fun|6=>206|n=>n,fun|22=>37|23=>68|25=>159|3=>3|0=>0|4=>4|n=>n,fun|n=>n⟩
theorem Tryz.indexTurn:Go.Proofs.SlLaysH0.n6 Tryz.prog Tryz.indexTurn_ren:={
 mixed:=by kernel_rfl
 f6:=⟨Tryz.f206.name,by decide,Tryz.func206.trans (congrArg some (by kernel_rfl))⟩
 t0:=Tryz.underlying0
 a0:=Tryz.isAgg0
 z0:=Tryz.sizeOf0
 v0:=Tryz.zeroValue0
 t3:=Tryz.underlying3
 a3:=Tryz.isAgg3
 z3:=Tryz.sizeOf3
 v3:=Tryz.zeroValue3
 t4:=Tryz.underlying4
 a4:=Tryz.isAgg4
 z4:=Tryz.sizeOf4
 v4:=Tryz.zeroValue4
 t22:=Tryz.underlying37
 a22:=Tryz.isAgg37
 z22:=Tryz.sizeOf37
 v22:=Tryz.zeroValue37
 t25:=Tryz.underlying159
 a25:=Tryz.isAgg159
 z25:=Tryz.sizeOf159
 v25:=Tryz.zeroValue159}
def Tryz.cloneOp_ren:Go.Shelf.Ren:=⟨fun|41=>121|n=>n,fun|22=>36|23=>66|4=>4|n=>n,fun|n=>n⟩
theorem Tryz.cloneOp:Go.Proofs.SlLaysE0.n41 Tryz.prog Tryz.cloneOp_ren:={
 mixed:=by kernel_rfl
 f41:=⟨Tryz.f121.name,by decide,Tryz.func121.trans (congrArg some (by kernel_rfl))⟩
 t4:=Tryz.underlying4
 a4:=Tryz.isAgg4
 z4:=Tryz.sizeOf4
 v4:=Tryz.zeroValue4
 t22:=Tryz.underlying36
 a22:=Tryz.isAgg36
 z22:=Tryz.sizeOf36
 v22:=Tryz.zeroValue36}
def Tryz.cloneClk_ren:Go.Shelf.Ren:=⟨fun|41=>241|n=>n,fun|22=>91|23=>179|4=>4|n=>n,fun|n=>n⟩
theorem Tryz.cloneClk:Go.Proofs.SlLaysE0.n41 Tryz.prog Tryz.cloneClk_ren:={
 mixed:=by kernel_rfl
 f41:=⟨Tryz.f241.name,by decide,Tryz.func241.trans (congrArg some (by kernel_rfl))⟩
 t4:=Tryz.underlying4
 a4:=Tryz.isAgg4
 z4:=Tryz.sizeOf4
 v4:=Tryz.zeroValue4
 t22:=Tryz.underlying91
 a22:=Tryz.isAgg91
 z22:=Tryz.sizeOf91
 v22:=Tryz.zeroValue91}
def Tryz.cloneRng_ren:Go.Shelf.Ren:=⟨fun|41=>169|n=>n,fun|22=>92|23=>154|4=>4|n=>n,fun|n=>n⟩
theorem Tryz.cloneRng:Go.Proofs.SlLaysE0.n41 Tryz.prog Tryz.cloneRng_ren:={
 mixed:=by kernel_rfl
 f41:=⟨Tryz.f169.name,by decide,Tryz.func169.trans (congrArg some (by kernel_rfl))⟩
 t4:=Tryz.underlying4
 a4:=Tryz.isAgg4
 z4:=Tryz.sizeOf4
 v4:=Tryz.zeroValue4
 t22:=Tryz.underlying92
 a22:=Tryz.isAgg92
 z22:=Tryz.sizeOf92
 v22:=Tryz.zeroValue92}
def Tryz.cloneTurn_ren:Go.Shelf.Ren:=⟨fun|41=>139|n=>n,fun|22=>37|23=>68|4=>4|n=>n,fun|n=>n⟩
theorem Tryz.cloneTurn:Go.Proofs.SlLaysE0.n41 Tryz.prog Tryz.cloneTurn_ren:={
 mixed:=by kernel_rfl
 f41:=⟨Tryz.f139.name,by decide,Tryz.func139.trans (congrArg some (by kernel_rfl))⟩
 t4:=Tryz.underlying4
 a4:=Tryz.isAgg4
 z4:=Tryz.sizeOf4
 v4:=Tryz.zeroValue4
 t22:=Tryz.underlying37
 a22:=Tryz.isAgg37
 z22:=Tryz.sizeOf37
 v22:=Tryz.zeroValue37}
def Tryz.runeCount_ren:Go.Shelf.Ren:=⟨fun|195=>135|n=>n,fun|9=>9|3=>3|0=>0|4=>4|n=>n,fun|n=>n⟩
theorem Tryz.runeCount:Go.Proofs.Lays.n195 Tryz.prog Tryz.runeCount_ren:={
 mixed:=by kernel_rfl
 f195:=Tryz.func135.trans (congrArg some (by kernel_rfl))
 t0:=Tryz.underlying0
 a0:=Tryz.isAgg0
 z0:=Tryz.sizeOf0
 v0:=Tryz.zeroValue0
 t3:=Tryz.underlying3
 a3:=Tryz.isAgg3
 z3:=Tryz.sizeOf3
 v3:=Tryz.zeroValue3
 t4:=Tryz.underlying4
 a4:=Tryz.isAgg4
 z4:=Tryz.sizeOf4
 v4:=Tryz.zeroValue4
 t9:=Tryz.underlying9
 a9:=Tryz.isAgg9
 z9:=Tryz.sizeOf9
 v9:=Tryz.zeroValue9}
def Tryz.valid_ren:Go.Shelf.Ren:=⟨fun|196=>134|259=>199|n=>n,fun|9=>9|4=>4|3=>3|5=>5|12=>12|119=>267|0=>0|46=>78|139=>270|138=>269|53=>43|n=>n,fun|3=>1|4=>2|n=>n⟩
theorem Tryz.valid:Go.Proofs.Lays.n196 Tryz.prog Tryz.valid_ren:={
 mixed:=by kernel_rfl
 f196:=Tryz.func134.trans (congrArg some (by kernel_rfl))
 f259:=Tryz.func199.trans (congrArg some (by kernel_rfl))
 t0:=Tryz.underlying0
 a0:=Tryz.isAgg0
 z0:=Tryz.sizeOf0
 v0:=Tryz.zeroValue0
 t3:=Tryz.underlying3
 a3:=Tryz.isAgg3
 z3:=Tryz.sizeOf3
 v3:=Tryz.zeroValue3
 t4:=Tryz.underlying4
 a4:=Tryz.isAgg4
 z4:=Tryz.sizeOf4
 v4:=Tryz.zeroValue4
 t5:=Tryz.underlying5
 a5:=Tryz.isAgg5
 z5:=Tryz.sizeOf5
 v5:=Tryz.zeroValue5
 t9:=Tryz.underlying9
 a9:=Tryz.isAgg9
 z9:=Tryz.sizeOf9
 v9:=Tryz.zeroValue9
 t12:=Tryz.underlying12
 a12:=Tryz.isAgg12
 z12:=Tryz.sizeOf12
 v12:=Tryz.zeroValue12
 t46:=Tryz.underlying78
 a46:=Tryz.isAgg78
 z46:=Tryz.sizeOf78
 v46:=Tryz.zeroValue78
 t53:=Tryz.underlying43
 a53:=Tryz.isAgg43
 z53:=Tryz.sizeOf43
 v53:=Tryz.zeroValue43
 t119:=Tryz.underlying267
 a119:=Tryz.isAgg267
 z119:=Tryz.sizeOf267
 t138:=Tryz.underlying269
 a138:=Tryz.isAgg269
 z138:=Tryz.sizeOf269
 v138:=Tryz.zeroValue269
 t139:=Tryz.underlying270
 a139:=Tryz.isAgg270
 z139:=Tryz.sizeOf270
 v139:=Tryz.zeroValue270
 g3:=by kernel_rfl
 g4:=by kernel_rfl}
def Tryz.strCmp_ren:Go.Shelf.Ren:=⟨fun|106=>239|213=>282|265=>309|n=>n,fun|9=>9|3=>3|n=>n,fun|n=>n⟩
theorem Tryz.strCmp:Go.Proofs.Lays.n106 Tryz.prog Tryz.strCmp_ren:={
 mixed:=by kernel_rfl
 f106:=Tryz.func239.trans (congrArg some (by kernel_rfl))
 f213:=Tryz.func282.trans (congrArg some (by kernel_rfl))
 f265:=Tryz.func309.trans (congrArg some (by kernel_rfl))
 t3:=Tryz.underlying3
 a3:=Tryz.isAgg3
 z3:=Tryz.sizeOf3
 v3:=Tryz.zeroValue3
 t9:=Tryz.underlying9
 a9:=Tryz.isAgg9
 z9:=Tryz.sizeOf9
 v9:=Tryz.zeroValue9}
end Go.Proofs
namespace Go.Proofs.YtimlgcodecgecaaGreatDoor
open Go.RowKit Go.Shelf Go.Sort
theorem ziC:SWO (ltOf zO.cmp) where
 irrefl x:=by unfold ltOf;simp[za3]
 trans x y z h1 h2:=by unfold ltOf at *;simp[za3] at *;omega
 ntrans x y z h1 h2:=by unfold ltOf at *;simp only[decide_eq_false_iff_not,za3] at *;omega
theorem zv9(c a d:Nat)(w:zC):CmpLays zD 179 #[] zY 3 zO.cmp c a d w:=
 fun _ _ _ _ b e=>zsO b e _
theorem zcY(x:zO):∀b∈zY x,b.oneCell'=true:=by intro b a;simp[zY] at a;rcases a with rfl|rfl|rfl<;> rfl
theorem zwA(base:Nat)(v:zJ)(l:List zO)(W:zC)(b:zG base 154 3 zY W v l)(I:l.length*24<=140737488355328):
 Calls zD 178 #[v,.func (.func 179) #[] #[]] W fun g a=>g=jB/\∃d:List zO,d.Perm l/\za4 d/\zG base 154 3 zY a v d/\W.grownBy a v.ownBlock:=by
 have u:=b;rcases u.2 with⟨rfl,x⟩|⟨j,G,J,rfl,_⟩
 ·have s:l= []:=zbo x;subst s;refine(AnyF.slices_SortFunc_none {Tryz.sortRng with} none 0 (.func (.func 179) #[] #[]) W).mono ?_;rintro g a ⟨h,rfl⟩;exact⟨h,[],List.Perm.refl _,(List.Pairwise.nil:za4 []),b,⟨rfl,rfl,rfl,zU _,fun _ _ _=>rfl⟩⟩
 ·obtain⟨_,_,r,H,C⟩:=zG.holds (k:=3) (enc:=zY) (fun _=>rfl) b;have A:∀p c,(callFunc 179 p).run zD c= .ok (.enter 179 p) c:=enters_of Tryz.func179 oe rfl;have E:=AnyQ.slices_SortFunc Tryz.sortRng 3 (fun c=>oe) (fun c=>oe) zY (fun _=>rfl) zcY zO.cmp ziC 179 #[] j 0 G l.toArray W A (zv9 j 0 _ W) C r oi;refine E.mono ?_;rintro g a ⟨h,f,D,o,q,t,rfl⟩;have i:f.size=l.length:=by simpa using q.1
  obtain⟨F,w⟩:=zG.sorted (k:=3) (enc:=zY) (m:=D) (os:=o) (fun _=>rfl) b i;refine⟨h,f.toList,?_,?_,F,w⟩
  ·have:=q.2.2;rw[show l.toArray.size=f.size by simp[i],Array.extract_size] at this;simp at this;rwa[zaX oa] at this
  ·unfold za4;rw[zbi];intro y z n e B;have:=t y z (xO _) B (by simpa[<-i] using e);unfold ltOf at this;simp at n e;simpa[n,e] using this
section
attribute [local go_sem] jl
theorem zd2:(Tryz.prog.info? 154).map (fun i=>(i.zero,i.size,i.bytes))=some (some (.agg #[zH,zH,zH]),3,24):=oe
def zqb(B a S:Nat)(w:zC)(c:List zO)(W:zC):Prop:=
 (∃b,Boxed W B 92 b/\zG a 154 3 zY W b c)/\Below a w W/\S<=W/\Boxed W (B+2) 216 (.func (.func 177) #[] #[])
theorem zb1{W W':zC}{b:Option Nat}{B:Nat}{t:TypeId}{v:zJ}(c:Boxed W B t v)(f:W.grownBy W' b)(g:∀d,b=some d->∃a:Obj,W.heap[d]?=some a/\a.isCells=false):Boxed W' B t v:=
 c.kept f fun h=>by obtain⟨a,e,i⟩:=g B h.symm;rw[show W.heap[B]?=some (.cells #[v] t (0,0)) from c] at e;cases e;cases i
theorem zia{W W':zC}{c:Option Nat}{base e h n:Nat}{v:zJ}{b:List Value}(d:W.ownsRow base e h v n b)(j:W.grownBy W' c)(m:∀g,c=some g->∃a:Obj,W.heap[g]?=some a/\a.isCells=false):W'.ownsRow base e h v n b:=by
 refine d.kept j ?_;rcases d.2 with⟨rfl,_⟩|⟨k,o,p,rfl,_,i,_⟩
 ·exact .inl rfl
 ·refine .inr fun e=> ?_;obtain⟨a,f,l⟩:=m k e.symm;rw[i] at f;cases f;cases l
theorem zaE{w:zC}{base base':Nat}{e:TypeId}{c:Nat}{v:zJ}{n:Nat}{a:List Value}(h:w.ownsRow base e c v n a)(l:base'<=base):w.ownsRow base' e c v n a:=by
 obtain⟨b,d|⟨f,i,j,g,m,k⟩⟩:=h
 ·exact⟨b,.inl d⟩
 ·exact⟨b,.inr ⟨f,i,j,g,oa,k⟩⟩
theorem zib(w:zC)(B:Nat)(x:zO)(d:B=w):∀a b,(zY x)[a]?=some b->(w.alloc (.cells #[x.c,x.a,x.b] 154)).cell? ((B:Addr).add a)=some b:=by subst d;intro a b c;rw[qW,World.cell?,World.alloc_heap_new];simpa[zY] using c
def zqc(l:List zO)(w:zC)(v:zJ)(w':zC):Prop:=
 ∃d,d.Perm (l.filter zO.rightB)/\za4 d/\zG w 154 3 zY w' v (jf d)/\Below w w w'
theorem zqd(sv:Value)(l:List zO)(w:World)(ax:zc 3 zY w sv l)(cu:l.length*24<=140737488355328)(br:sv.oneCell'=true):
 Calls Tryz.prog 95 #[sv] w (qH (zqc l w)):=by
 refine(yi (n:=8)).1 ?_;have bH:Fence.wide.fn 176:=trivial;have bR:Fence.wide.fn 178:=trivial;have ad:1<=8:=oa;refine callsIn_of_wp_marks Tryz.func95 rfl trivial ?_ rfl;simp only[Tryz.ntmps95,yw,z7,xB,Nat.reduceAdd,Nat.reduceSub,qK,qL,qM,qN,xu,yD];refine vj.2 ?_;go_wp2;go_step3;go_wp2_with (go_at_call 176;refine(yi.1 (zuy 7 _ _ _ br rfl)).mono ?_;rintro c cl ⟨rfl,rfl⟩);have aq:Below w w (((w.alloc (.cells #[()] 92)).alloc (.cells #[sv] 92)).alloc (.cells #[.func (.func 177) #[] #[]] 216)):=aB;have bN:(((w.alloc (.cells #[()] 92)).alloc (.cells #[sv] 92)).alloc (.cells #[.func (.func 177) #[] #[]] 216)).heap.size=w+3:=oh;have a8:=((Boxed.new w 92 ()).alloc (.cells #[sv] 92)).alloc (.cells #[.func (.func 177) #[] #[]] 216);have ap:=(Boxed.new (w.alloc (.cells #[()] 92)) 92 sv).alloc (.cells #[.func (.func 177) #[] #[]] 216);have W:=Boxed.new ((w.alloc (.cells #[()] 92)).alloc (.cells #[sv] 92)) 216 (.func (.func 177) #[] #[]);simp only[qX] at ap W;obtain⟨af,bJ⟩:=aY ((((w.alloc (.cells #[()] 92)).alloc (.cells #[sv] 92)).alloc (.cells #[.func (.func 177) #[] #[]] 216)));try simp only[bJ] at aq bN a8 ap W ⊢
 clear bJ;have cy:w.heap.size<=af.heap.size:=oa;have bK:∀B R au aH,sv= .slice (some ⟨B,R,none⟩) au aH->B<w.heap.size:=by
  rintro B R au aH rfl;rcases ax with⟨c,_⟩|⟨cx,cG,bD,c,_,ab,_⟩
  ·cases c
  ·cases c;exact ab
 obtain⟨ar,x,ae,aj,ak⟩:=yI zd2;refine(vj (n:=8)).1 ?_;refine wpIn_rangeFunc_ownH rfl ad (gf:=228) (lb:=#[.pointer (some ⟨w.heap.size+1,0,none⟩),.pointer (some ⟨w.heap.size+2,0,none⟩)]) rfl trivial (enters_of zja oe rfl)
  (zu5 7 oa (w.heap.size+1) (w.heap.size+2) w.heap.size sv l af oa oa oa ap.cell W.cell (ax.below aq) bK) ye.trans ?hKb (zf _ _) (fun _=>rfl)
  (fun A e=>zqb w.heap.size w.heap.size af.heap.size w A e) (fun _ _ _=>False) ?hI ?hIx ?h0 (fun a a9 e=>∃s,af.heap.size<=s/\e.heap[s]?=some (.cells (zY a).toArray 154 (0,0))/\a9={tmps:=#[sv,undef,.slice none 0 0,.pointer (some ⟨w.heap.size,0,none⟩),.pointer (some ⟨s,0,none⟩),undef,undef,undef,undef,sv,.func (.func 228) #[] #[.pointer (some ⟨w.heap.size+1,0,none⟩),.pointer (some ⟨w.heap.size+1+1,0,none⟩)],.agg #[.int .u64 a.c,.int .u64 a.a,.int .u64 a.b],undef,undef,undef,undef,undef,undef,undef,undef,undef,undef,undef,undef,undef,undef,undef,undef,undef,undef,undef,undef,undef,undef,undef,undef,undef,undef,undef,undef,undef,undef,undef,undef,undef,undef,undef,undef,undef,undef,undef,undef,undef,undef,undef,undef,undef,undef,undef,undef,undef,undef,undef,undef,undef,undef,undef],defers:= []}) ?hAx ?assign ?body ?done ?stop
 case hKb=>intro e l Y b2 bP _ _ _;exact⟨belowK_b oa e l Y b2 bP ‹_› ‹_› ‹_›,World.putObj_heap_other oa⟩
 case hI=>exact OwnFrom.and (fun A e am ag ⟨F,r,n⟩ C u=>⟨F,zb1 r C (fun V c=>(u V c).2),zia n C (fun V c=>(u V c).2)⟩) (OwnFrom.and (ownFrom_below oa oa) (OwnFrom.and (fun A e am ag av C u=>zk av C.size) (fun A e am ag av C u=>zb1 av C (fun V c=>(u V c).2))))
 case hIx=>exact fun aH ch e am ag h _ _=>h
 case h0=>exact⟨⟨_,a8,zG.nil⟩,aq,zU _,W⟩
 case hAx=>intro a a9 ch e am ag ⟨s,bj,I,ce⟩ C u;exact⟨s,bj,(C.block s (aL I) (fun c=>by obtain⟨_,Y,o,M⟩:=u s c.symm;rw[I] at o;cases o;cases M)).trans I,ce⟩
 case assign=>
  intro bT A a e cs x K;gi_wp2;have b0:ye w (w.heap.size+2) e (e.alloc (.cells #[a.c,a.a,a.b] 154)):=ye.of_below x.2.1.size (by have:=x.2.2.1;omega) aA;refine K _ _ ((KeepsOthers.alloc _ _).from _) b0 ?_ ⟨e.heap.size,?_,?_,rfl⟩
  ·obtain⟨⟨F,r,n⟩,y,bw,G⟩:=x;exact⟨⟨F,r.alloc _,n.alloc _⟩,y.alloc y.size _,oi,G.alloc _⟩
  ·exact x.2.2.1
  ·exact World.alloc_heap_new e _
 case body=>
  rintro bT A a a9 e cm ⟨V,u⟩ ⟨⟨F,r,n⟩,y,bw,G⟩ ⟨s,bj,I,rfl⟩ a7;have cr:e.cell? ⟨s,0,none⟩=some (.int .u64 a.c):=by simp[World.cell?,I,zY]
  have cv:e.cell? ⟨s,1,none⟩=some (.int .u64 a.a):=by simp[World.cell?,I,zY]
  have cC:e.cell? ⟨s,2,none⟩=some (.int .u64 a.b):=by simp[World.cell?,I,zY]
  have bM:=r.cell;have cp:=r.frozen;have cA:A.length+1<=l.length:=a7;have cj:w.heap.size<=e.heap.size:=y.size;gi_wp2_with (gi_at_builtin;refine wpListIn_append_own _ rfl _ _ 92 rfl w.heap.size 154 ar (.agg #[.int .u64 0,.int .u64 0,.int .u64 0]) 3 24 zbg x ae aj ak rfl ol _ _ _ rfl (n.alloc _) ⟨e.heap.size,0,none⟩ 1 1 (zY a) rfl rfl ?c1 ?c2 ?c3 ?c4 ?c5 ?_);case c1=>
   intro T bV Z
   have O:T<3:=(zw.1 Z).1
   rw[qW,World.cell?,World.alloc_heap_new]
   simpa[zY] using Z
  case c2=>intro bV Z;simp[zY] at Z;rcases Z with rfl|rfl|rfl<;> rfl
  case c3=>unfold maxLen;omega
  case c4=>omega
  case c5=>simp;omega
  intro bc X E m _;obtain⟨bY,bD,rfl⟩:=ownsRow_succ E;obtain⟨bv,ai,b6,b8,bf⟩:=r.appended ol n cj (zU _) E m;have b7:Boxed X (w.heap.size+2) 216 (.func (.func 177) #[] #[]):=(G.alloc _).kept m (G.not_row ol n);have cF:=bv.cell;have bH:=bv.frozen;gi_wp2;have bh:Boxed (X.setCell w (.slice (some bY) (A.length+1) bD)) (w.heap.size+2) 216 (.func (.func 177) #[] #[]):=(zZ _ _ _ _ oh).trans b7;refine⟨b8.from _,⟨bf,bh.trans G.symm⟩,⟨_,ai,?_⟩,y.trans bf,?_,bh⟩
  ·unfold zG;rw[xY,qe];simpa using b6
  ·have ad:=m.size;simp at ad ⊢;omega
 case done=>
  rintro J cB e ct rfl ⟨⟨F,r,n⟩,y,bw,G⟩ K;have bM:=r.cell;have bQ:(l.filter zO.rightB).length<=l.length:=jV _ _;have bd:=zwA w F _ e n oa;go_wp2_with (go_at_call 178;refine bd.mono ?_;rintro c N ⟨rfl,g,bz,cf,bu,m⟩);have ai:Boxed N w 92 F:=r.kept m (r.not_row ol n);have cg:=ai.cell;have bl:N.heap[J]?=some (.deferred (some [])):=by
   rw[m.block J (aL K) ?_];exact K;intro c;rcases n.2 with⟨rfl,_⟩|⟨bW,bB,aZ,rfl,_,f,_⟩
   ·cases c
   ·cases c;rw[f] at K;cases K
  have ah:Below w w N:=y.grown m y.size (fun T c=>by
   rcases n.2 with⟨rfl,_⟩|⟨bW,bB,aZ,rfl,f,_⟩
   ·cases c
   ·cases c;exact f)
  have cn:g.length<=l.length:=by rw[bz.length_eq];exact bQ
  obtain⟨p,bB,rfl,cq,bn⟩:=(zG.slice (k:=3) (enc:=zY) (fun _=>rfl) bu).shape;clear bd n r K m bu bK ax a8 ap W G bM y bH bR br bN aq ai;go_wp2;go_step3;go_wp2;obtain⟨k,bo⟩:=aX N.heap.size;have t:=zA bo;go_loopw [5,20] (fun Y ac wr=>∃d:Nat,d<=g.length/\ac=zB d/\zG k 154 3 zY wr Y (jf (g.take d))/\(jf (g.take d)= []->Y=())/\Below k N wr) (fun _ ac _=>g.length - (intOf ac).toNat);case atStart=>exact⟨0,xO _,rfl,zG.nil,fun _=>rfl,zf _ _⟩
  case round=>
   obtain⟨d,b5,rfl,o,an,f⟩:=hrel;clear bo;by_cases a7:d<g.length
   ·have b1:(d:Int)<(g.length:Int):=(by omega);obtain⟨B,R,rfl,bX,M⟩:=bn d g[d] oh;have a3:B<k:=(by rw[t.o];exact bX);have ba:=(f.cell (p:=(B,R+d*3+0)) a3).trans (M 0 _ rfl);have aw:=(f.cell (p:=(B,R+d*3+1)) a3).trans (M 1 _ rfl);have ay:=(f.cell (p:=(B,R+d*3+2)) a3).trans (M 2 _ rfl);have bE:jf (g.take (d+1))=y9 (jf (g.take d)) g[d]:=(by unfold jf;rw[j1 a7,vK];rfl);have q:=zA bE;clear bE M bn;generalize g[d]=a at ba aw ay q;have a5:=zie (g.take d);rw[yn,zbG b5] at a5;generalize jf (g.take d)=cc at o an q a5;simp only[jD] at ba;rcases zeM cc with rfl|⟨i,b,rfl⟩
    ·obtain rfl:=an rfl;clear an;go_wp2;go_quiet (fail);go_wp2_with (at_builtin;refine zhH _ rfl _ _ 92 rfl k 154 ar (.agg #[zH,zH,zH]) 3 24 zbg x ae aj ak rfl ol _ _ _ rfl (show World.ownsRow _ k 154 3 () 0 [] from⟨rfl,.inl ⟨rfl,rfl⟩⟩) (wr.heap.size+1:) 1 1 (zY a) rfl rfl ?d1 ?d2 ?d3 ?d4 ?d5 ?_);case d1=>exact zib _ _ a oh
     case d2=>exact zcY a
     case d3=>unfold maxLen;omega
     case d4=>omega
     case d5=>have:=f.size;rw[<-t.o] at this;simp;omega
     intro bc X E m bi;go_wp2;go_roundw;case rel=>exact⟨d+1,oa,ou,by rw[q.o];exact E,fun h=>by rw[q.o] at h;simp[y9] at h,(((zcH (f.alloc (by have:=f.size;rw[<-t.o] at this;omega) _) nq).alloc (by have:=f.size;rw[<-t.o] at this;simp;omega) _).grown m (by have:=f.size;rw[<-t.o] at this;simp;omega) (fun T c=>by cases c))⟩
     case measure=>simp[intOf];omega
    ·have bA:i.concat b=i++[b]:=zcn;rw[bA] at o q;obtain⟨bm,⟨_,bI⟩|⟨v,aa,aZ,rfl,ao,bg,az,cb,bS,bC⟩⟩:=o
     ·simp at bI
     have o:zG k 154 3 zY wr (.slice (some v) (i++[b]).length aa) (i++[b]):=⟨bm,.inr ⟨v,aa,aZ,rfl,ao,bg,az,cb,bS,bC⟩⟩;obtain⟨cw,cD,b9,be,bp⟩:=(zG.slice (k:=3) (enc:=zY) (fun _=>rfl) o).shape;cases b9;obtain⟨cz,cE,bO,cd,al⟩:=bp i.length b oh;cases bO;have a2:=al 0 _ rfl;have a1:=al 1 _ rfl;have a6:=al 2 _ rfl;clear al bp bm bC an bA;simp only[qr,jD,xY,z7,xB] at a2 a1 a6 az be;rw[show(i++[b]).length=i.length+1 by simp];obtain⟨j,a0⟩:=aX i.length;have H:=zA a0;rw[<-a0] at a2 a1 a6 az be ⊢;clear a0;have bG:wr.ownsRow k 154 3 (.slice (some v) (j+1) aa) (j+1) ((i++[b]).flatMap zY):=(by have L:=o;unfold zG at L;rw[show(i++[b]).length=j+1 by rw[H.o];simp] at L;exact L);by_cases O:b.c=a.c/\a.a<=b.b
     ·obtain⟨D,bF⟩:=O;have bb:((b.c:Int)==a.c)=true:=(by simpa using D);have bt:decide (a.a<=b.b)=true:=(by simpa using bF);have ck:decide ((0:Int)<=(j:Int))=true:=oh;have bZ:(j:Int)<(j:Int)+1:=oa;clear D bF;go_wp2;go_quiet (fail);go_wp2;have ca:((wr.alloc (.cells #[a.c,a.a,a.b] 154)).drewN nq).cell? (wr,2)=a.b:=oS;have ci:((wr.alloc (.cells #[a.c,a.a,a.b] 154)).drewN nq).cell? (v,j*3+2)=b.b:=oS;have bL:zG k 154 3 zY ((wr.alloc (.cells #[a.c,a.a,a.b] 154)).drewN nq) (.slice (some v) (j+1) aa) (i++[b]):=(by have L:zG k 154 3 zY (wr.alloc (.cells #[a.c,a.a,a.b] 154)) (.slice (some v) (i++[b]).length aa) (i++[b]):=zbn o _;rw[show(i++[b]).length=j+1 by rw[H.o];simp] at L;exact L);have bq:Below k N ((wr.alloc (.cells #[a.c,a.a,a.b] 154)).drewN nq):=zcH (f.alloc (by have:=f.size;rw[<-t.o] at this;omega) _) nq;have bU:((wr.alloc (.cells #[a.c,a.a,a.b] 154)).drewN nq).frozen? (v,j*3+2)=false:=(by show World.frozen? (wr.alloc _) _=false;simp[World.frozen?,(yV wr _ v cd).trans bg]);obtain⟨bx,bs⟩:=aY (((wr.alloc (.cells #[a.c,a.a,a.b] 154)).drewN nq));try simp only[bs] at ca ci bL bq bU ⊢
      clear bs a2 a1 a6 ba aw ay f o cg;go_still_tail 12,oe;change wpList _ _ _ _ _ bx.drew;go_wp2;go_roundw;case rel=>
       refine⟨d+1,oa,ou,?_,fun h=> ?_,?_⟩
       ·have b4:=zG.set (k:=3) (enc:=zY) (i:=2) (z:=⟨b.c,b.a,max b.b a.b⟩) (x:=b) (fun _=>rfl) bL (j:=j) (by rw[H.o];simp) ol rfl;rw[q.o,y9];simp only[zhI,zjb,zjc];rw[zP ⟨by simpa using bb,by simpa using bt⟩];have c:=H.o;subst c;show zG k 154 3 zY (bx.setCell _ _) _ _;simpa using b4
       ·rw[q.o,y9] at h;simp only[zhI,zjb,zjc] at h;split at h<;> simp at h
       ·exact(bq.setCell (p:=(v,j*3+2)) ao _).drew
      case measure=>simp[intOf];omega
     ·have a4:y9 (i++[b]) a=i++[b]++[a]:=(by unfold y9;simp only[zhI,zjb,zjc];rw[zN O]);rw[a4] at q;have ab:=f.size;rw[<-t.o] at ab;have co:j+1+1<=l.length:=(by rw[H.o];simp at a5;omega);have ck:decide ((0:Int)<=(j:Int))=true:=oh;have bZ:(j:Int)<(j:Int)+1:=oa;by_cases D:b.c=a.c
      ·have bb:((b.c:Int)==a.c)=true:=(by simpa using D);have bt:decide (a.a<=b.b)=false:=(by have:¬a.a<=b.b:=fun h=>O ⟨D,h⟩;simpa using this);clear O D a4;go_wp2;go_quiet (fail);go_wp2_with (at_builtin;refine zhH _ rfl _ _ 92 rfl k 154 ar (.agg #[zH,zH,zH]) 3 24 zbg x ae aj ak rfl ol _ _ _ rfl ((show World.ownsRow ((wr.alloc _).drewN nq) _ _ _ _ _ _ from bG.alloc _).alloc _) (wr.heap.size+1:) 1 1 (zY a) rfl rfl ?f1 ?f2 ?f3 ?f4 ?f5 ?_);case f1=>exact zib _ _ a oh
       case f2=>exact zcY a
       case f3=>unfold maxLen;omega
       case f4=>omega
       case f5=>simp;omega
       intro bc X E m bi;go_wp2;go_roundw;case rel=>
        refine⟨d+1,oa,ou,?_,fun h=> ?_,?_⟩
        ·rw[q.o];unfold zG;rw[show(i++[b]++[a]).length=j+1+1 by rw[H.o];simp];simpa using E
        ·rw[q.o] at h;simp at h
        ·exact((zcH (f.alloc ab _) nq).alloc oi _).grown m oi (fun T c=>by cases c;exact ao)
       case measure=>simp[intOf];omega
      ·have bb:((b.c:Int)==a.c)=false:=(by simpa using D);clear O D a4;go_wp2;go_quiet (fail);go_wp2_with (at_builtin;refine zhH _ rfl _ _ 92 rfl k 154 ar (.agg #[zH,zH,zH]) 3 24 zbg x ae aj ak rfl ol _ _ _ rfl ((show World.ownsRow ((wr.alloc _).drewN nq) _ _ _ _ _ _ from bG.alloc _).alloc _) (wr.heap.size+1:) 1 1 (zY a) rfl rfl ?h1 ?h2 ?h3 ?h4 ?h5 ?_);case h1=>exact zib _ _ a oh
       case h2=>exact zcY a
       case h3=>unfold maxLen;omega
       case h4=>omega
       case h5=>simp;omega
       intro bc X E m bi;go_wp2;go_roundw;case rel=>
        refine⟨d+1,oa,ou,?_,fun h=> ?_,?_⟩
        ·rw[q.o];unfold zG;rw[show(i++[b]++[a]).length=j+1+1 by rw[H.o];simp];simpa using E
        ·rw[q.o] at h;simp at h
        ·exact((zcH (f.alloc ab _) nq).alloc oi _).grown m oi (fun T c=>by cases c;exact ao)
       case measure=>simp[intOf];omega
   ·have b1:¬(d:Int)<(g.length:Int):=(by omega);obtain rfl:d=g.length:=oa;rw[qJ] at o;go_wp2;have aP:wr.heap[J]?=some (.deferred (some [])):=(f.block J (by rw[t.o];exact(aL bl))).trans bl;refine⟨oh,.inl ⟨_,_,rfl,run_takeDeferred aP,?_⟩⟩;have b3:w<=J:=(by have:=ah;omega);refine⟨_,zcI rfl _ _ _,⟨_,rfl,g,bz,cf,?_,?_⟩⟩
    ·have u:(wr.putObj J (.deferred none)).ownsRow k 154 3 u5 (jf g).length ((jf g).flatMap zY):=ownsRow_putObj o _ aP rfl;exact zaE u (by rw[t.o];exact ah.size)
    ·exact(ah.trans (f.mono (by rw[t.o];exact ah.size))).trans (belowK_b (w:=w) (zU _) wr J _ _ b3 aP rfl rfl)
 case stop=>exact fun _ _ _ _ _ _ h _=>h.elim
end
end Go.Proofs.YtimlgcodecgecaaGreatDoor
