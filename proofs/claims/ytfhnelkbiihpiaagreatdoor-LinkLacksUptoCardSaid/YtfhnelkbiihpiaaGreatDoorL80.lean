/- Text. -/
import Derived.Shelf.Lays
import Derived.Test.YtfhnelkbiihpiaaGreatDoorProg
set_option linter.unusedSimpArgs false
set_option linter.unusedVariables false
set_option maxRecDepth 100000
namespace Go.Proofs.YtfhnelkbiihpiaaGreatDoor
open Go.Shelf
def ejf:Go.Shelf.Ren:=⟨fun | 190=>79 | 125=>96 | 258=>104 | 128=>127 | 129=>128 | 302=>133 | 303=>134 | 304=>135 | 305=>136 | 306=>137 | 307=>138 | 308=>139 | 309=>140 | 310=>141 | 333=>161 | 329=>157 | 330=>158 | 334=>162 | 335=>163 | 336=>164 | 344=>178 | n=>n,fun | 31=>23 | 9=>9 | 3=>3 | 46=>172 | 0=>0 | 51=>222 | 53=>224 | 4=>4 | 183=>216 | 182=>215 | 131=>180 | 5=>5 | 218=>238 | 222=>242 | 228=>249 | 229=>105 | n=>n,fun | n=>n⟩
theorem eky:Go.Proofs.Lays.n190 Tryz.prog ejf:={
 mixed:=by kernel_rfl
 f125:=Tryz.func96.trans (congrArg some (by kernel_rfl))
 f128:=Tryz.func127.trans (congrArg some (by kernel_rfl))
 f129:=Tryz.func128.trans (congrArg some (by kernel_rfl))
 f190:=Tryz.func79.trans (congrArg some (by kernel_rfl))
 f258:=Tryz.func104.trans (congrArg some (by kernel_rfl))
 f302:=Tryz.func133.trans (congrArg some (by kernel_rfl))
 f303:=Tryz.func134.trans (congrArg some (by kernel_rfl))
 f304:=Tryz.func135.trans (congrArg some (by kernel_rfl))
 f305:=Tryz.func136.trans (congrArg some (by kernel_rfl))
 f306:=Tryz.func137.trans (congrArg some (by kernel_rfl))
 f307:=Tryz.func138.trans (congrArg some (by kernel_rfl))
 f308:=Tryz.func139.trans (congrArg some (by kernel_rfl))
 f309:=Tryz.func140.trans (congrArg some (by kernel_rfl))
 f310:=Tryz.func141.trans (congrArg some (by kernel_rfl))
 f329:=Tryz.func157.trans (congrArg some (by kernel_rfl))
 f330:=Tryz.func158.trans (congrArg some (by kernel_rfl))
 f333:=Tryz.func161.trans (congrArg some (by kernel_rfl))
 f334:=Tryz.func162.trans (congrArg some (by kernel_rfl))
 f335:=Tryz.func163.trans (congrArg some (by kernel_rfl))
 f336:=Tryz.func164.trans (congrArg some (by kernel_rfl))
 f344:=Tryz.func178.trans (congrArg some (by kernel_rfl))
 t0:=Tryz.underlying0
 a0:=Tryz.isAgg0
 z0:=Tryz.sizeOf0
 v0:=Tryz.zeroValue0
 t3:=Tryz.underlying3
 a3:=Tryz.isAgg3
 z3:=Tryz.sizeOf3
 v3:=Tryz.zeroValue3
 t4:=Tryz.underlying4
 a4:=Tryz.isAgg4
 z4:=Tryz.sizeOf4
 v4:=Tryz.zeroValue4
 t5:=Tryz.underlying5
 a5:=Tryz.isAgg5
 z5:=Tryz.sizeOf5
 v5:=Tryz.zeroValue5
 t9:=Tryz.underlying9
 a9:=Tryz.isAgg9
 z9:=Tryz.sizeOf9
 v9:=Tryz.zeroValue9
 t31:=Tryz.underlying23
 a31:=Tryz.isAgg23
 z31:=Tryz.sizeOf23
 v31:=Tryz.zeroValue23
 t46:=Tryz.underlying172
 a46:=Tryz.isAgg172
 z46:=Tryz.sizeOf172
 v46:=Tryz.zeroValue172
 t51:=Tryz.underlying222
 a51:=Tryz.isAgg222
 z51:=Tryz.sizeOf222
 v51:=Tryz.zeroValue222
 t53:=Tryz.underlying224
 a53:=Tryz.isAgg224
 z53:=Tryz.sizeOf224
 v53:=Tryz.zeroValue224
 t131:=Tryz.underlying180
 a131:=Tryz.isAgg180
 z131:=Tryz.sizeOf180
 v131:=Tryz.zeroValue180
 t182:=Tryz.underlying215
 a182:=Tryz.isAgg215
 z182:=Tryz.sizeOf215
 v182:=Tryz.zeroValue215
 t183:=Tryz.underlying216
 a183:=Tryz.isAgg216
 z183:=Tryz.sizeOf216
 v183:=Tryz.zeroValue216
 t218:=Tryz.underlying238
 a218:=Tryz.isAgg238
 z218:=Tryz.sizeOf238
 v218:=Tryz.zeroValue238
 t222:=Tryz.underlying242
 a222:=Tryz.isAgg242
 z222:=Tryz.sizeOf242
 v222:=Tryz.zeroValue242
 t228:=Tryz.underlying249
 a228:=Tryz.isAgg249
 z228:=Tryz.sizeOf249
 v228:=Tryz.zeroValue249
 t229:=Tryz.underlying105
 a229:=Tryz.isAgg105
 z229:=Tryz.sizeOf105
 v229:=Tryz.zeroValue105 }
end Go.Proofs.YtfhnelkbiihpiaaGreatDoor
/-
 ch. 32l: where a library function lies (laying of the shelf's contract, written by the shelf's tool).
-/
namespace Go.Proofs.YtfhnelkbiihpiaaGreatDoor
open Go.Shelf
def ejk:Go.Shelf.Ren:=⟨fun | 194=>80 | n=>n,fun | 31=>23 | 9=>9 | 3=>3 | 4=>4 | 0=>0 | n=>n,fun | n=>n⟩
theorem eyc:Go.Proofs.Lays.n194 Tryz.prog ejk:={
 mixed:=by kernel_rfl
 f194:=Tryz.func80.trans (congrArg some (by kernel_rfl))
 t0:=Tryz.underlying0
 a0:=Tryz.isAgg0
 z0:=Tryz.sizeOf0
 v0:=Tryz.zeroValue0
 t3:=Tryz.underlying3
 a3:=Tryz.isAgg3
 z3:=Tryz.sizeOf3
 v3:=Tryz.zeroValue3
 t4:=Tryz.underlying4
 a4:=Tryz.isAgg4
 z4:=Tryz.sizeOf4
 v4:=Tryz.zeroValue4
 t9:=Tryz.underlying9
 a9:=Tryz.isAgg9
 z9:=Tryz.sizeOf9
 v9:=Tryz.zeroValue9
 t31:=Tryz.underlying23
 a31:=Tryz.isAgg23
 z31:=Tryz.sizeOf23
 v31:=Tryz.zeroValue23 }
end Go.Proofs.YtfhnelkbiihpiaaGreatDoor
