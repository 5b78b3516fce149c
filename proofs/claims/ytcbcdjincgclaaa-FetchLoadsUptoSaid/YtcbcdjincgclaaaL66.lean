/- Text. -/
import Derived.Shelf.SlIterI.Nil
import Derived.Test.YtcbcdjincgclaaaProg
import Derived.Shelf.SortM.Plain
set_option linter.unusedSimpArgs false
set_option linter.unusedVariables false
set_option maxRecDepth 100000
namespace Go.Proofs.Ytcbcdjincgclaaa
open Go.Shelf
def lay46_ren:Go.Shelf.Ren:=⟨fun | 6=>46 | 8=>65 | 9=>66 | 11=>72 | 13=>74 | 12=>73 | 23=>86 | 24=>87 | 14=>77 | 15=>78 | 16=>79 | 17=>80 | 18=>81 | 19=>82 | 20=>83 | 21=>84 | 22=>85 | 25=>88 | 26=>89 | 27=>90 | 28=>91 | 29=>92 | 30=>93 | 31=>94 | n=>n,fun | 26=>3 | 28=>81 | 24=>32 | 0=>0 | 3=>3 | 37=>68 | 48=>113 | 50=>115 | 4=>4 | 40=>107 | 39=>106 | 45=>63 | 5=>5 | 9=>9 | 51=>116 | 55=>120 | 57=>122 | 58=>123 | 33=>72 | n=>n,fun | n=>n⟩
theorem lay46:Go.Proofs.SlLaysZI.n6 Try.prog lay46_ren:={
  mixed:=by kernel_rfl
  f6:=⟨Try.f46.name,by decide,Try.func46.trans (congrArg some (by kernel_rfl))⟩
  f8:=⟨Try.f65.name,by decide,Try.func65.trans (congrArg some (by kernel_rfl))⟩
  f11:=⟨Try.f72.name,by decide,Try.func72.trans (congrArg some (by kernel_rfl))⟩
  t0:=Try.underlying0
  a0:=Try.isAgg0
  z0:=Try.sizeOf0
  v0:=Try.zeroValue0
  t24:=Try.underlying32
  a24:=Try.isAgg32
  z24:=Try.sizeOf32
  v24:=Try.zeroValue32
  t26:=Try.underlying3
  a26:=Try.isAgg3
  z26:=Try.sizeOf3
  v26:=Try.zeroValue3
  t28:=Try.underlying81
  a28:=Try.isAgg81
  z28:=Try.sizeOf81
  v28:=Try.zeroValue81
  i26:=by kernel_rfl }
end Go.Proofs.Ytcbcdjincgclaaa
/-
  ch. 33: where a library function's parts lie (laying of the shelf's contract, written by the shelf's tool).
-/
set_option maxRecDepth 100000
namespace Go.Proofs.Ytcbcdjincgclaaa
open Go.Shelf
def lay47_ren:Go.Shelf.Ren:=⟨fun | 7=>47 | 10=>67 | n=>n,fun | 23=>74 | 26=>3 | 3=>4 | 28=>81 | 0=>0 | 27=>80 | 33=>72 | 4=>4 | n=>n,fun | n=>n⟩
theorem lay47:Go.Proofs.SlLaysZI.n7 Try.prog lay47_ren:={
  mixed:=by kernel_rfl
  f7:=⟨Try.f47.name,by decide,Try.func47.trans (congrArg some (by kernel_rfl))⟩
  f10:=⟨Try.f67.name,by decide,Try.func67.trans (congrArg some (by kernel_rfl))⟩
  t0:=Try.underlying0
  a0:=Try.isAgg0
  z0:=Try.sizeOf0
  v0:=Try.zeroValue0
  t4:=Try.underlying4
  a4:=Try.isAgg4
  z4:=Try.sizeOf4
  v4:=Try.zeroValue4
  t23:=Try.underlying74
  a23:=Try.isAgg74
  z23:=Try.sizeOf74
  v23:=Try.zeroValue74
  t26:=Try.underlying3
  a26:=Try.isAgg3
  z26:=Try.sizeOf3
  v26:=Try.zeroValue3
  t27:=Try.underlying80
  a27:=Try.isAgg80
  z27:=Try.sizeOf80
  v27:=Try.zeroValue80
  t28:=Try.underlying81
  a28:=Try.isAgg81
  z28:=Try.sizeOf81
  v28:=Try.zeroValue81
  t33:=Try.underlying72
  a33:=Try.isAgg72
  z33:=Try.sizeOf72
  v33:=Try.zeroValue72 }
end Go.Proofs.Ytcbcdjincgclaaa
/-
  ch. 33: where a library function's parts lie (laying of the shelf's contract, written by the shelf's tool).
-/
set_option maxRecDepth 100000
namespace Go.Proofs.Ytcbcdjincgclaaa
open Go.Shelf
def lay66_ren:Go.Shelf.Ren:=⟨fun | 5=>66 | 8=>74 | 7=>73 | 19=>86 | 20=>87 | 10=>77 | 11=>78 | 12=>79 | 13=>80 | 14=>81 | 15=>82 | 16=>83 | 17=>84 | 18=>85 | 30=>88 | 31=>89 | 32=>90 | 33=>91 | 34=>92 | 35=>93 | 40=>94 | n=>n,fun | 23=>32 | 25=>3 | 3=>3 | 32=>68 | 22=>32 | 0=>0 | 44=>113 | 46=>115 | 4=>4 | 36=>107 | 35=>106 | 41=>63 | 5=>5 | 9=>9 | 53=>116 | 57=>120 | 63=>122 | 64=>123 | n=>n,fun | n=>n⟩
theorem lay66:Go.Proofs.SlLaysM.n5 Try.prog lay66_ren:={
  mixed:=by kernel_rfl
  f5:=⟨Try.f66.name,by decide,Try.func66.trans (congrArg some (by kernel_rfl))⟩
  f7:=⟨Try.f73.name,by decide,Try.func73.trans (congrArg some (by kernel_rfl))⟩
  f8:=Try.func74.trans (congrArg some (by kernel_rfl))
  f10:=⟨Try.f77.name,by decide,Try.func77.trans (congrArg some (by kernel_rfl))⟩
  f11:=⟨Try.f78.name,by decide,Try.func78.trans (congrArg some (by kernel_rfl))⟩
  f12:=⟨Try.f79.name,by decide,Try.func79.trans (congrArg some (by kernel_rfl))⟩
  f13:=⟨Try.f80.name,by decide,Try.func80.trans (congrArg some (by kernel_rfl))⟩
  f14:=⟨Try.f81.name,by decide,Try.func81.trans (congrArg some (by kernel_rfl))⟩
  f15:=⟨Try.f82.name,by decide,Try.func82.trans (congrArg some (by kernel_rfl))⟩
  f16:=⟨Try.f83.name,by decide,Try.func83.trans (congrArg some (by kernel_rfl))⟩
  f17:=⟨Try.f84.name,by decide,Try.func84.trans (congrArg some (by kernel_rfl))⟩
  f18:=⟨Try.f85.name,by decide,Try.func85.trans (congrArg some (by kernel_rfl))⟩
  f19:=Try.func86.trans (congrArg some (by kernel_rfl))
  f20:=Try.func87.trans (congrArg some (by kernel_rfl))
  f30:=⟨Try.f88.name,by decide,Try.func88.trans (congrArg some (by kernel_rfl))⟩
  f31:=Try.func89.trans (congrArg some (by kernel_rfl))
  f32:=Try.func90.trans (congrArg some (by kernel_rfl))
  f33:=⟨Try.f91.name,by decide,Try.func91.trans (congrArg some (by kernel_rfl))⟩
  f34:=⟨Try.f92.name,by decide,Try.func92.trans (congrArg some (by kernel_rfl))⟩
  f35:=⟨Try.f93.name,by decide,Try.func93.trans (congrArg some (by kernel_rfl))⟩
  f40:=⟨Try.f94.name,by decide,Try.func94.trans (congrArg some (by kernel_rfl))⟩
  t0:=Try.underlying0
  a0:=Try.isAgg0
  z0:=Try.sizeOf0
  v0:=Try.zeroValue0
  t3:=Try.underlying3
  a3:=Try.isAgg3
  z3:=Try.sizeOf3
  v3:=Try.zeroValue3
  t4:=Try.underlying4
  a4:=Try.isAgg4
  z4:=Try.sizeOf4
  v4:=Try.zeroValue4
  t5:=Try.underlying5
  a5:=Try.isAgg5
  z5:=Try.sizeOf5
  v5:=Try.zeroValue5
  t9:=Try.underlying9
  a9:=Try.isAgg9
  z9:=Try.sizeOf9
  v9:=Try.zeroValue9
  t22:=Try.underlying32
  a22:=Try.isAgg32
  z22:=Try.sizeOf32
  v22:=Try.zeroValue32
  t23:=Try.underlying32
  a23:=Try.isAgg32
  z23:=Try.sizeOf32
  v23:=Try.zeroValue32
  t25:=Try.underlying3
  a25:=Try.isAgg3
  z25:=Try.sizeOf3
  v25:=Try.zeroValue3
  t32:=Try.underlying68
  a32:=Try.isAgg68
  z32:=Try.sizeOf68
  v32:=Try.zeroValue68
  t35:=Try.underlying106
  a35:=Try.isAgg106
  z35:=Try.sizeOf106
  v35:=Try.zeroValue106
  t36:=Try.underlying107
  a36:=Try.isAgg107
  z36:=Try.sizeOf107
  v36:=Try.zeroValue107
  t41:=Try.underlying63
  a41:=Try.isAgg63
  z41:=Try.sizeOf63
  v41:=Try.zeroValue63
  t44:=Try.underlying113
  a44:=Try.isAgg113
  z44:=Try.sizeOf113
  v44:=Try.zeroValue113
  t46:=Try.underlying115
  a46:=Try.isAgg115
  z46:=Try.sizeOf115
  v46:=Try.zeroValue115
  t53:=Try.underlying116
  a53:=Try.isAgg116
  z53:=Try.sizeOf116
  v53:=Try.zeroValue116
  t57:=Try.underlying120
  a57:=Try.isAgg120
  z57:=Try.sizeOf120
  v57:=Try.zeroValue120
  t63:=Try.underlying122
  a63:=Try.isAgg122
  z63:=Try.sizeOf122
  v63:=Try.zeroValue122
  t64:=Try.underlying123
  a64:=Try.isAgg123
  z64:=Try.sizeOf123
  v64:=Try.zeroValue123 }
end Go.Proofs.Ytcbcdjincgclaaa
