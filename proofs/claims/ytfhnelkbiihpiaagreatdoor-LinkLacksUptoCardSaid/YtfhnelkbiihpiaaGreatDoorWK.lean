/- Text. -/
import Derived.Test.YtfhnelkbiihpiaaGreatDoorK22
import Derived.Test.YtfhnelkbiihpiaaGreatDoorProg
set_option linter.unusedVariables false
set_option maxRecDepth 100000
namespace Go.Proofs.YtfhnelkbiihpiaaGreatDoor
namespace lworks
open Go.KX
def kX (g:FuncId):Option (List KV→Option KV):=bif Nat.beq g 175 then some kIndexByte else bif Nat.beq g 174 then some kCountString else none
noncomputable def kE:Env:={ P:=Tryz.prog,X:=kX,F:=[8,38,39,44,51,83,85,109,131,156,158,166,255] }
theorem ext:∀ g e,kE.X g=some e→EntryOk Tryz.prog g e:=by
 intro g e h
 simp only [kE,kX] at h
 cases h1:Nat.beq g 175 with
 | true =>
  rw [h1] at h
  obtain rfl:=Nat.eq_of_beq_eq_true h1
  obtain rfl:=Option.some.inj h
  exact entry_indexByte (fn:=Tryz.f175) (by kernel_rfl) (by kernel_rfl) (by kernel_rfl) (by kernel_rfl) (by kernel_rfl)
 | false =>
  rw [h1] at h
  cases h2:Nat.beq g 174 with
  | true =>
   rw [h2] at h
   obtain rfl:=Nat.eq_of_beq_eq_true h2
   obtain rfl:=Option.some.inj h
   exact entry_countString (fn:=Tryz.f174) (by kernel_rfl) (by kernel_rfl) (by kernel_rfl) (by kernel_rfl) (by kernel_rfl)
  | false=>rw [h2] at h;cases h
theorem kEok:EnvOk kE:=⟨fun t ht=>List.all_eq_true.1 (show kE.F.all (flatOk kE.P)=true by kernel_rfl) t ht,by kernel_rfl,ext,fun g e h=>by cases h⟩
theorem runs:(match run kE 1000 (.call 14 [] .e 10) with | some rs=>rs.all fun r=>isTrue r.v | none=>false)=true:=by decide +kernel
end lworks
open Go.RowKit in
theorem ekk (W:World):Calls Tryz.prog 14 #[] W fun e w'=>e = .returned (.bool true)∧Below W.heap.size W w':=KX.closed_true lworks.kEok lworks.runs W
end Go.Proofs.YtfhnelkbiihpiaaGreatDoor
