import Derived.RangeFuncNested
import Derived.RangeFuncBound
import Derived.RangeFuncCalls
import Derived.RangeFuncLeaves
import Derived.RangeFuncBox
import Derived.Shelf.Abstract
import Derived.Shelf.RegionOpen
import Derived.WalkKit
import Derived.OwnWalkIn
import Derived.TacticsInMore
import Derived.LoopNIn
import Derived.LoopIn
import Derived.Test.YtijnkhcfondehaaGreatDoorProg
import Derived.RangeFuncWrites
set_option linter.unusedSimpArgs false
set_option linter.unusedVariables false
set_option maxRecDepth 100000
namespace Go.Proofs.YtijnkhcfondehaaGreatDoor
open Go.RowKit Go.Shelf Go.Proofs
attribute [local go_sem] Oper.semAt_some
structure KC (W W':World):Prop where
 size:W.heap.size≤W'.heap.size
 same:∀ (k:Nat) (o:Obj),W.heap[k]? = some o→o.isCells=true→W'.heap[k]? = some o
theorem KC.trans {A B C:World} (h:KC A B) (k:KC B C):KC A C:=⟨Nat.le_trans h.size k.size,fun i o h1 h2=>k.same i o (h.same i o h1 h2) h2⟩
theorem KC.cell {W W':World} (h:KC W W') {a:Addr} {v:Value} (hc:W.cell? a=some v):W'.cell? a=some v:=by
 unfold World.cell? at hc ⊢
 cases ho:W.heap[a.block]? with
 | none=>simp [ho] at hc
 | some o =>
  have hcell:o.isCells=true:=by cases o <;> simp_all [Obj.isCells]
  rw [h.same _ _ ho hcell]
  rw [ho] at hc;exact hc
def upT (f:Nat→Int×Int):Nat→List (Nat×Int)
 | 0=>[]
 | k+1=>upT f k ++ (List.range (f k).2.toNat).map fun (j:Nat)=>((upT f k).length+j,(f k).1+(j:Int))
end Go.Proofs.YtijnkhcfondehaaGreatDoor
namespace Go.Proofs.YtijnkhcfondehaaGreatDoor
open Go.RowKit Go.Shelf Go.Proofs
attribute [local go_sem] Oper.semAt_some
theorem so {W:World} {a b:Addr} {v:Value} (h:a≠b):(W.setCell a v).cell? b=W.cell? b:=by
 first | exact World.cell?_setCell_other _ _ _ _ h | exact World.cell?_setCell_other _ _ _ h | exact World.cell?_setCell_other _ _ h
end Go.Proofs.YtijnkhcfondehaaGreatDoor
