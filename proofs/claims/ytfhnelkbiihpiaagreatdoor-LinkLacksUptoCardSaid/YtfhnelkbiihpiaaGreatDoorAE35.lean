/- Text. -/
import Derived.Test.YtfhnelkbiihpiaaGreatDoorAE33
import Derived.RangeFuncNested
set_option linter.unusedSimpArgs false
set_option linter.unusedVariables false
namespace Go.AE
open Go.RowKit (Below)
variable {P:Program} {w:World}
end Go.AE
/-
 A range over a function: from the iterator's list to a loop over a list.
-/
namespace Go.AE
open Go.RowKit (Below)
variable {P:Program} {w0:Base} {w:World} {N kp:Nat} {σ:Nat→RefI} {s:S} {tms:Array Value} {Q:Exit→S→Prop}
def ekm (tm:Nat→A):List Nat→List A→(Nat→A)
 | p :: ps,a :: as=>ekm (upd tm p a) ps as
 | _,_=>tm
mutual
def lowA (m:Nat):A→Bool
 | .own id _ _ _=>decide (id < m)
 | .box id _=>decide (id < m)
 | .bsl id _=>decide (id < m)
 | .elt id _ _ _ _=>decide (id < m)
 | .mref id=>decide (id < m)
 | .agg xs=>dyg m xs
 | .tup xs=>dyg m xs
 | .fnv _ xs=>dyg m xs
 | .fnb _ xs=>dyg m xs
 | .when _ a=>lowA m a
 | .rg id _ _=>decide (id < m)
 | .rp id _ _ _=>decide (id < m)
 | _=>true
def dyg (m:Nat):List A→Bool
 | []=>true
 | a :: as=>lowA m a && dyg m as
end
end Go.AE
