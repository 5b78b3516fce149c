/- Text. -/
import Derived.Shelf.SlIterI.Nil
import Derived.Test.YtcbcdjincgclaaaProg
import Derived.Shelf.SortM.Plain
set_option linter.unusedSimpArgs false
set_option linter.unusedVariables false
set_option maxRecDepth 100000
namespace Go.Proofs.Ytcbcdjincgclaaa
open Go.Shelf
end Go.Proofs.Ytcbcdjincgclaaa
/-
  ch. 33: where a library function's parts lie (laying of the shelf's contract, written by the shelf's tool).
-/
set_option maxRecDepth 100000
namespace Go.Proofs.Ytcbcdjincgclaaa
open Go.Shelf
end Go.Proofs.Ytcbcdjincgclaaa
/-
  ch. 33: where a library function's parts lie (laying of the shelf's contract, written by the shelf's tool).
-/
set_option maxRecDepth 100000
namespace Go.Proofs.Ytcbcdjincgclaaa
open Go.Shelf
end Go.Proofs.Ytcbcdjincgclaaa
