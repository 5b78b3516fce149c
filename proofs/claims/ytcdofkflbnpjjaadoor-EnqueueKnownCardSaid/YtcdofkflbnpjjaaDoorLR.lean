/-
  EnqueueKnown runs in the kernel.
-/
import Derived.Test.YtcdofkflbnpjjaaDoorLY
set_option linter.unusedVariables false
set_option maxRecDepth 100000
namespace Go.Proofs.YtcdofkflbnpjjaaDoor
namespace enqueueKnown
open Go.KX
theorem runs : (match run kE 1000 (.call 4 [] .e 10) with | some rs => rs.all fun r => isTrue r.v | none => false) = true := by decide +kernel
end enqueueKnown
end Go.Proofs.YtcdofkflbnpjjaaDoor
