/- Text. -/
import Derived.Test.YtcbcdjincgclaaaN
import Derived.Test.YtcbcdjincgclaaaL66
import Derived.Shelf.SlIterI.Nil
import Derived.Shelf.SortM.Plain
import Derived.Shelf.SortM.SortNone
import Derived.Maps.RangeRun
import Derived.Laws.IdiomRangeMap
set_option linter.unusedSimpArgs false
set_option linter.unusedVariables false
set_option linter.unusedVariables false
set_option linter.unusedSimpArgs false
set_option maxRecDepth 100000
namespace Go.Proofs.Ytcbcdjincgclaaa
open Go.AE
open Go.RowKit (Below)
open Go.Maps Go.Shelf Go.WideElems
end Go.Proofs.Ytcbcdjincgclaaa
/-
  maps.DeleteFunc with fetch.Segment's closure, as a call that is handed the map.
-/
set_option linter.unusedVariables false
set_option linter.unusedSimpArgs false
set_option maxRecDepth 100000
namespace Go.Proofs.Ytcbcdjincgclaaa
open Go.AE
open Go.RowKit (Below)
def keepE (dl:MapEntry→Bool) (seen:Array Nat) (e:MapEntry):Bool:=!(seen.contains e.born && dl e)
theorem key_inj {L:List MapEntry} (hn:(L.map (·.key)).Nodup) {x y:MapEntry} (hx:x∈L) (hy:y∈L) (h:x.key=y.key):x=y:=by
  induction L with
  | nil=>simp at hx
  | cons a L ih =>
    simp only [List.map_cons,List.nodup_cons] at hn
    rcases List.mem_cons.1 hx with hx | hx <;> rcases List.mem_cons.1 hy with hy | hy
    · rw [hx,hy]
    · exact absurd (List.mem_map_of_mem (f:=(·.key)) hy) (by rw [← h,hx];exact hn.1)
    · exact absurd (List.mem_map_of_mem (f:=(·.key)) hx) (by rw [h,hy];exact hn.1)
    · exact ih hn.2 hx hy
structure LoopD (w W:World) (b:Nat) (L0:List MapEntry) (clock:Nat) (dl:MapEntry→Bool) (seen:Array Nat) (c0:Nat):Prop where
  map:W.heap[b]? = some (.map (L0.filter (keepE dl seen)).toArray clock)
  iter:W.heap[w.heap.size]? = some (.mapIter (some b) clock seen c0)
  le:clock≤c0
  os:W.os=w.os
  tape:W.tape=w.tape
  output:W.output=w.output
  keep:∀ k,k < w.heap.size→k≠b→W.heap[k]? = w.heap[k]?
end Go.Proofs.Ytcbcdjincgclaaa
