/-
  FetchNil: the statement, out of the function and its contract.
-/
import Derived.Test.YtcbcdjincgclaaaFN
import Derived.Test.YtcbcdjincgclaaaChecked
import Derived.Test.YtcbcdjincgclaaaRows
import Derived.JoinedCond
import Derived.Deep.DeepHandedRow
set_option maxHeartbeats 8000000
set_option linter.unusedVariables false
set_option linter.unusedSimpArgs false
set_option maxRecDepth 100000
namespace Go.Proofs.Ytcbcdjincgclaaa
namespace fetchNil
open Go.ChangeShapes Go.WideShapes Go.ChangeAt Go.RowKit
theorem own : ownKnob Try.prog.godebug = none := by kernel_rfl
def m0 : Array Value := #[.agg #[.slice none 0 0, .slice none 0 0, .slice none 0 0, .int .i64 0]]
noncomputable def fs26 : Array Field := match Try.prog.underlying 26 with | some (.struct fs) => fs | _ => #[]
theorem und26 : Try.prog.underlying 26 = some (.struct fs26) := by kernel_rfl
theorem cells26 : Try.prog.cellsOf 26 = 4 := by kernel_rfl
theorem post {H : Type} {enc : TypeId × Value → H} {W W' : World} {args : Array Value} {ds gs : List (DataW H)} {before : List MemPlace} (hW : DataW.Whole enc Try.prog Try.f7.params.toList Rows.fetchNilSpec.vars false W args.toList ds gs before) (hb : Below W.heap.size W W') :
    Rows.fetchNilSpec.post enc Try.prog Try.f7 false true false false W args (.bool true) W' := by
  refine KX.post_below (bt := 4) (by kernel_rfl) ?_ rfl rfl (by kernel_rfl) ?_ hW hb
  · intro t ht
    have h : (Try.f7.params.toList.all fun t => Try.prog.readableRec t && decide (t < Try.prog.types.size)) = true := by kernel_rfl
    have := List.all_eq_true.1 h t ht
    simpa using this
  · intro ds hds
    match ds, hds with
    | [d], _ => rfl

theorem one_arg {H : Type} {enc : TypeId × Value → H} {W : World} {args : Array Value} {ds gs : List (DataW H)} {before : List MemPlace} {vs : List String} (hW : DataW.Whole enc Try.prog Try.f7.params.toList vs false W args.toList ds gs before) : ∃ v, args = #[v] := by
  obtain ⟨p, q, hA, _⟩ := hW
  rw [show Try.f7.params.toList = [26] from rfl] at hA
  obtain ⟨v, vs, d, ds', p0, q0, h1, h2, h3, h0, r0⟩ := trodAll_cons hA
  obtain ⟨e1, e2, e3⟩ := trodAll_nil r0
  subst e1
  exact ⟨v, Array.ext' h1⟩
theorem four {W : World} {r : Reach} {base : Nat} {v : Value} (h : Value.okWide Try.prog W r base 26 v) : ∃ a b c n, v = .agg #[a, b, c, n] := by
  obtain ⟨cs, rfl, hcs⟩ := okWide_struct und26 h
  rw [cells26] at hcs
  obtain ⟨l⟩ := cs
  match l, hcs with
  | [a, b, c, n], _ => exact ⟨a, b, c, n, rfl⟩

set_option maxRecDepth 100000 in
theorem lifted (os : Os) (started : os.Started) (H : Type) (enc : TypeId × Value → H) (F : Stop.Interp) :
    ReturnsInHanded {} Try.checked os 7 .any ((OpenSpec.ofChange Rows.fetchNilSpec).preRow enc Try.prog Try.f7 Rows.fetchNilRow.domain false Rows.fetchNilRow.laid) (((OpenSpec.ofChange Rows.fetchNilSpec).at F).post enc Try.prog Try.f7 false true false false) := by
  refine returnsInHanded_of_row (C := Try.checked) (s := OpenSpec.ofChange Rows.fetchNilSpec) own started (by kernel_rfl) Try.func7
    (witness_row_at (enc := enc) (C := Try.checked) false (World.holding Try.prog os ⟨#[], m0, []⟩) m0 rfl (by kernel_rfl) (by kernel_rfl) (by kernel_rfl)
      (OpenSpec.preRow_of_B rfl 12 (by kernel_rfl) (by kernel_rfl) (laidMet_nil _ _))) ?_
  intro W base args ds gs before hval hW _ _ _ _ _ _
  obtain ⟨v, rfl⟩ := one_arg hW
  obtain ⟨a, b, c, n, rfl⟩ := four (hval 0 26 v rfl rfl)
  refine (law7 works12 a b c n W).mono ?_
  rintro e W' ⟨rfl, hb⟩
  exact ⟨_, rfl, post hW hb⟩

theorem over : Rows.fetchNilRow.holds Try.pinned (OpenSpec.ofChange Rows.fetchNilSpec) :=
  OpenClaim.holds_of_cond 7 Try.f7 rfl rfl rfl rfl rfl rfl rfl ⟨rfl, rfl, rfl, rfl, rfl⟩ rfl rfl rfl rfl rfl (by kernel_rfl) Try.func7 (by kernel_rfl)
    (of_decide_eq_true (by kernel_rfl)) (by unfold Func.isWrapper; first | (rw [if_pos (by decide +kernel)]; kernel_rfl) | (rw [if_neg (by decide +kernel)]; exact ⟨rfl, rfl⟩))
    (fun os started H enc _ F => by rw [OpenClaim.pre_eq_preRow]; exact lifted os started H enc F)
end fetchNil

theorem FetchNil_full : Rows.FetchNilSaid := fetchNil.over
end Go.Proofs.Ytcbcdjincgclaaa
