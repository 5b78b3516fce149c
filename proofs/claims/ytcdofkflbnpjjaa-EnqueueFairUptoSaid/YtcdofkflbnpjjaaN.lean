/-
  ch. 37: the comparator of enqueue.normalize, on raw cells (a walk of the kit's).
-/
import Derived.Test.YtcdofkflbnpjjaaT
import Derived.Laws.Externs
import Derived.WalkKit
import GoSem.Extern.BytealgCompare
set_option maxRecDepth 100000
set_option linter.unusedVariables false
namespace Go.Proofs.Ytcdofkflbnpjjaa
open Go.RowKit Go.Shelf Go.Proofs Go.Sort

/-- the order of texts as a number -/
def cmpS (x y : List UInt8) : Int := if Op.bytesLess x y = true then -1 else if x = y then 0 else 1

theorem find_succ (n : Nat) (p : Nat → Bool) : (List.range (n + 1)).find? p = if p 0 = true then some 0 else ((List.range n).find? fun i => p (i + 1)).map (· + 1) := by
  rw [List.range_succ_eq_map, List.find?_cons]
  cases h : p 0
  · simp only [List.find?_map, Function.comp_def, Bool.false_eq_true, if_false]
  · simp

theorem ba_get (x : List UInt8) (i : Nat) : (⟨x.toArray⟩ : ByteArray)[i]! = x.getD i 0 := by
  by_cases h : i < x.length
  · rw [getElem!_pos _ _ (by simpa [ByteArray.size] using h)]
    simp [List.getD_eq_getElem?_getD, h, ByteArray.getElem_eq_getElem_data]
  · rw [getElem!_neg _ _ (by simpa [ByteArray.size] using h)]
    simp [List.getD_eq_getElem?_getD, Nat.le_of_not_lt h]
    rfl

def cmpL (x y : List UInt8) : Int :=
  match (List.range (min x.length y.length)).find? fun i => x.getD i 0 != y.getD i 0 with
  | some i => if x.getD i 0 < y.getD i 0 then -1 else 1
  | none => if x.length < y.length then -1 else if x.length > y.length then 1 else 0

theorem cmpL_eq : ∀ (x y : List UInt8), cmpL x y = cmpS x y
  | [], [] => by decide
  | [], y :: ys => by simp [cmpL, cmpS, Op.bytesLess]
  | x :: xs, [] => by simp [cmpL, cmpS, Op.bytesLess]
  | x :: xs, y :: ys => by
    have ih := cmpL_eq xs ys
    have hl : min (x :: xs).length (y :: ys).length = min xs.length ys.length + 1 := by simp only [List.length_cons]; omega
    unfold cmpL at ih ⊢
    rw [hl, find_succ]
    by_cases hxy : x = y
    · subst hxy
      have e1 : ((x :: xs).getD 0 0 != (x :: ys).getD 0 0) = false := by simp
      rw [e1]
      simp only [Bool.false_eq_true, if_false, List.getD_cons_succ, List.length_cons]
      have e2 : cmpS (x :: xs) (x :: ys) = cmpS xs ys := by
        unfold cmpS
        have : Op.bytesLess (x :: xs) (x :: ys) = Op.bytesLess xs ys := by simp [Op.bytesLess]
        rw [this]; simp
      rw [e2, ← ih]
      cases (List.range (min xs.length ys.length)).find? fun i => xs.getD i 0 != ys.getD i 0 with
      | some i => simp
      | none => simp
    · have e1 : ((x :: xs).getD 0 0 != (y :: ys).getD 0 0) = true := by simpa using hxy
      rw [e1]
      simp only [if_true, List.getD_cons_zero]
      have e3 : (x == y) = false := by simpa using hxy
      by_cases hlt : x < y
      · simp [cmpS, Op.bytesLess, hlt]
      · have : ¬ (x :: xs = y :: ys) := fun h => hxy (List.cons.inj h).1
        simp [cmpS, Op.bytesLess, hlt, hxy]

theorem cmp_eq (x y : List UInt8) : Extern.BytealgCompare.cmp ⟨x.toArray⟩ ⟨y.toArray⟩ = cmpS x y := by
  rw [← cmpL_eq]
  unfold Extern.BytealgCompare.cmp cmpL
  have hs : ∀ l : List UInt8, (⟨l.toArray⟩ : ByteArray).size = l.length := fun l => rfl
  simp only [hs, ba_get]
  rfl

theorem run103 (x y : List UInt8) (W : World) : (callFunc 103 #[.string ⟨x.toArray⟩, .string ⟨y.toArray⟩]).run Try.prog W = .ok (.value (.int .i64 (cmpS x y))) W := by
  rw [run_callFunc_extern Try.func103 (by kernel_rfl) (by kernel_rfl) (by kernel_rfl) (e := Extern.BytealgCompare.compare) (by kernel_rfl)]
  rw [← cmp_eq]
  rfl

set_option maxHeartbeats 1000000 in
theorem closure82 (x y : List UInt8) (W : World) : Calls Try.prog 82 #[.string ⟨x.toArray⟩, .string ⟨y.toArray⟩] W fun e w' => e = .returned (.int .i64 (cmpS x y)) ∧ w' = W := by
  go_enter Try.func82, Try.ntmps82
  go_wp2
  rw [run103]
  rw [Oper.upon_value]
  go_wp2
  go_ret
  exact ⟨rfl, rfl⟩
set_option maxHeartbeats 1000000 in
theorem closure69 (x y : List UInt8) (W : World) : Calls Try.prog 69 #[.string ⟨x.toArray⟩, .string ⟨y.toArray⟩] W fun e w' => e = .returned (.int .i64 (cmpS x y)) ∧ w' = W := by
  go_enter Try.func69, Try.ntmps69
  go_wp2_with (go_at_call 82; refine (closure82 x y _).mono ?_; rintro e w' ⟨rfl, rfl⟩)
  go_ret
  exact ⟨rfl, rfl⟩
set_option maxHeartbeats 1000000 in
theorem closure68 (x y : List UInt8) (a b : Bool) (W : World) : Calls Try.prog 68 #[.agg #[.string ⟨x.toArray⟩, .bool a], .agg #[.string ⟨y.toArray⟩, .bool b]] W fun e w' => e = .returned (.int .i64 (cmpS x y)) ∧ ∃ q os', w' = grow (W.drewN q) os' := by
  go_enter Try.func68, Try.ntmps68
  go_wp2_with (go_at_call 69; refine (closure69 x y _).mono ?_; rintro e w' ⟨rfl, rfl⟩)
  go_ret
  exact ⟨rfl, 0, _, by rw [alloc_eq_grow, alloc_eq_grow, grow_grow]; rfl⟩

def enqueue_normalize_1 (n : Nat) (a b : TWant) : Option Int := some (cmpS a.Name b.Name)

theorem raw68 {n : Nat} (x y : TWant) (c : Int) (h : enqueue_normalize_1 n x y = some c) : Go.AE.RawCmp Try.prog 68 [.str, .bool] (e_TWant x) (e_TWant y) c := by
  simp only [enqueue_normalize_1, Option.some.injEq] at h
  subst h
  intro W al us vs h1 h2
  obtain ⟨us', e1, l1, _, r1⟩ := h1
  obtain ⟨vs', e2, l2, _, r2⟩ := h2
  have u0 := r1 0 (by simp)
  have u1 := r1 1 (by simp)
  have v0 := r2 0 (by simp)
  have v1 := r2 1 (by simp)
  rw [e1, e2]
  match us', l1, vs', l2 with
  | [x0, x1], _, [y0, y1], _ =>
    simp only [List.getD_cons_zero, List.getD_cons_succ, Go.AE.cg_zero, Go.AE.cg_succ, e_TWant] at u0 u1 v0 v1
    cases u0; cases u1; cases v0; cases v1
    exact closure68 x.Name y.Name _ _ W
end Go.Proofs.Ytcdofkflbnpjjaa
