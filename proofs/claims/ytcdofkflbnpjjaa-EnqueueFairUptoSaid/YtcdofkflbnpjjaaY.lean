/-
  ch. 37: plain laws. EnqueueSafe and EnqueueUndone.
-/
import Derived.Test.YtcdofkflbnpjjaaX
set_option maxHeartbeats 8000000
set_option linter.unusedVariables false
set_option linter.unusedSimpArgs false
set_option maxRecDepth 100000
namespace Go.Proofs.Ytcdofkflbnpjjaa
open Go.AE

theorem acts_jobs {l : List TAct} (h : CanL Try.prog [.slice 45] [.slice (List.map e_TAct l)]) : ∀ a ∈ l, 0 ≤ a.Job ∧ a.Job < 256 := by
  intro a ha
  have h0 := h.2 0 (by decide)
  have h1 := can_elt ty45 e_TAct (l := l) h0 a ha
  have h2 := h1.2 0 (by simp)
  simp only [e_TAct, cg_zero, List.getD_cons_zero] at h2
  cases h2 with
  | int _ _ hr =>
    have h3 : IntKind.u8.min = 0 := by decide
    have h4 : IntKind.u8.max = 255 := by decide
    simp only [InR, h3, h4] at hr; omega

theorem Holds_eq (n : Nat) (t : TTable) (j : Int) (ht : small t) (hn : N0 ≤ n) : enqueue_Holds n t j = some (vld t && jobs t.Held j) := by
  simp only [enqueue_Holds, Check_eq n t ht hn, index_eq n _ _ ht.1.1 hn, Option.bind_some, Option.isSome_some, implies_true, gd_pos, Option.getD_some, ixI_ge, ite_ff]
  cases vld t <;> simp

/-! ## Undone -/
theorem sweep_stuck : ∀ (l H A : List TRequest) (J : List Int), stuck H (A ++ l) → sweep l H A J = (H, A ++ l, J)
  | [], H, A, J, _ => by simp [sweep]
  | q :: l, H, A, J, h => by
    have h1 := h A.length (by simp)
    have e1 : gt (A ++ q :: l) A.length = q := by rw [gt_lt (by simp)]; simp
    rw [e1, List.take_left] at h1
    simp only [sweep]
    rw [if_pos h1, sweep_stuck l H (A ++ [q]) J (by simpa using h)]
    simp

theorem ix_none {l : List TRequest} {j : Int} (h : jobs l j = false) : ix l j = none := by
  have := ixI_ge l j
  rw [h] at this
  cases e : ix l j with
  | none => rfl
  | some k => rw [ixI, e] at this; simp at this
theorem ix_snoc {l : List TRequest} {j : Int} {w : List TWant} (h : jobs l j = false) : ix (l ++ [⟨j, w⟩]) j = some l.length := by
  have h1 : ∀ i, i < l.length → ((gt (l ++ [(⟨j, w⟩ : TRequest)]) i).Job == j) = false := by
    intro i hi
    rw [gt_lt (by simp; omega), List.getElem_append_left hi]
    rw [jobs, List.any_eq_false] at h
    simpa using h _ (List.getElem_mem hi)
  have h2 : ((gt (l ++ [(⟨j, w⟩ : TRequest)]) l.length).Job == j) = true := by rw [gt_lt (by simp)]; simp
  rw [ix, List.length_append, List.length_cons, List.length_nil, List.range_succ, List.find?_append]
  have h3 : (List.range l.length).find? (fun k => (gt (l ++ [(⟨j, w⟩ : TRequest)]) k).Job == j) = none := (range_none _ _).2 h1
  rw [h3]
  simp [h2]
theorem rm_snoc (l : List TRequest) (q : TRequest) : rm (l ++ [q]) l.length = l := by simp [rm]

theorem undo {t : TTable} (h : VP t) {j : Int} {w : List TWant} (hj : jobs t.Held j = false ∧ jobs t.Waiting j = false) (h0 : (askM t j w).2.2 = 0) :
    relM (askM t j w).1 j = (t, [], 0) ∧ jobs (askM t j w).1.Held j = (askM t j w).2.1 := by
  have hv := (askM_VP h j w h0).vld
  unfold askM at h0 hv ⊢
  split at h0
  · cases h0
  · split at h0
    · cases h0
    · split at h0
      · cases h0
      · rename_i a b c
        rw [if_neg a, if_neg b, if_neg c] at hv ⊢
        have hst := sweep_stuck t.Waiting t.Held [] [] (by simpa using h.st)
        split at hv
        · rename_i d
          rw [if_pos d]
          refine ⟨?_, hj.1⟩
          simp only [relM, hv, Bool.true_eq_false, if_false, ix_none hj.1, ix_snoc hj.2, rm_snoc, hst]
          rfl
        · rename_i d
          rw [if_neg d]
          refine ⟨?_, by simp [jobs]⟩
          simp only [relM, hv, Bool.true_eq_false, if_false, ix_snoc hj.1, rm_snoc, hst]
          rfl
end Go.Proofs.Ytcdofkflbnpjjaa
