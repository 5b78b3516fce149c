/-
  slices.SortFunc by a comparator that is a function of the program: as a function on lists.
-/
import Derived.Test.YtcdofkflbnpjjaaAE27
set_option linter.unusedVariables false
set_option maxRecDepth 100000
namespace Go.AE
open Go.Proofs (ltOf)
open Go.Sort (SWO)
variable {P : Program} {β : Type} [Inhabited β]

def okCmp (f : β → β → Option Int) (l : List β) : Bool :=
  (l.all fun x => l.all fun y => (f x y).isSome) && (l.all fun x => decide (¬ (f x x).getD 0 < 0)) &&
  (l.all fun x => l.all fun y => l.all fun z => decide (((f x y).getD 0 < 0 → (f y z).getD 0 < 0 → (f x z).getD 0 < 0) ∧ (¬ (f x y).getD 0 < 0 → ¬ (f y z).getD 0 < 0 → ¬ (f x z).getD 0 < 0)))

/-- the sort of a list by a comparator that may fail -/
def sortG (f : β → β → Option Int) (l : List β) : Option (List β) :=
  if l.isEmpty = true then some [] else if okCmp f l = true then some (srt (fun x y => (f x y).getD 0) l) else none

theorem gt_cl_mem {l : List β} (hl : l ≠ []) (i : Nat) : gt l (cl l.length i) ∈ l := by
  have hn : 0 < l.length := List.length_pos_iff.2 hl
  have : cl l.length i < l.length := by unfold cl; split <;> omega
  have e1 : gt l (cl l.length i) = l[cl l.length i] := by simp [gt, List.getD_eq_getElem?_getD, this]
  rw [e1]; exact List.getElem_mem _

theorem okCmp_spec {f : β → β → Option Int} {l : List β} (hl : l ≠ []) (h : okCmp f l = true) : (∀ x ∈ l, ∀ y ∈ l, (f x y).isSome = true) ∧ SWO (ltOf (cmpI (fun x y => (f x y).getD 0) l)) := by
  simp only [okCmp, Bool.and_eq_true, List.all_eq_true, decide_eq_true_eq] at h
  obtain ⟨⟨h1, h2⟩, h3⟩ := h
  refine ⟨h1, ⟨fun i => ?_, fun i j k => ?_, fun i j k => ?_⟩⟩
  · have := h2 _ (gt_cl_mem hl i)
    exact decide_eq_false this
  · have := (h3 _ (gt_cl_mem hl i) _ (gt_cl_mem hl j) _ (gt_cl_mem hl k)).1
    exact fun a b => decide_eq_true (this (of_decide_eq_true a) (of_decide_eq_true b))
  · have := (h3 _ (gt_cl_mem hl i) _ (gt_cl_mem hl j) _ (gt_cl_mem hl k)).2
    exact fun a b => decide_eq_false (this (of_decide_eq_false a) (of_decide_eq_false b))

theorem swo_nil (c : β → β → Int) (hc : ∀ x y, c x y = 0) : SWO (ltOf (cmpI c ([] : List β))) :=
  ⟨fun i => by simp [ltOf, cmpI, hc], fun i j k h => by simp [ltOf, cmpI, hc] at h, fun i j k _ _ => by simp [ltOf, cmpI, hc]⟩

theorem callsM_sortG {ρ : Go.Shelf.Ren} (L : Go.Proofs.SlLaysF0.n6 P ρ) {E : TyI} (hE : tyI P (ρ.t 24) = some E)
    (aE : ∀ w, (isAgg (ρ.t 24)).run P w = .ok true w) (zE : ∀ w, (Go.sizeOf (ρ.t 24)).run P w = .ok E.kinds.length w) (hbytes : 0 < E.bytes) (hks : ∀ j, j < E.kinds.length → oneK (E.kinds.getD j .other) = true)
    {g : FuncId} (hent : ∀ args w, (callFunc g args).run P w = .ok (.enter g args) w) (e : β → List C) (he : ∀ x, (e x).length = E.kinds.length) (f : β → β → Option Int)
    (hraw : ∀ x y c, f x y = some c → RawCmp P g E.kinds (e x) (e y) c) (l r : List β) (H : sortG f l = some r) :
    CallsM P (ρ.f 6) [.ref (.own 0 E.kinds 0 l.length), .ref (.fnv g [])] [.row (ρ.t 24) (l.map e)] [] [.row (ρ.t 24) (r.map e)] := by
  by_cases hl : l = []
  · subst hl
    have hr : r = [] := by simpa [sortG] using H.symm
    subst hr
    have hO := swo_nil (β := β) (fun _ _ => 0) (fun _ _ => rfl)
    have h := callsM_sort L hE aE zE hbytes hks hent e he (fun _ _ => 0) [] hO (fun x hx => by simp at hx)
    have hs : srt (fun _ _ => 0) ([] : List β) = [] := List.eq_nil_of_length_eq_zero (srt_length _ [] hO)
    rw [hs] at h
    exact h
  · have hle : l.isEmpty = false := by simpa using hl
    simp only [sortG, hle, Bool.false_eq_true, if_false] at H
    split at H
    · rename_i hok
      simp only [Option.some.injEq] at H
      subst H
      obtain ⟨h1, h2⟩ := okCmp_spec hl hok
      refine callsM_sort L hE aE zE hbytes hks hent e he _ l h2 fun x hx y hy => ?_
      obtain ⟨c, hc⟩ := Option.isSome_iff_exists.1 (h1 x hx y hy)
      have := hraw x y c hc
      rw [hc]
      exact this
    · cases H

/-- what the sort gives -/
theorem sortG_eq {f : β → β → Option Int} {c : β → β → Int} {l : List β} (h : ∀ x ∈ l, ∀ y ∈ l, f x y = some (c x y)) (hO : SWO (ltOf c)) :
    ∃ r, sortG f l = some r ∧ r.Perm l ∧ r.Pairwise fun x y => ¬ c y x < 0 := by
  by_cases hl : l = []
  · subst hl
    exact ⟨[], rfl, List.Perm.refl _, List.Pairwise.nil⟩
  · have hle : l.isEmpty = false := by simpa using hl
    have hok : okCmp f l = true := by
      simp only [okCmp, Bool.and_eq_true, List.all_eq_true, decide_eq_true_eq]
      refine ⟨⟨fun x hx y hy => by rw [h x hx y hy]; rfl, fun x hx => ?_⟩, fun x hx y hy z hz => ?_⟩
      · have := hO.irrefl x
        rw [h x hx x hx]; simpa [ltOf] using this
      · rw [h x hx y hy, h y hy z hz, h x hx z hz]
        have h1 := hO.trans x y z
        have h2 := hO.ntrans x y z
        simp only [ltOf, decide_eq_true_eq, decide_eq_false_iff_not] at h1 h2
        exact ⟨h1, h2⟩
    obtain ⟨_, h2⟩ := okCmp_spec hl hok
    refine ⟨_, by simp only [sortG, hle, hok, Bool.false_eq_true, if_false, if_true], srt_perm _ l h2, ?_⟩
    have hp := srt_perm (fun x y => (f x y).getD 0) l h2
    refine List.Pairwise.imp_of_mem ?_ (srt_sorted _ l h2)
    intro x y hx hy hxy
    have := h y (hp.mem_iff.1 hy) x (hp.mem_iff.1 hx)
    simpa [this] using hxy
end Go.AE
