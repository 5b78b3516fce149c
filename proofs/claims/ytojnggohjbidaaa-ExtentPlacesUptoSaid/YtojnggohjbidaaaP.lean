/-
  ch. 20: lists of extents and their tracks: what the specification's functions compute. No program in sight.
-/
import Derived.Test.YtojnggohjbidaaaF
import Derived.Test.YtojnggohjbidaaaAE21
set_option maxHeartbeats 8000000
set_option linter.unusedVariables false
set_option linter.unusedSimpArgs false
set_option maxRecDepth 100000
namespace Go.Proofs.Ytojnggohjbidaaa
open Go.AE

def N0 : Nat := 4194304

theorem wid {n : Int} (h : -4611686018427387904 ≤ n ∧ n ≤ 4611686018427387904) : IntKind.wrap .i64 n = n := w64_id (by omega) (by omega)

theorem bif_ite {α : Type} (b : Bool) (x y : α) : (bif b then x else y) = if b = true then x else y := by cases b <;> rfl
theorem ite_ff (p q : Bool) : (if p = true then q else false) = (p && q) := by cases p <;> simp
theorem ite_tt (p q : Bool) : (if p = true then true else q) = (p || q) := by cases p <;> simp

/-! ## Extents -/
def val (x : TExtent) : Bool := decide (0 ≤ x.At ∧ 1 ≤ x.Len ∧ x.At < 512 ∧ x.Len ≤ 512 - x.At)
theorem val_iff (x : TExtent) : val x = true ↔ 0 ≤ x.At ∧ 1 ≤ x.Len ∧ x.At < 512 ∧ x.Len ≤ 512 - x.At := by simp [val]
theorem val_text (x : TExtent) : (if (if (if (decide (x.At ≥ 0)) = true then (decide (x.Len ≥ 1)) else false) = true then (decide (x.At < 512)) else false) = true then (decide (x.Len ≤ (IntKind.wrap .i64 (512 - x.At)))) else false) = val x := by
  by_cases hA : 0 ≤ x.At ∧ x.At < 512
  · rw [wid (by omega)]
    by_cases h2 : 1 ≤ x.Len <;> by_cases h4 : x.Len ≤ 512 - x.At <;> simp [val, hA.1, hA.2, h2, h4]
  · by_cases h1 : 0 ≤ x.At <;> by_cases h3 : x.At < 512
    · exact absurd ⟨h1, h3⟩ hA
    all_goals simp [val, h1, h3]
theorem valid_eq (n : Nat) (x : TExtent) : extent_valid n x = some (val x) := by simp only [extent_valid, val_text]
theorem one_eq (n : Nat) (x : TExtent) : ref20_one n x = some (val x) := by simp only [ref20_one, val_text]

/-! ## extent.Check -/
def chk (m : Int) : Int → List TExtent → Bool
  | _, [] => true
  | e, x :: l => val x && decide (e < x.At) && decide (x.At + x.Len ≤ m) && chk m (x.At + x.Len) l

theorem Check_eq (n : Nat) (l : List TExtent) (m : Int) (hn : l.length < n) (hl : l.length ≤ 2147483648) : extent_Check n l m = some (chk m (-1) l) := by
  have h := loop_list (σ := Int) (body := fun (x : Int × Int) => extent_Check_b2 n m l (l.length : Int) x.1 x.2) l (fun k e => (e, (k : Int)))
    (fun e x => if val x && decide (e < x.At) && decide (x.At + x.Len ≤ m) then .inl (x.At + x.Len) else .inr (.inl false)) (fun _ => .inr ()) (fun _ _ => True) (s := -1) trivial
    (fun k hk e _ => by
      have h1 : decide ((k : Int) < (l.length : Int)) = true := by simp; omega
      have h2 : (0 : Int) ≤ (k : Int) ∧ (k : Int) < (l.length : Int) := by omega
      simp only [extent_Check_b2, h1, bif_ite, if_true, gd_pos _ h2, valid_eq, Option.bind_some, Int.toNat_natCast, gt_lt hk, ite_tt]
      by_cases hv : val l[k] = true
      · have hv' := (val_iff _).1 hv
        simp only [hv, Bool.not_true, Bool.false_or, Bool.true_and]
        rw [wid (by omega), wid (by omega)]
        have e1 : (decide (l[k].At ≤ e) || decide (l[k].At + l[k].Len > m)) = !(decide (e < l[k].At) && decide (l[k].At + l[k].Len ≤ m)) := by
          rw [Bool.eq_iff_iff, Bool.or_eq_true, Bool.not_eq_true', Bool.and_eq_false_iff]
          simp only [decide_eq_true_eq, decide_eq_false_iff_not]
          omega
        rw [e1]
        cases (decide (e < l[k].At) && decide (l[k].At + l[k].Len ≤ m)) <;> simp
      · simp [hv])
    (fun _ _ _ _ _ _ => trivial) (fun e _ => by simp [extent_Check_b2, bif_ite]) hn
  have e : ∀ (l : List TExtent) (e : Int), runL (fun e x => if val x && decide (e < x.At) && decide (x.At + x.Len ≤ m) then .inl (x.At + x.Len) else (.inr (.inl false) : Int ⊕ (Bool ⊕ Unit))) (fun _ => .inr ()) l e = if chk m e l then .inr () else .inl false := by
    intro l
    induction l with
    | nil => intro e; simp [runL, chk]
    | cons x l ih =>
      intro e
      simp only [runL, chk]
      by_cases h : (val x && decide (e < x.At) && decide (x.At + x.Len ≤ m)) = true
      · simp only [h, if_true, Bool.true_and, ih]
      · rw [Bool.not_eq_true] at h
        simp [h]
  rw [e] at h
  simp only [extent_Check]
  have h' : loopF (fun (x : Int × Int) => extent_Check_b2 n m l (l.length : Int) x.1 x.2) n (-1, 0) = some (if chk m (-1) l then .inr () else .inl false) := h
  rw [h']
  cases chk m (-1) l <;> rfl

/-! ## Tracks -/
def trk (x : TExtent) : List Int := (List.range x.Len.toNat).map fun (j : Nat) => x.At + (j : Int)
def trks (l : List TExtent) : List Int := l.flatMap trk
def addAll : List Int → List Int → Option (List Int)
  | s, [] => some s
  | s, k :: t => if k ∈ s then none else addAll (s ++ [k]) t
def trkF : List Int → List TExtent → Option (List Int)
  | s, [] => some s
  | s, x :: l => if val x then (addAll s (trk x)).bind fun s' => trkF s' l else none

def mark (s : List Int) : List Bool := (List.range 512).map fun (k : Nat) => decide ((k : Int) ∈ s)
theorem mark_len (s : List Int) : (mark s).length = 512 := by simp [mark]
theorem mark_gt (s : List Int) {k : Int} (h : 0 ≤ k ∧ k < 512) : gt (mark s) k.toNat = decide (k ∈ s) := by
  have h1 : k.toNat < 512 := by omega
  rw [gt_lt (by rw [mark_len]; exact h1)]
  simp only [mark, List.getElem_map, List.getElem_range]
  have : ((k.toNat : Nat) : Int) = k := by omega
  rw [this]
theorem mark_set (s : List Int) {k : Int} (h : 0 ≤ k ∧ k < 512) : List.set (mark s) k.toNat true = mark (s ++ [k]) := by
  refine List.ext_getElem (by simp [mark]) fun i h1 h2 => ?_
  simp only [List.length_set, mark_len] at h1
  rw [List.getElem_set]
  simp only [mark, List.getElem_map, List.getElem_range, List.mem_append, List.mem_singleton]
  by_cases e : k.toNat = i
  · have : (i : Int) = k := by omega
    simp [e, this]
  · have : ¬ (i : Int) = k := by omega
    simp [e, this]
theorem mark_nil : zreps 512 false = mark [] := by
  have e : mark [] = List.replicate 512 false := by
    unfold mark
    rw [List.eq_replicate_iff]
    refine ⟨by simp, fun b hb => ?_⟩
    obtain ⟨k, _, rfl⟩ := List.mem_map.1 hb
    simp
  rw [e]; rfl

theorem addAll_length : ∀ {t s s' : List Int}, addAll s t = some s' → s' = s ++ t
  | [], s, s', h => by simp only [addAll, Option.some.injEq] at h; simp [h]
  | k :: t, s, s', h => by
    simp only [addAll] at h
    split at h
    · cases h
    · rw [addAll_length h]; simp
theorem trk_length (x : TExtent) : (trk x).length = x.Len.toNat := by simp [trk]
theorem trk_mem {x : TExtent} {k : Int} : k ∈ trk x ↔ x.At ≤ k ∧ k < x.At + x.Len := by
  simp only [trk, List.mem_map, List.mem_range]
  constructor
  · rintro ⟨j, hj, rfl⟩; omega
  · rintro ⟨h1, h2⟩; exact ⟨(k - x.At).toNat, by omega, by omega⟩
theorem trk_get {x : TExtent} {k : Nat} (h : k < (trk x).length) : (trk x)[k] = x.At + (k : Int) := by simp [trk]

/-- the inner loop: the tracks of one extent -/
theorem Tracks_in (n : Nat) (l : List TExtent) (i : Nat) (hi : i < l.length) (hv : val l[i] = true) (s : List Int) (hs : s.length ≤ 1073741824) (hn : 512 < n) :
    loopF (fun (x : (List Bool) × (List Int) × Int) => ref20_Tracks_b4 n l (i : Int) x.1 x.2.1 x.2.2) n (mark s, s, l[i].At) = some (match addAll s (trk l[i]) with | some s' => .inr (mark s', s') | none => .inl ([], false)) := by
  have hv' := (val_iff _).1 hv
  have h := loop_list (n := n) (σ := List Int) (body := fun (x : (List Bool) × (List Int) × Int) => ref20_Tracks_b4 n l (i : Int) x.1 x.2.1 x.2.2) (trk l[i]) (fun k s => (mark s, s, l[i].At + (k : Int)))
    (fun s k => if k ∈ s then .inr (.inl ([], false)) else .inl (s ++ [k])) (fun s => .inr (mark s, s)) (fun k s' => s'.length ≤ s.length + k) (s := s) (by omega)
    (fun k hk s2 hs2 => by
      revert hs2
      generalize hs0 : s.length = sl
      rw [hs0] at hs
      clear hs0
      revert s2
      intro s hs2
      have hk' := hk
      rw [trk_length] at hk'
      have h1 : (0 ≤ (i : Int) ∧ (i : Int) < (l.length : Int)) ∧ (0 ≤ (i : Int) ∧ (i : Int) < (l.length : Int)) := by omega
      have h2 : decide (l[i].At + (k : Int) < IntKind.wrap .i64 (l[i].At + l[i].Len)) = true := by rw [wid (by omega)]; simp; omega
      have h3 : 0 ≤ l[i].At + (k : Int) ∧ l[i].At + (k : Int) < 512 := by omega
      have h4 : (0 ≤ l[i].At + (k : Int) ∧ l[i].At + (k : Int) < 512 ∧ (mark s).length = 512) ∧ (l[i].At + (k : Int)).toNat < (mark s).length := by rw [mark_len]; omega
      simp only [ref20_Tracks_b4, gd_pos _ h1, Int.toNat_natCast, gt_lt hi, h2, bif_ite, if_true, gd_pos _ h4, mark_gt s h3, trk_get hk, decide_eq_true_eq]
      by_cases hm : l[i].At + (k : Int) ∈ s
      · simp [hm]
      · have h5 : s.length + 1 ≤ 2147483648 := by omega
        simp only [hm, if_false, gd_pos _ h5, mark_set s h3]
        rw [wid (by omega)]
        have e5 : l[i].At + (k : Int) + 1 = l[i].At + ((k + 1 : Nat) : Int) := by omega
        rw [e5])
    (fun k hk s hs s' hf => by
      split at hf
      · cases hf
      · simp only [Sum.inl.injEq] at hf; subst hf; simp; omega)
    (fun s hs => by
      have h1 : (0 ≤ (i : Int) ∧ (i : Int) < (l.length : Int)) ∧ (0 ≤ (i : Int) ∧ (i : Int) < (l.length : Int)) := by omega
      have h2 : decide (l[i].At + (((trk l[i]).length : Nat) : Int) < IntKind.wrap .i64 (l[i].At + l[i].Len)) = false := by
        have e := trk_length l[i]
        rw [wid (by omega)]
        simp only [decide_eq_false_iff_not]
        omega
      simp only [ref20_Tracks_b4, gd_pos _ h1, Int.toNat_natCast, gt_lt hi, h2, bif_ite, Bool.false_eq_true, if_false]) (by rw [trk_length]; omega)
  have e : ∀ (t s : List Int), runL (fun s k => if k ∈ s then (.inr (.inl ([], false)) : List Int ⊕ ((List Int × Bool) ⊕ (List Bool × List Int))) else .inl (s ++ [k])) (fun s => .inr (mark s, s)) t s = match addAll s t with | some s' => .inr (mark s', s') | none => .inl ([], false) := by
    intro t
    induction t with
    | nil => intro s; simp [runL, addAll]
    | cons k t ih =>
      intro s
      simp only [runL, addAll]
      by_cases hm : k ∈ s
      · simp [hm]
      · simp only [hm, if_false, ih]
  rw [e] at h
  simpa using h

theorem Tracks_eq (n : Nat) (l : List TExtent) (hn : l.length < n) (hn2 : 512 < n) (hl : l.length ≤ 2097152) : ref20_Tracks n l = some (match trkF [] l with | some s => (s, true) | none => ([], false)) := by
  have h := loop_list (σ := List Int) (body := fun (x : (List Bool) × (List Int) × Int) => ref20_Tracks_b2 n l x.1 x.2.1 x.2.2) l (fun k s => (mark s, s, (k : Int)))
    (fun s x => if val x then (match addAll s (trk x) with | some s' => .inl s' | none => .inr (.inl ([], false))) else .inr (.inl ([], false))) (fun s => .inr s) (fun k s => s.length ≤ 512 * k) (s := []) (by simp)
    (fun k hk s hs => by
      have h1 : decide ((k : Int) < (l.length : Int)) = true := by simp; omega
      have h2 : 0 ≤ (k : Int) ∧ (k : Int) < (l.length : Int) := by omega
      simp only [ref20_Tracks_b2, h1, bif_ite, if_true, gd_pos _ h2, one_eq, Option.bind_some, Int.toNat_natCast, gt_lt hk]
      by_cases hv : val l[k] = true
      · simp only [hv, Bool.not_true, Bool.false_eq_true, if_false, if_true]
        rw [Tracks_in n l k hk hv s (by omega) hn2]
        simp only [Option.bind_some]
        cases addAll s (trk l[k]) with
        | none => rfl
        | some s' =>
          simp only [ref20_Tracks_k3]
          rw [wid (by omega)]; simp
      · simp [hv])
    (fun k hk s hs s' hf => by
      split at hf
      · rename_i hv
        have hv' := (val_iff _).1 hv
        split at hf
        · rename_i s2 h2
          simp only [Sum.inl.injEq] at hf; subst hf
          rw [addAll_length h2, List.length_append, trk_length]; omega
        · cases hf
      · cases hf)
    (fun s hs => by simp [ref20_Tracks_b2, bif_ite]) hn
  have e : ∀ (l : List TExtent) (s : List Int), runL (fun s x => if val x then (match addAll s (trk x) with | some s' => .inl s' | none => (.inr (.inl ([], false)) : List Int ⊕ ((List Int × Bool) ⊕ List Int))) else .inr (.inl ([], false))) (fun s => .inr s) l s = match trkF s l with | some s' => .inr s' | none => .inl ([], false) := by
    intro l
    induction l with
    | nil => intro s; simp [runL, trkF]
    | cons x l ih =>
      intro s
      simp only [runL, trkF]
      by_cases hv : val x = true
      · simp only [hv, if_true]
        cases addAll s (trk x) with
        | none => rfl
        | some s' => simp only [Option.bind_some, ih]
      · simp [hv]
  rw [e] at h
  have h' : loopF (fun (x : (List Bool) × (List Int) × Int) => ref20_Tracks_b2 n l x.1 x.2.1 x.2.2) n (mark [], [], 0) = _ := h
  simp only [ref20_Tracks, mark_nil, h', Option.bind_some]
  cases trkF [] l <;> rfl
end Go.Proofs.Ytojnggohjbidaaa
