/-
  ch. 20: sorting, and which lists are valid. No program in sight.
-/
import Derived.Test.YtojnggohjbidaaaV
set_option maxHeartbeats 8000000
set_option linter.unusedVariables false
set_option linter.unusedSimpArgs false
set_option maxRecDepth 100000
namespace Go.Proofs.Ytojnggohjbidaaa
open Go.AE

def cmpA (x y : TExtent) : Int := if x.At < y.At then -1 else if y.At < x.At then 1 else 0
theorem cmpA_lt (x y : TExtent) : cmpA x y < 0 ↔ x.At < y.At := by
  unfold cmpA
  split
  · simp [*]
  · split <;> simp [*] <;> omega
theorem cmp_eq (n : Nat) (x y : TExtent) : extent_sorted_1 n x y = some (cmpA x y) := by
  simp only [extent_sorted_1, cmp_Compare_f45, cmp_isNaN_f49, Option.bind_some, bne_self_eq_false, bif_ite, Bool.false_eq_true, if_false, cmpA, decide_eq_true_eq, gt_iff_lt]
  split
  · rfl
  · split <;> rfl
theorem swoA : Go.Sort.SWO (Go.Proofs.ltOf cmpA) := by
  have h : ∀ x y, Go.Proofs.ltOf cmpA x y = decide (x.At < y.At) := fun x y => by
    unfold Go.Proofs.ltOf
    exact decide_eq_decide.2 (cmpA_lt x y)
  refine ⟨fun x => ?_, fun x y z => ?_, fun x y z => ?_⟩
  · rw [h]; simp
  · rw [h, h, h]; simp only [decide_eq_true_eq]; omega
  · rw [h, h, h]; simp only [decide_eq_false_iff_not]; omega

theorem sorted_eq (n : Nat) (l : List TExtent) (hl : l.length ≤ 2147483648) : ∃ r, extent_sorted n l = some r ∧ r.Perm l ∧ r.Pairwise fun x y => x.At ≤ y.At := by
  obtain ⟨r, h1, h2, h3⟩ := sortG_eq (f := fun x y => extent_sorted_1 n x y) (c := cmpA) (l := l) (fun x _ y _ => cmp_eq n x y) swoA
  refine ⟨r, ?_, h2, h3.imp fun {x y} h => ?_⟩
  · simp only [extent_sorted, Clone_eq n l hl, Option.bind_some, slices_SortFunc_f43_c44, h1]
    rw [List.take_of_length_le (by rw [h2.length_eq]; exact Nat.le_refl _)]
  · rw [cmpA_lt] at h; omega

/-! ## Lists that do not overlap -/
def apart (x y : TExtent) : Prop := x.At + x.Len ≤ y.At
def adj (r : List TExtent) : Prop := ∀ j, 0 < j → j < r.length → (gt r (j - 1)).At + (gt r (j - 1)).Len ≤ (gt r j).At
theorem adj_iff {r : List TExtent} (hv : r.all val = true) : adj r ↔ r.Pairwise apart := by
  rw [List.pairwise_iff_getElem]
  constructor
  · intro h i j hi hj hij
    have key : ∀ d, i + 1 + d < r.length → (gt r i).At + (gt r i).Len ≤ (gt r (i + 1 + d)).At := by
      intro d
      induction d with
      | zero => intro hd; simpa using h (i + 1) (by omega) hd
      | succ d ih =>
        intro hd
        have h1 := ih (by omega)
        have h2 := h (i + 1 + (d + 1)) (by omega) hd
        have e : i + 1 + (d + 1) - 1 = i + 1 + d := by omega
        rw [e] at h2
        have h3 : val (gt r (i + 1 + d)) = true := by
          rw [gt_lt (by omega)]; exact List.all_eq_true.1 hv _ (List.getElem_mem _)
        have h3' := (val_iff _).1 h3
        omega
    have := key (j - i - 1) (by omega)
    have e : i + 1 + (j - i - 1) = j := by omega
    rw [e, gt_lt hi, gt_lt hj] at this
    exact this
  · intro h j h0 hj
    have := h (j - 1) j (by omega) hj (by omega)
    rw [gt_lt (by omega), gt_lt hj]
    exact this

theorem trk_nodup (x : TExtent) : (trk x).Nodup := (trk_asc x).imp fun h => by omega
theorem nodup_trks {r : List TExtent} : (trks r).Nodup ↔ r.Pairwise fun a b => ∀ x ∈ trk a, ∀ y ∈ trk b, x ≠ y := by
  unfold trks List.Nodup
  rw [List.pairwise_flatMap]
  exact ⟨fun h => h.2, fun h => ⟨fun a _ => trk_nodup a, h⟩⟩
theorem nodup_apart {r : List TExtent} (hv : r.all val = true) (hs : r.Pairwise fun x y => x.At ≤ y.At) : (trks r).Nodup ↔ r.Pairwise apart := by
  rw [nodup_trks]
  constructor
  · intro h
    refine List.Pairwise.imp_of_mem ?_ (hs.and h)
    rintro a b ha hb ⟨h1, h2⟩
    have va := (val_iff _).1 (List.all_eq_true.1 hv a ha)
    have vb := (val_iff _).1 (List.all_eq_true.1 hv b hb)
    unfold apart
    rcases Int.lt_or_le b.At (a.At + a.Len) with h3 | h3
    · exact absurd rfl (h2 b.At (trk_mem.2 (by omega)) b.At (trk_mem.2 (by omega)))
    · exact h3
  · intro h
    refine h.imp fun {a b} hab x hx y hy => ?_
    have := trk_mem.1 hx
    have := trk_mem.1 hy
    unfold apart at hab
    omega

theorem trkF_isSome (l : List TExtent) : (trkF [] l).isSome = true ↔ l.all val = true ∧ (trks l).Nodup := by
  constructor
  · intro h
    obtain ⟨s, hs⟩ := Option.isSome_iff_exists.1 h
    obtain ⟨h1, h2⟩ := trkF_spec hs
    have h3 := trkF_nodup hs List.nodup_nil
    rw [h1] at h3
    exact ⟨h2, by simpa using h3⟩
  · rintro ⟨h1, h2⟩
    rw [trkF_some h1 (by simpa using h2)]; rfl
theorem trkO_of {l : List TExtent} (h : (trkF [] l).isSome = true) : trkO l = trks l := by
  obtain ⟨s, hs⟩ := Option.isSome_iff_exists.1 h
  have h1 := (trkF_spec hs).1
  simp [trkO, hs, h1]
theorem trkO_none {l : List TExtent} (h : (trkF [] l).isSome = false) : trkO l = [] := by
  have : trkF [] l = none := by simpa using h
  simp [trkO, this]
theorem len_le_trks : ∀ {l : List TExtent}, l.all val = true → l.length ≤ (trks l).length
  | [], _ => by simp
  | x :: l, h => by
    simp only [List.all_cons, Bool.and_eq_true] at h
    have := len_le_trks h.2
    have := (val_iff _).1 h.1
    rw [trks_cons, List.length_append, trk_length, List.length_cons]
    omega

theorem perm_trks {r l : List TExtent} (h : r.Perm l) : (trks r).Perm (trks l) := h.flatMap_right trk
theorem perm_all {r l : List TExtent} (h : r.Perm l) : r.all val = l.all val := by
  rw [Bool.eq_iff_iff, List.all_eq_true, List.all_eq_true]
  exact ⟨fun H x hx => H x (h.mem_iff.2 hx), fun H x hx => H x (h.mem_iff.1 hx)⟩

/-! ## extent.Valid -/
theorem Valid_loop (n : Nat) (r : List TExtent) (hv : r.all val = true) (hn : r.length + 1 < n) (hl : r.length ≤ 1073741824) : ∃ y, loopF (fun (x : Int) => extent_Valid_b3 n r x) n 1 = some y ∧ ((y = .inl false ∧ ¬ adj r) ∨ (y = .inr () ∧ adj r)) := by
  refine loopF_inv (body := fun (x : Int) => extent_Valid_b3 n r x) (fun x => ∃ k : Nat, x = (k : Int) ∧ 1 ≤ k ∧ (k ≤ r.length ∨ k = 1) ∧ ∀ j, 0 < j → j < k → j < r.length → (gt r (j - 1)).At + (gt r (j - 1)).Len ≤ (gt r j).At) (fun x => r.length - x.toNat)
    _ ?_ n 1 ⟨1, rfl, Nat.le_refl _, .inr rfl, fun j h0 h1 => by omega⟩ (by omega)
  rintro x ⟨k, rfl, hk1, hk, hj⟩
  by_cases hkl : k < r.length
  · have c1 : decide ((k : Int) < (r.length : Int)) = true := by simp; omega
    have e1 : IntKind.wrap .i64 ((k : Int) - 1) = ((k - 1 : Nat) : Int) := by rw [wid (by omega)]; omega
    have c2 : (0 ≤ (k : Int) ∧ (k : Int) < (r.length : Int)) ∧ (0 ≤ ((k - 1 : Nat) : Int) ∧ ((k - 1 : Nat) : Int) < (r.length : Int)) ∧ (0 ≤ ((k - 1 : Nat) : Int) ∧ ((k - 1 : Nat) : Int) < (r.length : Int)) := by omega
    have v1 : val (gt r (k - 1)) = true := by
      rw [gt_lt (by omega)]; exact List.all_eq_true.1 hv _ (List.getElem_mem _)
    have v1' := (val_iff _).1 v1
    simp only [extent_Valid_b3, c1, bif_ite, if_true, e1, gd_pos _ c2, Int.toNat_natCast]
    rw [wid (n := (gt r (k - 1)).At + (gt r (k - 1)).Len) (by omega)]
    by_cases b : (gt r k).At < (gt r (k - 1)).At + (gt r (k - 1)).Len
    · refine .inr ⟨.inl false, by simp [b], .inl ⟨rfl, fun h => ?_⟩⟩
      have := h k (by omega) hkl
      omega
    · refine .inl ⟨((k + 1 : Nat) : Int), by rw [wid (by omega)]; simp [b], ⟨k + 1, rfl, by omega, .inl hkl, fun j h0 h1 h2 => ?_⟩, by omega⟩
      by_cases e : j = k
      · subst e; omega
      · exact hj j h0 (by omega) h2
  · have c1 : decide ((k : Int) < (r.length : Int)) = false := by simp; omega
    refine .inr ⟨.inr (), by simp only [extent_Valid_b3, c1, bif_ite, Bool.false_eq_true, if_false], .inr ⟨rfl, fun j h0 h1 => hj j h0 (by omega) h1⟩⟩

theorem Valid_eq (n : Nat) (hn : N0 ≤ n) (l : List TExtent) (hl : l.length ≤ 1073741824) : extent_Valid n l = some (trkF [] l).isSome := by
  by_cases h512 : 512 < l.length
  · have c1 : decide ((l.length : Int) > 512) = true := by simp; omega
    have : (trkF [] l).isSome = false := by
      rw [← Bool.not_eq_true, trkF_isSome]
      rintro ⟨h1, h2⟩
      have := len_le_trks h1
      have := few (m := 512) h2 (trks_range h1)
      omega
    simp only [extent_Valid, c1, bif_ite, if_true, this]
  · have c1 : decide ((l.length : Int) > 512) = false := by simp; omega
    have h := loop_any (n := n) (body := fun (x : Int) => extent_Valid_b4 n l (l.length : Int) x) l (fun x => !val x) (.inl false) (.inr ())
      (fun k hk => by
        have h1 : decide ((k : Int) < ((l.length : Nat) : Int)) = true := by simp; omega
        have h2 : 0 ≤ (k : Int) ∧ (k : Int) < (l.length : Int) := by omega
        simp only [extent_Valid_b4, h1, bif_ite, if_true, Int.toNat_natCast, gd_pos _ h2, gt_lt hk, valid_eq, Option.bind_some]
        rw [wid (by omega)]
        cases val l[k] <;> simp)
      (by simp [extent_Valid_b4, bif_ite]) (by unfold N0 at hn; omega)
    simp only [extent_Valid, c1, bif_ite, Bool.false_eq_true, if_false]
    rw [h]
    by_cases hv : l.all val = true
    · have ha : (l.any fun x => !val x) = false := by
        rw [← Bool.not_eq_true, List.any_eq_true]
        rintro ⟨x, hx, hx2⟩
        have := List.all_eq_true.1 hv x hx
        simp [this] at hx2
      obtain ⟨r, r1, r2, r3⟩ := sorted_eq n l (by omega)
      have hrl := r2.length_eq
      have hrv : r.all val = true := by rw [perm_all r2]; exact hv
      obtain ⟨y, y1, y2⟩ := Valid_loop n r hrv (by unfold N0 at hn; omega) (by omega)
      simp only [ha, Bool.false_eq_true, if_false, Option.bind_some, extent_Valid_k1, r1, y1]
      have e1 : adj r ↔ (trks l).Nodup := by
        rw [adj_iff hrv, ← nodup_apart hrv r3]; exact (perm_trks r2).nodup_iff
      rcases y2 with ⟨rfl, hy⟩ | ⟨rfl, hy⟩
      · have : (trkF [] l).isSome = false := by
          rw [← Bool.not_eq_true, trkF_isSome]
          rintro ⟨_, h2⟩
          exact hy (e1.2 h2)
        simp [this]
      · have : (trkF [] l).isSome = true := (trkF_isSome l).2 ⟨hv, e1.1 hy⟩
        simp [this, extent_Valid_k2]
    · have ha : (l.any fun x => !val x) = true := by
        rw [List.any_eq_true]
        rw [Bool.not_eq_true, List.all_eq_false] at hv
        obtain ⟨x, hx, hx2⟩ := hv
        exact ⟨x, hx, by simpa using hx2⟩
      have : (trkF [] l).isSome = false := by
        rw [← Bool.not_eq_true, trkF_isSome]
        rintro ⟨h1, _⟩
        exact hv h1
      simp [ha, this]

theorem RValid_eq (n : Nat) (hn : N0 ≤ n) (l : List TExtent) (hl : l.length ≤ 2097152) : ref20_Valid n l = some (trkF [] l).isSome := by
  simp only [ref20_Valid, Tracks_eq' n l hn hl, Option.bind_some]

/-! ## Total -/
theorem Total_eq (n : Nat) (hn : N0 ≤ n) (l : List TExtent) (hl : l.length ≤ 1073741824) : extent_Total n l = some (((trkO l).length : Nat) : Int) := by
  simp only [extent_Total, Valid_eq n hn l hl, Option.bind_some]
  by_cases hs : (trkF [] l).isSome = true
  · obtain ⟨hv, hnd⟩ := (trkF_isSome l).1 hs
    have h1 := len_le_trks hv
    have h2 := few (m := 512) hnd (trks_range hv)
    have h := loop_list (n := n) (σ := Int) (body := fun (x : Int × Int) => extent_Total_b2 n l (l.length : Int) x.1 x.2) l (fun k s => (s, (k : Int))) (fun s x => .inl (s + x.Len)) (fun s => s) (fun k s => 0 ≤ s ∧ s ≤ 512 * (k : Int)) (s := 0) (by simp)
      (fun k hk s hs => by
        have c1 : decide ((k : Int) < (l.length : Int)) = true := by simp; omega
        have c2 : 0 ≤ (k : Int) ∧ (k : Int) < (l.length : Int) := by omega
        have v := (val_iff _).1 (List.all_eq_true.1 hv _ (List.getElem_mem hk))
        simp only [extent_Total_b2, c1, bif_ite, if_true, gd_pos _ c2, Int.toNat_natCast, gt_lt hk]
        rw [wid (by omega), wid (by omega)]; simp)
      (fun k hk s hs s' hf => by
        have v := (val_iff _).1 (List.all_eq_true.1 hv _ (List.getElem_mem hk))
        simp only [Sum.inl.injEq] at hf
        omega)
      (fun s _ => by simp [extent_Total_b2, bif_ite]) (by unfold N0 at hn; omega)
    have e : ∀ (l : List TExtent) (s : Int), l.all val = true → runL (fun s x => (.inl (s + x.Len) : Int ⊕ Int)) (fun s => s) l s = s + (((trks l).length : Nat) : Int) := by
      intro l
      induction l with
      | nil => intro s _; simp [runL, trks]
      | cons x l ih =>
        intro s hv
        simp only [List.all_cons, Bool.and_eq_true] at hv
        have v := (val_iff _).1 hv.1
        simp only [runL, ih _ hv.2, trks_cons, List.length_append, trk_length]
        omega
    rw [e l 0 hv] at h
    have h' : loopF (fun (x : Int × Int) => extent_Total_b2 n l (l.length : Int) x.1 x.2) n (0, 0) = some (((trks l).length : Nat) : Int) := by simpa using h
    simp only [hs, Bool.not_true, bif_ite, Bool.false_eq_true, if_false, h', Option.bind_some, extent_Total_k1, trkO_of hs]
  · rw [Bool.not_eq_true] at hs
    simp [hs, trkO_none hs]
theorem RTotal_eq (n : Nat) (hn : N0 ≤ n) (l : List TExtent) (hl : l.length ≤ 2097152) : ref20_Total n l = some (((trkO l).length : Nat) : Int) := by
  simp only [ref20_Total, Tracks_eq' n l hn hl, Option.bind_some]
end Go.Proofs.Ytojnggohjbidaaa
