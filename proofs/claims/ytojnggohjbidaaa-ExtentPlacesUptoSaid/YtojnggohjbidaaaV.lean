/-
  ch. 20: the law of taking. No program in sight.
-/
import Derived.Test.YtojnggohjbidaaaU
set_option maxHeartbeats 8000000
set_option linter.unusedVariables false
set_option linter.unusedSimpArgs false
set_option maxRecDepth 100000
namespace Go.Proofs.Ytojnggohjbidaaa
open Go.AE

theorem eraseIdx_len {r : List TExtent} {k : Nat} (h : k < r.length) : (r.eraseIdx k).length = r.length - 1 := by rw [List.length_eraseIdx, if_pos h]
theorem set_gt_self {r : List TExtent} {k : Nat} (h : k < r.length) : (0 : Nat) < r.length := by omega

/-- the two loops go together -/
theorem Take_loop (N : Nat) (most : Int) : ∀ (m1 m2 len : Nat) (w : Int) (got row : List TExtent), len < m1 → len < m2 → len ≤ row.length → len < N → 1 ≤ w → w ≤ 9223372036854775807 → got.length + len ≤ 1073741823 → good (row.take len) →
    ∃ y, loopF (fun (x : Int × (List TExtent) × (List TExtent) × Nat) => extent_Take_b2 N most x.1 x.2.1 x.2.2.1 x.2.2.2) m1 (w, got, row, len) = some y ∧ loopF (fun (x : Int × (List TExtent) × (List TExtent)) => ref20_Take_b2 N most x.1 x.2.1 x.2.2) m2 (w, row.take len, got) = some y ∧ ∀ v, y = .inl v → v.1.length ≤ got.length + len ∧ v.2.1.length ≤ len
  | 0, _, len, _, _, _, h, _, _, _, _, _, _, _ => by omega
  | _ + 1, 0, len, _, _, _, _, h, _, _, _, _, _, _ => by omega
  | m1 + 1, m2 + 1, len, w, got, row, h1, h2, hl, hN, hw, hw2, hgl, hg => by
    have hr : (row.take len).length = len := by simp; omega
    by_cases c : ((got.length : Nat) : Int) < most ∧ 0 < len
    · have c1 : (if (decide (((got.length : Nat) : Int) < most)) = true then (decide (((len : Nat) : Int) > 0)) else false) = true := by simp [c.1]; omega
      obtain ⟨f, g, hs1, hs2⟩ := ref_scan N w most got (row.take len) (by rw [hr]; exact c.2) (by rw [hr]; exact hN) (by rw [hr]; omega)
      rw [hr] at hs1
      have hB : ref20_Take_b2 N most w (row.take len) got = ref20_Take_k3 N w most (row.take len) got f g := by
        simp only [ref20_Take_b2, hr, c1, bif_ite, if_true]
        rw [wid (by omega), hs1]; rfl
      rcases ext_scan N w most got row ((len : Nat) : Int) len rfl c.2 hl hN hw (by omega) (by omega) hg with ⟨k, hk, hA⟩ | ⟨k, hk1, hk2, hA⟩
      · -- it fits
        have hA' : extent_Take_b2 N most w got row len = some (.inr (.inl (got ++ [⟨(gt (row.take len) k).At, w⟩], cut (row.take len) k w, 0))) := by
          simp only [extent_Take_b2, c1, bif_ite, if_true, hA]; rfl
        rw [loopF_done hA']
        refine ⟨_, rfl, ?_, fun v hv => ?_⟩
        rotate_left
        · cases hv
          refine ⟨by rw [List.length_append]; simp only [List.length_cons, List.length_nil]; omega, ?_⟩
          simp only [cut]
          split
          · rw [eraseIdx_len hk.1]; omega
          · rw [List.length_set]; omega
        rcases hs2 with ⟨k', rfl, hk'⟩ | ⟨rfl, k', rfl, hk', _⟩
        · have := isF_uniq hk hk'
          subst this
          have hkl : k < (row.take len).length := hk.1
          have hgk := good_gt hg hkl
          have hwk := hk.2.1
          have d1 : decide ((k : Int) ≥ 0) = true := by simp
          have d2 : (0 ≤ (k : Int) ∧ (k : Int) < ((row.take len).length : Int)) ∧ k < (row.take len).length ∧ got.length + 1 ≤ 2147483648 := by omega
          have d3 : (0 ≤ (k : Int) ∧ (k : Int) < ((row.take len).length : Int)) ∧ k < (row.take len).length ∧ (0 ≤ (k : Int) ∧ (k : Int) < ((row.take len).length : Int)) ∧ k < (row.take len).length ∧ (0 ≤ (k : Int) ∧ (k : Int) < ((row.take len).length : Int)) ∧ k < (row.take len).length := by omega
          refine loopF_done ?_
          rw [hB]
          simp only [ref20_Take_k3, d1, bif_ite, if_true, Int.toNat_natCast, gd_pos _ d2, gd_pos _ d3]
          rw [wid (by omega), wid (by omega), drop_eq N _ (by rw [List.length_set]; omega) (by rw [List.length_set]; omega), filter_set hg hkl]
          simp only [Option.bind_some, cut]
          by_cases e : (gt (row.take len) k).Len = w
          · rw [if_pos e, if_neg (by omega)]
          · rw [if_neg e, if_pos (by omega)]
        · have := hk' k hk.1
          have := hk.2.1
          omega
      · -- it does not: the longest
        rcases hs2 with ⟨k', rfl, hk'⟩ | ⟨rfl, k', rfl, _, hk'⟩
        · have := hk1 k' hk'.1
          have := hk'.2.1
          omega
        · have := isL_uniq hk2 hk'
          subst this
          have hkl : k < (row.take len).length := hk2.1
          have hkl' : k < len := by omega
          have hgk := good_gt hg hkl
          have hwk := hk1 k hkl
          obtain ⟨row', e1, e2, e3⟩ := Delete_eq N row len k hkl' hl
          have e4 := gt_take hkl' hl
          have hA' : extent_Take_b2 N most w got row len = some (.inl (w - (gt (row.take len) k).Len, got ++ [gt (row.take len) k], row', len - 1)) := by
            have d1 : (0 ≤ (k : Int) ∧ (k : Int) < (len : Int)) ∧ k < row.length ∧ got.length + 1 ≤ 2147483648 := by omega
            have d2 : (0 ≤ (k : Int) ∧ (k : Int) < (len : Int)) ∧ k < row.length := by omega
            simp only [extent_Take_b2, c1, bif_ite, if_true, hA, Option.bind_some, extent_Take_k3, Int.toNat_natCast, gd_pos _ d1, gd_pos _ d2]
            rw [wid (by omega), e1, ← e4, w64_id (by omega) (by omega)]
            rfl
          have hB' : ref20_Take_b2 N most w (row.take len) got = some (.inl (w - (gt (row.take len) k).Len, row'.take (len - 1), got ++ [gt (row.take len) k])) := by
            have d1 : decide ((-1 : Int) ≥ 0) = false := by decide
            have d2 : (0 ≤ (k : Int) ∧ (k : Int) < ((row.take len).length : Int)) ∧ k < (row.take len).length ∧ got.length + 1 ≤ 2147483648 := by omega
            have d3 : (0 ≤ (k : Int) ∧ (k : Int) < ((row.take len).length : Int)) ∧ k < (row.take len).length := by omega
            rw [hB]
            simp only [ref20_Take_k3, d1, bif_ite, Bool.false_eq_true, if_false, Int.toNat_natCast, gd_pos _ d2, gd_pos _ d3]
            rw [drop_eq N _ (by rw [List.length_set]; omega) (by rw [List.length_set]; omega), filter_set hg hkl, w64_id (by omega) (by omega), e3]
            simp
          rw [loopF_step hA', loopF_step hB']
          have hgl' : (got ++ [gt (row.take len) k]).length = got.length + 1 := by simp
          obtain ⟨y, q1, q2, q3⟩ := Take_loop N most m1 m2 (len - 1) (w - (gt (row.take len) k).Len) (got ++ [gt (row.take len) k]) row' (by omega) (by omega) (by omega) (by omega) (by omega) (by omega) (by rw [hgl']; omega) (by rw [e3]; exact good_erase hg k)
          refine ⟨y, q1, q2, fun v hv => ?_⟩
          have := q3 v hv
          omega
    · have c1 : (if (decide (((got.length : Nat) : Int) < most)) = true then (decide (((len : Nat) : Int) > 0)) else false) = false := by
        rw [← Bool.not_eq_true]
        intro h
        split at h
        · rename_i h3
          simp at h h3
          omega
        · cases h
      refine ⟨.inr (), loopF_done ?_, loopF_done ?_, fun v hv => by cases hv⟩
      · simp only [extent_Take_b2, c1, bif_ite, Bool.false_eq_true, if_false]
      · simp only [ref20_Take_b2, hr, c1, bif_ite, Bool.false_eq_true, if_false]

theorem Clone_eq (n : Nat) (l : List TExtent) (hl : l.length ≤ 2147483648) : slices_Clone_f33 n l = some l := by
  refine uniB_eq fun b hb => ?_
  cases b with
  | true => rw [hb rfl]; rfl
  | false => simp [gd_pos _ hl]

theorem chk_good {m e : Int} {l : List TExtent} (h : chk m e l = true) : good l := fun x hx => List.all_eq_true.1 (nf_val ((chk_iff m l e).1 h).1) x hx

theorem Take_eq (n : Nat) (hn : N0 ≤ n) (l : List TExtent) (w most : Int) (hl : l.length ≤ 2097152) (hw2 : w ≤ 9223372036854775807) : ∃ r, extent_Take n l w most = some r ∧ ref20_Take n l w most = some r ∧ r.1.length ≤ 2097152 ∧ r.2.1.length ≤ 2097152 := by
  have hln : l.length < n := by unfold N0 at hn; omega
  simp only [extent_Take, ref20_Take, Check_eq n l 512 hln (by omega), RCheck_eq n hn l 512 hl, Option.bind_some]
  by_cases c : (chk 512 (-1) l = true ∧ 1 ≤ w) ∧ 1 ≤ most
  · have c1 : (if (if (!(chk 512 (-1) l)) = true then true else (decide (w < 1))) = true then true else (decide (most < 1))) = false := by
      have h1 : ¬ w < 1 := by omega
      have h2 : ¬ most < 1 := by omega
      simp [c.1.1, h1, h2]
    obtain ⟨y, h1, h2, h3⟩ := Take_loop n most n n l.length w [] l hln hln (Nat.le_refl _) hln c.1.2 hw2 (by simp; omega) (by rw [List.take_length]; exact chk_good c.1.1)
    rw [List.take_length] at h2
    simp only [c1, bif_ite, Bool.false_eq_true, if_false, Clone_eq n l (by omega), Option.bind_some, gd_pos _ (show l.length ≤ 2147483648 by omega)]
    rw [h1, h2]
    cases y with
    | inl v =>
      have := h3 v rfl
      simp only [List.length_nil] at this
      exact ⟨_, rfl, rfl, by dsimp only; omega, by dsimp only; omega⟩
    | inr v => exact ⟨_, rfl, rfl, by simp, by simp⟩
  · have c1 : (if (if (!(chk 512 (-1) l)) = true then true else (decide (w < 1))) = true then true else (decide (most < 1))) = true := by
      by_cases h0 : chk 512 (-1) l = true
      · by_cases h1 : w < 1
        · simp [h0, h1]
        · have h2 : most < 1 := by
            by_cases h2 : most < 1
            · exact h2
            · exact absurd ⟨⟨h0, by omega⟩, by omega⟩ c
          simp [h2]
      · simp [h0]
    simp only [c1, bif_ite, if_true]
    exact ⟨_, rfl, rfl, by simp, by simp⟩

theorem works_eq (n : Nat) (hn : N0 ≤ n) : law20_works n = some true := by
  obtain ⟨k, rfl⟩ : ∃ k, n = k + 8 := ⟨n - 8, by unfold N0 at hn; omega⟩
  rfl
end Go.Proofs.Ytojnggohjbidaaa
