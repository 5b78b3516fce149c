/-
  ch. 20: the law of complements: it answers true.
-/
import Derived.Test.YtojnggohjbidaaaFL
import Derived.Test.YtojnggohjbidaaaG
set_option maxHeartbeats 8000000
set_option linter.unusedVariables false
set_option linter.unusedSimpArgs false
set_option maxRecDepth 100000
namespace Go.Proofs.Ytojnggohjbidaaa
open Go.AE

theorem upT_snd (l : List TExtent) : ∀ k, k ≤ l.length → (upT (exF l) k).map Prod.snd = trks (l.take k)
  | 0, _ => by simp [upT, trks]
  | k + 1, h => by
    have hk : k < l.length := by omega
    rw [List.take_succ_eq_append_getElem hk]
    simp only [upT, List.map_append, List.map_map, upT_snd l k (by omega)]
    have e : trks (l.take k ++ [l[k]]) = trks (l.take k) ++ trk l[k] := by simp only [trks, List.flatMap_append, List.flatMap_cons, List.flatMap_nil, List.append_nil]
    rw [e]
    congr 1
    unfold trk exF
    rw [gt_lt hk]
    rfl
theorem upT_all (l : List TExtent) : (upT (exF l) l.length).map Prod.snd = trks l := by
  rw [upT_snd l l.length (Nat.le_refl _), List.take_length]
theorem firstT_snd {track : Int} : ∀ {ps : List (Nat × Int)}, (firstT track ps).2 = decide (track ∈ ps.map Prod.snd)
  | [] => by simp [firstT]
  | p :: ps => by
    simp only [firstT, List.map_cons, List.mem_cons]
    by_cases h : p.2 = track
    · simp [h]
    · have h' : ¬ track = p.2 := fun e => h e.symm
      simp only [h, if_false, h', false_or]
      exact firstT_snd

theorem okL_of {l : List TExtent} (h : (trkF [] l).isSome = true) : okL l := by
  obtain ⟨hv, hnd⟩ := (trkF_isSome l).1 h
  have h1 := len_le_trks hv
  have h2 := few (m := 512) hnd (trks_range hv)
  have h3 : (upT (exF l) l.length).length = (trks l).length := by rw [← upT_all l, List.length_map]
  refine ⟨by omega, fun j hj => ?_, by omega⟩
  have v : val (gt l j) = true := by rw [gt_lt hj]; exact List.all_eq_true.1 hv _ (List.getElem_mem _)
  have v' := (val_iff _).1 v
  simp only [exF]
  omega

theorem Index_eq (n : Nat) (hn : N0 ≤ n) (l : List TExtent) (track : Int) (hl : l.length ≤ 1073741824) : extent_Index n l track = some (if (trkF [] l).isSome = true then firstT track (upT (exF l) l.length) else (0, false)) := by
  simp only [extent_Index, Valid_eq n hn l hl, Option.bind_some]
  by_cases h : (trkF [] l).isSome = true
  · simp only [h, if_true]; rw [gd_pos _ (okL_of h)]
  · rw [Bool.not_eq_true] at h; simp [h]
theorem Index_snd (n : Nat) (hn : N0 ≤ n) (l : List TExtent) (track : Int) (hl : l.length ≤ 1073741824) (h : (trkF [] l).isSome = true) : ∃ r, extent_Index n l track = some r ∧ r.2 = decide (track ∈ trks l) := by
  refine ⟨_, Index_eq n hn l track hl, ?_⟩
  simp only [h, if_true, firstT_snd, upT_all]

theorem Free_val (n : Nat) (hn : N0 ≤ n) (l : List TExtent) (m : Int) (hl : l.length ≤ 2097152) (h : (trkF [] l).isSome = true) (hm : 0 ≤ m ∧ m ≤ 512) :
    ∃ R, extent_Free n l m = some R ∧ nf (-1) R ∧ (∀ k, k ∈ trks R ↔ 0 ≤ k ∧ k < m ∧ k ∉ trks l) ∧ R.length ≤ 512 := by
  obtain ⟨hv, hnd⟩ := (trkF_isSome l).1 h
  obtain ⟨r, r1, r2, r3⟩ := sorted_eq n l (by omega)
  have hrl := r2.length_eq
  have hrv : r.all val = true := by rw [perm_all r2]; exact hv
  have hap : r.Pairwise apart := (nodup_apart hrv r3).1 ((perm_trks r2).nodup_iff.2 hnd)
  have hle := len_le_trks hv
  have hfw := few (m := 512) hnd (trks_range hv)
  have hlo : ∀ x ∈ r, 0 ≤ x.At := fun x hx => ((val_iff _).1 (List.all_eq_true.1 hrv x hx)).1
  have hnf : nf (-1) (fr m 0 r) := fr_nf hm.2 (by omega) (by omega) hrv hap hlo
  have hF := Free_loop n m hm r hrv (by unfold N0 at hn; omega) (by omega)
  have c1 : (if (if (!(trkF [] l).isSome) = true then true else (decide (m < 0))) = true then true else (decide (m > 512))) = false := by
    have h1 : ¬ m < 0 := by omega
    have h2 : ¬ m > 512 := by omega
    simp [h, h1, h2]
  refine ⟨fr m 0 r, ?_, hnf, fun k => ?_, ?_⟩
  · simp only [extent_Free, Valid_eq n hn l (by omega), Option.bind_some, c1, bif_ite, Bool.false_eq_true, if_false, r1]
    exact hF
  · rw [fr_mem hrv hap hlo, (perm_trks r2).mem_iff]
  · have h1 := len_le_trks (nf_val hnf)
    have h2 := few (m := 512) ((nf_asc hnf).imp fun h => by omega) (trks_range (nf_val hnf))
    omega

theorem p_law20_ExtentComplements (n : Nat) (hn : N0 ≤ n) (x0 : List TExtent) (x1 : Int) (x2 : Int) (hc : ∀ i, i < 3 → CanL Try.prog (([(false, [.slice 43]), (false, [.int .i64]), (false, [.int .i64])] : List (Bool × List Kd)).getD i (false, [])).2 (([[.slice (List.map e_TExtent x0)], [.int x1], [.int x2]] : List (List C)).getD i []))
    (hb : cbss [[.slice (List.map e_TExtent x0)], [.int x1], [.int x2]] ≤ 2097152) : law20_ExtentComplements n x0 x1 x2 = some true := by
  clear hc
  have hl := len_of_cbss hb (xs := [.slice (List.map e_TExtent x0)]) (l := x0) (f := e_TExtent) (by simp) (by simp)
  have hn0 : 4194304 ≤ n := hn
  by_cases c : (trkF [] x0).isSome = true ∧ 0 ≤ x1 ∧ x1 ≤ 512
  · have c1 : (if (if (!(trkF [] x0).isSome) = true then true else (decide (x1 < 0))) = true then true else (decide (x1 > 512))) = false := by
      have h1 : ¬ x1 < 0 := by omega
      have h2 : ¬ x1 > 512 := by omega
      simp [c.1, h1, h2]
    obtain ⟨R, e1, hnf, hmem, hRl⟩ := Free_val n hn x0 x1 hl c.1 c.2
    have hR : (trkF [] R).isSome = true := by rw [nf_trkF hnf]; rfl
    have hck : chk x1 (-1) R = true := (chk_iff x1 R (-1)).2 ⟨hnf, fun k hk => ((hmem k).1 hk).2.1⟩
    obtain ⟨i1, q1, q2⟩ := Index_snd n hn R x2 (by omega) hR
    obtain ⟨i2, q3, q4⟩ := Index_snd n hn x0 x2 (by omega) c.1
    simp only [law20_ExtentComplements, e1, Option.bind_some, Valid_eq n hn x0 (by omega), c1, bif_ite, Bool.false_eq_true, if_false, q1, q3, Check_eq n R x1 (by omega) (by omega), hck, works_eq n hn]
    by_cases c2 : x2 < 0 ∨ x2 ≥ x1
    · have c3 : (if (decide (x2 < 0)) = true then true else (decide (x2 ≥ x1))) = true := by
        rcases c2 with h | h
        · simp [h]
        · simp [h]
      have hno : ¬ x2 ∈ trks R := fun h => by have := (hmem x2).1 h; omega
      rw [decide_eq_false hno] at q2
      simp only [c3, if_true, q2]
      simp [gd]
    · have c3 : (if (decide (x2 < 0)) = true then true else (decide (x2 ≥ x1))) = false := by
        have h1 : ¬ x2 < 0 := fun h => c2 (.inl h)
        have h2 : ¬ x2 ≥ x1 := fun h => c2 (.inr h)
        simp [h1, h2]
      have hx : x2 ∈ trks R ↔ x2 ∉ trks x0 := by
        rw [hmem]
        exact ⟨fun h => h.2.2, fun h => ⟨by omega, by omega, h⟩⟩
      have hne : (i2.2 != i1.2) = true := by
        rw [q2, q4]
        by_cases h : x2 ∈ trks x0
        · have h2 : ¬ x2 ∈ trks R := fun h3 => (hx.1 h3) h
          simp [h, h2]
        · have h2 : x2 ∈ trks R := hx.2 h
          simp [h, h2]
      simp only [c3, Bool.false_eq_true, if_false, hne]
      simp [gd]
  · have c1 : (if (if (!(trkF [] x0).isSome) = true then true else (decide (x1 < 0))) = true then true else (decide (x1 > 512))) = true := by
      by_cases h0 : (trkF [] x0).isSome = true
      · by_cases h1 : x1 < 0
        · simp [h0, h1]
        · have h2 : x1 > 512 := by
            rcases Int.lt_or_le 512 x1 with h | h
            · exact h
            · exact absurd ⟨h0, by omega, h⟩ c
          simp [h2]
      · simp [h0]
    have e1 : extent_Free n x0 x1 = some [] := by
      simp only [extent_Free, Valid_eq n hn x0 (by omega), Option.bind_some, c1, bif_ite, if_true]
    simp only [law20_ExtentComplements, e1, Option.bind_some, Valid_eq n hn x0 (by omega), c1, bif_ite, if_true, works_eq n hn]
    simp [gd]
end Go.Proofs.Ytojnggohjbidaaa
