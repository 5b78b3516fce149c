/-
  ch. 20: the law of what is kept by taking: it answers true.
-/
import Derived.Test.YtojnggohjbidaaaJ
set_option maxHeartbeats 8000000
set_option linter.unusedVariables false
set_option linter.unusedSimpArgs false
set_option maxRecDepth 100000
namespace Go.Proofs.Ytojnggohjbidaaa
open Go.AE

theorem Give_val (n : Nat) (hn : N0 ≤ n) (a b : List TExtent) (ha : a.length ≤ 2097152) (hb : b.length ≤ 2097152) (c1 : chk 512 (-1) a = true) (c2 : (trkF [] b).isSome = true) (hnd : (trks a ++ trks b).Nodup) :
    extent_Give n a b = some (nrm (mark (trks a ++ trks b)), 0) := by
  have hn0 : 4194304 ≤ n := hn
  obtain ⟨r, h1, h2, _⟩ := Give_eq n hn a b ha hb
  have hnf := ((chk_iff 512 a (-1)).1 c1).1
  have ha1 : trkF [] a = some (trks a) := nf_trkF hnf
  have hOa : trkO a = trks a := trkO_of (by rw [ha1]; rfl)
  obtain ⟨hvb, hndb⟩ := (trkF_isSome b).1 c2
  have hTb := trkO_few b
  rw [trkO_of c2] at hTb
  have hR := RGive_loop n (trks b) (trks a) (trks_range hvb) (by omega) (by omega)
  have h3 : ref20_Give n a b = some (nrm (mark (trks a ++ trks b)), 0) := by
    simp only [ref20_Give, RCheck_eq n hn a 512 ha, Tracks_eq' n b hn hb, Option.bind_some, c1, c2, Bool.not_true, Bool.false_eq_true, if_false, bif_ite, Set_eq n a hn ha, hOa, trkO_of c2]
    rw [gd_pos _ trivial, hR]
    simp only [addAll_some hnd, Option.bind_some, ref20_Give_k1]
    rw [gd_pos _ (mark_len _), Normal_eq n _ (mark_len _) (by omega)]
    rfl
  rw [h2] at h3
  rw [h1]; exact h3

theorem Take_out (n : Nat) (hn : N0 ≤ n) (l : List TExtent) (w most : Int) (hl : l.length ≤ 2097152) (hw2 : w ≤ 9223372036854775807) :
    (extent_Take n l w most = some ([], [], 1) ∧ ¬ ((chk 512 (-1) l = true ∧ 1 ≤ w) ∧ 1 ≤ most)) ∨
    (chk 512 (-1) l = true ∧ ∃ v, extent_Take n l w most = some v ∧ v.2.2 = 0 ∧ nf (-1) v.2.1 ∧ v.1.all val = true ∧ (trks v.1 ++ trks v.2.1).Perm (trks l) ∧ (((trks v.1).length : Nat) : Int) = w ∧ ((v.1.length : Nat) : Int) ≤ most) ∨
    (chk 512 (-1) l = true ∧ extent_Take n l w most = some ([], [], 200) ∧ ∃ s, Sel most.toNat l s ∧ s < w) := by
  have hln : l.length < n := by unfold N0 at hn; omega
  simp only [extent_Take, Check_eq n l 512 hln (by omega), Option.bind_some]
  by_cases c : (chk 512 (-1) l = true ∧ 1 ≤ w) ∧ 1 ≤ most
  · have c1 : (if (if (!(chk 512 (-1) l)) = true then true else (decide (w < 1))) = true then true else (decide (most < 1))) = false := by
      have h1 : ¬ w < 1 := by omega
      have h2 : ¬ most < 1 := by omega
      simp [c.1.1, h1, h2]
    have hnf := ((chk_iff 512 l (-1)).1 c.1.1).1
    obtain ⟨y, h1, h2, h3⟩ := Take_inv n most n l.length w [] l hln (Nat.le_refl _) hln c.1.2 hw2 (by simp; omega) (by rw [List.take_length]; exact hnf) rfl
    rw [List.take_length] at h2 h3
    simp only [c1, bif_ite, Bool.false_eq_true, if_false, Clone_eq n l (by omega), Option.bind_some]
    rw [h1]
    cases y with
    | inl v =>
      obtain ⟨b1, b2, b3, b4, b5, b6⟩ := h2 v rfl
      refine .inr (.inl ⟨c.1.1, v, rfl, b1, b2, b3, by simpa [trks] using b4, by simpa [trks] using b5, b6⟩)
    | inr v =>
      obtain ⟨s, s1, s2⟩ := h3 rfl
      exact .inr (.inr ⟨c.1.1, rfl, s, by simpa using s1, s2⟩)
  · have c1 : (if (if (!(chk 512 (-1) l)) = true then true else (decide (w < 1))) = true then true else (decide (most < 1))) = true := by
      by_cases h0 : chk 512 (-1) l = true
      · by_cases h1 : w < 1
        · simp [h0, h1]
        · have h2 : most < 1 := by
            by_cases h2 : most < 1
            · exact h2
            · exact absurd ⟨⟨h0, by omega⟩, by omega⟩ c
          simp [h2]
      · simp [h0]
    simp only [c1, bif_ite, if_true]
    exact .inl ⟨trivial, c⟩

theorem p_law20_ExtentConserves (n : Nat) (hn : N0 ≤ n) (x0 : List TExtent) (x1 : Int) (x2 : Int) (hc : ∀ i, i < 3 → CanL Try.prog (([(false, [.slice 43]), (false, [.int .i64]), (false, [.int .i64])] : List (Bool × List Kd)).getD i (false, [])).2 (([[.slice (List.map e_TExtent x0)], [.int x1], [.int x2]] : List (List C)).getD i []))
    (hb : cbss [[.slice (List.map e_TExtent x0)], [.int x1], [.int x2]] ≤ 2097152) : law20_ExtentConserves n x0 x1 x2 = some true := by
  have hl := len_of_cbss hb (xs := [.slice (List.map e_TExtent x0)]) (l := x0) (f := e_TExtent) (by simp) (by simp)
  have h1 := (hc 1 (by decide)).2 0 (by decide)
  simp only [List.getD_cons_succ, List.getD_cons_zero, cg_zero] at h1
  have hw : x1 ≤ 9223372036854775807 := by
    cases h1 with
    | int k n h => have h2 := h.2; have e : IntKind.max .i64 = 9223372036854775807 := by decide
                   omega
  clear hc h1
  have hn0 : 4194304 ≤ n := hn
  rcases Take_out n hn x0 x1 x2 hl hw with ⟨e1, hno⟩ | ⟨hck, v, e1, v1, v2, v3, v4, v5, v6⟩ | ⟨hck, e1, s, s1, s2⟩
  · have c1 : (if (if (!(chk 512 (-1) x0)) = true then true else (decide (x1 < 1))) = true then true else (decide (x2 < 1))) = true := by
      by_cases h0 : chk 512 (-1) x0 = true
      · by_cases h1 : x1 < 1
        · simp [h0, h1]
        · have h2 : x2 < 1 := by
            by_cases h2 : x2 < 1
            · exact h2
            · exact absurd ⟨⟨h0, by omega⟩, by omega⟩ hno
          simp [h2]
      · simp [h0]
    simp only [law20_ExtentConserves, e1, Option.bind_some, Check_eq n x0 512 (by omega) (by omega), c1, works_eq n hn]
    simp [gd]
  · obtain ⟨got, rest, code⟩ := v
    dsimp only at v1 v2 v3 v4 v5 v6
    subst v1
    have hnf := ((chk_iff 512 x0 (-1)).1 hck).1
    have hnd0 : (trks x0).Nodup := (nf_asc hnf).imp fun h => by omega
    have hnd : (trks got ++ trks rest).Nodup := v4.nodup_iff.2 hnd0
    have hndg : (trks got).Nodup := (List.nodup_append.1 hnd).1
    have hS : (trkF [] got).isSome = true := (trkF_isSome got).2 ⟨v3, hndg⟩
    have hlg := len_le_trks v3
    have hfg := few (m := 512) hndg (trks_range v3)
    have hvr := nf_val v2
    have hndr : (trks rest).Nodup := (nf_asc v2).imp fun h => by omega
    have hlr := len_le_trks hvr
    have hfr := few (m := 512) hndr (trks_range hvr)
    have hcr : chk 512 (-1) rest = true := (chk_iff 512 rest (-1)).2 ⟨v2, fun k hk => (trks_range hvr k hk).2⟩
    have hnd2 : (trks rest ++ trks got).Nodup := (List.perm_append_comm.nodup_iff).1 hnd
    have hG := Give_val n hn rest got (by omega) (by omega) hcr hS hnd2
    have e2 : nrm (mark (trks rest ++ trks got)) = x0 := by
      have : mark (trks rest ++ trks got) = mark (trks x0) := by
        unfold mark
        refine List.map_congr_left fun i _ => ?_
        rw [decide_eq_decide, ← v4.mem_iff, List.mem_append, List.mem_append]
        exact or_comm
      rw [this, nrm_nf hnf]
    rw [e2] at hG
    have hO := Overlap_eq n hn got rest (by omega) (by omega)
    have hS2 : (trkF [] (got ++ rest)).isSome = true := (trkF_isSome _).2 ⟨by rw [List.all_append, v3, hvr]; rfl, by rw [trks_app]; exact hnd⟩
    rw [hS2] at hO
    simp only [Bool.not_true, Bool.and_false] at hO
    have hT := Total_eq n hn got (by omega)
    rw [trkO_of hS, v5] at hT
    have c0 : ((0 : Int) == 1) = false := by decide
    have c2 : ((0 : Int) == 200) = false := by decide
    simp only [law20_ExtentConserves, e1, Option.bind_some, c0, c2, bif_ite, Bool.false_eq_true, if_false, hG, hO, hT, Same_eq n x0 x0 (by omega) (by omega), works_eq n hn]
    simp [gd, v6]
  · have hnf := ((chk_iff 512 x0 (-1)).1 hck).1
    obtain ⟨s', q1, q2⟩ := longest_eq n x0 x2 (nf_good hnf) (by omega) (by
      have h1 := len_le_trks (nf_val hnf)
      have h2 := few (m := 512) ((nf_asc hnf).imp fun h => by omega) (trks_range (nf_val hnf))
      omega)
    have := Sel_uniq s1 q2
    subst this
    have c0 : ((200 : Int) == 1) = false := by decide
    have c2 : ((200 : Int) == 200) = true := by decide
    have c3 : decide (s < x1) = true := decide_eq_true s2
    simp only [law20_ExtentConserves, e1, Option.bind_some, c0, c2, bif_ite, Bool.false_eq_true, if_false, if_true, q1, c3, works_eq n hn]
    simp [gd]
end Go.Proofs.Ytojnggohjbidaaa
