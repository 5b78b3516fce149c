/- Text. -/
import Derived.Test.YtkebegfopnlkhaaG2
import Derived.Test.YtkebegfopnlkhaaFL
set_option maxRecDepth 100000
set_option linter.unusedVariables false
set_option linter.unusedSimpArgs false
namespace Go.Proofs.Ytkebegfopnlkhaa
open Go.AE Go.RowKit
theorem rTracks_eq (n : Nat) (l : List TLine) (hn : N0 ≤ n) : ref39_Tracks n l = some (tracksS l) := by
  have hn0 : 4194304 ≤ n := hn
  unfold tracksS ref39_Tracks
  by_cases c1 : l.length > 4096
  · have : decide ((l.length : Int) > 4096) = true := by simp; omega
    simp only [this, cond_true, c1, if_true]
  · have : decide ((l.length : Int) > 4096) = false := by simp; omega
    simp only [this, cond_false, c1, if_false]
    have h4 := loop_any (n := n) (body := fun (x : Int) => ref39_Tracks_b4 n l x) l longT (.inl ([], 2)) (.inr ())
      (fun k hk => by
        have h1 : decide ((k : Int) < (l.length : Int)) = true := by simp; omega
        have h2 : (0 : Int) ≤ (k : Int) ∧ (k : Int) < (l.length : Int) := by omega
        simp only [ref39_Tracks_b4, h1, cond_true, gd_pos _ h2, Int.toNat_natCast, gt_lt hk]
        rw [wid (by omega), show ((k : Int) + 1) = ((k + 1 : Nat) : Int) by omega]
        show (bif longT l[k] then _ else _) = _
        by_cases hp : longT l[k] = true <;> simp [hp])
      (by simp [ref39_Tracks_b4, bif_ite]) (by omega)
    rw [h4]
    simp only [Option.bind_some]
    by_cases c2 : l.any longT = true
    · simp only [c2, if_true]
    · rw [Bool.not_eq_true] at c2
      simp only [c2, Bool.false_eq_true, if_false, ref39_Tracks_k1]
      have h3 := loop_any (n := n) (body := fun (x : Int) => ref39_Tracks_b3 n l x) l badC (.inl ([], 1)) (.inr ())
        (fun k hk => by
          have h1 : decide ((k : Int) < (l.length : Int)) = true := by simp; omega
          have h2 : (0 : Int) ≤ (k : Int) ∧ (k : Int) < (l.length : Int) := by omega
          simp only [ref39_Tracks_b3, h1, cond_true, Int.toNat_natCast, gt_lt hk]
          rw [gd_pos _ ⟨h2, fun _ => h2⟩, wid (by omega), show ((k : Int) + 1) = ((k + 1 : Nat) : Int) by omega]
          show (bif badC l[k] then _ else _) = _
          by_cases hp : badC l[k] = true <;> simp [hp])
        (by simp [ref39_Tracks_b3, bif_ite]) (by omega)
      rw [h3]
      simp only [Option.bind_some]
      by_cases c3 : l.any badC = true
      · simp only [c3, if_true]
      · rw [Bool.not_eq_true] at c3
        simp only [c3, Bool.false_eq_true, if_false, ref39_Tracks_k2]
        rw [layout_all n l (by omega) (by omega) (fun x hx => by
          have := List.any_eq_false.1 c2 x hx
          simp [longT] at this
          omega)]
        rfl
theorem sameRec_refl (n : Nat) (r : TRec) : ref15_SameRec n r r = some true := by
  simp only [ref15_SameRec, beq_self_eq_true, if_true, cond_true]
  rw [gd_pos _ trivial, gd_pos _ trivial]
theorem same_refl (n : Nat) (t : List TRec) (hn : t.length < n) (hl : t.length ≤ 4096) : ref15_Same n t t = some true := by
  have h := loop_any (n := n) (body := fun (x : Int) => ref15_Same_b2 n t t x) t (fun _ => false) (.inl false) (.inr ())
    (fun k hk => by
      have h1 : decide ((k : Int) < (t.length : Int)) = true := by simp; omega
      have h2 : (0 : Int) ≤ (k : Int) ∧ (k : Int) < (t.length : Int) := by omega
      simp only [ref15_Same_b2, h1, cond_true, sameRec_refl, Option.bind_some, Bool.not_true, cond_false]
      rw [gd_pos _ ⟨h2, h2⟩, wid (by omega), show ((k : Int) + 1) = ((k + 1 : Nat) : Int) by omega]
      rfl)
    (by simp [ref15_Same_b2, bif_ite]) hn
  have e : t.any (fun _ => false) = false := by simp
  rw [e] at h
  simp only [ref15_Same, bne_self_eq_false, cond_false, h, Option.bind_some]
  rfl
theorem sameTracks_refl (n : Nat) (t : List (List TRec)) (hn : 4096 < n) (hl : t.length ≤ 4096) (ht : ∀ x ∈ t, x.length ≤ 4096) : ref15_SameTracks n t t = some true := by
  have h := loop_any (n := n) (body := fun (x : Int) => ref15_SameTracks_b2 n t t x) t (fun _ => false) (.inl false) (.inr ())
    (fun k hk => by
      have h1 : decide ((k : Int) < (t.length : Int)) = true := by simp; omega
      have h2 : (0 : Int) ≤ (k : Int) ∧ (k : Int) < (t.length : Int) := by omega
      have h3 := ht t[k] (List.getElem_mem hk)
      simp only [ref15_SameTracks_b2, h1, cond_true, Int.toNat_natCast, gt_lt hk]
      rw [same_refl n _ (by omega) h3]
      simp only [Option.bind_some, Bool.not_true, cond_false]
      rw [gd_pos _ ⟨h2, h2⟩, wid (by omega), show ((k : Int) + 1) = ((k + 1 : Nat) : Int) by omega]
      rfl)
    (by simp [ref15_SameTracks_b2, bif_ite]) (by omega)
  have e : t.any (fun _ => false) = false := by simp
  rw [e] at h
  simp only [ref15_SameTracks, bne_self_eq_false, cond_false, h, Option.bind_some]
  rfl
theorem divP_len (cs : List Int) (room : Int) : (divP cs room).length ≤ cs.length := by
  unfold divP; exact divF_len cs room cs.length 0
theorem tracksS_sz (l : List TLine) : (tracksS l).1.length ≤ 4096 ∧ ∀ x ∈ (tracksS l).1, x.length ≤ 4096 := by
  unfold tracksS
  split
  · simp
  · rename_i h0
    split
    · simp
    · split
      · simp
      · have hr := recsL_len l
        have hr' : (recsL l).length ≤ 4096 := Nat.le_trans hr (by omega)
        unfold trkL tracksR
        generalize recsL l = rs at hr'
        refine ⟨?_, fun x hx => ?_⟩
        · rw [List.length_map]
          have := divP_len (rs.map szRec) 2048
          rw [List.length_map] at this
          exact Nat.le_trans this hr'
        · obtain ⟨e, he, rfl⟩ := List.mem_map.1 hx
          rw [numb_len]
          unfold piece
          rw [List.length_take, List.length_drop]
          omega
theorem lays_eq (n : Nat) (l : List TLine) (hn : N0 ≤ n) : law39_lays n l = some true := by
  have hn0 : 4194304 ≤ n := hn
  obtain ⟨h1, h2⟩ := tracksS_sz l
  simp only [law39_lays, Tracks_S n l hn, rTracks_eq n l hn, Option.bind_some, sameTracks_refl n _ (by omega) h1 h2, if_true, beq_self_eq_true]
theorem few_eq (n : Nat) (l : List TLine) (hn : N0 ≤ n) : ∃ r, law39_Few n l = some r ∧ r.length ≤ 300 := by
  have hn0 : 4194304 ≤ n := hn
  obtain ⟨y, h1, h2⟩ := loopF_inv (body := fun (x : (List TLine) × Int) => law39_Few_b2 n l x.1 x.2) (fun x => 0 ≤ x.2 ∧ x.2 ≤ 300 ∧ (x.1.length : Int) = x.2) (fun x => (300 - x.2).toNat) (fun y => y.length ≤ 300)
    (fun ⟨out, i⟩ ⟨hi1, hi2, hi3⟩ => by
      simp only at hi1 hi2 hi3 ⊢
      unfold law39_Few_b2
      by_cases c : (if (decide (i < (l.length : Int))) = true then (decide (i < 300)) else false) = true
      · have c' : i < (l.length : Int) ∧ i < 300 := by
          simp only [Bool.if_false_right, Bool.and_eq_true, decide_eq_true_eq] at c; exact c
        left
        rw [c, cond_true, gd_pos _ (by omega), gd_pos _ (by split <;> omega), gd_pos _ (by omega), wid (by omega)]
        exact ⟨_, rfl, ⟨by simp only; omega, by simp only; omega, by simp only [List.length_append, List.length_singleton]; omega⟩, by simp only; omega⟩
      · rw [Bool.not_eq_true] at c
        right
        rw [c, cond_false]
        exact ⟨_, rfl, by omega⟩) n ([], 0) (by simp) (by simp; omega)
  refine ⟨y, ?_, h2⟩
  simp only [law39_Few, h1, Option.bind_some, law39_Few_k1]
theorem valid_some (n : Nat) (l : List TLine) (hn : N0 ≤ n) : ∃ r, law39_Valid n l = some r := by
  have hn0 : 4194304 ≤ n := hn
  obtain ⟨f, hf, hl⟩ := few_eq n l hn
  obtain ⟨y, h1, _⟩ := loopF_inv (body := fun (x : (List TLine) × Int) => law39_Valid_b2 n ((f.length : Nat) : Int) x.1 x.2) (fun x => 0 ≤ x.2 ∧ x.2 ≤ (f.length : Int) ∧ x.1.length = f.length) (fun x => ((f.length : Int) - x.2).toNat) (fun y => True)
    (fun ⟨out, i⟩ ⟨hi1, hi2, hi3⟩ => by
      simp only at hi1 hi2 hi3 ⊢
      unfold law39_Valid_b2
      by_cases c : i < (f.length : Int)
      · left
        have c0 : (0 ≤ i ∧ i < (out.length : Int)) := by omega
        have c1 : i.toNat < out.length := by omega
        rw [decide_eq_true c, cond_true, gd_pos _ ⟨c0, c1, c0, c1⟩, gd_pos _ ⟨c0, c1, c0, c1, by split <;> omega, c0, c1⟩, wid (n := i + 1) (by omega)]
        exact ⟨_, rfl, ⟨by simp only; omega, by simp only; omega, by simp only [List.length_set]; exact hi3⟩, by simp only; omega⟩
      · right
        rw [decide_eq_false c, cond_false]
        exact ⟨_, rfl, trivial⟩) n (f, 0) (by simp) (by simp; omega)
  refine ⟨y, ?_⟩
  simp only [law39_Valid, hf, h1, Option.bind_some, law39_Valid_k1]
theorem Lays_true (l : List TLine) : law39_SpoolLays N0 l = some true := by
  obtain ⟨f, hf, _⟩ := few_eq N0 l (Nat.le_refl _)
  obtain ⟨v, hv⟩ := valid_some N0 l (Nat.le_refl _)
  simp only [law39_SpoolLays, hf, hv, lays_eq N0 _ (Nat.le_refl _), Option.bind_some, cond_true, works_N0]
  rw [gd_pos _ trivial, gd_pos _ (by simp)]
  rfl
end Go.Proofs.Ytkebegfopnlkhaa
