/-
  ch. 37: plain laws. The example, the play, and EnqueueRuns.
-/
import Derived.Test.YtcdofkflbnpjjaaU
set_option maxHeartbeats 8000000
set_option linter.unusedVariables false
set_option linter.unusedSimpArgs false
set_option maxRecDepth 100000
namespace Go.Proofs.Ytcdofkflbnpjjaa
open Go.AE

theorem askM_tb {K : Nat} {t : TTable} (h : tb K t) (j : Int) (w : List TWant) (h0 : (askM t j w).2.2 = 0) : tb (K + 1) (askM t j w).1 := by
  have h1 := h.1
  unfold askM at h0 ⊢
  split at h0
  · cases h0
  · split at h0
    · cases h0
    · split at h0
      · cases h0
      · rename_i a b c
        rw [if_neg a, if_neg b, if_neg c]
        have hw : (nf w).length ≤ 512 := by omega
        split
        · refine ⟨by simp; omega, fun q hq => ?_⟩
          simp only [List.mem_append, List.mem_singleton] at hq
          rcases hq with hq | hq | hq
          · exact h.2 q (.inl hq)
          · exact h.2 q (.inr hq)
          · subst hq; exact hw
        · refine ⟨by simp; omega, fun q hq => ?_⟩
          simp only [List.mem_append, List.mem_singleton] at hq
          rcases hq with (hq | hq) | hq
          · exact h.2 q (.inl hq)
          · subst hq; exact hw
          · exact h.2 q (.inr hq)
theorem relM_tb {K : Nat} {t : TTable} (h : tb K t) (j : Int) (h0 : (relM t j).2.2 = 0) : tb K (relM t j).1 ∧ (relM t j).2.1.length ≤ K := by
  have h1 := h.1
  unfold relM at h0 ⊢
  split at h0
  · cases h0
  · rename_i a
    rw [if_neg a]
    cases e1 : ix t.Held j with
    | some k =>
      have hk := rm_len (ix_lt e1)
      have hl := sweep_len t.Waiting (rm t.Held k) [] []
      simp only [List.length_nil, Nat.zero_add, Nat.add_zero] at hl
      refine ⟨⟨by simp only; omega, fun q hq => ?_⟩, by simp only; omega⟩
      rcases (sweep_mem t.Waiting (rm t.Held k) [] [] q).1 hq with hq | hq | hq
      · exact h.2 q (.inl (rm_mem hq))
      · cases hq
      · exact h.2 q (.inr hq)
    | none =>
      rw [e1] at h0
      cases e2 : ix t.Waiting j with
      | some k =>
        have hk := rm_len (ix_lt e2)
        have hl := sweep_len (rm t.Waiting k) t.Held [] []
        simp only [List.length_nil, Nat.zero_add, Nat.add_zero] at hl
        refine ⟨⟨by simp only; omega, fun q hq => ?_⟩, by simp only; omega⟩
        rcases (sweep_mem (rm t.Waiting k) t.Held [] [] q).1 hq with hq | hq | hq
        · exact h.2 q (.inl hq)
        · cases hq
        · exact h.2 q (.inr (rm_mem hq))
      | none => rw [e2] at h0; cases h0

theorem tb_nil : tb 0 ⟨[], []⟩ := ⟨by simp, by simp⟩

theorem works_true (n : Nat) (hn : N0 ≤ n) : law37_works n = some true := by
  have hA : ∀ {K : Nat} {t : TTable} (h : tb K t) (hK : K ≤ 10) (j : Int) (b : Bool), enqueue_Ask n t j [(⟨[65], b⟩ : TWant)] = some (askM t j [(⟨[65], b⟩ : TWant)]) :=
    fun h hK j b => Ask_eq n _ j _ (tb_small h (by omega)) (by unfold B0; simp) hn
  have r1 : askM ⟨[], []⟩ 1 [(⟨[65], false⟩ : TWant)] = (⟨[⟨1, [⟨[65], false⟩]⟩], []⟩, true, 0) := by decide +kernel
  have r2 : askM ⟨[⟨1, [⟨[65], false⟩]⟩], []⟩ 2 [(⟨[65], true⟩ : TWant)] = (⟨[⟨1, [⟨[65], false⟩]⟩], [⟨2, [⟨[65], true⟩]⟩]⟩, false, 0) := by decide +kernel
  have r3 : askM ⟨[⟨1, [⟨[65], false⟩]⟩], [⟨2, [⟨[65], true⟩]⟩]⟩ 3 [(⟨[65], false⟩ : TWant)] = (⟨[⟨1, [⟨[65], false⟩]⟩], [⟨2, [⟨[65], true⟩]⟩, ⟨3, [⟨[65], false⟩]⟩]⟩, false, 0) := by decide +kernel
  have r4 : relM ⟨[⟨1, [⟨[65], false⟩]⟩], [⟨2, [⟨[65], true⟩]⟩, ⟨3, [⟨[65], false⟩]⟩]⟩ 1 = (⟨[⟨2, [⟨[65], true⟩]⟩], [⟨3, [⟨[65], false⟩]⟩]⟩, [2], 0) := by decide +kernel
  have b1 := askM_tb tb_nil 1 [(⟨[65], false⟩ : TWant)] (by rw [r1])
  rw [r1] at b1
  have b2 := askM_tb b1 2 [(⟨[65], true⟩ : TWant)] (by rw [r2])
  rw [r2] at b2
  have b3 := askM_tb b2 3 [(⟨[65], false⟩ : TWant)] (by rw [r3])
  rw [r3] at b3
  simp only [law37_works, law37_one, Option.bind_some, hA tb_nil (by omega), r1, hA b1 (by omega), r2, hA b2 (by omega), r3, Release_eq n _ 1 (tb_mono b3 (by omega)) hn, r4, ints_self n [2] (by unfold B0; simp) hn]
  rfl

theorem acts_wants {l : List TAct} {xss : List (List C)} (hb : cbss ([.slice (List.map e_TAct l)] :: xss) ≤ 2097152) : ∀ a ∈ l, a.Wants.length ≤ B0 := by
  intro a ha
  have h1 : cbs (e_TAct a) ≤ cbss (List.map e_TAct l) := cbs_le (List.mem_map_of_mem ha)
  have h2 : cb (.slice (List.map e_TWant a.Wants)) ≤ cbs (e_TAct a) := cb_le (by simp [e_TAct])
  simp only [cbss, cbs, cb, List.length_map] at hb h2
  unfold B0; omega

theorem job_w (j : Int) : ∃ x : Int, IntKind.wrap .i64 (Int.tmod j 12) = x := ⟨_, rfl⟩

theorem Runs_true (n : Nat) (hn : N0 ≤ n) (l : List TAct) (hw : ∀ a ∈ l, a.Wants.length ≤ B0) : law37_EnqueueRuns n l = some true := by
  have hn' := hn
  unfold N0 at hn'
  have k4 : ∀ (K : Nat) (t : TTable) (k : Nat), tb K t → K ≤ 1000 → k < 41 → law37_EnqueueRuns_k4 n l t.Held t.Waiting t.Held t.Waiting (k : Int) = some (.inl (t.Held, t.Waiting, t.Held, t.Waiting, ((k + 1 : Nat) : Int))) := by
    intro K t k ht hK hk
    have hs := same_self n t (tb_small ht hK) hn
    simp only [law37_EnqueueRuns_k4]
    rw [show (⟨t.Held, t.Waiting⟩ : TTable) = t from rfl, hs]
    simp only [Option.bind_some, Bool.not_true, cond_false, law37_EnqueueRuns_k3, succ_w (show k < 4194304 by omega)]
  obtain ⟨y, h1, h2⟩ := loopF_inv (body := fun (x : (List TRequest) × (List TRequest) × (List TRequest) × (List TRequest) × Int) => law37_EnqueueRuns_b2 n l x.1 x.2.1 x.2.2.1 x.2.2.2.1 x.2.2.2.2)
    (fun x => ∃ (k : Nat) (t : TTable), x = (t.Held, t.Waiting, t.Held, t.Waiting, (k : Int)) ∧ tb k t ∧ k ≤ 40) (fun x => 41 - x.2.2.2.2.toNat) (fun y => y = .inl true ∨ y = .inr ())
    (by
      rintro _ ⟨k, t, rfl, ht, hk⟩
      simp only
      by_cases hc : k < l.length ∧ k < 40
      · have hd1 : decide ((k : Int) < (l.length : Int)) = true := by simp; omega
        have hd2 : decide ((k : Int) < 40) = true := by simp; omega
        have hwk := hw _ (List.getElem_mem hc.1)
        have g : 0 ≤ (k : Int) ∧ (k : Int) < (l.length : Int) := by omega
        simp only [law37_EnqueueRuns_b2, hd1, hd2, if_true, cond_true, gd_pos _ g, Int.toNat_natCast, gt_lt hc.1, few_eq n _ hwk hn, Option.bind_some]
        cases hf : few l[k].Wants with
        | false => exact .inr ⟨_, rfl, .inl rfl⟩
        | true =>
          left
          simp only [Bool.not_true, cond_false]
          generalize IntKind.wrap .i64 (Int.tmod l[k].Job 12) = j
          have ht2 : tb 1000 t := tb_mono ht (by omega)
          rw [show (⟨t.Held, t.Waiting⟩ : TTable) = t from rfl]
          cases l[k].Free with
          | true =>
            simp only [cond_true, Release_eq n t j ht2 hn, RRelease_eq n t j ht2 hn, Option.bind_some]
            by_cases h0 : (relM t j).2.2 = 0
            · have hr := relM_tb ht j h0
              have hi := ints_self n (relM t j).2.1 (by have := hr.2; unfold B0; omega) hn
              rw [gd_pos _ (by intro _; rw [hi]; rfl), hi]
              have e1 : ((relM t j).2.2 != (relM t j).2.2) = false := by simp
              have e2 : ((relM t j).2.2 == 0) = true := by simpa using h0
              simp only [e1, e2, Bool.false_eq_true, if_false, Option.getD_some, Bool.not_true, cond_false, cond_true, k4 k _ k hr.1 (by omega) (by omega)]
              exact ⟨_, rfl, ⟨k + 1, (relM t j).1, rfl, tb_mono hr.1 (by omega), by omega⟩, by simp only; omega⟩
            · have hi : law37_ints n (relM t j).2.1 (relM t j).2.1 = some true := by
                refine ints_self n _ ?_ hn
                have : (relM t j).2.1 = [] := by
                  unfold relM at h0 ⊢
                  split
                  · rfl
                  · rename_i a
                    rw [if_neg a] at h0
                    cases e1 : ix t.Held j with
                    | some q => rw [e1] at h0; exact absurd rfl h0
                    | none =>
                      rw [e1] at h0
                      cases e2 : ix t.Waiting j with
                      | some q => rw [e2] at h0; exact absurd rfl h0
                      | none => rfl
                rw [this]; simp
              rw [gd_pos _ (by intro _; rw [hi]; rfl), hi]
              have e1 : ((relM t j).2.2 != (relM t j).2.2) = false := by simp
              have e2 : ((relM t j).2.2 == 0) = false := by simpa using h0
              simp only [e1, e2, Bool.false_eq_true, if_false, Option.getD_some, Bool.not_true, cond_false, cond_true, k4 k _ k ht (by omega) (by omega)]
              exact ⟨_, rfl, ⟨k + 1, t, rfl, tb_mono ht (by omega), by omega⟩, by simp only; omega⟩
          | false =>
            have hs := tb_small ht (by omega)
            simp only [cond_false, Ask_eq n t j _ hs hwk hn, wants_eq n _ hwk hn, RAsk_eq n t j _ hs hwk hn, Option.bind_some]
            generalize hr : askM t j l[k].Wants = r
            have e1 : (r.2.2 != r.2.2) = false := by simp
            have e3 : (r.2.1 != r.2.1) = false := by simp
            by_cases h0 : r.2.2 = 0
            · have hb := askM_tb ht j l[k].Wants (by rw [hr]; exact h0)
              rw [hr] at hb
              have e2 : (r.2.2 == 0) = true := by simpa using h0
              simp only [e1, e2, e3, Bool.false_eq_true, if_false, cond_false, cond_true, k4 (k + 1) _ k hb (by omega) (by omega)]
              exact ⟨_, rfl, ⟨k + 1, r.1, rfl, hb, by omega⟩, by simp only; omega⟩
            · have e2 : (r.2.2 == 0) = false := by simpa using h0
              simp only [e1, e2, e3, Bool.false_eq_true, if_false, cond_false, cond_true, k4 k _ k ht (by omega) (by omega)]
              exact ⟨_, rfl, ⟨k + 1, t, rfl, tb_mono ht (by omega), by omega⟩, by simp only; omega⟩
      · right
        have hd : (if decide ((k : Int) < (l.length : Int)) = true then decide ((k : Int) < 40) else false) = false := by
          rw [ite_ff, Bool.and_eq_false_iff, decide_eq_false_iff_not, decide_eq_false_iff_not]; omega
        refine ⟨.inr (), by simp only [law37_EnqueueRuns_b2, hd, cond_false], .inr rfl⟩)
    n ([], [], [], [], 0) ⟨0, ⟨[], []⟩, rfl, tb_nil, by omega⟩ (by simp only; omega)
  simp only [law37_EnqueueRuns, works_true n hn, Option.bind_some, Bool.not_true, cond_false, h1]
  rcases h2 with rfl | rfl <;> rfl

theorem p_law37_EnqueueRuns (n : Nat) (hn : N0 ≤ n) (x0 : List TAct) (hc : ∀ i, i < 1 → CanL Try.prog (([(false, [.slice 45])] : List (Bool × List Kd)).getD i (false, [])).2 (([[.slice (List.map e_TAct x0)]] : List (List C)).getD i []))
    (hb : cbss [[.slice (List.map e_TAct x0)]] ≤ 2097152) : law37_EnqueueRuns n x0 = some true :=
  Runs_true n hn x0 (acts_wants hb)
end Go.Proofs.Ytcdofkflbnpjjaa
