/-
  ch. 37: plain laws. EnqueueUndone.
-/
import Derived.Test.YtcdofkflbnpjjaaY
set_option maxHeartbeats 8000000
set_option linter.unusedVariables false
set_option linter.unusedSimpArgs false
set_option maxRecDepth 100000
namespace Go.Proofs.Ytcdofkflbnpjjaa
open Go.AE

theorem rng_no {t : TTable} (h : rng t) {j : Int} (hj : j < 0 ∨ 11 < j) : jobs t.Held j = false ∧ jobs t.Waiting j = false := by
  constructor
  · rw [jobs_false]; intro hm
    obtain ⟨q, hq, e⟩ := List.mem_map.1 hm
    have := h q (.inl hq); omega
  · rw [jobs_false]; intro hm
    obtain ⟨q, hq, e⟩ := List.mem_map.1 hm
    have := h q (.inr hq); omega

theorem Undone_true (n : Nat) (hn : N0 ≤ n) (l : List TAct) (w : List TWant) (hw : ∀ a ∈ l, a.Wants.length ≤ B0) (hj : ∀ a ∈ l, 0 ≤ a.Job ∧ a.Job < 256) (hwl : w.length ≤ B0) : law37_EnqueueUndone n l w = some true := by
  obtain ⟨t, ok, hp, ht, hv, hr⟩ := play_eq n hn l hw hj
  simp only [law37_EnqueueUndone, hp, works_true n hn, few_eq n w hwl hn, Option.bind_some, Bool.not_true, cond_false]
  rw [gd_pos _ (by intro _; rfl)]
  cases ok with
  | false => rfl
  | true =>
    cases hf : few w with
    | false => rfl
    | true =>
      have hs := tb_small ht (by omega)
      have hno := rng_no hr (j := 99) (by omega)
      have hfl := few_len hf
      have hnf : (nf w).length ≤ 512 := by have := nf_len w; omega
      have h0 : (askM t 99 w).2.2 = 0 := by
        unfold askM
        rw [if_neg (by rw [hv.vld]; simp), if_neg (by rw [hno.1, hno.2]; simp), if_neg (by omega)]
        split <;> rfl
      obtain ⟨hu, hh⟩ := undo hv (j := 99) (w := w) hno h0
      have hb := askM_tb ht 99 w h0
      have hV := askM_VP hv 99 w h0
      have h3 : (relM t 99).2.2 = 3 := by
        unfold relM
        rw [if_neg (by rw [hv.vld]; simp), ix_none hno.1, ix_none hno.2]
      have e0 : ((askM t 99 w).2.2 != 0) = false := by rw [h0]; rfl
      simp only [Bool.not_true, Bool.false_eq_true, if_false, Option.getD_some, cond_false, Ask_eq n t 99 w hs hwl hn, Option.bind_some, e0, Bool.not_false, Holds_eq n _ 99 (tb_small hb (by omega)) hn, hV.vld, Bool.true_and, hh, bne_self_eq_false]
      rw [gd_pos _ (by intro _; rfl)]
      simp only [cond_false, Release_eq n _ 99 (tb_mono hb (by omega)) hn, hu, Option.bind_some, Release_eq n t 99 (tb_mono ht (by omega)) hn, h3]
      simp only [table_eq n t hs hn, same_self n t hs hn, Option.bind_some]
      simp [gd]

theorem p_law37_EnqueueUndone (n : Nat) (hn : N0 ≤ n) (x0 : List TAct) (x1 : List TWant) (hc : ∀ i, i < 2 → CanL Try.prog (([(false, [.slice 45]), (false, [.slice 92])] : List (Bool × List Kd)).getD i (false, [])).2 (([[.slice (List.map e_TAct x0)], [.slice (List.map e_TWant x1)]] : List (List C)).getD i []))
    (hb : cbss [[.slice (List.map e_TAct x0)], [.slice (List.map e_TWant x1)]] ≤ 2097152) : law37_EnqueueUndone n x0 x1 = some true :=
  Undone_true n hn x0 x1 (acts_wants hb) (acts_jobs (hc 0 (by decide))) (len_of_cbss (f := e_TWant) hb (.head _) (.tail _ (.head _)))
end Go.Proofs.Ytcdofkflbnpjjaa
