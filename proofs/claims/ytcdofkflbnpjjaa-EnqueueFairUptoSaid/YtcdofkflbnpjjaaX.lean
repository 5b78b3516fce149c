/-
  ch. 37: plain laws. What holds of every table that is reached.
-/
import Derived.Test.YtcdofkflbnpjjaaV
set_option maxHeartbeats 8000000
set_option linter.unusedVariables false
set_option linter.unusedSimpArgs false
set_option maxRecDepth 100000
namespace Go.Proofs.Ytcdofkflbnpjjaa
open Go.AE

theorem conf_symm (a b : List TWant) : conf a b = conf b a := by
  rw [Bool.eq_iff_iff]
  simp only [conf, List.any_eq_true, Bool.and_eq_true, Bool.or_eq_true, beq_iff_eq]
  constructor
  · rintro ⟨x, hx, y, hy, h1, h2⟩; exact ⟨y, hy, x, hx, h1.symm, h2.symm⟩
  · rintro ⟨x, hx, y, hy, h1, h2⟩; exact ⟨y, hy, x, hx, h1.symm, h2.symm⟩

/-- a valid table, without indices -/
structure VP (t : TTable) : Prop where
  nr : ∀ q, q ∈ t.Held ∨ q ∈ t.Waiting → nrm q = true
  nd : ((t.Held ++ t.Waiting).map (·.Job)).Nodup
  pw : t.Held.Pairwise fun a b => conf b.Wants a.Wants = false
  st : stuck t.Held t.Waiting

theorem nd_take {l : List TRequest} (h : (l.map (·.Job)).Nodup) {k : Nat} (hk : k < l.length) : jobs (l.take k) (gt l k).Job = false := by
  rw [jobs, List.any_eq_false]
  intro q hq he
  rw [beq_iff_eq] at he
  obtain ⟨i, hi, rfl⟩ := List.mem_iff_getElem.1 hq
  rw [List.length_take] at hi
  rw [List.getElem_take, gt_lt hk] at he
  rw [List.Nodup, List.pairwise_map, List.pairwise_iff_getElem] at h
  exact h i k (by omega) hk (by omega) he
theorem pw_take {l : List TRequest} (h : l.Pairwise fun a b => conf b.Wants a.Wants = false) {k : Nat} (hk : k < l.length) : blk (gt l k).Wants (l.take k) = false := by
  rw [blk, List.any_eq_false]
  intro q hq he
  obtain ⟨i, hi, rfl⟩ := List.mem_iff_getElem.1 hq
  rw [List.length_take] at hi
  rw [List.getElem_take, gt_lt hk] at he
  rw [List.pairwise_iff_getElem] at h
  have := h i k (by omega) hk (by omega)
  rw [this] at he; cases he
theorem jobs_mem {l : List TRequest} {j : Int} : jobs l j = true ↔ j ∈ l.map (·.Job) := by
  simp only [jobs, List.any_eq_true, beq_iff_eq, List.mem_map]
theorem jobs_false {l : List TRequest} {j : Int} : jobs l j = false ↔ j ∉ l.map (·.Job) := by
  rw [← jobs_mem]; simp

theorem bad1_false {t : TTable} (h : VP t) {k : Nat} (hk : k < t.Held.length) : bad1 t.Held k = false := by
  have h1 : (t.Held.map (·.Job)).Nodup := by
    have := h.nd; rw [List.map_append, List.nodup_append] at this; exact this.1
  simp only [bad1, nd_take h1 hk, pw_take h.pw hk, h.nr (gt t.Held k) (.inl (by rw [gt_lt hk]; exact List.getElem_mem hk))]
  rfl
theorem nd_held {t : TTable} (h : VP t) {q : TRequest} (hq : q ∈ t.Waiting) : jobs t.Held q.Job = false := by
  rw [jobs_false]
  intro hm
  have := h.nd
  rw [List.map_append, List.nodup_append] at this
  exact this.2.2 _ hm _ (List.mem_map_of_mem (f := (·.Job)) hq) rfl
theorem bad2_false {t : TTable} (h : VP t) {k : Nat} (hk : k < t.Waiting.length) : bad2 t.Held t.Waiting k = false := by
  have h1 : (t.Waiting.map (·.Job)).Nodup := by
    have := h.nd; rw [List.map_append, List.nodup_append] at this; exact this.2.1
  have hm : gt t.Waiting k ∈ t.Waiting := by rw [gt_lt hk]; exact List.getElem_mem hk
  have hs := h.st k hk
  simp only [bad2, nd_take h1 hk, nd_held h hm, h.nr _ (.inr hm)]
  cases e1 : blk (gt t.Waiting k).Wants t.Held <;> cases e2 : blk (gt t.Waiting k).Wants (t.Waiting.take k) <;> simp_all
theorem VP.vld {t : TTable} (h : VP t) : vld t = true := by
  have h1 : (List.range t.Held.length).any (bad1 t.Held) = false := by
    rw [List.any_eq_false]; intro k hk; rw [bad1_false h (List.mem_range.1 hk)]; simp
  have h2 : (List.range t.Waiting.length).any (bad2 t.Held t.Waiting) = false := by
    rw [List.any_eq_false]; intro k hk; rw [bad2_false h (List.mem_range.1 hk)]; simp
  simp [Go.Proofs.Ytcdofkflbnpjjaa.vld, h1, h2]

theorem VP_nil : VP ⟨[], []⟩ := ⟨by simp, by simp, List.Pairwise.nil, fun k hk => by simp at hk⟩

theorem nf_nrm {w : List TWant} (j : Int) (h : (nf w).length ≤ 512) : nrm ⟨j, nf w⟩ = true := by
  simp only [nrm, asc, Bool.and_eq_true, decide_eq_true_eq, List.all_eq_true, List.mem_range]
  refine ⟨fun k hk => ?_, h⟩
  have := (nf_isNF w).1
  rw [List.pairwise_iff_getElem] at this
  rw [gt_lt (by omega), gt_lt (by omega)]
  exact this k (k + 1) (by omega) (by omega) (by omega)

theorem askM_VP {t : TTable} (h : VP t) (j : Int) (w : List TWant) (h0 : (askM t j w).2.2 = 0) : VP (askM t j w).1 := by
  unfold askM at h0 ⊢
  split at h0
  · cases h0
  · split at h0
    · cases h0
    · split at h0
      · cases h0
      · rename_i a b c
        rw [if_neg a, if_neg b, if_neg c]
        rw [Bool.not_eq_true, Bool.or_eq_false_iff, jobs_false, jobs_false] at b
        have hn := nf_nrm (w := w) j (by omega)
        have hnd := h.nd
        split
        · rename_i d
          refine ⟨fun q hq => ?_, ?_, h.pw, stuck_snoc h.st d⟩
          · simp only [List.mem_append, List.mem_singleton] at hq
            rcases hq with hq | hq | hq
            · exact h.nr q (.inl hq)
            · exact h.nr q (.inr hq)
            · subst hq; exact hn
          · simp only [List.map_append, List.map_cons, List.map_nil] at hnd ⊢
            rw [← List.append_assoc, List.nodup_append]
            refine ⟨hnd, by simp, fun x hx y hy => ?_⟩
            simp only [List.mem_singleton] at hy
            subst hy
            rintro rfl
            rcases List.mem_append.1 hx with hx | hx
            · exact b.1 hx
            · exact b.2 hx
        · rename_i d
          rw [Bool.not_eq_true, Bool.or_eq_false_iff] at d
          refine ⟨fun q hq => ?_, ?_, ?_, stuck_mono h.st _⟩
          · simp only [List.mem_append, List.mem_singleton] at hq
            rcases hq with (hq | hq) | hq
            · exact h.nr q (.inl hq)
            · subst hq; exact hn
            · exact h.nr q (.inr hq)
          · simp only [List.map_append, List.map_cons, List.map_nil] at hnd ⊢
            have hp : ((t.Held.map (·.Job)) ++ [j] ++ t.Waiting.map (·.Job)).Perm (j :: (t.Held.map (·.Job) ++ t.Waiting.map (·.Job))) := by
              rw [List.append_assoc]; exact List.perm_middle
            rw [hp.nodup_iff, List.nodup_cons, List.mem_append]
            exact ⟨fun hx => hx.elim b.1 b.2, hnd⟩
          · rw [List.pairwise_append]
            refine ⟨h.pw, List.pairwise_singleton _ _, fun x hx y hy => ?_⟩
            rw [List.mem_singleton] at hy
            subst hy
            have := d.1
            rw [blk, List.any_eq_false] at this
            simpa using this x hx

/-- the sweep keeps a table valid -/
theorem sweep_VP : ∀ (l H W : List TRequest) (J : List Int), (∀ q, q ∈ H ∨ q ∈ W ∨ q ∈ l → nrm q = true) → ((H ++ W ++ l).map (·.Job)).Nodup → (H.Pairwise fun a b => conf b.Wants a.Wants = false) → stuck H W → VP ⟨(sweep l H W J).1, (sweep l H W J).2.1⟩
  | [], H, W, J, h1, h2, h3, h4 => ⟨fun q hq => h1 q (by rcases hq with hq | hq; exact .inl hq; exact .inr (.inl hq)), by simpa [sweep] using h2, h3, h4⟩
  | q :: l, H, W, J, h1, h2, h3, h4 => by
    simp only [sweep]
    split
    · rename_i hc
      refine sweep_VP l H (W ++ [q]) J (fun x hx => h1 x ?_) (by simpa using h2) h3 (stuck_snoc h4 hc)
      simp only [List.mem_append, List.mem_singleton, List.mem_cons] at hx ⊢; grind
    · rename_i hc
      rw [Bool.not_eq_true, Bool.or_eq_false_iff] at hc
      refine sweep_VP l (H ++ [q]) W _ (fun x hx => h1 x ?_) ?_ ?_ (stuck_mono h4 q)
      · simp only [List.mem_append, List.mem_singleton, List.mem_cons] at hx ⊢; grind
      · have hp : (H ++ [q] ++ W ++ l).Perm (H ++ W ++ q :: l) := by
          rw [List.append_assoc, List.append_assoc, List.append_assoc]
          refine List.Perm.append_left _ ?_
          show (q :: (W ++ l)).Perm (W ++ q :: l)
          exact List.perm_middle.symm
        exact (hp.map _).nodup_iff.2 h2
      · rw [List.pairwise_append]
        refine ⟨h3, List.pairwise_singleton _ _, fun x hx y hy => ?_⟩
        rw [List.mem_singleton] at hy
        subst hy
        have := hc.1
        rw [blk, List.any_eq_false] at this
        simpa using this x hx

theorem rm_sub (l : List TRequest) (k : Nat) : (rm l k).Sublist l := by
  have : rm l k = l.eraseIdx k := by rw [rm, List.eraseIdx_eq_take_drop_succ]
  rw [this]; exact List.eraseIdx_sublist l k

theorem relM_VP {t : TTable} (h : VP t) (j : Int) (h0 : (relM t j).2.2 = 0) : VP (relM t j).1 := by
  unfold relM at h0 ⊢
  rw [if_neg (by rw [h.vld]; simp)] at h0 ⊢
  cases e1 : ix t.Held j with
  | some k =>
    have hs := rm_sub t.Held k
    refine sweep_VP t.Waiting (rm t.Held k) [] [] (fun q hq => ?_) ?_ (h.pw.sublist hs) (fun k hk => by simp at hk)
    · rcases hq with hq | hq | hq
      · exact h.nr q (.inl (rm_mem hq))
      · cases hq
      · exact h.nr q (.inr hq)
    · rw [List.append_nil]
      exact h.nd.sublist ((hs.append_right _).map _)
  | none =>
    rw [e1] at h0
    cases e2 : ix t.Waiting j with
    | some k =>
      have hs := rm_sub t.Waiting k
      refine sweep_VP (rm t.Waiting k) t.Held [] [] (fun q hq => ?_) ?_ h.pw (fun k hk => by simp at hk)
      · rcases hq with hq | hq | hq
        · exact h.nr q (.inl hq)
        · cases hq
        · exact h.nr q (.inr (rm_mem hq))
      · rw [List.append_nil]
        exact h.nd.sublist ((hs.append_left _).map _)
    | none => rw [e2] at h0; cases h0

/-- which requests a table has after Ask and Release -/
theorem askM_mem {t : TTable} {j : Int} {w : List TWant} (h0 : (askM t j w).2.2 = 0) {q : TRequest} (hq : q ∈ (askM t j w).1.Held ∨ q ∈ (askM t j w).1.Waiting) : q ∈ t.Held ∨ q ∈ t.Waiting ∨ q.Job = j := by
  unfold askM at h0 hq
  split at h0
  · cases h0
  · split at h0
    · cases h0
    · split at h0
      · cases h0
      · rename_i a b c
        rw [if_neg a, if_neg b, if_neg c] at hq
        split at hq
        · simp only [List.mem_append, List.mem_singleton] at hq
          rcases hq with hq | hq | hq
          · exact .inl hq
          · exact .inr (.inl hq)
          · subst hq; exact .inr (.inr rfl)
        · simp only [List.mem_append, List.mem_singleton] at hq
          rcases hq with (hq | hq) | hq
          · exact .inl hq
          · subst hq; exact .inr (.inr rfl)
          · exact .inr (.inl hq)
theorem relM_mem {t : TTable} {j : Int} (h0 : (relM t j).2.2 = 0) {q : TRequest} (hq : q ∈ (relM t j).1.Held ∨ q ∈ (relM t j).1.Waiting) : q ∈ t.Held ∨ q ∈ t.Waiting := by
  unfold relM at h0 hq
  split at h0
  · cases h0
  · rename_i a
    rw [if_neg a] at hq
    cases e1 : ix t.Held j with
    | some k =>
      rw [e1] at hq
      rcases (sweep_mem t.Waiting (rm t.Held k) [] [] q).1 hq with hq | hq | hq
      · exact .inl (rm_mem hq)
      · cases hq
      · exact .inr hq
    | none =>
      rw [e1] at h0 hq
      cases e2 : ix t.Waiting j with
      | some k =>
        rw [e2] at hq
        rcases (sweep_mem (rm t.Waiting k) t.Held [] [] q).1 hq with hq | hq | hq
        · exact .inl hq
        · cases hq
        · exact .inr (rm_mem hq)
      | none => rw [e2] at h0; cases h0

/-! ## The play -/
def rng (t : TTable) : Prop := ∀ q, q ∈ t.Held ∨ q ∈ t.Waiting → 0 ≤ q.Job ∧ q.Job ≤ 11
def good (t : TTable) : Prop := VP t ∧ rng t

theorem play_eq (n : Nat) (hn : N0 ≤ n) (l : List TAct) (hw : ∀ a ∈ l, a.Wants.length ≤ B0) (hj : ∀ a ∈ l, 0 ≤ a.Job ∧ a.Job < 256) : ∃ t ok, law37_play n l = some (t, ok) ∧ tb 40 t ∧ good t := by
  have hn' := hn
  unfold N0 at hn'
  obtain ⟨y, h1, h2⟩ := loopF_inv (body := fun (x : (List TRequest) × (List TRequest) × Int) => law37_play_b2 n l x.1 x.2.1 x.2.2)
    (fun x => ∃ (k : Nat) (t : TTable), x = (t.Held, t.Waiting, (k : Int)) ∧ tb k t ∧ good t ∧ k ≤ 40) (fun x => 41 - x.2.2.toNat) (fun y => ∃ t : TTable, tb 40 t ∧ good t ∧ (y = .inl (t, false) ∨ y = .inr (t.Held, t.Waiting)))
    (by
      rintro _ ⟨k, t, rfl, ht, hg, hk⟩
      simp only
      by_cases hc : k < l.length ∧ k < 40
      · have hd1 : decide ((k : Int) < (l.length : Int)) = true := by simp; omega
        have hd2 : decide ((k : Int) < 40) = true := by simp; omega
        have hwk := hw _ (List.getElem_mem hc.1)
        have hjk := hj _ (List.getElem_mem hc.1)
        have g : 0 ≤ (k : Int) ∧ (k : Int) < (l.length : Int) := by omega
        simp only [law37_play_b2, hd1, hd2, if_true, cond_true, gd_pos _ g, Int.toNat_natCast, gt_lt hc.1, few_eq n _ hwk hn, Option.bind_some]
        cases hf : few l[k].Wants with
        | false => exact .inr ⟨_, rfl, t, tb_mono ht hk, hg, .inl rfl⟩
        | true =>
          left
          simp only [Bool.not_true, cond_false]
          have hjr : 0 ≤ IntKind.wrap .i64 (Int.tmod l[k].Job 12) ∧ IntKind.wrap .i64 (Int.tmod l[k].Job 12) ≤ 11 := by
            have e1 : Int.tmod l[k].Job 12 = l[k].Job % 12 := Int.tmod_eq_emod_of_nonneg hjk.1
            rw [w64_id (by omega) (by omega)]; omega
          generalize IntKind.wrap .i64 (Int.tmod l[k].Job 12) = j at hjr
          have ht2 : tb 1000 t := tb_mono ht (by omega)
          rw [show (⟨t.Held, t.Waiting⟩ : TTable) = t from rfl]
          have same : law37_play_k3 n l t.Held t.Waiting (k : Int) = some (.inl (t.Held, t.Waiting, ((k + 1 : Nat) : Int))) := by
            simp only [law37_play_k3, succ_w (show k < 4194304 by omega)]
          cases l[k].Free with
          | true =>
            simp only [cond_true, Release_eq n t j ht2 hn, Option.bind_some]
            by_cases h0 : (relM t j).2.2 = 0
            · have hr := relM_tb ht j h0
              have e2 : ((relM t j).2.2 == 0) = true := by simpa using h0
              simp only [e2, cond_true, law37_play_k3, succ_w (show k < 4194304 by omega)]
              exact ⟨_, rfl, ⟨k + 1, (relM t j).1, rfl, tb_mono hr.1 (by omega), ⟨relM_VP hg.1 j h0, fun q hq => hg.2 q (relM_mem h0 hq)⟩, by omega⟩, by simp only; omega⟩
            · have e2 : ((relM t j).2.2 == 0) = false := by simpa using h0
              simp only [e2, cond_false, same]
              exact ⟨_, rfl, ⟨k + 1, t, rfl, tb_mono ht (by omega), hg, by omega⟩, by simp only; omega⟩
          | false =>
            have hs := tb_small ht (by omega)
            simp only [cond_false, Ask_eq n t j _ hs hwk hn, Option.bind_some]
            by_cases h0 : (askM t j l[k].Wants).2.2 = 0
            · have hb := askM_tb ht j l[k].Wants h0
              have e2 : ((askM t j l[k].Wants).2.2 == 0) = true := by simpa using h0
              simp only [e2, cond_true, law37_play_k3, succ_w (show k < 4194304 by omega)]
              refine ⟨_, rfl, ⟨k + 1, (askM t j l[k].Wants).1, rfl, hb, ⟨askM_VP hg.1 j _ h0, fun q hq => ?_⟩, by omega⟩, by simp only; omega⟩
              rcases askM_mem h0 hq with h | h | h
              · exact hg.2 q (.inl h)
              · exact hg.2 q (.inr h)
              · rw [h]; exact hjr
            · have e2 : ((askM t j l[k].Wants).2.2 == 0) = false := by simpa using h0
              simp only [e2, cond_false, same]
              exact ⟨_, rfl, ⟨k + 1, t, rfl, tb_mono ht (by omega), hg, by omega⟩, by simp only; omega⟩
      · right
        have hd : (if decide ((k : Int) < (l.length : Int)) = true then decide ((k : Int) < 40) else false) = false := by
          rw [ite_ff, Bool.and_eq_false_iff, decide_eq_false_iff_not, decide_eq_false_iff_not]; omega
        exact ⟨.inr (t.Held, t.Waiting), by simp only [law37_play_b2, hd, cond_false], t, tb_mono ht hk, hg, .inr rfl⟩)
    n ([], [], 0) ⟨0, ⟨[], []⟩, rfl, tb_nil, ⟨VP_nil, fun q hq => by simp at hq⟩, by omega⟩ (by simp only; omega)
  obtain ⟨t, ht, hg, rfl | rfl⟩ := h2
  · exact ⟨t, false, by simp only [law37_play, h1, Option.bind_some], ht, hg⟩
  · exact ⟨t, true, by simp only [law37_play, h1, Option.bind_some, law37_play_k1], ht, hg⟩
end Go.Proofs.Ytcdofkflbnpjjaa
