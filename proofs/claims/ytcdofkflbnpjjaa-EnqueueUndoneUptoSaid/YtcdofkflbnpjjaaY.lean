/-
  ch. 37: plain laws. EnqueueSafe and EnqueueUndone.
-/
import Derived.Test.YtcdofkflbnpjjaaX
set_option maxHeartbeats 8000000
set_option linter.unusedVariables false
set_option linter.unusedSimpArgs false
set_option maxRecDepth 100000
namespace Go.Proofs.Ytcdofkflbnpjjaa
open Go.AE

theorem acts_jobs {l : List TAct} (h : CanL Try.prog [.slice 45] [.slice (List.map e_TAct l)]) : ∀ a ∈ l, 0 ≤ a.Job ∧ a.Job < 256 := by
  intro a ha
  have h0 := h.2 0 (by decide)
  have h1 := can_elt ty45 e_TAct (l := l) h0 a ha
  have h2 := h1.2 0 (by simp)
  simp only [e_TAct, cg_zero, List.getD_cons_zero] at h2
  cases h2 with
  | int _ _ hr =>
    have h3 : IntKind.u8.min = 0 := by decide
    have h4 : IntKind.u8.max = 255 := by decide
    simp only [InR, h3, h4] at hr; omega

theorem Holds_eq (n : Nat) (t : TTable) (j : Int) (ht : small t) (hn : N0 ≤ n) : enqueue_Holds n t j = some (vld t && jobs t.Held j) := by
  simp only [enqueue_Holds, Check_eq n t ht hn, index_eq n _ _ ht.1.1 hn, Option.bind_some, Option.isSome_some, implies_true, gd_pos, Option.getD_some, ixI_ge, ite_ff]
  cases vld t <;> simp

theorem gt_set12 {s : List Bool} (h : s.length = 12) {i : Int} (hi : 0 ≤ i ∧ i ≤ 11) {j : Int} (hj : 0 ≤ j ∧ j ≤ 11) : gt (s.set i.toNat true) j.toNat = (i == j || gt s j.toNat) := by
  have h1 : j.toNat < s.length := by omega
  have h2 : j.toNat < (s.set i.toNat true).length := by simp; omega
  rw [gt_lt h2, gt_lt h1, List.getElem_set]
  by_cases e : i = j
  · subst e; simp
  · have e1 : ¬ i.toNat = j.toNat := by omega
    have e2 : (i == j) = false := by simpa using e
    simp [e1, e2]

theorem Safe_true (n : Nat) (hn : N0 ≤ n) (l : List TAct) (hw : ∀ a ∈ l, a.Wants.length ≤ B0) (hj : ∀ a ∈ l, 0 ≤ a.Job ∧ a.Job < 256) : law37_EnqueueSafe n l = some true := by
  have hn' := hn
  unfold N0 at hn'
  obtain ⟨t, ok, hp, ht, hv, hr⟩ := play_eq n hn l hw hj
  simp only [law37_EnqueueSafe, hp, works_true n hn, Option.bind_some, Bool.not_true, cond_false]
  cases ok with
  | false => rfl
  | true =>
    simp only [Bool.not_true, cond_false]
    rw [gd_pos _ (by decide)]
    have hs := tb_small ht (by omega)
    have hlen := ht.1
    have hvl := hv.vld
    have hH : (t.Held.map (·.Job)).Nodup := by have := hv.nd; rw [List.map_append, List.nodup_append] at this; exact this.1
    have hW : (t.Waiting.map (·.Job)).Nodup := by have := hv.nd; rw [List.map_append, List.nodup_append] at this; exact this.2.1
    obtain ⟨s1, hs1, h1⟩ := loop_scanS (σ := List Bool) (body := fun (x : (List Bool) × Int) => law37_EnqueueSafe_b4 n t.Held t.Waiting x.1 x.2) t.Held.length (fun k s => (s, (k : Int)))
      (fun _ => false) (fun s k => s.set (gt t.Held k).Job.toNat true) (fun _ => (.inl false : Bool ⊕ List Bool)) (fun s => .inr s) (fun k s => s.length = 12 ∧ ∀ j, 0 ≤ j ∧ j ≤ 11 → gt s j.toNat = jobs (t.Held.take k) j) (n := n)
      (fun k hk s hi => by
        have hd : decide ((k : Int) < (t.Held.length : Int)) = true := by simp; omega
        have hm : gt t.Held k ∈ t.Held := by rw [gt_lt hk]; exact List.getElem_mem hk
        have hb := lblocked_eq n (gt t.Held k) (t.Held.take k) (fits_gt hs.1 hk) (fits_take hs.1 k) hn
        rw [pw_take hv.pw hk] at hb
        have hh := Holds_eq n t (gt t.Held k).Job hs hn
        have hjm : jobs t.Held (gt t.Held k).Job = true := jobs_mem.2 (List.mem_map_of_mem (f := (·.Job)) hm)
        rw [hvl, hjm] at hh
        have hjr := hr _ (.inl hm)
        have h3 := hi.2 _ hjr
        rw [nd_take hH hk] at h3
        simp only [law37_EnqueueSafe_b4, hd, cond_true, Int.toNat_natCast, hb, Option.bind_some, hh, h3, succ_w (show k < 4194304 by omega)]
        have e1 : decide ((gt t.Held k).Job < 0) = false := by simp; omega
        have e2 : decide ((gt t.Held k).Job > 11) = false := by simp; omega
        have g : 0 ≤ (gt t.Held k).Job ∧ (gt t.Held k).Job < (s.length : Int) := by rw [hi.1]; omega
        have g2 : (gt t.Held k).Job.toNat < s.length := by rw [hi.1]; omega
        rw [gd_pos _ (by omega), gd_pos _ (by omega), gd_pos _ (⟨fun _ => g, fun _ => g2, fun _ => rfl⟩)]
        simp only [e1, e2, Bool.false_eq_true, if_false, Option.getD_some, Bool.and_self, Bool.not_true, cond_false]
        rw [gd_pos _ ⟨g, g2⟩])
      (fun k hk s hi _ => by
        have hm : gt t.Held k ∈ t.Held := by rw [gt_lt hk]; exact List.getElem_mem hk
        refine ⟨by rw [List.length_set]; exact hi.1, fun j hj => ?_⟩
        rw [gt_set12 hi.1 (hr _ (.inl hm)) hj, hi.2 j hj, jobs_succ hk, Bool.or_comm])
      (fun s hi => by simp [law37_EnqueueSafe_b4]) t.Held.length 0 (zreps 12 false) (by omega) (by omega) ⟨zreps_len _ _, fun j hj => by
        have : ∀ i, i < 12 → gt (zreps 12 false) i = false := by decide
        rw [this _ (by omega)]; rfl⟩ (by omega)
    have hno : (List.range' 0 (t.Held.length - 0)).find? (fun _ => false) = none := by simp
    rw [hno] at h1
    have hI1 := hs1 hno
    rw [List.take_length] at hI1
    obtain ⟨s2, hs2, h2⟩ := loop_scanS (σ := List Bool) (body := fun (x : (List Bool) × Int) => law37_EnqueueSafe_b3 n t.Held t.Waiting x.1 x.2) t.Waiting.length (fun k s => (s, (k : Int)))
      (fun _ => false) (fun s k => s.set (gt t.Waiting k).Job.toNat true) (fun _ => (.inl false : Bool ⊕ Unit)) (fun s => .inr ()) (fun k s => s.length = 12 ∧ ∀ j, 0 ≤ j ∧ j ≤ 11 → gt s j.toNat = (jobs t.Held j || jobs (t.Waiting.take k) j)) (n := n)
      (fun k hk s hi => by
        have hd : decide ((k : Int) < (t.Waiting.length : Int)) = true := by simp; omega
        have hm : gt t.Waiting k ∈ t.Waiting := by rw [gt_lt hk]; exact List.getElem_mem hk
        have hb := lblocked_eq n (gt t.Waiting k) (t.Waiting.take k) (fits_gt hs.2 hk) (fits_take hs.2 k) hn
        have hb2 := lblocked_eq n (gt t.Waiting k) t.Held (fits_gt hs.2 hk) hs.1 hn
        have hst := hv.st k hk
        have hh := Holds_eq n t (gt t.Waiting k).Job hs hn
        rw [nd_held hv hm, Bool.and_false] at hh
        have hjr := hr _ (.inr hm)
        have h3 := hi.2 _ hjr
        rw [nd_take hW hk, nd_held hv hm] at h3
        simp only [law37_EnqueueSafe_b3, hd, cond_true, Int.toNat_natCast, hb, hb2, Option.bind_some, hh, h3, succ_w (show k < 4194304 by omega)]
        have e1 : decide ((gt t.Waiting k).Job < 0) = false := by simp; omega
        have e2 : decide ((gt t.Waiting k).Job > 11) = false := by simp; omega
        have g : 0 ≤ (gt t.Waiting k).Job ∧ (gt t.Waiting k).Job < (s.length : Int) := by rw [hi.1]; omega
        have g2 : (gt t.Waiting k).Job.toNat < s.length := by rw [hi.1]; omega
        have e3 : (if (!blk (gt t.Waiting k).Wants t.Held) = true then (!blk (gt t.Waiting k).Wants (t.Waiting.take k)) else false) = false := by
          revert hst
          cases blk (gt t.Waiting k).Wants t.Held <;> cases blk (gt t.Waiting k).Wants (t.Waiting.take k) <;> simp
        rw [gd_pos _ (by omega), gd_pos _ (⟨fun _ => by omega, fun _ => rfl, fun _ => g, fun _ => g2, fun _ => rfl⟩)]
        simp only [e1, e2, e3, Bool.false_eq_true, if_false, Option.getD_some, Bool.or_self, cond_false]
        rw [gd_pos _ ⟨g, g2⟩])
      (fun k hk s hi _ => by
        have hm : gt t.Waiting k ∈ t.Waiting := by rw [gt_lt hk]; exact List.getElem_mem hk
        refine ⟨by rw [List.length_set]; exact hi.1, fun j hj => ?_⟩
        rw [gt_set12 hi.1 (hr _ (.inr hm)) hj, hi.2 j hj, jobs_succ hk]
        cases jobs t.Held j <;> cases jobs (t.Waiting.take k) j <;> simp)
      (fun s hi => by simp [law37_EnqueueSafe_b3]) t.Waiting.length 0 s1 (by omega) (by omega) ⟨hI1.1, fun j hj => by rw [hI1.2 j hj]; simp [jobs]⟩ (by omega)
    have hno2 : (List.range' 0 (t.Waiting.length - 0)).find? (fun _ => false) = none := by simp
    rw [hno2] at h2
    refine (congrArg (fun o => Option.bind o _) h1).trans ?_
    simp only [Option.bind_some, law37_EnqueueSafe_k1]
    refine (congrArg (fun o => Option.bind o _) h2).trans ?_
    have hc1 := Check_eq n t hs hn
    have hc2 := Check_eq n ⟨[], []⟩ (tb_small tb_nil (by omega)) hn
    rw [hvl] at hc1
    rw [VP_nil.vld] at hc2
    simp only [Option.bind_some, law37_EnqueueSafe_k2, hc1, hc2, if_true]
    rfl

theorem p_law37_EnqueueSafe (n : Nat) (hn : N0 ≤ n) (x0 : List TAct) (hc : ∀ i, i < 1 → CanL Try.prog (([(false, [.slice 45])] : List (Bool × List Kd)).getD i (false, [])).2 (([[.slice (List.map e_TAct x0)]] : List (List C)).getD i []))
    (hb : cbss [[.slice (List.map e_TAct x0)]] ≤ 2097152) : law37_EnqueueSafe n x0 = some true :=
  Safe_true n hn x0 (acts_wants hb) (acts_jobs (hc 0 (by decide)))

/-! ## Undone -/
theorem sweep_stuck : ∀ (l H A : List TRequest) (J : List Int), stuck H (A ++ l) → sweep l H A J = (H, A ++ l, J)
  | [], H, A, J, _ => by simp [sweep]
  | q :: l, H, A, J, h => by
    have h1 := h A.length (by simp)
    have e1 : gt (A ++ q :: l) A.length = q := by rw [gt_lt (by simp)]; simp
    rw [e1, List.take_left] at h1
    simp only [sweep]
    rw [if_pos h1, sweep_stuck l H (A ++ [q]) J (by simpa using h)]
    simp

theorem ix_none {l : List TRequest} {j : Int} (h : jobs l j = false) : ix l j = none := by
  have := ixI_ge l j
  rw [h] at this
  cases e : ix l j with
  | none => rfl
  | some k => rw [ixI, e] at this; simp at this
theorem ix_snoc {l : List TRequest} {j : Int} {w : List TWant} (h : jobs l j = false) : ix (l ++ [⟨j, w⟩]) j = some l.length := by
  have h1 : ∀ i, i < l.length → ((gt (l ++ [(⟨j, w⟩ : TRequest)]) i).Job == j) = false := by
    intro i hi
    rw [gt_lt (by simp; omega), List.getElem_append_left hi]
    rw [jobs, List.any_eq_false] at h
    simpa using h _ (List.getElem_mem hi)
  have h2 : ((gt (l ++ [(⟨j, w⟩ : TRequest)]) l.length).Job == j) = true := by rw [gt_lt (by simp)]; simp
  rw [ix, List.length_append, List.length_cons, List.length_nil, List.range_succ, List.find?_append]
  have h3 : (List.range l.length).find? (fun k => (gt (l ++ [(⟨j, w⟩ : TRequest)]) k).Job == j) = none := (range_none _ _).2 h1
  rw [h3]
  simp [h2]
theorem rm_snoc (l : List TRequest) (q : TRequest) : rm (l ++ [q]) l.length = l := by simp [rm]

theorem undo {t : TTable} (h : VP t) {j : Int} {w : List TWant} (hj : jobs t.Held j = false ∧ jobs t.Waiting j = false) (h0 : (askM t j w).2.2 = 0) :
    relM (askM t j w).1 j = (t, [], 0) ∧ jobs (askM t j w).1.Held j = (askM t j w).2.1 := by
  have hv := (askM_VP h j w h0).vld
  unfold askM at h0 hv ⊢
  split at h0
  · cases h0
  · split at h0
    · cases h0
    · split at h0
      · cases h0
      · rename_i a b c
        rw [if_neg a, if_neg b, if_neg c] at hv ⊢
        have hst := sweep_stuck t.Waiting t.Held [] [] (by simpa using h.st)
        split at hv
        · rename_i d
          rw [if_pos d]
          refine ⟨?_, hj.1⟩
          simp only [relM, hv, Bool.true_eq_false, if_false, ix_none hj.1, ix_snoc hj.2, rm_snoc, hst]
          rfl
        · rename_i d
          rw [if_neg d]
          refine ⟨?_, by simp [jobs]⟩
          simp only [relM, hv, Bool.true_eq_false, if_false, ix_snoc hj.1, rm_snoc, hst]
          rfl
end Go.Proofs.Ytcdofkflbnpjjaa
