/-
  ch. 37: plain laws. The check of a table, copies, and comparisons.
-/
import Derived.Test.YtcdofkflbnpjjaaP
set_option maxHeartbeats 8000000
set_option linter.unusedVariables false
set_option linter.unusedSimpArgs false
set_option maxRecDepth 100000
namespace Go.Proofs.Ytcdofkflbnpjjaa
open Go.AE

def small (t : TTable) : Prop := fits t.Held ∧ fits t.Waiting

theorem jobs_nil (j : Int) : jobs [] j = false := rfl
theorem jobs_app (a b : List TRequest) (j : Int) : jobs (a ++ b) j = (jobs a j || jobs b j) := by simp [jobs]
theorem take_succ_gt {l : List TRequest} {k : Nat} (h : k < l.length) : l.take (k + 1) = l.take k ++ [gt l k] := by
  rw [gt_lt h, List.take_succ_eq_append_getElem h]
theorem jobs_succ {l : List TRequest} {k : Nat} (h : k < l.length) (j : Int) : jobs (l.take (k + 1)) j = (jobs (l.take k) j || (gt l k).Job == j) := by
  rw [take_succ_gt h, jobs_app]; simp [jobs]

def bad1 (l : List TRequest) (k : Nat) : Bool := jobs (l.take k) (gt l k).Job || !nrm (gt l k) || blk (gt l k).Wants (l.take k)
def bad2 (h l : List TRequest) (k : Nat) : Bool := (jobs h (gt l k).Job || jobs (l.take k) (gt l k).Job) || !nrm (gt l k) || (!blk (gt l k).Wants h && !blk (gt l k).Wants (l.take k))
def vld (t : TTable) : Bool := !(List.range t.Held.length).any (bad1 t.Held) && !(List.range t.Waiting.length).any (bad2 t.Held t.Waiting)

theorem seen_step (s : List (Int × Bool)) (j k : Int) : (tget j (tset k true s)).getD default = (k == j || (tget j s).getD default) := by
  rw [tget_tset]
  by_cases h : j = k
  · subst h; simp
  · have h1 : (j == k) = false := by simpa using h
    have h2 : (k == j) = false := by simpa using fun e => h e.symm
    simp [h1, h2]

theorem Check_eq (n : Nat) (t : TTable) (ht : small t) (hn : N0 ≤ n) : enqueue_Check n t = some (if vld t = true then 0 else 5) := by
  have hn' := hn
  obtain ⟨hH, hW⟩ := ht
  have hH' := hH.1; have hW' := hW.1
  unfold N0 at hn'; unfold B0 at hH' hW'
  obtain ⟨s1, hs1, h1⟩ := loop_scanS (σ := List (Int × Bool)) (body := fun (x : (List (Int × Bool)) × Int) => enqueue_Check_b4 n t (t.Held.length : Int) x.1 x.2) t.Held.length (fun k s => (s, (k : Int)))
    (bad1 t.Held) (fun s k => tset (gt t.Held k).Job true s) (fun _ => (.inl 5 : Int ⊕ List (Int × Bool))) (fun s => .inr s) (fun k s => ∀ j, (tget j s).getD default = jobs (t.Held.take k) j) (n := n)
    (fun k hk s hi => by
      have hd : decide ((k : Int) < (t.Held.length : Int)) = true := by simp; omega
      have e1 := hi (gt t.Held k).Job
      simp only [enqueue_Check_b4, hd, cond_true, Int.toNat_natCast, succ_w (show k < 4194304 by omega), e1, normal_eq n _ (fits_gt hH hk) hn, blocked_eq n _ _ (fits_gt hH hk) (fits_take hH k) hn]
      rw [gd_pos _ (by omega), gd_pos _ (by refine ⟨fun _ => rfl, fun _ => by omega, fun _ => rfl⟩)]
      simp only [Option.getD_some, ite_tt, ite_ff, bif_ite]
      show (if bad1 t.Held k = true then _ else _) = _
      split <;> rename_i hc <;> first | rfl | rw [if_pos hc] | rw [if_neg hc])
    (fun k hk s hi _ j => by rw [seen_step, hi j, jobs_succ hk, Bool.or_comm])
    (fun s hi => by simp [enqueue_Check_b4]) t.Held.length 0 [] (by omega) (by omega) (fun j => by simp [tget, jobs]) (by omega)
  rw [Nat.sub_zero, ← List.range_eq_range'] at h1 hs1
  simp only [enqueue_Check]
  rw [show (([] : List (Int × Bool)), (0 : Int)) = ([], ((0 : Nat) : Int)) from rfl, h1, Option.bind_some]
  cases hf : (List.range t.Held.length).find? (bad1 t.Held) with
  | some i =>
    have : (List.range t.Held.length).any (bad1 t.Held) = true := List.any_eq_true.2 ⟨i, List.mem_of_find?_eq_some hf, List.find?_some hf⟩
    simp [vld, this]
  | none =>
    have ha : (List.range t.Held.length).any (bad1 t.Held) = false := by rw [List.any_eq_false]; rw [List.find?_eq_none] at hf; exact hf
    have hI := hs1 hf
    rw [List.take_length] at hI
    obtain ⟨s2, hs2, h2⟩ := loop_scanS (σ := List (Int × Bool)) (body := fun (x : (List (Int × Bool)) × Int) => enqueue_Check_b3 n t (t.Waiting.length : Int) x.1 x.2) t.Waiting.length (fun k s => (s, (k : Int)))
      (bad2 t.Held t.Waiting) (fun s k => tset (gt t.Waiting k).Job true s) (fun _ => (.inl 5 : Int ⊕ Unit)) (fun s => .inr ()) (fun k s => ∀ j, (tget j s).getD default = (jobs t.Held j || jobs (t.Waiting.take k) j)) (n := n)
      (fun k hk s hi => by
        have hd : decide ((k : Int) < (t.Waiting.length : Int)) = true := by simp; omega
        have e1 := hi (gt t.Waiting k).Job
        simp only [enqueue_Check_b3, hd, cond_true, Int.toNat_natCast, succ_w (show k < 4194304 by omega), e1, normal_eq n _ (fits_gt hW hk) hn, blocked_eq n _ _ (fits_gt hW hk) (fits_take hW k) hn, blocked_eq n _ _ (fits_gt hW hk) hH hn]
        rw [gd_pos _ (by omega), gd_pos _ (by refine ⟨fun _ => rfl, fun _ => rfl, fun _ => by omega, fun _ => rfl⟩)]
        simp only [Option.getD_some, ite_tt, ite_ff, bif_ite]
        show (if bad2 t.Held t.Waiting k = true then _ else _) = _
        split <;> rename_i hc <;> first | rfl | rw [if_pos hc] | rw [if_neg hc])
      (fun k hk s hi _ j => by rw [seen_step, hi j, jobs_succ hk]; cases jobs t.Held j <;> cases jobs (t.Waiting.take k) j <;> simp)
      (fun s hi => by simp [enqueue_Check_b3]) t.Waiting.length 0 s1 (by omega) (by omega) (fun j => by rw [hI j]; simp [jobs]) (by omega)
    rw [Nat.sub_zero, ← List.range_eq_range'] at h2
    simp only [enqueue_Check_k1]
    rw [show (s1, (0 : Int)) = (s1, ((0 : Nat) : Int)) from rfl, h2, find_any]
    simp only [vld, ha, Option.bind_some]
    cases (List.range t.Waiting.length).any (bad2 t.Held t.Waiting) <;> rfl

theorem Valid_eq (n : Nat) (t : TTable) (ht : small t) (hn : N0 ≤ n) : ref37_Valid n t = some (vld t) := by
  have hn' := hn
  obtain ⟨hH, hW⟩ := ht
  have hH' := hH.1; have hW' := hW.1
  have htk : ∀ {l : List TRequest} (k : Nat), l.length ≤ B0 → (l.take k).length ≤ B0 := fun k h => by rw [List.length_take]; omega
  have htH := fun k => htk (l := t.Held) k hH.1
  have htW := fun k => htk (l := t.Waiting) k hW.1
  unfold N0 at hn'; unfold B0 at hH' hW'
  have h1 := loop_scan (body := fun (x : Int) => ref37_Valid_b4 n t x) t.Held.length (bad1 t.Held) (fun _ => (.inl false : Bool ⊕ Unit)) (.inr ()) (n := n)
    (fun k hk => by
      have hd : decide ((k : Int) < (t.Held.length : Int)) = true := by simp; omega
      simp only [ref37_Valid_b4, hd, cond_true, Int.toNat_natCast, succ_w (show k < 4194304 by omega), rnormal_eq n _ (fits_gt hH hk) hn, free_eq n _ _ (fits_gt hH hk) (fits_take hH k) hn, place_eq n _ _ (htH k) hn, Option.bind_some]
      rw [gd_pos _ (by omega), gd_pos _ (by refine ⟨fun _ => by omega, fun _ => by omega, fun _ => rfl, fun _ => by omega, fun _ => by omega, fun _ => rfl⟩)]
      simp only [Option.getD_some, ixI_ge, ite_tt, ite_ff, bif_ite, Bool.not_not]
      rw [Bool.or_comm (!nrm (gt t.Held k))]
      show (if bad1 t.Held k = true then _ else _) = _
      split <;> rename_i hc <;> first | rfl | rw [if_pos hc] | rw [if_neg hc])
    (by simp [ref37_Valid_b4]) (by omega)
  have h2 := loop_scan (body := fun (x : Int) => ref37_Valid_b3 n t x) t.Waiting.length (bad2 t.Held t.Waiting) (fun _ => (.inl false : Bool ⊕ Unit)) (.inr ()) (n := n)
    (fun k hk => by
      have hd : decide ((k : Int) < (t.Waiting.length : Int)) = true := by simp; omega
      simp only [ref37_Valid_b3, hd, cond_true, Int.toNat_natCast, succ_w (show k < 4194304 by omega), rnormal_eq n _ (fits_gt hW hk) hn, free_eq n _ _ (fits_gt hW hk) (fits_take hW k) hn, free_eq n _ _ (fits_gt hW hk) hH hn, place_eq n _ _ (htW k) hn, place_eq n _ _ hH.1 hn, Option.bind_some]
      rw [gd_pos _ (by omega), gd_pos _ (by refine ⟨fun _ => rfl, fun _ => by omega, fun _ => rfl, fun _ => rfl, fun _ => by omega, fun _ => rfl⟩)]
      simp only [Option.getD_some, ixI_ge, ite_tt, ite_ff, bif_ite, Bool.not_not]
      rw [show (((!nrm (gt t.Waiting k) || jobs t.Held (gt t.Waiting k).Job) || jobs (t.Waiting.take k) (gt t.Waiting k).Job) || (!blk (gt t.Waiting k).Wants t.Held && !blk (gt t.Waiting k).Wants (t.Waiting.take k))) = bad2 t.Held t.Waiting k from by
        unfold bad2
        cases nrm (gt t.Waiting k) <;> cases jobs t.Held (gt t.Waiting k).Job <;> cases jobs (t.Waiting.take k) (gt t.Waiting k).Job <;> rfl]
      split <;> rename_i hc <;> first | rfl | rw [if_pos hc] | rw [if_neg hc])
    (by simp [ref37_Valid_b3]) (by omega)
  rw [find_any] at h1 h2
  simp only [ref37_Valid, ref37_Valid_k1, h1, h2, Option.bind_some, vld]
  cases (List.range t.Held.length).any (bad1 t.Held) <;> cases (List.range t.Waiting.length).any (bad2 t.Held t.Waiting) <;> rfl

/-! ## Copies -/
theorem Clone_eq (n : Nat) (l : List TWant) (h : l.length ≤ B0) : slices_Clone_f79 n l = some l := by
  unfold B0 at h
  refine uniB_eq fun b hb => ?_
  cases b with
  | true => simp [hb rfl]
  | false => simp only [cond_false]; rw [gd_pos _ (by omega)]

theorem foldl_snoc {α β : Type} (f : α → β) : ∀ (l : List α) (s : List β), l.foldl (fun s a => s ++ [f a]) s = s ++ l.map f
  | [], s => by simp
  | a :: l, s => by rw [List.foldl_cons, foldl_snoc f l]; simp

theorem copied_eq (n : Nat) (l : List TRequest) (h : fits l) (hn : N0 ≤ n) : enqueue_copied n l = some l := by
  have h' := h.1
  unfold N0 at hn; unfold B0 at h'
  have e := loop_acc (body := fun (x : (List TRequest) × Int) => enqueue_copied_b2 n l (l.length : Int) x.1 x.2) l (fun s a => s ++ [a]) (fun s => s) [] (fun k s => s.length = k) (n := n) rfl
    (fun k hk s hi => by
      have hd : decide ((k : Int) < (l.length : Int)) = true := by simp; omega
      simp only [enqueue_copied_b2, hd, cond_true, Int.toNat_natCast, succ_w (show k < 4194304 by omega), Clone_eq n _ (fits_gt h hk), Option.bind_some]
      rw [gd_pos _ (by omega), gd_pos _ (by omega), ← gt_lt hk])
    (fun k hk s hi => by simp [hi]) (fun s _ => by simp [enqueue_copied_b2]) (by omega)
  have e2 := foldl_snoc (fun a : TRequest => a) l []
  simp only [enqueue_copied, e, Option.bind_some, enqueue_copied_k1, e2]
  simp

theorem tcopied_eq (n : Nat) (t : TTable) (ht : small t) (hn : N0 ≤ n) : enqueue_Table__copied n t = some t := by
  simp only [enqueue_Table__copied, copied_eq n _ ht.1 hn, copied_eq n _ ht.2 hn, Option.bind_some]

theorem wants_eq (n : Nat) (l : List TWant) (h : l.length ≤ B0) (hn : N0 ≤ n) : law37_wants n l = some l := by
  unfold N0 at hn; unfold B0 at h
  have e := loop_acc (body := fun (x : (List TWant) × Int) => law37_wants_b2 n l x.1 x.2) l (fun s a => s ++ [a]) (fun s => s) [] (fun k s => s.length = k) (n := n) rfl
    (fun k hk s hi => by
      have hd : decide ((k : Int) < (l.length : Int)) = true := by simp; omega
      simp only [law37_wants_b2, hd, cond_true, Int.toNat_natCast, succ_w (show k < 4194304 by omega)]
      rw [gd_pos _ (by omega), ← gt_lt hk])
    (fun k hk s hi => by simp [hi]) (fun s _ => by simp [law37_wants_b2]) (by omega)
  have e2 := foldl_snoc (fun a : TWant => a) l []
  simp only [law37_wants, e, Option.bind_some, law37_wants_k1, e2]
  simp

theorem requests_eq (n : Nat) (l : List TRequest) (h : fits l) (hn : N0 ≤ n) : law37_requests n l = some l := by
  have h' := h.1
  have hn' := hn
  unfold N0 at hn'; unfold B0 at h'
  have e := loop_acc (body := fun (x : (List TRequest) × Int) => law37_requests_b2 n l x.1 x.2) l (fun s a => s ++ [a]) (fun s => s) [] (fun k s => s.length = k) (n := n) rfl
    (fun k hk s hi => by
      have hd : decide ((k : Int) < (l.length : Int)) = true := by simp; omega
      simp only [law37_requests_b2, hd, cond_true, Int.toNat_natCast, succ_w (show k < 4194304 by omega), wants_eq n _ (fits_gt h hk) hn, Option.bind_some]
      rw [gd_pos _ (by omega), gd_pos _ (by omega), ← gt_lt hk])
    (fun k hk s hi => by simp [hi]) (fun s _ => by simp [law37_requests_b2]) (by omega)
  have e2 := foldl_snoc (fun a : TRequest => a) l []
  simp only [law37_requests, e, Option.bind_some, law37_requests_k1, e2]
  simp

theorem table_eq (n : Nat) (t : TTable) (ht : small t) (hn : N0 ≤ n) : law37_table n t = some t := by
  simp only [law37_table, requests_eq n _ ht.1 hn, requests_eq n _ ht.2 hn, Option.bind_some]

/-! ## Comparisons of a thing with itself -/
theorem ints_self (n : Nat) (a : List Int) (h : a.length ≤ B0) (hn : N0 ≤ n) : law37_ints n a a = some true := by
  unfold N0 at hn; unfold B0 at h
  have e := loop_scan (body := fun (x : Int) => law37_ints_b2 n a a x) a.length (fun _ => false) (fun _ => (.inl false : Bool ⊕ Unit)) (.inr ()) (n := n)
    (fun k hk => by
      have hd : decide ((k : Int) < (a.length : Int)) = true := by simp; omega
      simp only [law37_ints_b2, hd, cond_true, Int.toNat_natCast, succ_w (show k < 4194304 by omega)]
      rw [gd_pos _ (by omega)]; simp)
    (by simp [law37_ints_b2]) (by omega)
  rw [find_any] at e
  simp [law37_ints, e, law37_ints_k1]

theorem sameWants_self (n : Nat) (a : List TWant) (h : a.length ≤ B0) (hn : N0 ≤ n) : law37_sameWants n a a = some true := by
  unfold N0 at hn; unfold B0 at h
  have e := loop_scan (body := fun (x : Int) => law37_sameWants_b2 n a a x) a.length (fun _ => false) (fun _ => (.inl false : Bool ⊕ Unit)) (.inr ()) (n := n)
    (fun k hk => by
      have hd : decide ((k : Int) < (a.length : Int)) = true := by simp; omega
      simp only [law37_sameWants_b2, hd, cond_true, Int.toNat_natCast, succ_w (show k < 4194304 by omega)]
      rw [gd_pos _ (by refine ⟨by omega, by omega, fun _ => by omega, fun _ => by omega⟩)]; simp)
    (by simp [law37_sameWants_b2]) (by omega)
  rw [find_any] at e
  simp [law37_sameWants, e, law37_sameWants_k1]

theorem sameRequests_self (n : Nat) (a : List TRequest) (h : fits a) (hn : N0 ≤ n) : law37_sameRequests n a a = some true := by
  have hn' := hn
  have h' := h.1
  unfold N0 at hn'; unfold B0 at h'
  have e := loop_scan (body := fun (x : Int) => law37_sameRequests_b2 n a a x) a.length (fun _ => false) (fun _ => (.inl false : Bool ⊕ Unit)) (.inr ()) (n := n)
    (fun k hk => by
      have hd : decide ((k : Int) < (a.length : Int)) = true := by simp; omega
      simp only [law37_sameRequests_b2, hd, cond_true, Int.toNat_natCast, succ_w (show k < 4194304 by omega), sameWants_self n _ (fits_gt h hk) hn]
      rw [gd_pos _ (by refine ⟨by omega, by omega, fun _ => by omega, fun _ => by omega, fun _ => rfl⟩)]; simp)
    (by simp [law37_sameRequests_b2]) (by omega)
  rw [find_any] at e
  simp [law37_sameRequests, e, law37_sameRequests_k1]

theorem same_self (n : Nat) (t : TTable) (ht : small t) (hn : N0 ≤ n) : law37_same n t t = some true := by
  simp only [law37_same, sameRequests_self n _ ht.1 hn, sameRequests_self n _ ht.2 hn, Option.bind_some]
  simp [gd]

/-! ## few -/
def few (l : List TWant) : Bool := !(l.any fun w => decide ((w.Name.length : Int) > 60)) && decide (l.length ≤ 40)
theorem few_eq (n : Nat) (l : List TWant) (h : l.length ≤ B0) (hn : N0 ≤ n) : law37_few n l = some (few l) := by
  unfold N0 at hn; unfold B0 at h
  have e := loop_scan (body := fun (x : Int) => law37_few_b2 n l x) l.length (fun k => decide (((gt l k).Name.length : Int) > 60)) (fun _ => (.inl false : Bool ⊕ Unit)) (.inr ()) (n := n)
    (fun k hk => by
      have hd : decide ((k : Int) < (l.length : Int)) = true := by simp; omega
      simp only [law37_few_b2, hd, cond_true, Int.toNat_natCast, succ_w (show k < 4194304 by omega), bif_ite]
      rw [gd_pos _ (by omega)]
      cases decide (((gt l k).Name.length : Int) > 60) <;> rfl)
    (by simp [law37_few_b2]) (by omega)
  rw [find_any, any_range l (fun w => decide ((w.Name.length : Int) > 60))] at e
  simp only [law37_few, e, Option.bind_some, few]
  cases l.any fun w => decide ((w.Name.length : Int) > 60)
  · simp only [law37_few_k1, Bool.false_eq_true, if_false, Bool.not_false, Bool.true_and]
    congr 1; simp; omega
  · rfl
theorem few_len {l : List TWant} (h : few l = true) : l.length ≤ 40 := by
  simp only [few, Bool.and_eq_true, decide_eq_true_eq] at h
  exact h.2
end Go.Proofs.Ytcdofkflbnpjjaa
