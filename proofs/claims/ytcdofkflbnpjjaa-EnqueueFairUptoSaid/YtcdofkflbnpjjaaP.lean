/-
  ch. 37: plain laws. No program in sight: what the small functions compute.
-/
import Derived.Test.YtcdofkflbnpjjaaF
import Derived.Test.YtcdofkflbnpjjaaAE21
import Derived.Sort.Walk0
set_option maxHeartbeats 8000000
set_option linter.unusedVariables false
set_option linter.unusedSimpArgs false
set_option maxRecDepth 100000
namespace Go.Proofs.Ytcdofkflbnpjjaa
open Go.AE

def N0 : Nat := 4194304
def B0 : Nat := 2097152

theorem succ_w {k : Nat} (h : k < 4194304) : IntKind.wrap .i64 ((k : Int) + 1) = ((k + 1 : Nat) : Int) := by
  rw [w64_id (by omega) (by omega)]; rfl
theorem bif_ite {α : Type} (b : Bool) (x y : α) : (bif b then x else y) = if b = true then x else y := by cases b <;> rfl
theorem ite_ff (p q : Bool) : (if p = true then q else false) = (p && q) := by cases p <;> simp
theorem ite_tt (p q : Bool) : (if p = true then true else q) = (p || q) := by cases p <;> simp

/-! ## Loops -/
/-- a loop over 0 … L-1 with a state, ended early where P holds -/
theorem loop_scanS {σ X Y : Type} {body : X → Option (X ⊕ Y)} (L : Nat) (x : Nat → σ → X) (P : Nat → Bool) (g : σ → Nat → σ) (yt : Nat → Y) (yf : σ → Y) (I : Nat → σ → Prop) {n : Nat}
    (hb : ∀ k, k < L → ∀ s, I k s → body (x k s) = some (if P k = true then .inr (yt k) else .inl (x (k + 1) (g s k))))
    (hI : ∀ k, k < L → ∀ s, I k s → P k = false → I (k + 1) (g s k))
    (he : ∀ s, I L s → body (x L s) = some (.inr (yf s))) :
    ∀ (j k : Nat) (s : σ), L - k = j → k ≤ L → I k s → j < n → ∃ s', (((List.range' k (L - k)).find? P) = none → I L s') ∧
      loopF body n (x k s) = some (match (List.range' k (L - k)).find? P with | some i => yt i | none => yf s') := by
  intro j
  induction j generalizing n with
  | zero =>
    intro k s hj hk hi hn
    obtain ⟨n, rfl⟩ : ∃ q, n = q + 1 := ⟨n - 1, by omega⟩
    have e : k = L := by omega
    subst e
    refine ⟨s, fun _ => hi, ?_⟩
    rw [loopF_done (he s hi)]; simp
  | succ j ih =>
    intro k s hj hk hi hn
    obtain ⟨n, rfl⟩ : ∃ q, n = q + 1 := ⟨n - 1, by omega⟩
    have hlt : k < L := by omega
    have e : L - k = (L - (k + 1)) + 1 := by omega
    rw [e, List.range'_succ, List.find?_cons]
    have h1 := hb k hlt s hi
    cases hp : P k with
    | true =>
      rw [hp] at h1
      refine ⟨s, by simp, ?_⟩
      rw [loopF_done h1]
    | false =>
      rw [hp] at h1
      rw [loopF_step h1]
      exact ih (k + 1) (g s k) (by omega) (by omega) (hI k hlt s hi hp) (by omega)

theorem loop_scan {Y : Type} {body : Int → Option (Int ⊕ Y)} (L : Nat) (P : Nat → Bool) (yt : Nat → Y) (yf : Y) {n : Nat}
    (hb : ∀ k, k < L → body (k : Int) = some (if P k = true then .inr (yt k) else .inl ((k + 1 : Nat) : Int)))
    (he : body (L : Int) = some (.inr yf)) (hn : L < n) : loopF body n 0 = some (match (List.range L).find? P with | some i => yt i | none => yf) := by
  obtain ⟨s, -, h⟩ := loop_scanS (σ := Unit) (body := body) L (fun k _ => (k : Int)) P (fun _ _ => ()) yt (fun _ => yf) (fun _ _ => True) (n := n)
    (fun k hk s _ => hb k hk) (fun _ _ _ _ _ => trivial) (fun _ _ => he) L 0 () (by omega) (by omega) trivial hn
  rw [List.range_eq_range']
  simpa using h

theorem range_none (L : Nat) (P : Nat → Bool) : ((List.range L).find? P = none) ↔ ∀ k, k < L → P k = false := by
  rw [List.find?_eq_none]; simp

theorem find_any {L : Nat} {P : Nat → Bool} {Y : Type} (yt yf : Y) : (match (List.range L).find? P with | some _ => yt | none => yf) = if (List.range L).any P = true then yt else yf := by
  cases h : (List.range L).find? P with
  | none =>
    have : (List.range L).any P = false := by rw [List.any_eq_false]; rw [List.find?_eq_none] at h; exact h
    rw [this]; rfl
  | some i =>
    have : (List.range L).any P = true := by
      rw [List.any_eq_true]; exact ⟨i, List.mem_of_find?_eq_some h, List.find?_some h⟩
    rw [this]; rfl

theorem loop_acc {α S : Type} [Inhabited α] {Y : Type} {body : S × Int → Option ((S × Int) ⊕ Y)} (l : List α) (g : S → α → S) (yf : S → Y) (s0 : S) (I : Nat → S → Prop) {n : Nat} (h0 : I 0 s0)
    (hb : ∀ k, (hk : k < l.length) → ∀ s, I k s → body (s, (k : Int)) = some (.inl (g s l[k], ((k + 1 : Nat) : Int))))
    (hI : ∀ k, (hk : k < l.length) → ∀ s, I k s → I (k + 1) (g s l[k]))
    (he : ∀ s, I l.length s → body (s, (l.length : Int)) = some (.inr (yf s))) (hn : l.length < n) : loopF body n (s0, 0) = some (yf (l.foldl g s0)) := by
  have h := loop_list (σ := S) (body := body) l (fun k s => (s, (k : Int))) (fun s a => .inl (g s a)) yf I (s := s0) h0 (fun k hk s hi => hb k hk s hi)
    (fun k hk s hi s' e => by cases e; exact hI k hk s hi) he hn
  have e : ∀ (l : List α) (s : S), runL (fun s a => (.inl (g s a) : S ⊕ Y)) yf l s = yf (l.foldl g s) := by
    intro l
    induction l with
    | nil => intro s; rfl
    | cons a l ih => intro s; simp only [runL, List.foldl_cons]; exact ih _
  rw [e] at h
  exact h

/-! ## Conflicts -/
def conf (a b : List TWant) : Bool := a.any fun x => b.any fun y => x.Name == y.Name && (x.Exclusive || y.Exclusive)
def blk (a : List TWant) (l : List TRequest) : Bool := l.any fun q => conf a q.Wants

theorem any_find {α : Type} [Inhabited α] (l : List α) (p : α → Bool) : (decide ((match (List.range l.length).find? (fun k => p (gt l k)) with | some k => (k : Int) | none => -1) ≥ 0)) = l.any p := by
  cases h : (List.range l.length).find? (fun k => p (gt l k)) with
  | none =>
    rw [range_none] at h
    have : l.any p = false := by
      rw [List.any_eq_false]
      intro x hx
      obtain ⟨k, hk, rfl⟩ := List.mem_iff_getElem.1 hx
      have := h k hk
      rw [gt_lt hk] at this
      simp [this]
    rw [this]; simp
  | some i =>
    have h1 := List.mem_of_find?_eq_some h
    have h2 := List.find?_some h
    simp only [List.mem_range] at h1
    have : l.any p = true := by
      rw [List.any_eq_true]
      rw [gt_lt h1] at h2
      exact ⟨_, List.getElem_mem h1, h2⟩
    rw [this]; simp

theorem M80_2 (n : Nat) (l : List TWant) (f : List UInt8) (e : Bool) (hl : l.length ≤ B0) (hn : N0 ≤ n) :
    enqueue_some_f61_M2 n l f e = some (l.any fun y => f == y.Name && (e || y.Exclusive)) := by
  unfold N0 at hn; unfold B0 at hl
  have h := loop_scan (body := fun (x : Int) => slices_IndexFunc_f80_M2_b2 n f e l (l.length : Int) x) l.length (fun k => f == (gt l k).Name && (e || (gt l k).Exclusive)) (fun k => (.inl (k : Int) : Int ⊕ Unit)) (.inr ()) (n := n)
    (fun k hk => by
      have hd : decide ((k : Int) < (l.length : Int)) = true := by simp; omega
      simp only [slices_IndexFunc_f80_M2_b2, hd, cond_true, Int.toNat_natCast, succ_w (show k < 4194304 by omega)]
      rw [gd_pos _ (by omega)]
      simp only [enqueue_Request__blocked_1_1_1_M1]
      rw [gd_pos _ (by cases (f == (gt l k).Name) <;> cases e <;> simp)]
      simp only [Option.bind_some, ite_ff, ite_tt, bif_ite]
      split <;> rfl)
    (by simp [slices_IndexFunc_f80_M2_b2]) (by omega)
  simp only [enqueue_some_f61_M2, slices_IndexFunc_f80_M2, h, Option.bind_some]
  rw [← any_find l (fun y => f == y.Name && (e || y.Exclusive))]
  cases (List.range l.length).find? (fun k => f == (gt l k).Name && (e || (gt l k).Exclusive)) <;> rfl

theorem M80_1 (n : Nat) (l : List TWant) (j : Int) (b : List TWant) (hl : l.length ≤ B0) (hb : b.length ≤ B0) (hn : N0 ≤ n) :
    enqueue_some_f61_M1 n l j b = some (conf l b) := by
  have hn' := hn
  unfold N0 at hn'; unfold B0 at hl
  have h := loop_scan (body := fun (x : Int) => slices_IndexFunc_f80_M1_b2 n j b l (l.length : Int) x) l.length (fun k => b.any fun y => (gt l k).Name == y.Name && ((gt l k).Exclusive || y.Exclusive)) (fun k => (.inl (k : Int) : Int ⊕ Unit)) (.inr ()) (n := n)
    (fun k hk => by
      have hd : decide ((k : Int) < (l.length : Int)) = true := by simp; omega
      simp only [slices_IndexFunc_f80_M1_b2, hd, cond_true, Int.toNat_natCast, succ_w (show k < 4194304 by omega)]
      rw [gd_pos _ (by omega)]
      simp only [enqueue_Request__blocked_1_1_M1, M80_2 n b _ _ hb hn, Option.bind_some, bif_ite]
      split <;> rfl)
    (by simp [slices_IndexFunc_f80_M1_b2]) (by omega)
  simp only [enqueue_some_f61_M1, slices_IndexFunc_f80_M1, h, Option.bind_some]
  rw [conf, ← any_find l (fun x => b.any fun y => x.Name == y.Name && (x.Exclusive || y.Exclusive))]
  cases (List.range l.length).find? (fun k => b.any fun y => (gt l k).Name == y.Name && ((gt l k).Exclusive || y.Exclusive)) <;> rfl

/-- the wants of a list's requests are not too many -/
def fits (l : List TRequest) : Prop := l.length ≤ B0 ∧ ∀ q ∈ l, q.Wants.length ≤ B0
theorem fits_gt {l : List TRequest} (h : fits l) {k : Nat} (hk : k < l.length) : (gt l k).Wants.length ≤ B0 := by
  rw [gt_lt hk]; exact h.2 _ (List.getElem_mem hk)
theorem fits_take {l : List TRequest} (h : fits l) (k : Nat) : fits (l.take k) :=
  ⟨by rw [List.length_take]; have := h.1; omega, fun q hq => h.2 q (List.mem_of_mem_take hq)⟩

theorem blocked_eq (n : Nat) (r : TRequest) (l : List TRequest) (hr : r.Wants.length ≤ B0) (hl : fits l) (hn : N0 ≤ n) :
    enqueue_Request__blocked n r l = some (blk r.Wants l) := by
  have hn' := hn
  have hl' := hl.1
  unfold N0 at hn'; unfold B0 at hl'
  have h := loop_scan (body := fun (x : Int) => slices_IndexFunc_f57_M1_b2 n r.Job r.Wants l (l.length : Int) x) l.length (fun k => conf r.Wants (gt l k).Wants) (fun k => (.inl (k : Int) : Int ⊕ Unit)) (.inr ()) (n := n)
    (fun k hk => by
      have hd : decide ((k : Int) < (l.length : Int)) = true := by simp; omega
      simp only [slices_IndexFunc_f57_M1_b2, hd, cond_true, Int.toNat_natCast, succ_w (show k < 4194304 by omega)]
      rw [gd_pos _ (by omega)]
      simp only [enqueue_Request__blocked_1_M1, M80_1 n r.Wants _ _ hr (fits_gt hl hk) hn, Option.bind_some, bif_ite]
      split <;> rfl)
    (by simp [slices_IndexFunc_f57_M1_b2]) (by omega)
  simp only [enqueue_Request__blocked, enqueue_some_f59_M1, slices_IndexFunc_f57_M1, h, Option.bind_some]
  rw [blk, ← any_find l (fun q => conf r.Wants q.Wants)]
  cases (List.range l.length).find? (fun k => conf r.Wants (gt l k).Wants) <;> rfl

theorem any_range {α : Type} [Inhabited α] (l : List α) (p : α → Bool) : ((List.range l.length).any fun k => p (gt l k)) = l.any p := by
  rw [Bool.eq_iff_iff, List.any_eq_true, List.any_eq_true]
  constructor
  · rintro ⟨k, hk, h⟩
    rw [List.mem_range] at hk
    rw [gt_lt hk] at h
    exact ⟨_, List.getElem_mem hk, h⟩
  · rintro ⟨x, hx, h⟩
    obtain ⟨k, hk, rfl⟩ := List.mem_iff_getElem.1 hx
    exact ⟨k, List.mem_range.2 hk, by rw [gt_lt hk]; exact h⟩

/-- 'conflict' of the reference and of the laws: two loops -/
theorem Conflict_eq (n : Nat) (a b : TRequest) (ha : a.Wants.length ≤ B0) (hb : b.Wants.length ≤ B0) (hn : N0 ≤ n) : ref37_Conflict n a b = some (conf a.Wants b.Wants) := by
  unfold N0 at hn; unfold B0 at ha hb
  have hin : ∀ i, i < a.Wants.length → loopF (fun (x : Int) => ref37_Conflict_b4 n a b (i : Int) x) n 0 = some (if (b.Wants.any fun y => (gt a.Wants i).Name == y.Name && ((gt a.Wants i).Exclusive || y.Exclusive)) = true then .inl true else .inr ()) := by
    intro i hi
    rw [loop_scan (body := fun (x : Int) => ref37_Conflict_b4 n a b (i : Int) x) b.Wants.length (fun k => (gt a.Wants i).Name == (gt b.Wants k).Name && ((gt a.Wants i).Exclusive || (gt b.Wants k).Exclusive)) (fun _ => (.inl true : Bool ⊕ Unit)) (.inr ()) (n := n)
      (fun k hk => by
        have hd : decide ((k : Int) < (b.Wants.length : Int)) = true := by simp; omega
        simp only [ref37_Conflict_b4, hd, cond_true, Int.toNat_natCast, succ_w (show k < 4194304 by omega)]
        rw [gd_pos _ (by refine ⟨by omega, by omega, fun _ => by omega, fun _ => by omega, ?_⟩; intro h; simpa using h)]
        simp only [ite_ff, ite_tt, bif_ite]
        split <;> rfl)
      (by simp [ref37_Conflict_b4]) (by omega)]
    rw [find_any, any_range b.Wants (fun y => (gt a.Wants i).Name == y.Name && ((gt a.Wants i).Exclusive || y.Exclusive))]
  have h := loop_scan (body := fun (x : Int) => ref37_Conflict_b2 n a b x) a.Wants.length (fun i => b.Wants.any fun y => (gt a.Wants i).Name == y.Name && ((gt a.Wants i).Exclusive || y.Exclusive)) (fun _ => (.inl true : Bool ⊕ Unit)) (.inr ()) (n := n)
    (fun k hk => by
      have hd : decide ((k : Int) < (a.Wants.length : Int)) = true := by simp; omega
      simp only [ref37_Conflict_b2, hd, cond_true, hin k hk, Option.bind_some]
      cases (b.Wants.any fun y => (gt a.Wants k).Name == y.Name && ((gt a.Wants k).Exclusive || y.Exclusive))
      · simp only [Bool.false_eq_true, if_false, ref37_Conflict_k3, succ_w (show k < 4194304 by omega)]
      · rfl)
    (by simp [ref37_Conflict_b2]) (by omega)
  rw [find_any, any_range a.Wants (fun x => b.Wants.any fun y => x.Name == y.Name && (x.Exclusive || y.Exclusive))] at h
  simp only [ref37_Conflict, h, Option.bind_some, conf]
  cases (a.Wants.any fun x => b.Wants.any fun y => x.Name == y.Name && (x.Exclusive || y.Exclusive)) <;> rfl

theorem conflict_eq (n : Nat) (a b : TRequest) (ha : a.Wants.length ≤ B0) (hb : b.Wants.length ≤ B0) (hn : N0 ≤ n) : law37_conflict n a b = some (conf a.Wants b.Wants) := by
  unfold N0 at hn; unfold B0 at ha hb
  have hin : ∀ i, i < a.Wants.length → loopF (fun (x : Int) => law37_conflict_b4 n a b (i : Int) x) n 0 = some (if (b.Wants.any fun y => (gt a.Wants i).Name == y.Name && ((gt a.Wants i).Exclusive || y.Exclusive)) = true then .inl true else .inr ()) := by
    intro i hi
    rw [loop_scan (body := fun (x : Int) => law37_conflict_b4 n a b (i : Int) x) b.Wants.length (fun k => (gt a.Wants i).Name == (gt b.Wants k).Name && ((gt a.Wants i).Exclusive || (gt b.Wants k).Exclusive)) (fun _ => (.inl true : Bool ⊕ Unit)) (.inr ()) (n := n)
      (fun k hk => by
        have hd : decide ((k : Int) < (b.Wants.length : Int)) = true := by simp; omega
        simp only [law37_conflict_b4, hd, cond_true, Int.toNat_natCast, succ_w (show k < 4194304 by omega)]
        rw [gd_pos _ (by refine ⟨by omega, by omega, fun _ => by omega, fun _ => by omega, ?_⟩; intro h; simpa using h)]
        simp only [ite_ff, ite_tt, bif_ite]
        split <;> rfl)
      (by simp [law37_conflict_b4]) (by omega)]
    rw [find_any, any_range b.Wants (fun y => (gt a.Wants i).Name == y.Name && ((gt a.Wants i).Exclusive || y.Exclusive))]
  have h := loop_scan (body := fun (x : Int) => law37_conflict_b2 n a b x) a.Wants.length (fun i => b.Wants.any fun y => (gt a.Wants i).Name == y.Name && ((gt a.Wants i).Exclusive || y.Exclusive)) (fun _ => (.inl true : Bool ⊕ Unit)) (.inr ()) (n := n)
    (fun k hk => by
      have hd : decide ((k : Int) < (a.Wants.length : Int)) = true := by simp; omega
      simp only [law37_conflict_b2, hd, cond_true, hin k hk, Option.bind_some]
      cases (b.Wants.any fun y => (gt a.Wants k).Name == y.Name && ((gt a.Wants k).Exclusive || y.Exclusive))
      · simp only [Bool.false_eq_true, if_false, law37_conflict_k3, succ_w (show k < 4194304 by omega)]
      · rfl)
    (by simp [law37_conflict_b2]) (by omega)
  rw [find_any, any_range a.Wants (fun x => b.Wants.any fun y => x.Name == y.Name && (x.Exclusive || y.Exclusive))] at h
  simp only [law37_conflict, h, Option.bind_some, conf]
  cases (a.Wants.any fun x => b.Wants.any fun y => x.Name == y.Name && (x.Exclusive || y.Exclusive)) <;> rfl

theorem free_eq (n : Nat) (r : TRequest) (l : List TRequest) (hr : r.Wants.length ≤ B0) (hl : fits l) (hn : N0 ≤ n) : ref37_free n r l = some (!blk r.Wants l) := by
  have hn' := hn
  have hl' := hl.1
  unfold N0 at hn'; unfold B0 at hl'
  have h := loop_scan (body := fun (x : Int) => ref37_free_b2 n l r x) l.length (fun k => conf r.Wants (gt l k).Wants) (fun _ => (.inl false : Bool ⊕ Unit)) (.inr ()) (n := n)
    (fun k hk => by
      have hd : decide ((k : Int) < (l.length : Int)) = true := by simp; omega
      simp only [ref37_free_b2, hd, cond_true, Int.toNat_natCast, succ_w (show k < 4194304 by omega)]
      rw [gd_pos _ (by omega), Conflict_eq n r _ hr (fits_gt hl hk) hn]
      simp only [Option.bind_some, bif_ite]
      split <;> rfl)
    (by simp [ref37_free_b2]) (by omega)
  rw [find_any, any_range l (fun q => conf r.Wants q.Wants)] at h
  simp only [ref37_free, h, Option.bind_some, blk]
  cases (l.any fun q => conf r.Wants q.Wants) <;> rfl

theorem lblocked_eq (n : Nat) (r : TRequest) (l : List TRequest) (hr : r.Wants.length ≤ B0) (hl : fits l) (hn : N0 ≤ n) : law37_blocked n r l = some (blk r.Wants l) := by
  have hn' := hn
  have hl' := hl.1
  unfold N0 at hn'; unfold B0 at hl'
  have h := loop_scan (body := fun (x : Int) => law37_blocked_b2 n l r x) l.length (fun k => conf r.Wants (gt l k).Wants) (fun _ => (.inl true : Bool ⊕ Unit)) (.inr ()) (n := n)
    (fun k hk => by
      have hd : decide ((k : Int) < (l.length : Int)) = true := by simp; omega
      simp only [law37_blocked_b2, hd, cond_true, Int.toNat_natCast, succ_w (show k < 4194304 by omega)]
      rw [gd_pos _ (by omega), conflict_eq n r _ hr (fits_gt hl hk) hn]
      simp only [Option.bind_some, bif_ite]
      split <;> rfl)
    (by simp [law37_blocked_b2]) (by omega)
  rw [find_any, any_range l (fun q => conf r.Wants q.Wants)] at h
  simp only [law37_blocked, h, Option.bind_some, blk]
  cases (l.any fun q => conf r.Wants q.Wants) <;> rfl

/-! ## The place of a job -/
def ix (l : List TRequest) (j : Int) : Option Nat := (List.range l.length).find? fun k => (gt l k).Job == j
def ixI (l : List TRequest) (j : Int) : Int := match ix l j with | some k => (k : Int) | none => -1

theorem index_eq (n : Nat) (l : List TRequest) (j : Int) (hl : l.length ≤ B0) (hn : N0 ≤ n) : enqueue_index n l j = some (ixI l j) := by
  unfold N0 at hn; unfold B0 at hl
  have h := loop_scan (body := fun (x : Int) => slices_IndexFunc_f57_M2_b2 n j l (l.length : Int) x) l.length (fun k => (gt l k).Job == j) (fun k => (.inl (k : Int) : Int ⊕ Unit)) (.inr ()) (n := n)
    (fun k hk => by
      have hd : decide ((k : Int) < (l.length : Int)) = true := by simp; omega
      simp only [slices_IndexFunc_f57_M2_b2, hd, cond_true, Int.toNat_natCast, succ_w (show k < 4194304 by omega)]
      rw [gd_pos _ (by omega)]
      simp only [enqueue_index_1_M1, Option.bind_some, bif_ite]
      split <;> rfl)
    (by simp [slices_IndexFunc_f57_M2_b2]) (by omega)
  simp only [enqueue_index, slices_IndexFunc_f57_M2, h, Option.bind_some, ixI, ix]
  cases (List.range l.length).find? (fun k => (gt l k).Job == j) <;> rfl

theorem place_eq (n : Nat) (l : List TRequest) (j : Int) (hl : l.length ≤ B0) (hn : N0 ≤ n) : ref37_place n l j = some (ixI l j) := by
  unfold N0 at hn; unfold B0 at hl
  have h := loop_scan (body := fun (x : Int) => ref37_place_b2 n l j x) l.length (fun k => (gt l k).Job == j) (fun k => (.inl (k : Int) : Int ⊕ Unit)) (.inr ()) (n := n)
    (fun k hk => by
      have hd : decide ((k : Int) < (l.length : Int)) = true := by simp; omega
      simp only [ref37_place_b2, hd, cond_true, Int.toNat_natCast, succ_w (show k < 4194304 by omega)]
      rw [gd_pos _ (by omega)]
      simp only [bif_ite]
      split <;> rfl)
    (by simp [ref37_place_b2]) (by omega)
  simp only [ref37_place, h, Option.bind_some, ixI, ix]
  cases (List.range l.length).find? (fun k => (gt l k).Job == j) <;> rfl

def jobs (l : List TRequest) (j : Int) : Bool := l.any fun q => q.Job == j
theorem ixI_ge (l : List TRequest) (j : Int) : decide (ixI l j ≥ 0) = jobs l j := by
  have h := any_find l (fun q => q.Job == j)
  rw [jobs, ← h, ixI, ix]
theorem ixI_lt (l : List TRequest) (j : Int) : decide (ixI l j < 0) = !jobs l j := by
  rw [← ixI_ge]
  by_cases h : ixI l j < 0
  · have : ¬ ixI l j ≥ 0 := by omega
    simp [h, this]
  · have : ixI l j ≥ 0 := by omega
    simp [h, this]

/-! ## Normal form -/
def asc (l : List TWant) : Bool := (List.range (l.length - 1)).all fun k => Op.bytesLess (gt l k).Name (gt l (k + 1)).Name
def nrm (r : TRequest) : Bool := asc r.Wants && decide (r.Wants.length ≤ 512)

theorem any_not_all {L : Nat} (p : Nat → Bool) : (List.range L).any (fun k => !p k) = !(List.range L).all p := by
  simp [List.not_all_eq_any_not]

theorem normal_eq (n : Nat) (r : TRequest) (hl : r.Wants.length ≤ B0) (hn : N0 ≤ n) : enqueue_Request__normal n r = some (nrm r) := by
  unfold N0 at hn; unfold B0 at hl
  have e0 : (1 : Int) = ((0 + 1 : Nat) : Int) := rfl
  by_cases h0 : r.Wants = []
  · have : loopF (fun (x : Int) => enqueue_Request__normal_b2 n r x) n 1 = some (.inr ()) := by
      obtain ⟨n, rfl⟩ : ∃ q, n = q + 1 := ⟨n - 1, by omega⟩
      exact loopF_done (by simp [enqueue_Request__normal_b2, h0])
    simp [enqueue_Request__normal, this, enqueue_Request__normal_k1, nrm, asc, h0]
  have hp : 0 < r.Wants.length := List.length_pos_iff.2 h0
  obtain ⟨s, -, h⟩ := loop_scanS (σ := Unit) (body := fun (x : Int) => enqueue_Request__normal_b2 n r x) (r.Wants.length - 1) (fun k _ => ((k + 1 : Nat) : Int)) (fun k => !Op.bytesLess (gt r.Wants k).Name (gt r.Wants (k + 1)).Name) (fun _ _ => ()) (fun _ => (.inl false : Bool ⊕ Unit)) (fun _ => .inr ()) (fun _ _ => True) (n := n)
    (fun k hk s _ => by
      have hd : decide (((k + 1 : Nat) : Int) < (r.Wants.length : Int)) = true := by simp; omega
      have hw : IntKind.wrap .i64 (((k + 1 : Nat) : Int) - 1) = (k : Int) := by rw [w64_id (by omega) (by omega)]; omega
      simp only [enqueue_Request__normal_b2, hd, cond_true, hw, Int.toNat_natCast, succ_w (show k + 1 < 4194304 by omega)]
      rw [gd_pos _ (by omega)]
      simp only [bif_ite]
      split <;> rfl) (fun _ _ _ _ _ => trivial)
    (fun _ _ => by
      have : ¬ ((r.Wants.length - 1 + 1 : Nat) : Int) < (r.Wants.length : Int) := by omega
      simp only [enqueue_Request__normal_b2, this, decide_false, cond_false]) (r.Wants.length - 1) 0 () (by omega) (by omega) trivial (by omega)
  rw [Nat.sub_zero, ← List.range_eq_range', find_any, any_not_all] at h
  simp only [enqueue_Request__normal, e0, h, Option.bind_some, nrm, asc]
  cases (List.range (r.Wants.length - 1)).all fun k => Op.bytesLess (gt r.Wants k).Name (gt r.Wants (k + 1)).Name
  · simp
  · simp only [enqueue_Request__normal_k1, Bool.not_true, Bool.false_eq_true, if_false, Bool.true_and]
    congr 1
    simp
    omega

theorem rnormal_eq (n : Nat) (r : TRequest) (hl : r.Wants.length ≤ B0) (hn : N0 ≤ n) : ref37_normal n r = some (nrm r) := by
  unfold N0 at hn; unfold B0 at hl
  have e0 : (1 : Int) = ((0 + 1 : Nat) : Int) := rfl
  by_cases h0 : r.Wants = []
  · have : loopF (fun (x : Int) => ref37_normal_b2 n r x) n 1 = some (.inr ()) := by
      obtain ⟨n, rfl⟩ : ∃ q, n = q + 1 := ⟨n - 1, by omega⟩
      exact loopF_done (by simp [ref37_normal_b2, h0])
    simp [ref37_normal, this, ref37_normal_k1, nrm, asc, h0]
  have hp : 0 < r.Wants.length := List.length_pos_iff.2 h0
  obtain ⟨s, -, h⟩ := loop_scanS (σ := Unit) (body := fun (x : Int) => ref37_normal_b2 n r x) (r.Wants.length - 1) (fun k _ => ((k + 1 : Nat) : Int)) (fun k => !Op.bytesLess (gt r.Wants k).Name (gt r.Wants (k + 1)).Name) (fun _ _ => ()) (fun _ => (.inl false : Bool ⊕ Unit)) (fun _ => .inr ()) (fun _ _ => True) (n := n)
    (fun k hk s _ => by
      have hd : decide (((k + 1 : Nat) : Int) < (r.Wants.length : Int)) = true := by simp; omega
      have hw : IntKind.wrap .i64 (((k + 1 : Nat) : Int) - 1) = (k : Int) := by rw [w64_id (by omega) (by omega)]; omega
      simp only [ref37_normal_b2, hd, cond_true, hw, Int.toNat_natCast, succ_w (show k + 1 < 4194304 by omega)]
      rw [gd_pos _ (by omega)]
      simp only [bif_ite]
      split <;> rfl) (fun _ _ _ _ _ => trivial)
    (fun _ _ => by
      have : ¬ ((r.Wants.length - 1 + 1 : Nat) : Int) < (r.Wants.length : Int) := by omega
      simp only [ref37_normal_b2, this, decide_false, cond_false]) (r.Wants.length - 1) 0 () (by omega) (by omega) trivial (by omega)
  rw [Nat.sub_zero, ← List.range_eq_range', find_any, any_not_all] at h
  simp only [ref37_normal, e0, h, Option.bind_some, nrm, asc]
  cases (List.range (r.Wants.length - 1)).all fun k => Op.bytesLess (gt r.Wants k).Name (gt r.Wants (k + 1)).Name
  · simp
  · simp only [ref37_normal_k1, Bool.not_true, Bool.false_eq_true, if_false, Bool.true_and]
    congr 1
    simp
    omega

end Go.Proofs.Ytcdofkflbnpjjaa
