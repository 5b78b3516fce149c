/- Text. -/
import Derived.Test.YtcdofkflbnpjjaaF
import Derived.Test.YtcdofkflbnpjjaaAE21
import Derived.Sort.Walk0
import Derived.Test.YtcdofkflbnpjjaaT
set_option linter.unusedSimpArgs false
set_option linter.unusedVariables false
set_option maxHeartbeats 8000000
set_option linter.unusedVariables false
set_option linter.unusedSimpArgs false
set_option maxRecDepth 100000
namespace Go.Proofs.Ytcdofkflbnpjjaa
open Go.AE
def N0 : Nat := 4194304
def B0 : Nat := 2097152
theorem succ_w {k : Nat} (h : k < 4194304) : IntKind.wrap .i64 ((k : Int) + 1) = ((k + 1 : Nat) : Int) := by
  rw [w64_id (by omega) (by omega)]; rfl
theorem bif_ite {α : Type} (b : Bool) (x y : α) : (bif b then x else y) = if b = true then x else y := by cases b <;> rfl
theorem ite_ff (p q : Bool) : (if p = true then q else false) = (p && q) := by cases p <;> simp
theorem ite_tt (p q : Bool) : (if p = true then true else q) = (p || q) := by cases p <;> simp
theorem loop_scanS {σ X Y : Type} {body : X → Option (X ⊕ Y)} (L : Nat) (x : Nat → σ → X) (P : Nat → Bool) (g : σ → Nat → σ) (yt : Nat → Y) (yf : σ → Y) (I : Nat → σ → Prop) {n : Nat}
    (hb : ∀ k, k < L → ∀ s, I k s → body (x k s) = some (if P k = true then .inr (yt k) else .inl (x (k + 1) (g s k))))
    (hI : ∀ k, k < L → ∀ s, I k s → P k = false → I (k + 1) (g s k))
    (he : ∀ s, I L s → body (x L s) = some (.inr (yf s))) :
    ∀ (j k : Nat) (s : σ), L - k = j → k ≤ L → I k s → j < n → ∃ s', (((List.range' k (L - k)).find? P) = none → I L s') ∧
      loopF body n (x k s) = some (match (List.range' k (L - k)).find? P with | some i => yt i | none => yf s') := by
  intro j
  induction j generalizing n with
  | zero =>
    intro k s hj hk hi hn
    obtain ⟨n, rfl⟩ : ∃ q, n = q + 1 := ⟨n - 1, by omega⟩
    have e : k = L := by omega
    subst e
    refine ⟨s, fun _ => hi, ?_⟩
    rw [loopF_done (he s hi)]; simp
  | succ j ih =>
    intro k s hj hk hi hn
    obtain ⟨n, rfl⟩ : ∃ q, n = q + 1 := ⟨n - 1, by omega⟩
    have hlt : k < L := by omega
    have e : L - k = (L - (k + 1)) + 1 := by omega
    rw [e, List.range'_succ, List.find?_cons]
    have h1 := hb k hlt s hi
    cases hp : P k with
    | true =>
      rw [hp] at h1
      refine ⟨s, by simp, ?_⟩
      rw [loopF_done h1]
    | false =>
      rw [hp] at h1
      rw [loopF_step h1]
      exact ih (k + 1) (g s k) (by omega) (by omega) (hI k hlt s hi hp) (by omega)
theorem loop_scan {Y : Type} {body : Int → Option (Int ⊕ Y)} (L : Nat) (P : Nat → Bool) (yt : Nat → Y) (yf : Y) {n : Nat}
    (hb : ∀ k, k < L → body (k : Int) = some (if P k = true then .inr (yt k) else .inl ((k + 1 : Nat) : Int)))
    (he : body (L : Int) = some (.inr yf)) (hn : L < n) : loopF body n 0 = some (match (List.range L).find? P with | some i => yt i | none => yf) := by
  obtain ⟨s, -, h⟩ := loop_scanS (σ := Unit) (body := body) L (fun k _ => (k : Int)) P (fun _ _ => ()) yt (fun _ => yf) (fun _ _ => True) (n := n)
    (fun k hk s _ => hb k hk) (fun _ _ _ _ _ => trivial) (fun _ _ => he) L 0 () (by omega) (by omega) trivial hn
  rw [List.range_eq_range']
  simpa using h
theorem range_none (L : Nat) (P : Nat → Bool) : ((List.range L).find? P = none) ↔ ∀ k, k < L → P k = false := by
  rw [List.find?_eq_none]; simp
theorem find_any {L : Nat} {P : Nat → Bool} {Y : Type} (yt yf : Y) : (match (List.range L).find? P with | some _ => yt | none => yf) = if (List.range L).any P = true then yt else yf := by
  cases h : (List.range L).find? P with
  | none =>
    have : (List.range L).any P = false := by rw [List.any_eq_false]; rw [List.find?_eq_none] at h; exact h
    rw [this]; rfl
  | some i =>
    have : (List.range L).any P = true := by
      rw [List.any_eq_true]; exact ⟨i, List.mem_of_find?_eq_some h, List.find?_some h⟩
    rw [this]; rfl
theorem loop_acc {α S : Type} [Inhabited α] {Y : Type} {body : S × Int → Option ((S × Int) ⊕ Y)} (l : List α) (g : S → α → S) (yf : S → Y) (s0 : S) (I : Nat → S → Prop) {n : Nat} (h0 : I 0 s0)
    (hb : ∀ k, (hk : k < l.length) → ∀ s, I k s → body (s, (k : Int)) = some (.inl (g s l[k], ((k + 1 : Nat) : Int))))
    (hI : ∀ k, (hk : k < l.length) → ∀ s, I k s → I (k + 1) (g s l[k]))
    (he : ∀ s, I l.length s → body (s, (l.length : Int)) = some (.inr (yf s))) (hn : l.length < n) : loopF body n (s0, 0) = some (yf (l.foldl g s0)) := by
  have h := loop_list (σ := S) (body := body) l (fun k s => (s, (k : Int))) (fun s a => .inl (g s a)) yf I (s := s0) h0 (fun k hk s hi => hb k hk s hi)
    (fun k hk s hi s' e => by cases e; exact hI k hk s hi) he hn
  have e : ∀ (l : List α) (s : S), runL (fun s a => (.inl (g s a) : S ⊕ Y)) yf l s = yf (l.foldl g s) := by
    intro l
    induction l with
    | nil => intro s; rfl
    | cons a l ih => intro s; simp only [runL, List.foldl_cons]; exact ih _
  rw [e] at h
  exact h
def conf (a b : List TWant) : Bool := a.any fun x => b.any fun y => x.Name == y.Name && (x.Exclusive || y.Exclusive)
def blk (a : List TWant) (l : List TRequest) : Bool := l.any fun q => conf a q.Wants
theorem any_find {α : Type} [Inhabited α] (l : List α) (p : α → Bool) : (decide ((match (List.range l.length).find? (fun k => p (gt l k)) with | some k => (k : Int) | none => -1) ≥ 0)) = l.any p := by
  cases h : (List.range l.length).find? (fun k => p (gt l k)) with
  | none =>
    rw [range_none] at h
    have : l.any p = false := by
      rw [List.any_eq_false]
      intro x hx
      obtain ⟨k, hk, rfl⟩ := List.mem_iff_getElem.1 hx
      have := h k hk
      rw [gt_lt hk] at this
      simp [this]
    rw [this]; simp
  | some i =>
    have h1 := List.mem_of_find?_eq_some h
    have h2 := List.find?_some h
    simp only [List.mem_range] at h1
    have : l.any p = true := by
      rw [List.any_eq_true]
      rw [gt_lt h1] at h2
      exact ⟨_, List.getElem_mem h1, h2⟩
    rw [this]; simp
theorem M80_2 (n : Nat) (l : List TWant) (f : List UInt8) (e : Bool) (hl : l.length ≤ B0) (hn : N0 ≤ n) :
    enqueue_some_f61_M2 n l f e = some (l.any fun y => f == y.Name && (e || y.Exclusive)) := by
  unfold N0 at hn; unfold B0 at hl
  have h := loop_scan (body := fun (x : Int) => slices_IndexFunc_f80_M2_b2 n f e l (l.length : Int) x) l.length (fun k => f == (gt l k).Name && (e || (gt l k).Exclusive)) (fun k => (.inl (k : Int) : Int ⊕ Unit)) (.inr ()) (n := n)
    (fun k hk => by
      have hd : decide ((k : Int) < (l.length : Int)) = true := by simp; omega
      simp only [slices_IndexFunc_f80_M2_b2, hd, cond_true, Int.toNat_natCast, succ_w (show k < 4194304 by omega)]
      rw [gd_pos _ (by omega)]
      simp only [enqueue_Request__blocked_1_1_1_M1]
      rw [gd_pos _ (by cases (f == (gt l k).Name) <;> cases e <;> simp)]
      simp only [Option.bind_some, ite_ff, ite_tt, bif_ite]
      split <;> rfl)
    (by simp [slices_IndexFunc_f80_M2_b2]) (by omega)
  simp only [enqueue_some_f61_M2, slices_IndexFunc_f80_M2, h, Option.bind_some]
  rw [← any_find l (fun y => f == y.Name && (e || y.Exclusive))]
  cases (List.range l.length).find? (fun k => f == (gt l k).Name && (e || (gt l k).Exclusive)) <;> rfl
theorem M80_1 (n : Nat) (l : List TWant) (j : Int) (b : List TWant) (hl : l.length ≤ B0) (hb : b.length ≤ B0) (hn : N0 ≤ n) :
    enqueue_some_f61_M1 n l j b = some (conf l b) := by
  have hn' := hn
  unfold N0 at hn'; unfold B0 at hl
  have h := loop_scan (body := fun (x : Int) => slices_IndexFunc_f80_M1_b2 n j b l (l.length : Int) x) l.length (fun k => b.any fun y => (gt l k).Name == y.Name && ((gt l k).Exclusive || y.Exclusive)) (fun k => (.inl (k : Int) : Int ⊕ Unit)) (.inr ()) (n := n)
    (fun k hk => by
      have hd : decide ((k : Int) < (l.length : Int)) = true := by simp; omega
      simp only [slices_IndexFunc_f80_M1_b2, hd, cond_true, Int.toNat_natCast, succ_w (show k < 4194304 by omega)]
      rw [gd_pos _ (by omega)]
      simp only [enqueue_Request__blocked_1_1_M1, M80_2 n b _ _ hb hn, Option.bind_some, bif_ite]
      split <;> rfl)
    (by simp [slices_IndexFunc_f80_M1_b2]) (by omega)
  simp only [enqueue_some_f61_M1, slices_IndexFunc_f80_M1, h, Option.bind_some]
  rw [conf, ← any_find l (fun x => b.any fun y => x.Name == y.Name && (x.Exclusive || y.Exclusive))]
  cases (List.range l.length).find? (fun k => b.any fun y => (gt l k).Name == y.Name && ((gt l k).Exclusive || y.Exclusive)) <;> rfl
def fits (l : List TRequest) : Prop := l.length ≤ B0 ∧ ∀ q ∈ l, q.Wants.length ≤ B0
theorem fits_gt {l : List TRequest} (h : fits l) {k : Nat} (hk : k < l.length) : (gt l k).Wants.length ≤ B0 := by
  rw [gt_lt hk]; exact h.2 _ (List.getElem_mem hk)
theorem fits_take {l : List TRequest} (h : fits l) (k : Nat) : fits (l.take k) :=
  ⟨by rw [List.length_take]; have := h.1; omega, fun q hq => h.2 q (List.mem_of_mem_take hq)⟩
theorem blocked_eq (n : Nat) (r : TRequest) (l : List TRequest) (hr : r.Wants.length ≤ B0) (hl : fits l) (hn : N0 ≤ n) :
    enqueue_Request__blocked n r l = some (blk r.Wants l) := by
  have hn' := hn
  have hl' := hl.1
  unfold N0 at hn'; unfold B0 at hl'
  have h := loop_scan (body := fun (x : Int) => slices_IndexFunc_f57_M1_b2 n r.Job r.Wants l (l.length : Int) x) l.length (fun k => conf r.Wants (gt l k).Wants) (fun k => (.inl (k : Int) : Int ⊕ Unit)) (.inr ()) (n := n)
    (fun k hk => by
      have hd : decide ((k : Int) < (l.length : Int)) = true := by simp; omega
      simp only [slices_IndexFunc_f57_M1_b2, hd, cond_true, Int.toNat_natCast, succ_w (show k < 4194304 by omega)]
      rw [gd_pos _ (by omega)]
      simp only [enqueue_Request__blocked_1_M1, M80_1 n r.Wants _ _ hr (fits_gt hl hk) hn, Option.bind_some, bif_ite]
      split <;> rfl)
    (by simp [slices_IndexFunc_f57_M1_b2]) (by omega)
  simp only [enqueue_Request__blocked, enqueue_some_f59_M1, slices_IndexFunc_f57_M1, h, Option.bind_some]
  rw [blk, ← any_find l (fun q => conf r.Wants q.Wants)]
  cases (List.range l.length).find? (fun k => conf r.Wants (gt l k).Wants) <;> rfl
theorem any_range {α : Type} [Inhabited α] (l : List α) (p : α → Bool) : ((List.range l.length).any fun k => p (gt l k)) = l.any p := by
  rw [Bool.eq_iff_iff, List.any_eq_true, List.any_eq_true]
  constructor
  · rintro ⟨k, hk, h⟩
    rw [List.mem_range] at hk
    rw [gt_lt hk] at h
    exact ⟨_, List.getElem_mem hk, h⟩
  · rintro ⟨x, hx, h⟩
    obtain ⟨k, hk, rfl⟩ := List.mem_iff_getElem.1 hx
    exact ⟨k, List.mem_range.2 hk, by rw [gt_lt hk]; exact h⟩
theorem Conflict_eq (n : Nat) (a b : TRequest) (ha : a.Wants.length ≤ B0) (hb : b.Wants.length ≤ B0) (hn : N0 ≤ n) : ref37_Conflict n a b = some (conf a.Wants b.Wants) := by
  unfold N0 at hn; unfold B0 at ha hb
  have hin : ∀ i, i < a.Wants.length → loopF (fun (x : Int) => ref37_Conflict_b4 n a b (i : Int) x) n 0 = some (if (b.Wants.any fun y => (gt a.Wants i).Name == y.Name && ((gt a.Wants i).Exclusive || y.Exclusive)) = true then .inl true else .inr ()) := by
    intro i hi
    rw [loop_scan (body := fun (x : Int) => ref37_Conflict_b4 n a b (i : Int) x) b.Wants.length (fun k => (gt a.Wants i).Name == (gt b.Wants k).Name && ((gt a.Wants i).Exclusive || (gt b.Wants k).Exclusive)) (fun _ => (.inl true : Bool ⊕ Unit)) (.inr ()) (n := n)
      (fun k hk => by
        have hd : decide ((k : Int) < (b.Wants.length : Int)) = true := by simp; omega
        simp only [ref37_Conflict_b4, hd, cond_true, Int.toNat_natCast, succ_w (show k < 4194304 by omega)]
        rw [gd_pos _ (by refine ⟨by omega, by omega, fun _ => by omega, fun _ => by omega, ?_⟩; intro h; simpa using h)]
        simp only [ite_ff, ite_tt, bif_ite]
        split <;> rfl)
      (by simp [ref37_Conflict_b4]) (by omega)]
    rw [find_any, any_range b.Wants (fun y => (gt a.Wants i).Name == y.Name && ((gt a.Wants i).Exclusive || y.Exclusive))]
  have h := loop_scan (body := fun (x : Int) => ref37_Conflict_b2 n a b x) a.Wants.length (fun i => b.Wants.any fun y => (gt a.Wants i).Name == y.Name && ((gt a.Wants i).Exclusive || y.Exclusive)) (fun _ => (.inl true : Bool ⊕ Unit)) (.inr ()) (n := n)
    (fun k hk => by
      have hd : decide ((k : Int) < (a.Wants.length : Int)) = true := by simp; omega
      simp only [ref37_Conflict_b2, hd, cond_true, hin k hk, Option.bind_some]
      cases (b.Wants.any fun y => (gt a.Wants k).Name == y.Name && ((gt a.Wants k).Exclusive || y.Exclusive))
      · simp only [Bool.false_eq_true, if_false, ref37_Conflict_k3, succ_w (show k < 4194304 by omega)]
      · rfl)
    (by simp [ref37_Conflict_b2]) (by omega)
  rw [find_any, any_range a.Wants (fun x => b.Wants.any fun y => x.Name == y.Name && (x.Exclusive || y.Exclusive))] at h
  simp only [ref37_Conflict, h, Option.bind_some, conf]
  cases (a.Wants.any fun x => b.Wants.any fun y => x.Name == y.Name && (x.Exclusive || y.Exclusive)) <;> rfl
theorem free_eq (n : Nat) (r : TRequest) (l : List TRequest) (hr : r.Wants.length ≤ B0) (hl : fits l) (hn : N0 ≤ n) : ref37_free n r l = some (!blk r.Wants l) := by
  have hn' := hn
  have hl' := hl.1
  unfold N0 at hn'; unfold B0 at hl'
  have h := loop_scan (body := fun (x : Int) => ref37_free_b2 n l r x) l.length (fun k => conf r.Wants (gt l k).Wants) (fun _ => (.inl false : Bool ⊕ Unit)) (.inr ()) (n := n)
    (fun k hk => by
      have hd : decide ((k : Int) < (l.length : Int)) = true := by simp; omega
      simp only [ref37_free_b2, hd, cond_true, Int.toNat_natCast, succ_w (show k < 4194304 by omega)]
      rw [gd_pos _ (by omega), Conflict_eq n r _ hr (fits_gt hl hk) hn]
      simp only [Option.bind_some, bif_ite]
      split <;> rfl)
    (by simp [ref37_free_b2]) (by omega)
  rw [find_any, any_range l (fun q => conf r.Wants q.Wants)] at h
  simp only [ref37_free, h, Option.bind_some, blk]
  cases (l.any fun q => conf r.Wants q.Wants) <;> rfl
def ix (l : List TRequest) (j : Int) : Option Nat := (List.range l.length).find? fun k => (gt l k).Job == j
def ixI (l : List TRequest) (j : Int) : Int := match ix l j with | some k => (k : Int) | none => -1
theorem index_eq (n : Nat) (l : List TRequest) (j : Int) (hl : l.length ≤ B0) (hn : N0 ≤ n) : enqueue_index n l j = some (ixI l j) := by
  unfold N0 at hn; unfold B0 at hl
  have h := loop_scan (body := fun (x : Int) => slices_IndexFunc_f57_M2_b2 n j l (l.length : Int) x) l.length (fun k => (gt l k).Job == j) (fun k => (.inl (k : Int) : Int ⊕ Unit)) (.inr ()) (n := n)
    (fun k hk => by
      have hd : decide ((k : Int) < (l.length : Int)) = true := by simp; omega
      simp only [slices_IndexFunc_f57_M2_b2, hd, cond_true, Int.toNat_natCast, succ_w (show k < 4194304 by omega)]
      rw [gd_pos _ (by omega)]
      simp only [enqueue_index_1_M1, Option.bind_some, bif_ite]
      split <;> rfl)
    (by simp [slices_IndexFunc_f57_M2_b2]) (by omega)
  simp only [enqueue_index, slices_IndexFunc_f57_M2, h, Option.bind_some, ixI, ix]
  cases (List.range l.length).find? (fun k => (gt l k).Job == j) <;> rfl
theorem place_eq (n : Nat) (l : List TRequest) (j : Int) (hl : l.length ≤ B0) (hn : N0 ≤ n) : ref37_place n l j = some (ixI l j) := by
  unfold N0 at hn; unfold B0 at hl
  have h := loop_scan (body := fun (x : Int) => ref37_place_b2 n l j x) l.length (fun k => (gt l k).Job == j) (fun k => (.inl (k : Int) : Int ⊕ Unit)) (.inr ()) (n := n)
    (fun k hk => by
      have hd : decide ((k : Int) < (l.length : Int)) = true := by simp; omega
      simp only [ref37_place_b2, hd, cond_true, Int.toNat_natCast, succ_w (show k < 4194304 by omega)]
      rw [gd_pos _ (by omega)]
      simp only [bif_ite]
      split <;> rfl)
    (by simp [ref37_place_b2]) (by omega)
  simp only [ref37_place, h, Option.bind_some, ixI, ix]
  cases (List.range l.length).find? (fun k => (gt l k).Job == j) <;> rfl
def jobs (l : List TRequest) (j : Int) : Bool := l.any fun q => q.Job == j
theorem ixI_ge (l : List TRequest) (j : Int) : decide (ixI l j ≥ 0) = jobs l j := by
  have h := any_find l (fun q => q.Job == j)
  rw [jobs, ← h, ixI, ix]
def asc (l : List TWant) : Bool := (List.range (l.length - 1)).all fun k => Op.bytesLess (gt l k).Name (gt l (k + 1)).Name
def nrm (r : TRequest) : Bool := asc r.Wants && decide (r.Wants.length ≤ 512)
theorem any_not_all {L : Nat} (p : Nat → Bool) : (List.range L).any (fun k => !p k) = !(List.range L).all p := by
  simp [List.not_all_eq_any_not]
theorem normal_eq (n : Nat) (r : TRequest) (hl : r.Wants.length ≤ B0) (hn : N0 ≤ n) : enqueue_Request__normal n r = some (nrm r) := by
  unfold N0 at hn; unfold B0 at hl
  have e0 : (1 : Int) = ((0 + 1 : Nat) : Int) := rfl
  by_cases h0 : r.Wants = []
  · have : loopF (fun (x : Int) => enqueue_Request__normal_b2 n r x) n 1 = some (.inr ()) := by
      obtain ⟨n, rfl⟩ : ∃ q, n = q + 1 := ⟨n - 1, by omega⟩
      exact loopF_done (by simp [enqueue_Request__normal_b2, h0])
    simp [enqueue_Request__normal, this, enqueue_Request__normal_k1, nrm, asc, h0]
  have hp : 0 < r.Wants.length := List.length_pos_iff.2 h0
  obtain ⟨s, -, h⟩ := loop_scanS (σ := Unit) (body := fun (x : Int) => enqueue_Request__normal_b2 n r x) (r.Wants.length - 1) (fun k _ => ((k + 1 : Nat) : Int)) (fun k => !Op.bytesLess (gt r.Wants k).Name (gt r.Wants (k + 1)).Name) (fun _ _ => ()) (fun _ => (.inl false : Bool ⊕ Unit)) (fun _ => .inr ()) (fun _ _ => True) (n := n)
    (fun k hk s _ => by
      have hd : decide (((k + 1 : Nat) : Int) < (r.Wants.length : Int)) = true := by simp; omega
      have hw : IntKind.wrap .i64 (((k + 1 : Nat) : Int) - 1) = (k : Int) := by rw [w64_id (by omega) (by omega)]; omega
      simp only [enqueue_Request__normal_b2, hd, cond_true, hw, Int.toNat_natCast, succ_w (show k + 1 < 4194304 by omega)]
      rw [gd_pos _ (by omega)]
      simp only [bif_ite]
      split <;> rfl) (fun _ _ _ _ _ => trivial)
    (fun _ _ => by
      have : ¬ ((r.Wants.length - 1 + 1 : Nat) : Int) < (r.Wants.length : Int) := by omega
      simp only [enqueue_Request__normal_b2, this, decide_false, cond_false]) (r.Wants.length - 1) 0 () (by omega) (by omega) trivial (by omega)
  rw [Nat.sub_zero, ← List.range_eq_range', find_any, any_not_all] at h
  simp only [enqueue_Request__normal, e0, h, Option.bind_some, nrm, asc]
  cases (List.range (r.Wants.length - 1)).all fun k => Op.bytesLess (gt r.Wants k).Name (gt r.Wants (k + 1)).Name
  · simp
  · simp only [enqueue_Request__normal_k1, Bool.not_true, Bool.false_eq_true, if_false, Bool.true_and]
    congr 1
    simp
    omega
theorem rnormal_eq (n : Nat) (r : TRequest) (hl : r.Wants.length ≤ B0) (hn : N0 ≤ n) : ref37_normal n r = some (nrm r) := by
  unfold N0 at hn; unfold B0 at hl
  have e0 : (1 : Int) = ((0 + 1 : Nat) : Int) := rfl
  by_cases h0 : r.Wants = []
  · have : loopF (fun (x : Int) => ref37_normal_b2 n r x) n 1 = some (.inr ()) := by
      obtain ⟨n, rfl⟩ : ∃ q, n = q + 1 := ⟨n - 1, by omega⟩
      exact loopF_done (by simp [ref37_normal_b2, h0])
    simp [ref37_normal, this, ref37_normal_k1, nrm, asc, h0]
  have hp : 0 < r.Wants.length := List.length_pos_iff.2 h0
  obtain ⟨s, -, h⟩ := loop_scanS (σ := Unit) (body := fun (x : Int) => ref37_normal_b2 n r x) (r.Wants.length - 1) (fun k _ => ((k + 1 : Nat) : Int)) (fun k => !Op.bytesLess (gt r.Wants k).Name (gt r.Wants (k + 1)).Name) (fun _ _ => ()) (fun _ => (.inl false : Bool ⊕ Unit)) (fun _ => .inr ()) (fun _ _ => True) (n := n)
    (fun k hk s _ => by
      have hd : decide (((k + 1 : Nat) : Int) < (r.Wants.length : Int)) = true := by simp; omega
      have hw : IntKind.wrap .i64 (((k + 1 : Nat) : Int) - 1) = (k : Int) := by rw [w64_id (by omega) (by omega)]; omega
      simp only [ref37_normal_b2, hd, cond_true, hw, Int.toNat_natCast, succ_w (show k + 1 < 4194304 by omega)]
      rw [gd_pos _ (by omega)]
      simp only [bif_ite]
      split <;> rfl) (fun _ _ _ _ _ => trivial)
    (fun _ _ => by
      have : ¬ ((r.Wants.length - 1 + 1 : Nat) : Int) < (r.Wants.length : Int) := by omega
      simp only [ref37_normal_b2, this, decide_false, cond_false]) (r.Wants.length - 1) 0 () (by omega) (by omega) trivial (by omega)
  rw [Nat.sub_zero, ← List.range_eq_range', find_any, any_not_all] at h
  simp only [ref37_normal, e0, h, Option.bind_some, nrm, asc]
  cases (List.range (r.Wants.length - 1)).all fun k => Op.bytesLess (gt r.Wants k).Name (gt r.Wants (k + 1)).Name
  · simp
  · simp only [ref37_normal_k1, Bool.not_true, Bool.false_eq_true, if_false, Bool.true_and]
    congr 1
    simp
    omega
end Go.Proofs.Ytcdofkflbnpjjaa
/-
  ch. 37: plain laws. The check of a table, copies, and comparisons.
-/
set_option maxHeartbeats 8000000
set_option linter.unusedVariables false
set_option linter.unusedSimpArgs false
set_option maxRecDepth 100000
namespace Go.Proofs.Ytcdofkflbnpjjaa
open Go.AE
def small (t : TTable) : Prop := fits t.Held ∧ fits t.Waiting
theorem jobs_app (a b : List TRequest) (j : Int) : jobs (a ++ b) j = (jobs a j || jobs b j) := by simp [jobs]
theorem take_succ_gt {l : List TRequest} {k : Nat} (h : k < l.length) : l.take (k + 1) = l.take k ++ [gt l k] := by
  rw [gt_lt h, List.take_succ_eq_append_getElem h]
theorem jobs_succ {l : List TRequest} {k : Nat} (h : k < l.length) (j : Int) : jobs (l.take (k + 1)) j = (jobs (l.take k) j || (gt l k).Job == j) := by
  rw [take_succ_gt h, jobs_app]; simp [jobs]
def bad1 (l : List TRequest) (k : Nat) : Bool := jobs (l.take k) (gt l k).Job || !nrm (gt l k) || blk (gt l k).Wants (l.take k)
def bad2 (h l : List TRequest) (k : Nat) : Bool := (jobs h (gt l k).Job || jobs (l.take k) (gt l k).Job) || !nrm (gt l k) || (!blk (gt l k).Wants h && !blk (gt l k).Wants (l.take k))
def vld (t : TTable) : Bool := !(List.range t.Held.length).any (bad1 t.Held) && !(List.range t.Waiting.length).any (bad2 t.Held t.Waiting)
theorem seen_step (s : List (Int × Bool)) (j k : Int) : (tget j (tset k true s)).getD default = (k == j || (tget j s).getD default) := by
  rw [tget_tset]
  by_cases h : j = k
  · subst h; simp
  · have h1 : (j == k) = false := by simpa using h
    have h2 : (k == j) = false := by simpa using fun e => h e.symm
    simp [h1, h2]
theorem Check_eq (n : Nat) (t : TTable) (ht : small t) (hn : N0 ≤ n) : enqueue_Check n t = some (if vld t = true then 0 else 5) := by
  have hn' := hn
  obtain ⟨hH, hW⟩ := ht
  have hH' := hH.1; have hW' := hW.1
  unfold N0 at hn'; unfold B0 at hH' hW'
  obtain ⟨s1, hs1, h1⟩ := loop_scanS (σ := List (Int × Bool)) (body := fun (x : (List (Int × Bool)) × Int) => enqueue_Check_b4 n t (t.Held.length : Int) x.1 x.2) t.Held.length (fun k s => (s, (k : Int)))
    (bad1 t.Held) (fun s k => tset (gt t.Held k).Job true s) (fun _ => (.inl 5 : Int ⊕ List (Int × Bool))) (fun s => .inr s) (fun k s => ∀ j, (tget j s).getD default = jobs (t.Held.take k) j) (n := n)
    (fun k hk s hi => by
      have hd : decide ((k : Int) < (t.Held.length : Int)) = true := by simp; omega
      have e1 := hi (gt t.Held k).Job
      simp only [enqueue_Check_b4, hd, cond_true, Int.toNat_natCast, succ_w (show k < 4194304 by omega), e1, normal_eq n _ (fits_gt hH hk) hn, blocked_eq n _ _ (fits_gt hH hk) (fits_take hH k) hn]
      rw [gd_pos _ (by omega), gd_pos _ (by refine ⟨fun _ => rfl, fun _ => by omega, fun _ => rfl⟩)]
      simp only [Option.getD_some, ite_tt, ite_ff, bif_ite]
      show (if bad1 t.Held k = true then _ else _) = _
      split <;> rename_i hc <;> first | rfl | rw [if_pos hc] | rw [if_neg hc])
    (fun k hk s hi _ j => by rw [seen_step, hi j, jobs_succ hk, Bool.or_comm])
    (fun s hi => by simp [enqueue_Check_b4]) t.Held.length 0 [] (by omega) (by omega) (fun j => by simp [tget, jobs]) (by omega)
  rw [Nat.sub_zero, ← List.range_eq_range'] at h1 hs1
  simp only [enqueue_Check]
  rw [show (([] : List (Int × Bool)), (0 : Int)) = ([], ((0 : Nat) : Int)) from rfl, h1, Option.bind_some]
  cases hf : (List.range t.Held.length).find? (bad1 t.Held) with
  | some i =>
    have : (List.range t.Held.length).any (bad1 t.Held) = true := List.any_eq_true.2 ⟨i, List.mem_of_find?_eq_some hf, List.find?_some hf⟩
    simp [vld, this]
  | none =>
    have ha : (List.range t.Held.length).any (bad1 t.Held) = false := by rw [List.any_eq_false]; rw [List.find?_eq_none] at hf; exact hf
    have hI := hs1 hf
    rw [List.take_length] at hI
    obtain ⟨s2, hs2, h2⟩ := loop_scanS (σ := List (Int × Bool)) (body := fun (x : (List (Int × Bool)) × Int) => enqueue_Check_b3 n t (t.Waiting.length : Int) x.1 x.2) t.Waiting.length (fun k s => (s, (k : Int)))
      (bad2 t.Held t.Waiting) (fun s k => tset (gt t.Waiting k).Job true s) (fun _ => (.inl 5 : Int ⊕ Unit)) (fun s => .inr ()) (fun k s => ∀ j, (tget j s).getD default = (jobs t.Held j || jobs (t.Waiting.take k) j)) (n := n)
      (fun k hk s hi => by
        have hd : decide ((k : Int) < (t.Waiting.length : Int)) = true := by simp; omega
        have e1 := hi (gt t.Waiting k).Job
        simp only [enqueue_Check_b3, hd, cond_true, Int.toNat_natCast, succ_w (show k < 4194304 by omega), e1, normal_eq n _ (fits_gt hW hk) hn, blocked_eq n _ _ (fits_gt hW hk) (fits_take hW k) hn, blocked_eq n _ _ (fits_gt hW hk) hH hn]
        rw [gd_pos _ (by omega), gd_pos _ (by refine ⟨fun _ => rfl, fun _ => rfl, fun _ => by omega, fun _ => rfl⟩)]
        simp only [Option.getD_some, ite_tt, ite_ff, bif_ite]
        show (if bad2 t.Held t.Waiting k = true then _ else _) = _
        split <;> rename_i hc <;> first | rfl | rw [if_pos hc] | rw [if_neg hc])
      (fun k hk s hi _ j => by rw [seen_step, hi j, jobs_succ hk]; cases jobs t.Held j <;> cases jobs (t.Waiting.take k) j <;> simp)
      (fun s hi => by simp [enqueue_Check_b3]) t.Waiting.length 0 s1 (by omega) (by omega) (fun j => by rw [hI j]; simp [jobs]) (by omega)
    rw [Nat.sub_zero, ← List.range_eq_range'] at h2
    simp only [enqueue_Check_k1]
    rw [show (s1, (0 : Int)) = (s1, ((0 : Nat) : Int)) from rfl, h2, find_any]
    simp only [vld, ha, Option.bind_some]
    cases (List.range t.Waiting.length).any (bad2 t.Held t.Waiting) <;> rfl
theorem Valid_eq (n : Nat) (t : TTable) (ht : small t) (hn : N0 ≤ n) : ref37_Valid n t = some (vld t) := by
  have hn' := hn
  obtain ⟨hH, hW⟩ := ht
  have hH' := hH.1; have hW' := hW.1
  have htk : ∀ {l : List TRequest} (k : Nat), l.length ≤ B0 → (l.take k).length ≤ B0 := fun k h => by rw [List.length_take]; omega
  have htH := fun k => htk (l := t.Held) k hH.1
  have htW := fun k => htk (l := t.Waiting) k hW.1
  unfold N0 at hn'; unfold B0 at hH' hW'
  have h1 := loop_scan (body := fun (x : Int) => ref37_Valid_b4 n t x) t.Held.length (bad1 t.Held) (fun _ => (.inl false : Bool ⊕ Unit)) (.inr ()) (n := n)
    (fun k hk => by
      have hd : decide ((k : Int) < (t.Held.length : Int)) = true := by simp; omega
      simp only [ref37_Valid_b4, hd, cond_true, Int.toNat_natCast, succ_w (show k < 4194304 by omega), rnormal_eq n _ (fits_gt hH hk) hn, free_eq n _ _ (fits_gt hH hk) (fits_take hH k) hn, place_eq n _ _ (htH k) hn, Option.bind_some]
      rw [gd_pos _ (by omega), gd_pos _ (by refine ⟨fun _ => by omega, fun _ => by omega, fun _ => rfl, fun _ => by omega, fun _ => by omega, fun _ => rfl⟩)]
      simp only [Option.getD_some, ixI_ge, ite_tt, ite_ff, bif_ite, Bool.not_not]
      rw [Bool.or_comm (!nrm (gt t.Held k))]
      show (if bad1 t.Held k = true then _ else _) = _
      split <;> rename_i hc <;> first | rfl | rw [if_pos hc] | rw [if_neg hc])
    (by simp [ref37_Valid_b4]) (by omega)
  have h2 := loop_scan (body := fun (x : Int) => ref37_Valid_b3 n t x) t.Waiting.length (bad2 t.Held t.Waiting) (fun _ => (.inl false : Bool ⊕ Unit)) (.inr ()) (n := n)
    (fun k hk => by
      have hd : decide ((k : Int) < (t.Waiting.length : Int)) = true := by simp; omega
      simp only [ref37_Valid_b3, hd, cond_true, Int.toNat_natCast, succ_w (show k < 4194304 by omega), rnormal_eq n _ (fits_gt hW hk) hn, free_eq n _ _ (fits_gt hW hk) (fits_take hW k) hn, free_eq n _ _ (fits_gt hW hk) hH hn, place_eq n _ _ (htW k) hn, place_eq n _ _ hH.1 hn, Option.bind_some]
      rw [gd_pos _ (by omega), gd_pos _ (by refine ⟨fun _ => rfl, fun _ => by omega, fun _ => rfl, fun _ => rfl, fun _ => by omega, fun _ => rfl⟩)]
      simp only [Option.getD_some, ixI_ge, ite_tt, ite_ff, bif_ite, Bool.not_not]
      rw [show (((!nrm (gt t.Waiting k) || jobs t.Held (gt t.Waiting k).Job) || jobs (t.Waiting.take k) (gt t.Waiting k).Job) || (!blk (gt t.Waiting k).Wants t.Held && !blk (gt t.Waiting k).Wants (t.Waiting.take k))) = bad2 t.Held t.Waiting k from by
        unfold bad2
        cases nrm (gt t.Waiting k) <;> cases jobs t.Held (gt t.Waiting k).Job <;> cases jobs (t.Waiting.take k) (gt t.Waiting k).Job <;> rfl]
      split <;> rename_i hc <;> first | rfl | rw [if_pos hc] | rw [if_neg hc])
    (by simp [ref37_Valid_b3]) (by omega)
  rw [find_any] at h1 h2
  simp only [ref37_Valid, ref37_Valid_k1, h1, h2, Option.bind_some, vld]
  cases (List.range t.Held.length).any (bad1 t.Held) <;> cases (List.range t.Waiting.length).any (bad2 t.Held t.Waiting) <;> rfl
theorem Clone_eq (n : Nat) (l : List TWant) (h : l.length ≤ B0) : slices_Clone_f79 n l = some l := by
  unfold B0 at h
  refine uniB_eq fun b hb => ?_
  cases b with
  | true => simp [hb rfl]
  | false => simp only [cond_false]; rw [gd_pos _ (by omega)]
theorem foldl_snoc {α β : Type} (f : α → β) : ∀ (l : List α) (s : List β), l.foldl (fun s a => s ++ [f a]) s = s ++ l.map f
  | [], s => by simp
  | a :: l, s => by rw [List.foldl_cons, foldl_snoc f l]; simp
theorem copied_eq (n : Nat) (l : List TRequest) (h : fits l) (hn : N0 ≤ n) : enqueue_copied n l = some l := by
  have h' := h.1
  unfold N0 at hn; unfold B0 at h'
  have e := loop_acc (body := fun (x : (List TRequest) × Int) => enqueue_copied_b2 n l (l.length : Int) x.1 x.2) l (fun s a => s ++ [a]) (fun s => s) [] (fun k s => s.length = k) (n := n) rfl
    (fun k hk s hi => by
      have hd : decide ((k : Int) < (l.length : Int)) = true := by simp; omega
      simp only [enqueue_copied_b2, hd, cond_true, Int.toNat_natCast, succ_w (show k < 4194304 by omega), Clone_eq n _ (fits_gt h hk), Option.bind_some]
      rw [gd_pos _ (by omega), gd_pos _ (by omega), ← gt_lt hk])
    (fun k hk s hi => by simp [hi]) (fun s _ => by simp [enqueue_copied_b2]) (by omega)
  have e2 := foldl_snoc (fun a : TRequest => a) l []
  simp only [enqueue_copied, e, Option.bind_some, enqueue_copied_k1, e2]
  simp
theorem tcopied_eq (n : Nat) (t : TTable) (ht : small t) (hn : N0 ≤ n) : enqueue_Table__copied n t = some t := by
  simp only [enqueue_Table__copied, copied_eq n _ ht.1 hn, copied_eq n _ ht.2 hn, Option.bind_some]
theorem wants_eq (n : Nat) (l : List TWant) (h : l.length ≤ B0) (hn : N0 ≤ n) : law37_wants n l = some l := by
  unfold N0 at hn; unfold B0 at h
  have e := loop_acc (body := fun (x : (List TWant) × Int) => law37_wants_b2 n l x.1 x.2) l (fun s a => s ++ [a]) (fun s => s) [] (fun k s => s.length = k) (n := n) rfl
    (fun k hk s hi => by
      have hd : decide ((k : Int) < (l.length : Int)) = true := by simp; omega
      simp only [law37_wants_b2, hd, cond_true, Int.toNat_natCast, succ_w (show k < 4194304 by omega)]
      rw [gd_pos _ (by omega), ← gt_lt hk])
    (fun k hk s hi => by simp [hi]) (fun s _ => by simp [law37_wants_b2]) (by omega)
  have e2 := foldl_snoc (fun a : TWant => a) l []
  simp only [law37_wants, e, Option.bind_some, law37_wants_k1, e2]
  simp
theorem requests_eq (n : Nat) (l : List TRequest) (h : fits l) (hn : N0 ≤ n) : law37_requests n l = some l := by
  have h' := h.1
  have hn' := hn
  unfold N0 at hn'; unfold B0 at h'
  have e := loop_acc (body := fun (x : (List TRequest) × Int) => law37_requests_b2 n l x.1 x.2) l (fun s a => s ++ [a]) (fun s => s) [] (fun k s => s.length = k) (n := n) rfl
    (fun k hk s hi => by
      have hd : decide ((k : Int) < (l.length : Int)) = true := by simp; omega
      simp only [law37_requests_b2, hd, cond_true, Int.toNat_natCast, succ_w (show k < 4194304 by omega), wants_eq n _ (fits_gt h hk) hn, Option.bind_some]
      rw [gd_pos _ (by omega), gd_pos _ (by omega), ← gt_lt hk])
    (fun k hk s hi => by simp [hi]) (fun s _ => by simp [law37_requests_b2]) (by omega)
  have e2 := foldl_snoc (fun a : TRequest => a) l []
  simp only [law37_requests, e, Option.bind_some, law37_requests_k1, e2]
  simp
theorem table_eq (n : Nat) (t : TTable) (ht : small t) (hn : N0 ≤ n) : law37_table n t = some t := by
  simp only [law37_table, requests_eq n _ ht.1 hn, requests_eq n _ ht.2 hn, Option.bind_some]
theorem ints_self (n : Nat) (a : List Int) (h : a.length ≤ B0) (hn : N0 ≤ n) : law37_ints n a a = some true := by
  unfold N0 at hn; unfold B0 at h
  have e := loop_scan (body := fun (x : Int) => law37_ints_b2 n a a x) a.length (fun _ => false) (fun _ => (.inl false : Bool ⊕ Unit)) (.inr ()) (n := n)
    (fun k hk => by
      have hd : decide ((k : Int) < (a.length : Int)) = true := by simp; omega
      simp only [law37_ints_b2, hd, cond_true, Int.toNat_natCast, succ_w (show k < 4194304 by omega)]
      rw [gd_pos _ (by omega)]; simp)
    (by simp [law37_ints_b2]) (by omega)
  rw [find_any] at e
  simp [law37_ints, e, law37_ints_k1]
theorem sameWants_self (n : Nat) (a : List TWant) (h : a.length ≤ B0) (hn : N0 ≤ n) : law37_sameWants n a a = some true := by
  unfold N0 at hn; unfold B0 at h
  have e := loop_scan (body := fun (x : Int) => law37_sameWants_b2 n a a x) a.length (fun _ => false) (fun _ => (.inl false : Bool ⊕ Unit)) (.inr ()) (n := n)
    (fun k hk => by
      have hd : decide ((k : Int) < (a.length : Int)) = true := by simp; omega
      simp only [law37_sameWants_b2, hd, cond_true, Int.toNat_natCast, succ_w (show k < 4194304 by omega)]
      rw [gd_pos _ (by refine ⟨by omega, by omega, fun _ => by omega, fun _ => by omega⟩)]; simp)
    (by simp [law37_sameWants_b2]) (by omega)
  rw [find_any] at e
  simp [law37_sameWants, e, law37_sameWants_k1]
theorem sameRequests_self (n : Nat) (a : List TRequest) (h : fits a) (hn : N0 ≤ n) : law37_sameRequests n a a = some true := by
  have hn' := hn
  have h' := h.1
  unfold N0 at hn'; unfold B0 at h'
  have e := loop_scan (body := fun (x : Int) => law37_sameRequests_b2 n a a x) a.length (fun _ => false) (fun _ => (.inl false : Bool ⊕ Unit)) (.inr ()) (n := n)
    (fun k hk => by
      have hd : decide ((k : Int) < (a.length : Int)) = true := by simp; omega
      simp only [law37_sameRequests_b2, hd, cond_true, Int.toNat_natCast, succ_w (show k < 4194304 by omega), sameWants_self n _ (fits_gt h hk) hn]
      rw [gd_pos _ (by refine ⟨by omega, by omega, fun _ => by omega, fun _ => by omega, fun _ => rfl⟩)]; simp)
    (by simp [law37_sameRequests_b2]) (by omega)
  rw [find_any] at e
  simp [law37_sameRequests, e, law37_sameRequests_k1]
theorem same_self (n : Nat) (t : TTable) (ht : small t) (hn : N0 ≤ n) : law37_same n t t = some true := by
  simp only [law37_same, sameRequests_self n _ ht.1 hn, sameRequests_self n _ ht.2 hn, Option.bind_some]
  simp [gd]
def few (l : List TWant) : Bool := !(l.any fun w => decide ((w.Name.length : Int) > 60)) && decide (l.length ≤ 40)
theorem few_eq (n : Nat) (l : List TWant) (h : l.length ≤ B0) (hn : N0 ≤ n) : law37_few n l = some (few l) := by
  unfold N0 at hn; unfold B0 at h
  have e := loop_scan (body := fun (x : Int) => law37_few_b2 n l x) l.length (fun k => decide (((gt l k).Name.length : Int) > 60)) (fun _ => (.inl false : Bool ⊕ Unit)) (.inr ()) (n := n)
    (fun k hk => by
      have hd : decide ((k : Int) < (l.length : Int)) = true := by simp; omega
      simp only [law37_few_b2, hd, cond_true, Int.toNat_natCast, succ_w (show k < 4194304 by omega), bif_ite]
      rw [gd_pos _ (by omega)]
      cases decide (((gt l k).Name.length : Int) > 60) <;> rfl)
    (by simp [law37_few_b2]) (by omega)
  rw [find_any, any_range l (fun w => decide ((w.Name.length : Int) > 60))] at e
  simp only [law37_few, e, Option.bind_some, few]
  cases l.any fun w => decide ((w.Name.length : Int) > 60)
  · simp only [law37_few_k1, Bool.false_eq_true, if_false, Bool.not_false, Bool.true_and]
    congr 1; simp; omega
  · rfl
theorem few_len {l : List TWant} (h : few l = true) : l.length ≤ 40 := by
  simp only [few, Bool.and_eq_true, decide_eq_true_eq] at h
  exact h.2
end Go.Proofs.Ytcdofkflbnpjjaa
/-
  ch. 37: plain laws. The normal form of a list of wants.
-/
set_option maxHeartbeats 8000000
set_option linter.unusedVariables false
set_option linter.unusedSimpArgs false
set_option maxRecDepth 100000
namespace Go.Proofs.Ytcdofkflbnpjjaa
open Go.AE
theorem bl_irrefl (x : List UInt8) : Op.bytesLess x x = false := by
  rw [Go.Proofs.bytesLess_eq]; simp [List.lt_irrefl]
theorem bl_trans {x y z : List UInt8} (h1 : Op.bytesLess x y = true) (h2 : Op.bytesLess y z = true) : Op.bytesLess x z = true := by
  rw [Go.Proofs.bytesLess_eq, decide_eq_true_eq] at *
  exact List.lt_trans h1 h2
theorem bl_total (x y : List UInt8) : Op.bytesLess x y = true ∨ x = y ∨ Op.bytesLess y x = true := by
  simp only [Go.Proofs.bytesLess_eq, decide_eq_true_eq]
  rcases Std.lt_trichotomy x y with h | h | h
  · exact .inl h
  · exact .inr (.inl h)
  · exact .inr (.inr h)
theorem bl_ne {x y : List UInt8} (h : Op.bytesLess x y = true) : x ≠ y := by
  rintro rfl; rw [bl_irrefl] at h; cases h
theorem bl_asymm {x y : List UInt8} (h : Op.bytesLess x y = true) : Op.bytesLess y x = false := by
  cases h2 : Op.bytesLess y x with
  | false => rfl
  | true => have := bl_trans h h2; rw [bl_irrefl] at this; cases this
abbrev wlt (a b : TWant) : Prop := Op.bytesLess a.Name b.Name = true
def isNF (l r : List TWant) : Prop := r.Pairwise wlt ∧ ∀ v, v ∈ r ↔ (∃ x ∈ l, x.Name = v.Name) ∧ v.Exclusive = l.any (fun x => x.Name == v.Name && x.Exclusive)
theorem asc_ext : ∀ {a b : List TWant}, a.Pairwise wlt → b.Pairwise wlt → (∀ v, v ∈ a ↔ v ∈ b) → a = b
  | [], [], _, _, _ => rfl
  | [], y :: b, _, _, h => absurd ((h y).2 List.mem_cons_self) (by simp)
  | x :: a, [], _, _, h => absurd ((h x).1 List.mem_cons_self) (by simp)
  | x :: a, y :: b, ha, hb, h => by
    have ha' := List.pairwise_cons.1 ha
    have hb' := List.pairwise_cons.1 hb
    have hxy : x = y := by
      rcases List.mem_cons.1 ((h x).1 List.mem_cons_self) with e | hx
      · exact e
      · rcases List.mem_cons.1 ((h y).2 List.mem_cons_self) with e | hy
        · exact e.symm
        · have h1 := hb'.1 x hx
          have h2 := ha'.1 y hy
          exact absurd h2 (by rw [wlt, bl_asymm h1]; simp)
    subst hxy
    congr 1
    refine asc_ext ha'.2 hb'.2 fun v => ?_
    constructor
    · intro hv
      rcases List.mem_cons.1 ((h v).1 (List.mem_cons_of_mem _ hv)) with e | hv'
      · subst e; have := ha'.1 v hv; rw [wlt, bl_irrefl] at this; cases this
      · exact hv'
    · intro hv
      rcases List.mem_cons.1 ((h v).2 (List.mem_cons_of_mem _ hv)) with e | hv'
      · subst e; have := hb'.1 v hv; rw [wlt, bl_irrefl] at this; cases this
      · exact hv'
theorem isNF_uniq {l a b : List TWant} (ha : isNF l a) (hb : isNF l b) : a = b := asc_ext ha.1 hb.1 fun v => by rw [ha.2 v, hb.2 v]
def insr (w : List UInt8) (e : Bool) : List TWant → List TWant
  | [] => [⟨w, e⟩]
  | x :: l => if Op.bytesLess x.Name w = true then x :: insr w e l else ⟨w, if x.Name = w then e || x.Exclusive else e⟩ :: (x :: l).filter (fun y => y.Name != w)
def nf (l : List TWant) : List TWant := l.foldl (fun r w => insr w.Name w.Exclusive r) []
theorem insr_len (w : List UInt8) (e : Bool) : ∀ l : List TWant, (insr w e l).length ≤ l.length + 1
  | [] => by simp [insr]
  | x :: l => by
    simp only [insr]
    split
    · have := insr_len w e l; simp only [List.length_cons]; omega
    · simp only [List.length_cons]
      have := List.length_filter_le (fun y : TWant => y.Name != w) (x :: l)
      simp only [List.length_cons] at this; omega
theorem nf_len_from : ∀ (l r : List TWant), (l.foldl (fun r w => insr w.Name w.Exclusive r) r).length ≤ r.length + l.length
  | [], r => by simp
  | w :: l, r => by
    rw [List.foldl_cons]
    have h1 := nf_len_from l (insr w.Name w.Exclusive r)
    have h2 := insr_len w.Name w.Exclusive r
    simp only [List.length_cons]; omega
theorem nf_len (l : List TWant) : (nf l).length ≤ l.length := by
  have h := nf_len_from l []
  rw [List.length_nil, Nat.zero_add] at h
  exact h
theorem insr_mem (w : List UInt8) (e : Bool) : ∀ {l : List TWant}, l.Pairwise wlt → ∀ v, v ∈ insr w e l ↔ (v.Name ≠ w ∧ v ∈ l) ∨ (v.Name = w ∧ v.Exclusive = (e || l.any (fun x => x.Name == w && x.Exclusive)))
  | [], _, v => by
    simp only [insr, List.mem_singleton, List.not_mem_nil, and_false, false_or, List.any_nil, Bool.or_false]
    constructor
    · rintro rfl; exact ⟨rfl, rfl⟩
    · rintro ⟨rfl, rfl⟩; rfl
  | x :: l, h, v => by
    have h' := List.pairwise_cons.1 h
    simp only [insr]
    split
    · rename_i hlt
      have hne : x.Name ≠ w := bl_ne hlt
      rw [List.mem_cons, insr_mem w e h'.2 v, List.any_cons, List.mem_cons]
      have e1 : (x.Name == w) = false := by simpa using hne
      rw [e1, Bool.false_and, Bool.false_or]
      constructor
      · rintro (rfl | ⟨h1, h2⟩ | h1)
        · exact .inl ⟨hne, .inl rfl⟩
        · exact .inl ⟨h1, .inr h2⟩
        · exact .inr h1
      · rintro (⟨h1, rfl | h2⟩ | h1)
        · exact .inl rfl
        · exact .inr (.inl ⟨h1, h2⟩)
        · exact .inr (.inr h1)
    · rename_i hnl
      have hgt : ∀ y ∈ l, y.Name ≠ w := by
        intro y hy e
        have := h'.1 y hy
        rw [wlt, e] at this
        exact hnl this
      have ha : l.any (fun y => y.Name == w && y.Exclusive) = false := by
        rw [List.any_eq_false]
        intro y hy
        simp [hgt y hy]
      rw [List.any_cons, ha, Bool.or_false, List.mem_cons, List.mem_filter]
      by_cases hx : x.Name = w
      · have e1 : (x.Name == w) = true := by simpa using hx
        rw [if_pos hx, e1, Bool.true_and]
        constructor
        · rintro (rfl | ⟨h1, h2⟩)
          · exact .inr ⟨rfl, rfl⟩
          · exact .inl ⟨by simpa using h2, h1⟩
        · rintro (⟨h1, h2⟩ | ⟨h1, h2⟩)
          · exact .inr ⟨h2, by simpa using h1⟩
          · left; cases v; simp only at h1 h2; subst h1; subst h2; rfl
      · have e1 : (x.Name == w) = false := by simpa using hx
        rw [if_neg hx, e1, Bool.false_and, Bool.or_false]
        constructor
        · rintro (rfl | ⟨h1, h2⟩)
          · exact .inr ⟨rfl, rfl⟩
          · exact .inl ⟨by simpa using h2, h1⟩
        · rintro (⟨h1, h2⟩ | ⟨h1, h2⟩)
          · exact .inr ⟨h2, by simpa using h1⟩
          · left; cases v; simp only at h1 h2; subst h1; subst h2; rfl
theorem insr_asc (w : List UInt8) (e : Bool) : ∀ {l : List TWant}, l.Pairwise wlt → (insr w e l).Pairwise wlt
  | [], _ => by simp [insr]
  | x :: l, h => by
    have h' := List.pairwise_cons.1 h
    have ih := insr_asc w e h'.2
    simp only [insr]
    split
    · rename_i hlt
      refine List.pairwise_cons.2 ⟨fun v hv => ?_, ih⟩
      rcases (insr_mem w e h'.2 v).1 hv with ⟨_, h1⟩ | ⟨h1, _⟩
      · exact h'.1 v h1
      · rw [wlt, h1]; exact hlt
    · rename_i hnl
      refine List.pairwise_cons.2 ⟨fun v hv => ?_, h.filter _⟩
      rw [List.mem_filter] at hv
      have hne : v.Name ≠ w := by simpa using hv.2
      have hxw : x.Name = w ∨ Op.bytesLess w x.Name = true := by
        rcases bl_total x.Name w with h1 | h1 | h1
        · exact absurd h1 hnl
        · exact .inl h1
        · exact .inr h1
      rcases List.mem_cons.1 hv.1 with rfl | hm
      · rcases hxw with h1 | h1
        · exact absurd h1 hne
        · exact h1
      · have := h'.1 v hm
        rcases hxw with h1 | h1
        · rw [wlt, ← h1]; exact this
        · exact bl_trans h1 this
theorem isNF_nil : isNF [] [] := ⟨List.Pairwise.nil, by simp⟩
theorem isNF_snoc {l r : List TWant} (h : isNF l r) (w : TWant) : isNF (l ++ [w]) (insr w.Name w.Exclusive r) := by
  refine ⟨insr_asc _ _ h.1, fun v => ?_⟩
  rw [insr_mem _ _ h.1 v, List.any_append]
  simp only [List.any_cons, List.any_nil, Bool.or_false, List.mem_append, List.mem_singleton]
  have key : r.any (fun x => x.Name == w.Name && x.Exclusive) = l.any (fun x => x.Name == w.Name && x.Exclusive) := by
    rw [Bool.eq_iff_iff, List.any_eq_true, List.any_eq_true]
    simp only [Bool.and_eq_true, beq_iff_eq]
    constructor
    · rintro ⟨x, hx, h1, h2⟩
      have := ((h.2 x).1 hx).2
      rw [h2] at this
      obtain ⟨y, hy, h3⟩ := List.any_eq_true.1 this.symm
      simp only [Bool.and_eq_true, beq_iff_eq] at h3
      exact ⟨y, hy, h3.1.trans h1, h3.2⟩
    · rintro ⟨y, hy, h1, h2⟩
      refine ⟨⟨w.Name, true⟩, (h.2 _).2 ⟨⟨y, hy, h1⟩, ?_⟩, rfl, rfl⟩
      exact (List.any_eq_true.2 ⟨y, hy, by simp [h1, h2]⟩).symm
  rw [key]
  by_cases hv : v.Name = w.Name
  · have e1 : (w.Name == v.Name) = true := by simp [hv]
    simp only [hv, ne_eq, not_true_eq_false, false_and, true_and, false_or, beq_self_eq_true, Bool.true_and]
    rw [Bool.or_comm w.Exclusive]
    constructor
    · intro h1; exact ⟨⟨w, .inr rfl, rfl⟩, h1⟩
    · exact fun h1 => h1.2
  · have e1 : (w.Name == v.Name) = false := by simpa using fun e => hv e.symm
    simp only [hv, ne_eq, not_false_eq_true, true_and, false_and, or_false, e1, Bool.false_and, Bool.or_false]
    rw [h.2 v]
    constructor
    · rintro ⟨⟨x, hx, h1⟩, h2⟩; exact ⟨⟨x, .inl hx, h1⟩, h2⟩
    · rintro ⟨⟨x, hx | rfl, h1⟩, h2⟩
      · exact ⟨⟨x, hx, h1⟩, h2⟩
      · exact absurd h1.symm hv
theorem nf_isNF (l : List TWant) : isNF l (nf l) := by
  have key : ∀ (l p r : List TWant), isNF p r → isNF (p ++ l) (l.foldl (fun r w => insr w.Name w.Exclusive r) r) := by
    intro l
    induction l with
    | nil => intro p r h; simpa using h
    | cons w l ih =>
      intro p r h
      have := ih (p ++ [w]) _ (isNF_snoc h w)
      simpa using this
  exact key l [] [] isNF_nil
def nmap (l : List TWant) : List (List UInt8 × Bool) := l.foldl (fun m w => tset w.Name (if ((tget w.Name m).getD default) = true then true else w.Exclusive) m) []
theorem tset_keys {K V : Type} [BEq K] [LawfulBEq K] (k : K) (v : V) : ∀ m : List (K × V), (tset k v m).map (·.1) = if k ∈ m.map (·.1) then m.map (·.1) else m.map (·.1) ++ [k]
  | [] => by simp [tset]
  | (a, b) :: m => by
    simp only [tset]
    by_cases h : k = a
    · subst h; simp
    · have h1 : (k == a) = false := by simpa using h
      have ih := tset_keys k v m
      simp only [h1, Bool.false_eq_true, if_false, List.map_cons, ih, List.mem_cons, h, false_or]
      split <;> simp
theorem tget_mem {K V : Type} [BEq K] [LawfulBEq K] {k : K} {v : V} : ∀ {m : List (K × V)}, (m.map (·.1)).Nodup → ((k, v) ∈ m ↔ tget k m = some v)
  | [], _ => by simp [tget]
  | (a, b) :: m, h => by
    simp only [List.map_cons, List.nodup_cons] at h
    have ih := tget_mem (k := k) (v := v) h.2
    simp only [tget, List.mem_cons, Prod.mk.injEq]
    by_cases hk : k = a
    · subst hk
      simp only [beq_self_eq_true, if_true, Option.some.injEq, true_and]
      constructor
      · rintro (rfl | h1)
        · rfl
        · exact absurd (List.mem_map_of_mem (f := (·.1)) h1) h.1
      · rintro rfl; exact .inl rfl
    · have h1 : (k == a) = false := by simpa using hk
      simp [h1, hk, ih]
structure MapOf (l : List TWant) (m : List (List UInt8 × Bool)) : Prop where
  nd : (m.map (·.1)).Nodup
  at_ : ∀ s, tget s m = if l.any (fun x => x.Name == s) = true then some (l.any (fun x => x.Name == s && x.Exclusive)) else none
theorem mapOf_snoc {l : List TWant} {m : List (List UInt8 × Bool)} (h : MapOf l m) (w : TWant) : MapOf (l ++ [w]) (tset w.Name (if ((tget w.Name m).getD default) = true then true else w.Exclusive) m) := by
  constructor
  · rw [tset_keys]
    split
    · exact h.nd
    · rename_i hn
      rw [List.nodup_append]
      refine ⟨h.nd, by simp, ?_⟩
      intro a ha b hb
      simp only [List.mem_singleton] at hb
      subst hb
      rintro rfl; exact hn ha
  · intro s
    rw [tget_tset, List.any_append, List.any_append, h.at_ s, h.at_ w.Name]
    simp only [List.any_cons, List.any_nil, Bool.or_false]
    by_cases hs : s = w.Name
    · subst hs
      simp only [beq_self_eq_true, if_true, Bool.or_true, Bool.true_and, Option.some.injEq]
      by_cases h1 : l.any (fun x => x.Name == w.Name) = true
      · simp only [h1, if_true, Option.getD_some, ite_tt']
      · have h2 : l.any (fun x => x.Name == w.Name && x.Exclusive) = false := by
          rw [Bool.not_eq_true, List.any_eq_false] at h1
          rw [List.any_eq_false]
          intro x hx
          have := h1 x hx
          simp only [Bool.not_eq_true] at this
          simp [this]
        simp [h1, h2]
    · have e1 : (s == w.Name) = false := by simpa using hs
      have e2 : (w.Name == s) = false := by simpa using fun e => hs e.symm
      simp only [e1, e2, Bool.false_eq_true, if_false, Bool.or_false, Bool.false_and]
where ite_tt' : ∀ {p q : Bool}, (if p = true then true else q) = (p || q) := by intro p q; cases p <;> simp
theorem nmap_of (l : List TWant) : MapOf l (nmap l) := by
  have key : ∀ (l p : List TWant) (m : List (List UInt8 × Bool)), MapOf p m → MapOf (p ++ l) (l.foldl (fun m w => tset w.Name (if ((tget w.Name m).getD default) = true then true else w.Exclusive) m) m) := by
    intro l
    induction l with
    | nil => intro p m h; simpa using h
    | cons w l ih =>
      intro p m h
      have := ih (p ++ [w]) _ (mapOf_snoc h w)
      simpa using this
  exact key l [] [] ⟨by simp, by simp [tget]⟩
theorem tset_len {K V : Type} [BEq K] (k : K) (v : V) : ∀ m : List (K × V), (tset k v m).length ≤ m.length + 1
  | [] => by simp [tset]
  | (a, b) :: m => by
    simp only [tset]
    split
    · simp
    · have := tset_len k v m; simp only [List.length_cons]; omega
theorem nmap_len (l : List TWant) : (nmap l).length ≤ l.length := by
  have key : ∀ (l : List TWant) (m : List (List UInt8 × Bool)), (l.foldl (fun m w => tset w.Name (if ((tget w.Name m).getD default) = true then true else w.Exclusive) m) m).length ≤ m.length + l.length := by
    intro l
    induction l with
    | nil => intro m; simp
    | cons w l ih =>
      intro m
      rw [List.foldl_cons]
      have h1 := ih (tset w.Name (if ((tget w.Name m).getD default) = true then true else w.Exclusive) m)
      have h2 := tset_len w.Name (if ((tget w.Name m).getD default) = true then true else w.Exclusive) m
      simp only [List.length_cons]; omega
  have h := key l []
  rw [List.length_nil, Nat.zero_add] at h
  exact h
theorem sorted_isNF {l : List TWant} {m q : List (List UInt8 × Bool)} (hm : MapOf l m) (hq : q.Perm m) {r : List TWant} (hr : r.Perm (q.map fun e => (⟨e.1, e.2⟩ : TWant)))
    (hs : r.Pairwise fun x y => Op.bytesLess y.Name x.Name = false) : isNF l r := by
  have hnd : (r.map (·.Name)).Nodup := by
    have e1 : (r.map (·.Name)).Perm (m.map (·.1)) := by
      refine (hr.map _).trans ?_
      rw [List.map_map]
      exact hq.map _
    exact e1.nodup_iff.2 hm.nd
  constructor
  · have h2 : r.Pairwise fun x y => x.Name ≠ y.Name := by
      rw [List.Nodup, List.pairwise_map] at hnd; exact hnd
    refine (hs.and h2).imp fun {a b} h => ?_
    rcases bl_total a.Name b.Name with h1 | h1 | h1
    · exact h1
    · exact absurd h1 h.2
    · rw [h.1] at h1; cases h1
  · intro v
    rw [hr.mem_iff, List.mem_map]
    have : (∃ a ∈ q, (⟨a.1, a.2⟩ : TWant) = v) ↔ (v.Name, v.Exclusive) ∈ m := by
      rw [← hq.mem_iff]
      constructor
      · rintro ⟨⟨a, b⟩, h1, rfl⟩; exact h1
      · intro h1; exact ⟨_, h1, rfl⟩
    rw [this, tget_mem hm.nd, hm.at_]
    by_cases h1 : l.any (fun x => x.Name == v.Name) = true
    · rw [if_pos h1, Option.some.injEq]
      have h2 : ∃ x ∈ l, x.Name = v.Name := by simpa using h1
      exact ⟨fun h => ⟨h2, h.symm⟩, fun h => h.2.symm⟩
    · rw [if_neg h1]
      have h2 : ¬ ∃ x ∈ l, x.Name = v.Name := by simpa using h1
      exact ⟨fun h => (nomatch h), fun h => absurd h.1 h2⟩
end Go.Proofs.Ytcdofkflbnpjjaa
/-
  ch. 37: plain laws. Both normalizations give the normal form.
-/
set_option maxHeartbeats 8000000
set_option linter.unusedVariables false
set_option linter.unusedSimpArgs false
set_option maxRecDepth 100000
namespace Go.Proofs.Ytcdofkflbnpjjaa
open Go.AE Go.Sort
theorem cmpS_neg (x y : List UInt8) : cmpS x y < 0 ↔ Op.bytesLess x y = true := by
  unfold cmpS
  by_cases h : Op.bytesLess x y = true
  · simp [h]
  · by_cases h2 : x = y
    · subst h2; simp [bl_irrefl]
    · simp [h, h2]
theorem swo_cmpS : SWO (Go.Proofs.ltOf fun (x y : TWant) => cmpS x.Name y.Name) := by
  have e : ∀ x y : TWant, Go.Proofs.ltOf (fun (x y : TWant) => cmpS x.Name y.Name) x y = Op.bytesLess x.Name y.Name := by
    intro x y
    rw [Go.Proofs.ltOf, Bool.eq_iff_iff, decide_eq_true_eq]; exact cmpS_neg _ _
  constructor
  · intro x; rw [e]; exact bl_irrefl _
  · intro x y z; rw [e, e, e]; exact bl_trans
  · intro x y z; rw [e, e, e]
    intro h1 h2
    cases h3 : Op.bytesLess x.Name z.Name with
    | false => rfl
    | true =>
      rcases bl_total y.Name x.Name with h | h | h
      · rw [bl_trans h h3] at h2; cases h2
      · rw [h, h3] at h2; cases h2
      · rw [h] at h1; cases h1
theorem norm_loopE (n : Nat) : ∀ (q : List (List UInt8 × Bool)) (out : List TWant) (m : Nat), q.length < m → out.length + q.length ≤ 2147483648 →
    loopE (fun (x : List TWant) oo => enqueue_normalize_b3 n x oo) m out q = some (out ++ q.map fun e => (⟨e.1, e.2⟩ : TWant))
  | [], out, m, hm, _ => by
    obtain ⟨m, rfl⟩ : ∃ k, m = k + 1 := ⟨m - 1, by simp at hm; omega⟩
    simp [loopE, enqueue_normalize_b3]
  | e :: q, out, m, hm, hl => by
    obtain ⟨m, rfl⟩ : ∃ k, m = k + 1 := ⟨m - 1, by simp at hm; omega⟩
    simp only [List.length_cons] at hm hl
    have ih := norm_loopE n q (out ++ [(⟨e.1, e.2⟩ : TWant)]) m (by omega) (by simp; omega)
    have hb : enqueue_normalize_b3 n out (some e) = some (.inl (out ++ [(⟨e.1, e.2⟩ : TWant)])) := by
      simp only [enqueue_normalize_b3]
      rw [gd_pos _ (by omega)]
    simp only [loopE, hb]
    rw [ih]; simp
theorem normalize_eq (n : Nat) (l : List TWant) (hl : l.length ≤ B0) (hn : N0 ≤ n) : enqueue_normalize n l = some (nf l) := by
  unfold N0 at hn; unfold B0 at hl
  have h1 := loop_list (body := fun (x : (List (List UInt8 × Bool)) × Int) => enqueue_normalize_b4 n l (l.length : Int) x.1 x.2) l (fun k s => (s, (k : Int)))
    (fun m (w : TWant) => .inl (tset w.Name (if ((tget w.Name m).getD default) = true then true else w.Exclusive) m)) (fun s => s) (fun _ _ => True) (s := []) trivial
    (fun k hk s _ => by
      have hd : decide ((k : Int) < (l.length : Int)) = true := by simp; omega
      simp only [enqueue_normalize_b4, hd, cond_true, Int.toNat_natCast, succ_w (show k < 4194304 by omega)]
      rw [gd_pos _ (by omega), gt_lt hk])
    (fun _ _ _ _ _ _ => trivial) (fun s _ => by simp [enqueue_normalize_b4]) (n := n) (by omega)
  have e : ∀ (l : List TWant) (s : List (List UInt8 × Bool)), runL (fun m (w : TWant) => (.inl (tset w.Name (if ((tget w.Name m).getD default) = true then true else w.Exclusive) m) : List (List UInt8 × Bool) ⊕ List (List UInt8 × Bool))) (fun s => s) l s = l.foldl (fun m w => tset w.Name (if ((tget w.Name m).getD default) = true then true else w.Exclusive) m) s := by
    intro l
    induction l with
    | nil => intro s; rfl
    | cons a l ih => intro s; simp only [runL, List.foldl_cons]; exact ih _
  rw [e] at h1
  have hml := nmap_len l
  have h2 : enqueue_normalize_k1 n (nmap l) = some (nf l) := by
    rw [enqueue_normalize_k1]
    refine allP_eq fun q hq => ?_
    have hql : q.length ≤ l.length := by rw [hq.length_eq]; exact hml
    rw [norm_loopE n q [] n (by omega) (by simp; omega), Option.bind_some, List.nil_append]
    obtain ⟨r, hr1, hr2, hr3⟩ := sortG_eq (f := fun x y => enqueue_normalize_1 n x y) (c := fun (x y : TWant) => cmpS x.Name y.Name) (l := q.map fun e => (⟨e.1, e.2⟩ : TWant)) (fun _ _ _ _ => rfl) swo_cmpS
    rw [enqueue_normalize_k2, slices_SortFunc_f67_c68, hr1, Option.bind_some]
    have hlen : (q.map fun e => (⟨e.1, e.2⟩ : TWant)).length = r.length := hr2.length_eq.symm
    rw [hlen, List.take_length]
    congr 1
    refine isNF_uniq (sorted_isNF (nmap_of l) hq hr2 ?_) (nf_isNF l)
    refine hr3.imp fun {a b} h => ?_
    rw [cmpS_neg] at h
    simpa using h
  rw [enqueue_normalize]
  exact (congrArg (fun o => Option.bind o _) h1).trans h2
def stepW (w : TWant) (s : Bool × List TWant × Bool) (x : TWant) : Bool × List TWant × Bool :=
  let s1 : Bool × List TWant × Bool := if (!s.2.2 && !Op.bytesLess x.Name w.Name) = true then
    ((if (x.Name == w.Name) = true then (s.1 || x.Exclusive) else s.1), s.2.1 ++ [⟨w.Name, (if (x.Name == w.Name) = true then (s.1 || x.Exclusive) else s.1)⟩], true) else s
  if (x.Name != w.Name) = true then (s1.1, s1.2.1 ++ [x], s1.2.2) else s1
end Go.Proofs.Ytcdofkflbnpjjaa
/-
  ch. 37: plain laws. Ask and Release, of the program and of the reference.
-/
set_option maxHeartbeats 8000000
set_option linter.unusedVariables false
set_option linter.unusedSimpArgs false
set_option maxRecDepth 100000
namespace Go.Proofs.Ytcdofkflbnpjjaa
open Go.AE
def tb (K : Nat) (t : TTable) : Prop := t.Held.length + t.Waiting.length ≤ K ∧ ∀ q, q ∈ t.Held ∨ q ∈ t.Waiting → q.Wants.length ≤ 512
theorem tb_small {K : Nat} {t : TTable} (h : tb K t) (hK : K ≤ 1000) : small t := by
  have h1 := h.1
  refine ⟨⟨by unfold B0; omega, fun q hq => ?_⟩, ⟨by unfold B0; omega, fun q hq => ?_⟩⟩
  · have := h.2 q (.inl hq); unfold B0; omega
  · have := h.2 q (.inr hq); unfold B0; omega
theorem tb_mono {K L : Nat} {t : TTable} (h : tb K t) (hK : K ≤ L) : tb L t := ⟨by have := h.1; omega, h.2⟩
def askM (t : TTable) (job : Int) (wants : List TWant) : TTable × Bool × Int :=
  if vld t = false then (⟨[], []⟩, false, 5) else
  if (jobs t.Held job || jobs t.Waiting job) = true then (⟨[], []⟩, false, 4) else
  if (nf wants).length > 512 then (⟨[], []⟩, false, 2) else
  if (blk (nf wants) t.Held || blk (nf wants) t.Waiting) = true then (⟨t.Held, t.Waiting ++ [⟨job, nf wants⟩]⟩, false, 0) else (⟨t.Held ++ [⟨job, nf wants⟩], t.Waiting⟩, true, 0)
theorem Ask_eq (n : Nat) (t : TTable) (job : Int) (wants : List TWant) (ht : small t) (hw : wants.length ≤ B0) (hn : N0 ≤ n) : enqueue_Ask n t job wants = some (askM t job wants) := by
  have hf := nf_len wants
  have hB : (nf wants).length ≤ B0 := by omega
  have h1 := ht.1.1; have h2 := ht.2.1
  have g1 : t.Held.length + 1 ≤ 2147483648 := by unfold B0 at h1; omega
  have g2 : t.Waiting.length + 1 ≤ 2147483648 := by unfold B0 at h2; omega
  simp only [enqueue_Ask, Check_eq n t ht hn, Option.bind_some, index_eq n _ _ ht.1.1 hn, index_eq n _ _ ht.2.1 hn, normalize_eq n wants hw hn, tcopied_eq n t ht hn, blocked_eq n (⟨job, nf wants⟩ : TRequest) _ hB ht.1 hn, blocked_eq n (⟨job, nf wants⟩ : TRequest) _ hB ht.2 hn, Option.getD_some, ixI_ge, Option.isSome_some, implies_true, gd_pos, g1, g2, bif_ite, ite_tt, askM]
  cases hv : vld t with
  | false => simp
  | true =>
    simp only [if_true, Bool.true_eq_false, if_false, bne_self_eq_false, Bool.false_eq_true]
    split
    · rfl
    · have e : (decide (((nf wants).length : Int) > 512)) = decide ((nf wants).length > 512) := by
        rw [Bool.eq_iff_iff, decide_eq_true_eq, decide_eq_true_eq]; omega
      rw [e]
      by_cases hl : (nf wants).length > 512
      · simp [hl]
      · simp only [hl, decide_false, Bool.false_eq_true, if_false]
        split <;> rfl
def rm (l : List TRequest) (k : Nat) : List TRequest := l.take k ++ l.drop (k + 1)
def sweep : List TRequest → List TRequest → List TRequest → List Int → List TRequest × List TRequest × List Int
  | [], H, W, J => (H, W, J)
  | q :: l, H, W, J => if (blk q.Wants H || blk q.Wants W) = true then sweep l H (W ++ [q]) J else sweep l (H ++ [q]) W (J ++ [q.Job])
def relM (t : TTable) (job : Int) : TTable × List Int × Int :=
  if vld t = false then (⟨[], []⟩, [], 5) else
  match ix t.Held job with
  | some k => let s := sweep t.Waiting (rm t.Held k) [] []; (⟨s.1, s.2.1⟩, s.2.2, 0)
  | none => match ix t.Waiting job with
    | some k => let s := sweep (rm t.Waiting k) t.Held [] []; (⟨s.1, s.2.1⟩, s.2.2, 0)
    | none => (⟨[], []⟩, [], 3)
theorem ix_lt {l : List TRequest} {j : Int} {k : Nat} (h : ix l j = some k) : k < l.length := by
  have := List.mem_of_find?_eq_some h
  simpa using this
theorem rm_len {l : List TRequest} {k : Nat} (h : k < l.length) : (rm l k).length + 1 = l.length := by
  simp only [rm, List.length_append, List.length_take, List.length_drop]; omega
theorem rm_mem {l : List TRequest} {k : Nat} {q : TRequest} (h : q ∈ rm l k) : q ∈ l := by
  rcases List.mem_append.1 h with h | h
  · exact List.mem_of_mem_take h
  · exact List.mem_of_mem_drop h
theorem sweep_len : ∀ (l H W : List TRequest) (J : List Int), (sweep l H W J).1.length + (sweep l H W J).2.1.length = H.length + W.length + l.length ∧ (sweep l H W J).2.2.length ≤ J.length + l.length
  | [], H, W, J => by simp [sweep]
  | q :: l, H, W, J => by
    simp only [sweep]
    split
    · have := sweep_len l H (W ++ [q]) J
      simp only [List.length_append, List.length_cons, List.length_nil] at this ⊢; omega
    · have := sweep_len l (H ++ [q]) W (J ++ [q.Job])
      simp only [List.length_append, List.length_cons, List.length_nil] at this ⊢; omega
theorem sweep_mem : ∀ (l H W : List TRequest) (J : List Int) (q : TRequest), (q ∈ (sweep l H W J).1 ∨ q ∈ (sweep l H W J).2.1) ↔ (q ∈ H ∨ q ∈ W ∨ q ∈ l)
  | [], H, W, J, q => by simp [sweep]
  | x :: l, H, W, J, q => by
    simp only [sweep]
    split
    · rw [sweep_mem l H (W ++ [x]) J q]; simp only [List.mem_append, List.mem_singleton, List.mem_cons]; grind
    · rw [sweep_mem l (H ++ [x]) W _ q]; simp only [List.mem_append, List.mem_singleton, List.mem_cons]; grind
theorem over_take (l : List TRequest) (k : Nat) (h : k < l.length) (z : List TRequest) : (overL (overL l k (l.drop (k + 1))) (l.length - 1) z).take (l.length - 1) = rm l k := by
  have h1 : overL l k (l.drop (k + 1)) = rm l k ++ l.drop (l.length - 1) := by
    rw [overL_pos (by rw [List.length_drop]; omega), List.length_drop, rm]
    congr 2; omega
  have hl : (rm l k).length = l.length - 1 := by have := rm_len h; omega
  have h2 : (overL l k (l.drop (k + 1))).take (l.length - 1) = rm l k := by rw [h1, ← hl, List.take_left]
  have hlen : (overL l k (l.drop (k + 1))).length = l.length := overL_len _ _ _
  by_cases hz : l.length - 1 + z.length ≤ (overL l k (l.drop (k + 1))).length
  · rw [overL_pos hz, List.append_assoc, List.take_append_of_le_length (by rw [List.length_take]; omega), List.take_take, Nat.min_self, h2]
  · rw [overL, if_neg hz, h2]
theorem Delete_eq (n : Nat) (l : List TRequest) (k : Nat) (h : k < l.length) (hl : l.length ≤ B0) :
    ∃ X, slices_Delete_f36_M1 n l (k : Int) (IntKind.wrap .i64 ((k : Int) + 1)) = some (l.length - 1, X) ∧ X.take (l.length - 1) = rm l k ∧ X.length = l.length := by
  unfold B0 at hl
  have e1 : Int.toNat ((k : Int) - 0) = k := by omega
  have e2 : Int.toNat (((k + 1 : Nat)) : Int) = k + 1 := by omega
  have e3 : List.take (Int.toNat ((l.length : Int) - ((k + 1 : Nat) : Int))) (List.drop (k + 1) l) = List.drop (k + 1) l := by
    rw [List.take_of_length_le]; rw [List.length_drop]; omega
  have e4 : k + (List.drop (k + 1) l).length = l.length - 1 := by rw [List.length_drop]; omega
  have e5 : Int.toNat (((l.length : Nat) : Int) - ((l.length - 1 : Nat) : Int)) = 1 := by omega
  have e6 : ((k : Int) == ((k + 1 : Nat) : Int)) = false := by
    rw [beq_eq_false_iff_ne]; omega
  refine ⟨_, ?_, over_take l k h (zreps 1 (⟨0, []⟩ : TRequest)), by rw [overL_len, overL_len]⟩
  simp only [slices_Delete_f36_M1, succ_w (show k < 4194304 by omega), e1, e2, e3, e4, e5, e6, cond_false]
  rw [gd_pos _ (by omega), gd_pos _ (by omega), gd_pos _ (by omega)]
def relF (s : List TRequest × Nat × List TRequest × List Int) (q : TRequest) : List TRequest × Nat × List TRequest × List Int :=
  if (blk q.Wants (s.1.take s.2.1) || blk q.Wants s.2.2.1) = true then (s.1, s.2.1, s.2.2.1 ++ [q], s.2.2.2) else (s.1.take s.2.1 ++ [q], s.2.1 + 1, s.2.2.1, s.2.2.2 ++ [q.Job])
theorem relF_sweep : ∀ (l : List TRequest) (s : List TRequest × Nat × List TRequest × List Int), s.2.1 ≤ s.1.length →
    let r := l.foldl relF s
    (r.1.take r.2.1, r.2.2.1, r.2.2.2) = sweep l (s.1.take s.2.1) s.2.2.1 s.2.2.2
  | [], s, _ => rfl
  | q :: l, (a, m, w, j), h => by
    simp only at h
    simp only [List.foldl_cons, sweep, relF]
    split
    · exact relF_sweep l (a, m, w ++ [q], j) h
    · have e : (a.take m ++ [q]).take (m + 1) = a.take m ++ [q] := by
        rw [List.take_of_length_le]; simp; omega
      have := relF_sweep l (a.take m ++ [q], m + 1, w, j ++ [q.Job]) (by simp; omega)
      simp only [e] at this
      exact this
theorem k1_eq (n : Nat) (H : List TRequest) (h0 : Nat) (W : List TRequest) (w0 : Nat) (hh : h0 ≤ H.length) (hw : w0 ≤ W.length) (hs : h0 + w0 ≤ 1000)
    (hfH : ∀ q ∈ H.take h0, q.Wants.length ≤ 512) (hfW : ∀ q ∈ W.take w0, q.Wants.length ≤ 512) (hn : N0 ≤ n) :
    enqueue_Release_k1 n H h0 W w0 = some (let s := sweep (W.take w0) (H.take h0) [] []; (⟨s.1, s.2.1⟩, s.2.2, 0)) := by
  have hn' := hn
  unfold N0 at hn'
  have hlen : (W.take w0).length = w0 := by rw [List.length_take]; omega
  have hg : ∀ k, k < w0 → gt W k = gt (W.take w0) k := by
    intro k hk
    rw [gt_lt (by first | omega | (dsimp only; omega) | (simp only [List.length_append, List.length_cons, List.length_nil]; omega) | (dsimp only; simp only [List.length_append, List.length_cons, List.length_nil]; omega) | (simp; omega)), gt_lt (by first | omega | (dsimp only; omega) | (simp only [List.length_append, List.length_cons, List.length_nil]; omega) | (dsimp only; simp only [List.length_append, List.length_cons, List.length_nil]; omega) | (simp; omega)), List.getElem_take]
  have h1 := loop_list (body := fun (x : (List TRequest) × Nat × (List TRequest) × (List Int) × Nat × Int) => enqueue_Release_b3 n W ((w0 : Nat) : Int) x.1 x.2.1 x.2.2.1 x.2.2.2.1 x.2.2.2.2.1 x.2.2.2.2.2) (W.take w0)
    (fun k (s : List TRequest × Nat × List TRequest × List Int) => (s.1, s.2.1, s.2.2.1, s.2.2.2, w0, (k : Int))) (fun s q => .inl (relF s q)) (fun s => s)
    (fun k s => s.2.1 ≤ s.1.length ∧ s.2.1 ≤ h0 + k ∧ s.2.2.1.length ≤ k ∧ s.2.2.2.length ≤ k ∧ (∀ q ∈ s.1.take s.2.1, q.Wants.length ≤ 512) ∧ ∀ q ∈ s.2.2.1, q.Wants.length ≤ 512)
    (s := (H, h0, [], [])) ⟨hh, by first | omega | (dsimp only; omega) | (simp only [List.length_append, List.length_cons, List.length_nil]; omega) | (dsimp only; simp only [List.length_append, List.length_cons, List.length_nil]; omega) | (simp; omega), by simp, by simp, hfH, by simp⟩
    (fun k hk s hi => by
      obtain ⟨a, m, w, j⟩ := s
      obtain ⟨i1, i2, i3, i4, i5, i6⟩ := hi
      simp only at i1 i2 i3 i4 i5 i6
      have hk' : k < w0 := by first | omega | (dsimp only; omega) | (simp only [List.length_append, List.length_cons, List.length_nil]; omega) | (dsimp only; simp only [List.length_append, List.length_cons, List.length_nil]; omega) | (simp; omega)
      have hd : decide ((k : Int) < ((w0 : Nat) : Int)) = true := by simp; omega
      have hq : (W.take w0)[k].Wants.length ≤ B0 := by have := hfW _ (List.getElem_mem hk); unfold B0; omega
      have f1 : fits (a.take m) := ⟨by rw [List.length_take]; unfold B0; omega, fun q hq => by have := i5 q hq; unfold B0; omega⟩
      have f2 : fits w := ⟨by unfold B0; omega, fun q hq => by have := i6 q hq; unfold B0; omega⟩
      simp only [enqueue_Release_b3, hd, cond_true, if_true, Int.toNat_natCast, hg k hk', gt_lt hk, blocked_eq n _ _ hq f1 hn, blocked_eq n _ _ hq f2 hn, Option.bind_some, Option.getD_some, ite_tt, bif_ite]
      rw [gd_pos _ (by first | omega | (dsimp only; omega) | (simp only [List.length_append, List.length_cons, List.length_nil]; omega) | (dsimp only; simp only [List.length_append, List.length_cons, List.length_nil]; omega) | (simp; omega)), gd_pos _ (by intro _; rfl)]
      simp only [relF]
      split
      · rw [gd_pos _ (by first | omega | (dsimp only; omega) | (simp only [List.length_append, List.length_cons, List.length_nil]; omega) | (dsimp only; simp only [List.length_append, List.length_cons, List.length_nil]; omega) | (simp; omega))]
        simp only [enqueue_Release_k4, succ_w (show k < 4194304 by first | omega | (dsimp only; omega) | (simp only [List.length_append, List.length_cons, List.length_nil]; omega) | (dsimp only; simp only [List.length_append, List.length_cons, List.length_nil]; omega) | (simp; omega))]
      · rw [gd_pos _ (by first | omega | (dsimp only; omega) | (simp only [List.length_append, List.length_cons, List.length_nil]; omega) | (dsimp only; simp only [List.length_append, List.length_cons, List.length_nil]; omega) | (simp; omega)), gd_pos _ (by first | omega | (dsimp only; omega) | (simp only [List.length_append, List.length_cons, List.length_nil]; omega) | (dsimp only; simp only [List.length_append, List.length_cons, List.length_nil]; omega) | (simp; omega))]
        simp only [enqueue_Release_k4, succ_w (show k < 4194304 by first | omega | (dsimp only; omega) | (simp only [List.length_append, List.length_cons, List.length_nil]; omega) | (dsimp only; simp only [List.length_append, List.length_cons, List.length_nil]; omega) | (simp; omega))])
    (fun k hk s hi s' hs => by
      cases hs
      obtain ⟨a, m, w, j⟩ := s
      obtain ⟨i1, i2, i3, i4, i5, i6⟩ := hi
      simp only at i1 i2 i3 i4 i5 i6
      have hq := hfW _ (List.getElem_mem hk)
      simp only [relF]
      split
      · refine ⟨i1, by first | omega | (dsimp only; omega) | (simp only [List.length_append, List.length_cons, List.length_nil]; omega) | (dsimp only; simp only [List.length_append, List.length_cons, List.length_nil]; omega) | (simp; omega), by first | omega | (dsimp only; omega) | (simp only [List.length_append, List.length_cons, List.length_nil]; omega) | (dsimp only; simp only [List.length_append, List.length_cons, List.length_nil]; omega) | (simp; omega), by first | omega | (dsimp only; omega) | (simp only [List.length_append, List.length_cons, List.length_nil]; omega) | (dsimp only; simp only [List.length_append, List.length_cons, List.length_nil]; omega) | (simp; omega), i5, fun q h => ?_⟩
        rcases List.mem_append.1 h with h | h
        · exact i6 q h
        · rw [List.mem_singleton] at h; subst h; exact hq
      · refine ⟨by first | omega | (dsimp only; omega) | (simp only [List.length_append, List.length_cons, List.length_nil]; omega) | (dsimp only; simp only [List.length_append, List.length_cons, List.length_nil]; omega) | (simp; omega), by first | omega | (dsimp only; omega) | (simp only [List.length_append, List.length_cons, List.length_nil]; omega) | (dsimp only; simp only [List.length_append, List.length_cons, List.length_nil]; omega) | (simp; omega), by first | omega | (dsimp only; omega) | (simp only [List.length_append, List.length_cons, List.length_nil]; omega) | (dsimp only; simp only [List.length_append, List.length_cons, List.length_nil]; omega) | (simp; omega), by first | omega | (dsimp only; omega) | (simp only [List.length_append, List.length_cons, List.length_nil]; omega) | (dsimp only; simp only [List.length_append, List.length_cons, List.length_nil]; omega) | (simp; omega), fun q h => ?_, i6⟩
        have h := List.mem_of_mem_take h
        rcases List.mem_append.1 h with h | h
        · exact i5 q h
        · rw [List.mem_singleton] at h; subst h; exact hq)
    (fun s _ => by simp [enqueue_Release_b3, hlen]) (n := n) (by first | omega | (dsimp only; omega) | (simp only [List.length_append, List.length_cons, List.length_nil]; omega) | (dsimp only; simp only [List.length_append, List.length_cons, List.length_nil]; omega) | (simp; omega))
  have e : ∀ (l : List TRequest) (s : List TRequest × Nat × List TRequest × List Int), runL (fun s q => (.inl (relF s q) : (List TRequest × Nat × List TRequest × List Int) ⊕ (List TRequest × Nat × List TRequest × List Int))) (fun s => s) l s = l.foldl relF s := by
    intro l
    induction l with
    | nil => intro s; rfl
    | cons a l ih => intro s; simp only [runL, List.foldl_cons]; exact ih _
  rw [e] at h1
  have h2 := relF_sweep (W.take w0) (H, h0, [], []) hh
  simp only at h2
  rw [enqueue_Release_k1]
  refine (congrArg (fun o => Option.bind o _) h1).trans ?_
  rw [Option.bind_some, enqueue_Release_k2, ← h2]
theorem Release_eq (n : Nat) (t : TTable) (job : Int) (ht : tb 1000 t) (hn : N0 ≤ n) : enqueue_Release n t job = some (relM t job) := by
  have hs := tb_small ht (Nat.le_refl _)
  have hlen := ht.1
  simp only [enqueue_Release, Check_eq n t hs hn, tcopied_eq n t hs hn, index_eq n _ _ hs.1.1 hn, index_eq n _ _ hs.2.1 hn, Option.bind_some, relM, bif_ite]
  cases hv : vld t with
  | false => simp
  | true =>
    simp only [if_true, Bool.true_eq_false, if_false, bne_self_eq_false, Bool.false_eq_true]
    cases h1 : ix t.Held job with
    | some k =>
      have hI : ixI t.Held job = (k : Int) := by rw [ixI, h1]
      have hk := ix_lt h1
      obtain ⟨X, e1, e2, e3⟩ := Delete_eq n t.Held k hk hs.1.1
      have hge : decide ((k : Int) ≥ 0) = true := by simp
      simp only [hI, hge, if_true, e1, Option.bind_some]
      rw [k1_eq n X (t.Held.length - 1) t.Waiting t.Waiting.length (by first | omega | (dsimp only; omega) | (simp only [List.length_append, List.length_cons, List.length_nil]; omega) | (dsimp only; simp only [List.length_append, List.length_cons, List.length_nil]; omega) | (simp; omega)) (Nat.le_refl _) (by first | omega | (dsimp only; omega) | (simp only [List.length_append, List.length_cons, List.length_nil]; omega) | (dsimp only; simp only [List.length_append, List.length_cons, List.length_nil]; omega) | (simp; omega)) (fun q hq => by rw [e2] at hq; exact ht.2 q (.inl (rm_mem hq))) (fun q hq => ht.2 q (.inr (List.mem_of_mem_take hq))) hn]
      rw [e2, List.take_length]
    | none =>
      have hI : ixI t.Held job = -1 := by rw [ixI, h1]
      have hge : decide ((-1 : Int) ≥ 0) = false := by decide
      simp only [hI, hge, Bool.false_eq_true, if_false]
      cases h2 : ix t.Waiting job with
      | some k =>
        have hI2 : ixI t.Waiting job = (k : Int) := by rw [ixI, h2]
        have hk := ix_lt h2
        obtain ⟨X, e1, e2, e3⟩ := Delete_eq n t.Waiting k hk hs.2.1
        have hge : decide ((k : Int) ≥ 0) = true := by simp
        simp only [hI2, hge, if_true, e1, Option.bind_some]
        rw [k1_eq n t.Held t.Held.length X (t.Waiting.length - 1) (Nat.le_refl _) (by first | omega | (dsimp only; omega) | (simp only [List.length_append, List.length_cons, List.length_nil]; omega) | (dsimp only; simp only [List.length_append, List.length_cons, List.length_nil]; omega) | (simp; omega)) (by first | omega | (dsimp only; omega) | (simp only [List.length_append, List.length_cons, List.length_nil]; omega) | (dsimp only; simp only [List.length_append, List.length_cons, List.length_nil]; omega) | (simp; omega)) (fun q hq => ht.2 q (.inl (List.mem_of_mem_take hq))) (fun q hq => by rw [e2] at hq; exact ht.2 q (.inr (rm_mem hq))) hn]
        rw [e2, List.take_length]
      | none =>
        have hI2 : ixI t.Waiting job = -1 := by rw [ixI, h2]
        simp only [hI2, hge, Bool.false_eq_true, if_false]
theorem without_eq (n : Nat) (l : List TRequest) (k : Nat) (h : k < l.length) (hl : l.length ≤ B0) : ref37_without n l (k : Int) = some (rm l k) := by
  unfold B0 at hl
  simp only [ref37_without, succ_w (show k < 4194304 by first | omega | (dsimp only; omega) | (simp only [List.length_append, List.length_cons, List.length_nil]; omega) | (dsimp only; simp only [List.length_append, List.length_cons, List.length_nil]; omega) | (simp; omega)), Int.toNat_natCast]
  rw [gd_pos _ (by refine ⟨by first | omega | (dsimp only; omega) | (simp only [List.length_append, List.length_cons, List.length_nil]; omega) | (dsimp only; simp only [List.length_append, List.length_cons, List.length_nil]; omega) | (simp; omega), by rw [List.length_take]; omega, by first | omega | (dsimp only; omega) | (simp only [List.length_append, List.length_cons, List.length_nil]; omega) | (dsimp only; simp only [List.length_append, List.length_cons, List.length_nil]; omega) | (simp; omega), by rw [List.length_take, List.length_drop]; omega⟩)]
  rfl
def stuck (H A : List TRequest) : Prop := ∀ k, k < A.length → (blk (gt A k).Wants H || blk (gt A k).Wants (A.take k)) = true
theorem blk_app (a : List TWant) (x y : List TRequest) : blk a (x ++ y) = (blk a x || blk a y) := by simp [blk]
theorem stuck_mono {H A : List TRequest} (h : stuck H A) (q : TRequest) : stuck (H ++ [q]) A := by
  intro k hk
  have := h k hk
  rw [blk_app]
  cases h1 : blk (gt A k).Wants H <;> simp_all
theorem stuck_snoc {H A : List TRequest} (h : stuck H A) {q : TRequest} (hq : (blk q.Wants H || blk q.Wants A) = true) : stuck H (A ++ [q]) := by
  intro k hk
  by_cases hk' : k < A.length
  · have := h k hk'
    have e1 : gt (A ++ [q]) k = gt A k := by rw [gt_lt hk, gt_lt hk', List.getElem_append_left hk']
    have e2 : (A ++ [q]).take k = A.take k := List.take_append_of_le_length (by first | omega | (dsimp only; omega) | (simp only [List.length_append, List.length_cons, List.length_nil]; omega) | (dsimp only; simp only [List.length_append, List.length_cons, List.length_nil]; omega) | (simp; omega))
    rw [e1, e2]; exact this
  · have : k = A.length := by simp at hk; omega
    subst this
    have e1 : gt (A ++ [q]) A.length = q := by rw [gt_lt hk]; simp
    rw [e1, List.take_left]; exact hq
theorem RRel_loop (n : Nat) (H W : List TRequest) (hs : H.length + W.length ≤ 1000) (hf : ∀ q, q ∈ H ∨ q ∈ W → q.Wants.length ≤ 512) (hn : N0 ≤ n) :
    ref37_Release_k1 n H W = some (let s := sweep W H [] []; (⟨s.1, s.2.1⟩, s.2.2, 0)) := by
  have hn' := hn
  unfold N0 at hn'
  obtain ⟨y, h1, h2⟩ := loopF_inv (body := fun (x : (List TRequest) × (List TRequest) × (List Int) × Int) => ref37_Release_b3 n x.1 x.2.1 x.2.2.1 x.2.2.2)
    (fun x => ∃ k m : Nat, x.2.2.2 = (k : Int) ∧ k ≤ m ∧ m ≤ x.2.1.length ∧ x.1.length + x.2.1.length ≤ 1000 ∧ x.2.2.1.length + x.2.1.length ≤ 1000 ∧ (∀ q, q ∈ x.1 ∨ q ∈ x.2.1 → q.Wants.length ≤ 512) ∧ stuck x.1 (x.2.1.take m) ∧ sweep (x.2.1.drop m) x.1 (x.2.1.take m) x.2.2.1 = sweep W H [] [])
    (fun x => x.2.1.length * 1001 + (1001 - x.2.2.2.toNat)) (fun y => y = sweep W H [] [])
    (by
      rintro ⟨a, w, j, kk⟩ ⟨k, m, rfl, i1, i2, i3, i4, i5, i6, i7⟩
      simp only at i1 i2 i3 i4 i5 i6 i7 ⊢
      by_cases hk : k < w.length
      · left
        have hd : decide ((k : Int) < (w.length : Int)) = true := by simp; omega
        have hq : w[k].Wants.length ≤ B0 := by have := i5 _ (.inr (List.getElem_mem hk)); unfold B0; omega
        have f1 : fits a := ⟨by unfold B0; omega, fun q hq => by have := i5 q (.inl hq); unfold B0; omega⟩
        have f2 : fits (w.take k) := ⟨by rw [List.length_take]; unfold B0; omega, fun q hq => by have := i5 q (.inr (List.mem_of_mem_take hq)); unfold B0; omega⟩
        have hb : ref37_Release_b3 n a w j (k : Int) = some (if (blk w[k].Wants a || blk w[k].Wants (w.take k)) = true then .inl (a, w, j, ((k + 1 : Nat) : Int)) else .inl (a ++ [w[k]], rm w k, j ++ [w[k].Job], 0)) := by
          simp only [ref37_Release_b3, hd, cond_true, if_true, Int.toNat_natCast, gt_lt hk, free_eq n _ _ hq f1 hn, free_eq n _ _ hq f2 hn, Option.bind_some, Option.getD_some, ite_ff, bif_ite, without_eq n w k hk (by unfold B0; omega)]
          rw [gd_pos _ (by first | omega | (dsimp only; omega) | (simp only [List.length_append, List.length_cons, List.length_nil]; omega) | (dsimp only; simp only [List.length_append, List.length_cons, List.length_nil]; omega) | (simp; omega)), gd_pos _ (by refine ⟨fun _ => by first | omega | (dsimp only; omega) | (simp only [List.length_append, List.length_cons, List.length_nil]; omega) | (dsimp only; simp only [List.length_append, List.length_cons, List.length_nil]; omega) | (simp; omega), fun _ => rfl⟩), gd_pos _ (by first | omega | (dsimp only; omega) | (simp only [List.length_append, List.length_cons, List.length_nil]; omega) | (dsimp only; simp only [List.length_append, List.length_cons, List.length_nil]; omega) | (simp; omega)), gd_pos _ (by first | omega | (dsimp only; omega) | (simp only [List.length_append, List.length_cons, List.length_nil]; omega) | (dsimp only; simp only [List.length_append, List.length_cons, List.length_nil]; omega) | (simp; omega))]
          simp only [ref37_Release_k4, succ_w (show k < 4194304 by first | omega | (dsimp only; omega) | (simp only [List.length_append, List.length_cons, List.length_nil]; omega) | (dsimp only; simp only [List.length_append, List.length_cons, List.length_nil]; omega) | (simp; omega))]
          cases blk w[k].Wants a <;> cases blk w[k].Wants (w.take k) <;> rfl
        rw [hb]
        by_cases hc : (blk w[k].Wants a || blk w[k].Wants (w.take k)) = true
        · rw [if_pos hc]
          refine ⟨_, rfl, ?_, by first | omega | (dsimp only; omega) | (simp only [List.length_append, List.length_cons, List.length_nil]; omega) | (dsimp only; simp only [List.length_append, List.length_cons, List.length_nil]; omega) | (simp; omega)⟩
          by_cases hkm : k < m
          · exact ⟨k + 1, m, rfl, by first | omega | (dsimp only; omega) | (simp only [List.length_append, List.length_cons, List.length_nil]; omega) | (dsimp only; simp only [List.length_append, List.length_cons, List.length_nil]; omega) | (simp; omega), i2, i3, i4, i5, i6, i7⟩
          · have : k = m := by first | omega | (dsimp only; omega) | (simp only [List.length_append, List.length_cons, List.length_nil]; omega) | (dsimp only; simp only [List.length_append, List.length_cons, List.length_nil]; omega) | (simp; omega)
            subst this
            have ht : w.take (k + 1) = w.take k ++ [w[k]] := List.take_succ_eq_append_getElem hk
            refine ⟨k + 1, k + 1, rfl, Nat.le_refl _, by first | omega | (dsimp only; omega) | (simp only [List.length_append, List.length_cons, List.length_nil]; omega) | (dsimp only; simp only [List.length_append, List.length_cons, List.length_nil]; omega) | (simp; omega), i3, i4, i5, ?_, ?_⟩
            · simp only [ht]; exact stuck_snoc i6 hc
            · simp only [ht]
              rw [List.drop_eq_getElem_cons hk] at i7
              simp only [sweep] at i7
              rw [if_pos hc] at i7
              exact i7
        · rw [if_neg hc]
          have hkm : k = m := by
            apply Classical.byContradiction
            intro hne
            have hlt : k < (w.take m).length := by rw [List.length_take]; omega
            have := i6 k hlt
            rw [gt_lt hlt, List.getElem_take, List.take_take, Nat.min_eq_left (by first | omega | (dsimp only; omega) | (simp only [List.length_append, List.length_cons, List.length_nil]; omega) | (dsimp only; simp only [List.length_append, List.length_cons, List.length_nil]; omega) | (simp; omega))] at this
            exact hc this
          subst hkm
          have hr := rm_len hk
          have hrt : (rm w k).take k = w.take k := by
            rw [rm, List.take_append_of_le_length (by rw [List.length_take]; omega), List.take_take, Nat.min_self]
          have hrd : (rm w k).drop k = w.drop (k + 1) := by
            rw [rm, List.drop_append_of_le_length (by rw [List.length_take]; omega), List.drop_eq_nil_of_le (by rw [List.length_take]; omega), List.nil_append]
          refine ⟨_, rfl, ⟨0, k, rfl, Nat.zero_le _, by first | omega | (dsimp only; omega) | (simp only [List.length_append, List.length_cons, List.length_nil]; omega) | (dsimp only; simp only [List.length_append, List.length_cons, List.length_nil]; omega) | (simp; omega), by first | omega | (dsimp only; omega) | (simp only [List.length_append, List.length_cons, List.length_nil]; omega) | (dsimp only; simp only [List.length_append, List.length_cons, List.length_nil]; omega) | (simp; omega), by first | omega | (dsimp only; omega) | (simp only [List.length_append, List.length_cons, List.length_nil]; omega) | (dsimp only; simp only [List.length_append, List.length_cons, List.length_nil]; omega) | (simp; omega), ?_, ?_, ?_⟩, by first | omega | (dsimp only; omega) | (simp only [List.length_append, List.length_cons, List.length_nil]; omega) | (dsimp only; simp only [List.length_append, List.length_cons, List.length_nil]; omega) | (simp; omega)⟩
          · rintro q (h | h)
            · rcases List.mem_append.1 h with h | h
              · exact i5 q (.inl h)
              · rw [List.mem_singleton] at h; subst h; exact i5 _ (.inr (List.getElem_mem hk))
            · exact i5 q (.inr (rm_mem h))
          · simp only [hrt]; exact stuck_mono i6 _
          · simp only [hrt, hrd]
            rw [List.drop_eq_getElem_cons hk] at i7
            simp only [sweep] at i7
            rw [if_neg hc] at i7
            exact i7
      · right
        have hd : decide ((k : Int) < (w.length : Int)) = false := by simp; omega
        refine ⟨(a, w, j), by simp only [ref37_Release_b3, hd, cond_false], ?_⟩
        have hm : m = w.length := by first | omega | (dsimp only; omega) | (simp only [List.length_append, List.length_cons, List.length_nil]; omega) | (dsimp only; simp only [List.length_append, List.length_cons, List.length_nil]; omega) | (simp; omega)
        subst hm
        rw [List.drop_length, List.take_length] at i7
        simp only [sweep] at i7
        exact i7)
    n (H, W, [], 0) ⟨0, 0, rfl, Nat.le_refl _, Nat.zero_le _, hs, by first | omega | (dsimp only; omega) | (simp only [List.length_append, List.length_cons, List.length_nil]; omega) | (dsimp only; simp only [List.length_append, List.length_cons, List.length_nil]; omega) | (simp; omega), hf, by intro k hk; simp at hk, by simp⟩ (by first | omega | (dsimp only; omega) | (simp only [List.length_append, List.length_cons, List.length_nil]; omega) | (dsimp only; simp only [List.length_append, List.length_cons, List.length_nil]; omega) | (simp; omega))
  rw [ref37_Release_k1, h1, Option.bind_some, ref37_Release_k2, h2]
theorem RRelease_eq (n : Nat) (t : TTable) (job : Int) (ht : tb 1000 t) (hn : N0 ≤ n) : ref37_Release n t job = some (relM t job) := by
  have hs := tb_small ht (Nat.le_refl _)
  have hlen := ht.1
  simp only [ref37_Release, Valid_eq n t hs hn, place_eq n _ _ hs.1.1 hn, place_eq n _ _ hs.2.1 hn, Option.bind_some, relM, bif_ite, ite_ff]
  cases hv : vld t with
  | false => simp
  | true =>
    simp only [if_true, Bool.true_eq_false, if_false, Bool.not_true, Bool.false_eq_true]
    cases h1 : ix t.Held job with
    | some k =>
      have hI : ixI t.Held job = (k : Int) := by rw [ixI, h1]
      have hk := ix_lt h1
      have hge : decide ((k : Int) ≥ 0) = true := by simp
      have hlt : decide ((k : Int) < 0) = false := by simp
      simp only [hI, hge, hlt, Bool.false_and, Bool.false_eq_true, if_false, if_true, without_eq n t.Held k hk hs.1.1, Option.bind_some]
      rw [RRel_loop n _ _ (by have := rm_len hk; omega) (by rintro q (h | h); exact ht.2 q (.inl (rm_mem h)); exact ht.2 q (.inr h)) hn]
    | none =>
      have hI : ixI t.Held job = -1 := by rw [ixI, h1]
      have hge : decide ((-1 : Int) ≥ 0) = false := by decide
      have hlt : decide ((-1 : Int) < 0) = true := by decide
      simp only [hI, hge, hlt, Bool.true_and, Bool.false_eq_true, if_false]
      cases h2 : ix t.Waiting job with
      | some k =>
        have hI2 : ixI t.Waiting job = (k : Int) := by rw [ixI, h2]
        have hk := ix_lt h2
        have hlt : decide ((k : Int) < 0) = false := by simp
        simp only [hI2, hlt, Bool.false_eq_true, if_false, without_eq n t.Waiting k hk hs.2.1, Option.bind_some]
        rw [RRel_loop n _ _ (by have := rm_len hk; omega) (by rintro q (h | h); exact ht.2 q (.inl h); exact ht.2 q (.inr (rm_mem h))) hn]
      | none =>
        have hI2 : ixI t.Waiting job = -1 := by rw [ixI, h2]
        simp only [hI2, hlt, if_true]
end Go.Proofs.Ytcdofkflbnpjjaa
/-
  ch. 37: plain laws. The example, the play, and EnqueueRuns.
-/
set_option maxHeartbeats 8000000
set_option linter.unusedVariables false
set_option linter.unusedSimpArgs false
set_option maxRecDepth 100000
namespace Go.Proofs.Ytcdofkflbnpjjaa
open Go.AE
theorem askM_tb {K : Nat} {t : TTable} (h : tb K t) (j : Int) (w : List TWant) (h0 : (askM t j w).2.2 = 0) : tb (K + 1) (askM t j w).1 := by
  have h1 := h.1
  unfold askM at h0 ⊢
  split at h0
  · cases h0
  · split at h0
    · cases h0
    · split at h0
      · cases h0
      · rename_i a b c
        rw [if_neg a, if_neg b, if_neg c]
        have hw : (nf w).length ≤ 512 := by omega
        split
        · refine ⟨by simp; omega, fun q hq => ?_⟩
          simp only [List.mem_append, List.mem_singleton] at hq
          rcases hq with hq | hq | hq
          · exact h.2 q (.inl hq)
          · exact h.2 q (.inr hq)
          · subst hq; exact hw
        · refine ⟨by simp; omega, fun q hq => ?_⟩
          simp only [List.mem_append, List.mem_singleton] at hq
          rcases hq with (hq | hq) | hq
          · exact h.2 q (.inl hq)
          · subst hq; exact hw
          · exact h.2 q (.inr hq)
theorem relM_tb {K : Nat} {t : TTable} (h : tb K t) (j : Int) (h0 : (relM t j).2.2 = 0) : tb K (relM t j).1 ∧ (relM t j).2.1.length ≤ K := by
  have h1 := h.1
  unfold relM at h0 ⊢
  split at h0
  · cases h0
  · rename_i a
    rw [if_neg a]
    cases e1 : ix t.Held j with
    | some k =>
      have hk := rm_len (ix_lt e1)
      have hl := sweep_len t.Waiting (rm t.Held k) [] []
      simp only [List.length_nil, Nat.zero_add, Nat.add_zero] at hl
      refine ⟨⟨by simp only; omega, fun q hq => ?_⟩, by simp only; omega⟩
      rcases (sweep_mem t.Waiting (rm t.Held k) [] [] q).1 hq with hq | hq | hq
      · exact h.2 q (.inl (rm_mem hq))
      · cases hq
      · exact h.2 q (.inr hq)
    | none =>
      rw [e1] at h0
      cases e2 : ix t.Waiting j with
      | some k =>
        have hk := rm_len (ix_lt e2)
        have hl := sweep_len (rm t.Waiting k) t.Held [] []
        simp only [List.length_nil, Nat.zero_add, Nat.add_zero] at hl
        refine ⟨⟨by simp only; omega, fun q hq => ?_⟩, by simp only; omega⟩
        rcases (sweep_mem (rm t.Waiting k) t.Held [] [] q).1 hq with hq | hq | hq
        · exact h.2 q (.inl hq)
        · cases hq
        · exact h.2 q (.inr (rm_mem hq))
      | none => rw [e2] at h0; cases h0
theorem tb_nil : tb 0 ⟨[], []⟩ := ⟨by simp, by simp⟩
theorem works_true (n : Nat) (hn : N0 ≤ n) : law37_works n = some true := by
  have hA : ∀ {K : Nat} {t : TTable} (h : tb K t) (hK : K ≤ 10) (j : Int) (b : Bool), enqueue_Ask n t j [(⟨[65], b⟩ : TWant)] = some (askM t j [(⟨[65], b⟩ : TWant)]) :=
    fun h hK j b => Ask_eq n _ j _ (tb_small h (by omega)) (by unfold B0; simp) hn
  have r1 : askM ⟨[], []⟩ 1 [(⟨[65], false⟩ : TWant)] = (⟨[⟨1, [⟨[65], false⟩]⟩], []⟩, true, 0) := by decide +kernel
  have r2 : askM ⟨[⟨1, [⟨[65], false⟩]⟩], []⟩ 2 [(⟨[65], true⟩ : TWant)] = (⟨[⟨1, [⟨[65], false⟩]⟩], [⟨2, [⟨[65], true⟩]⟩]⟩, false, 0) := by decide +kernel
  have r3 : askM ⟨[⟨1, [⟨[65], false⟩]⟩], [⟨2, [⟨[65], true⟩]⟩]⟩ 3 [(⟨[65], false⟩ : TWant)] = (⟨[⟨1, [⟨[65], false⟩]⟩], [⟨2, [⟨[65], true⟩]⟩, ⟨3, [⟨[65], false⟩]⟩]⟩, false, 0) := by decide +kernel
  have r4 : relM ⟨[⟨1, [⟨[65], false⟩]⟩], [⟨2, [⟨[65], true⟩]⟩, ⟨3, [⟨[65], false⟩]⟩]⟩ 1 = (⟨[⟨2, [⟨[65], true⟩]⟩], [⟨3, [⟨[65], false⟩]⟩]⟩, [2], 0) := by decide +kernel
  have b1 := askM_tb tb_nil 1 [(⟨[65], false⟩ : TWant)] (by rw [r1])
  rw [r1] at b1
  have b2 := askM_tb b1 2 [(⟨[65], true⟩ : TWant)] (by rw [r2])
  rw [r2] at b2
  have b3 := askM_tb b2 3 [(⟨[65], false⟩ : TWant)] (by rw [r3])
  rw [r3] at b3
  simp only [law37_works, law37_one, Option.bind_some, hA tb_nil (by omega), r1, hA b1 (by omega), r2, hA b2 (by omega), r3, Release_eq n _ 1 (tb_mono b3 (by omega)) hn, r4, ints_self n [2] (by unfold B0; simp) hn]
  rfl
end Go.Proofs.Ytcdofkflbnpjjaa
/-
  ch. 37: plain laws of EnqueueAsks and EnqueueReleases.
-/
set_option maxHeartbeats 8000000
set_option linter.unusedVariables false
set_option linter.unusedSimpArgs false
set_option maxRecDepth 100000
namespace Go.Proofs.Ytcdofkflbnpjjaa
open Go.AE
theorem reqs_wants {l : List TRequest} {xs : List C} {xss : List (List C)} (hb : cbss xss ≤ 2097152) (h1 : C.slice (List.map e_TRequest l) ∈ xs) (h2 : xs ∈ xss) : fits l := by
  refine ⟨len_of_cbss hb h1 h2, fun q hq => ?_⟩
  have g1 : cbs (e_TRequest q) ≤ cbss (List.map e_TRequest l) := cbs_le (List.mem_map_of_mem hq)
  have g2 : cb (.slice (List.map e_TWant q.Wants)) ≤ cbs (e_TRequest q) := cb_le (by simp [e_TRequest])
  have g3 := cb_le h1
  have g4 := cbs_le h2
  simp only [cb, List.length_map] at g2 g3
  unfold B0; omega
def light (t : TTable) : Bool := !((t.Held ++ t.Waiting).any fun q => !few q.Wants) && decide ((t.Held ++ t.Waiting).length ≤ 30)
theorem light_eq (n : Nat) (t : TTable) (ht : small t) (hs : t.Held.length + t.Waiting.length ≤ 2097152) (hn : N0 ≤ n) : law37_light n t = some (light t) := by
  have hn' := hn
  unfold N0 at hn
  have hw : ∀ q ∈ t.Held ++ t.Waiting, q.Wants.length ≤ B0 := fun q hq => (List.mem_append.1 hq).elim (ht.1.2 q) (ht.2.2 q)
  unfold law37_light light
  rw [gd_pos _ (by omega)]
  have hl : (t.Held ++ t.Waiting).length ≤ 2097152 := by simp; omega
  generalize t.Held ++ t.Waiting = l at hw hl ⊢
  have e := loop_scan (body := fun (x : Int) => law37_light_b2 n l x) l.length (fun k => !few (gt l k).Wants) (fun _ => (.inl false : Bool ⊕ Unit)) (.inr ()) (n := n)
    (fun k hk => by
      have hd : decide ((k : Int) < (l.length : Int)) = true := by simp; omega
      have hf := few_eq n (gt l k).Wants (by rw [gt_lt hk]; exact hw _ (List.getElem_mem hk)) hn'
      simp only [law37_light_b2, hd, cond_true, Int.toNat_natCast, succ_w (show k < 4194304 by omega), bif_ite]
      rw [gd_pos _ (by omega), hf, Option.bind_some]
      cases few (gt l k).Wants <;> rfl)
    (by simp [law37_light_b2]) (by omega)
  rw [find_any, any_range l (fun q => !few q.Wants)] at e
  simp only [e, Option.bind_some]
  cases l.any fun q => !few q.Wants
  · simp only [law37_light_k1, Bool.false_eq_true, if_false, Bool.not_false, Bool.true_and]
    congr 1; simp; omega
  · rfl
theorem light_tb {t : TTable} (h : light t = true) : tb 30 t := by
  simp only [light, Bool.and_eq_true, Bool.not_eq_true', decide_eq_true_eq, List.length_append] at h
  refine ⟨h.2, fun q hq => ?_⟩
  have h1 := h.1
  rw [List.any_eq_false] at h1
  have := h1 q (List.mem_append.2 hq)
  have := few_len (l := q.Wants) (by simpa using this)
  omega
theorem spoil_eq (n : Nat) (t : TTable) (ht : tb 1000 t) (hn : N0 ≤ n) : law37_spoil_R n t = some () := by
  have h1 := ht.1
  have hw : ∀ q ∈ t.Held ++ t.Waiting, q.Wants.length ≤ 512 := fun q hq => ht.2 q (List.mem_append.1 hq)
  unfold N0 at hn
  have e3 := loop_scan (body := fun (x : Int) => law37_spoil_R_b3 n t x) t.Waiting.length (fun _ => false) (fun _ => ()) () (n := n)
    (fun k hk => by
      have hd : decide ((k : Int) < (t.Waiting.length : Int)) = true := by simp; omega
      simp only [law37_spoil_R_b3, hd, cond_true, succ_w (show k < 4194304 by omega)]
      rw [gd_pos _ (by omega)]; rfl)
    (by simp [law37_spoil_R_b3]) (by omega)
  rw [find_any, if_neg (by simp)] at e3
  have e4 := loop_scan (body := fun (x : Int) => law37_spoil_R_b4 n t x) t.Held.length (fun _ => false) (fun _ => ()) () (n := n)
    (fun k hk => by
      have hd : decide ((k : Int) < (t.Held.length : Int)) = true := by simp; omega
      simp only [law37_spoil_R_b4, hd, cond_true, succ_w (show k < 4194304 by omega)]
      rw [gd_pos _ (by omega)]; rfl)
    (by simp [law37_spoil_R_b4]) (by omega)
  rw [find_any, if_neg (by simp)] at e4
  unfold law37_spoil_R
  rw [gd_pos _ (by omega)]
  have hl : (t.Held ++ t.Waiting).length ≤ 1000 := by simp; omega
  generalize t.Held ++ t.Waiting = l at hw hl ⊢
  have e5 := loop_scan (body := fun (x : Int) => law37_spoil_R_b5 n t l x) l.length (fun _ => false) (fun _ => ()) () (n := n)
    (fun k hk => by
      have hd : decide ((k : Int) < (l.length : Int)) = true := by simp; omega
      have hq := hw (gt l k) (by rw [gt_lt hk]; exact List.getElem_mem hk)
      have e7 := loop_scan (body := fun (x : Int) => law37_spoil_R_b7 n t l (k : Int) x) (gt l k).Wants.length (fun _ => false) (fun _ => ()) () (n := n)
        (fun i hi => by
          have hd : decide ((i : Int) < ((gt l k).Wants.length : Int)) = true := by simp; omega
          simp only [law37_spoil_R_b7, Int.toNat_natCast]
          rw [gd_pos _ (by omega)]
          simp only [hd, cond_true, succ_w (show i < 4194304 by omega)]
          rw [gd_pos _ (by omega)]; rfl)
        (by
          simp only [law37_spoil_R_b7, Int.toNat_natCast]
          rw [gd_pos _ (by omega)]
          simp) (by omega)
      rw [find_any, if_neg (by simp)] at e7
      simp only [law37_spoil_R_b5, hd, cond_true, e7, Option.bind_some, law37_spoil_R_k6, succ_w (show k < 4194304 by omega)]
      rfl)
    (by simp [law37_spoil_R_b5]) (by omega)
  rw [find_any, if_neg (by simp)] at e5
  simp only [e5, Option.bind_some, law37_spoil_R_k1, e4, law37_spoil_R_k2, e3]
theorem relM_any {K : Nat} {t : TTable} (h : tb K t) (j : Int) : tb K (relM t j).1 ∧ (relM t j).2.1.length ≤ K := by
  by_cases h0 : (relM t j).2.2 = 0
  · exact relM_tb h j h0
  · have : (relM t j).1 = ⟨[], []⟩ ∧ (relM t j).2.1 = [] := by
      revert h0
      unfold relM
      repeat' split
      all_goals first | (intro _; exact ⟨rfl, rfl⟩) | (intro h; exact absurd rfl h)
    rw [this.1, this.2]
    exact ⟨⟨by simp, by simp⟩, by simp⟩
theorem p_law37_EnqueueReleases (n : Nat) (hn : N0 ≤ n) (x0 : TTable) (x1 : Int) (hb : cbss [[.slice (List.map e_TRequest x0.Held), .slice (List.map e_TRequest x0.Waiting)], [.int x1]] ≤ 2097152) : law37_EnqueueReleases n x0 x1 = some true := by
  have hs : small x0 := ⟨reqs_wants hb (by simp) (List.mem_cons_self ..), reqs_wants hb (by simp) (List.mem_cons_self ..)⟩
  have hsum : x0.Held.length + x0.Waiting.length ≤ 2097152 := by
    simp only [cbss, cbs, cb, List.length_map] at hb; omega
  unfold law37_EnqueueReleases
  rw [works_true n hn, Option.bind_some, light_eq n x0 hs hsum hn]
  simp only [Option.bind_some, Bool.not_true, cond_false]
  cases hl : light x0 with
  | false => rfl
  | true =>
    have ht := light_tb hl
    have ht1 := tb_mono ht (show 30 ≤ 1000 by omega)
    obtain ⟨r1, r2⟩ := relM_any ht x1
    have r1' := tb_mono r1 (show 30 ≤ 1000 by omega)
    have hi := ints_self n (relM x0 x1).2.1 (by unfold B0; omega) hn
    have hse := same_self n (relM x0 x1).1 (tb_small r1 (by omega)) hn
    simp only [Bool.not_true, cond_false, table_eq n x0 hs hn, Option.bind_some, Release_eq n x0 x1 ht1 hn, RRelease_eq n x0 x1 ht1 hn, hi, hse, bne_self_eq_false, spoil_eq n _ r1' hn, same_self n x0 hs hn]
    simp [gd]
end Go.Proofs.Ytcdofkflbnpjjaa
