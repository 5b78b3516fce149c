/-
  ch. 37: plain laws. Ask and Release, of the program and of the reference.
-/
import Derived.Test.YtcdofkflbnpjjaaR
set_option maxHeartbeats 8000000
set_option linter.unusedVariables false
set_option linter.unusedSimpArgs false
set_option maxRecDepth 100000
namespace Go.Proofs.Ytcdofkflbnpjjaa
open Go.AE

/-- a table of at most K requests, each of few wants -/
def tb (K : Nat) (t : TTable) : Prop := t.Held.length + t.Waiting.length ≤ K ∧ ∀ q, q ∈ t.Held ∨ q ∈ t.Waiting → q.Wants.length ≤ 512

theorem tb_small {K : Nat} {t : TTable} (h : tb K t) (hK : K ≤ 1000) : small t := by
  have h1 := h.1
  refine ⟨⟨by unfold B0; omega, fun q hq => ?_⟩, ⟨by unfold B0; omega, fun q hq => ?_⟩⟩
  · have := h.2 q (.inl hq); unfold B0; omega
  · have := h.2 q (.inr hq); unfold B0; omega
theorem tb_mono {K L : Nat} {t : TTable} (h : tb K t) (hK : K ≤ L) : tb L t := ⟨by have := h.1; omega, h.2⟩

def askM (t : TTable) (job : Int) (wants : List TWant) : TTable × Bool × Int :=
  if vld t = false then (⟨[], []⟩, false, 5) else
  if (jobs t.Held job || jobs t.Waiting job) = true then (⟨[], []⟩, false, 4) else
  if (nf wants).length > 512 then (⟨[], []⟩, false, 2) else
  if (blk (nf wants) t.Held || blk (nf wants) t.Waiting) = true then (⟨t.Held, t.Waiting ++ [⟨job, nf wants⟩]⟩, false, 0) else (⟨t.Held ++ [⟨job, nf wants⟩], t.Waiting⟩, true, 0)

theorem Ask_eq (n : Nat) (t : TTable) (job : Int) (wants : List TWant) (ht : small t) (hw : wants.length ≤ B0) (hn : N0 ≤ n) : enqueue_Ask n t job wants = some (askM t job wants) := by
  have hf := nf_len wants
  have hB : (nf wants).length ≤ B0 := by omega
  have h1 := ht.1.1; have h2 := ht.2.1
  have g1 : t.Held.length + 1 ≤ 2147483648 := by unfold B0 at h1; omega
  have g2 : t.Waiting.length + 1 ≤ 2147483648 := by unfold B0 at h2; omega
  simp only [enqueue_Ask, Check_eq n t ht hn, Option.bind_some, index_eq n _ _ ht.1.1 hn, index_eq n _ _ ht.2.1 hn, normalize_eq n wants hw hn, tcopied_eq n t ht hn, blocked_eq n (⟨job, nf wants⟩ : TRequest) _ hB ht.1 hn, blocked_eq n (⟨job, nf wants⟩ : TRequest) _ hB ht.2 hn, Option.getD_some, ixI_ge, Option.isSome_some, implies_true, gd_pos, g1, g2, bif_ite, ite_tt, askM]
  cases hv : vld t with
  | false => simp
  | true =>
    simp only [if_true, Bool.true_eq_false, if_false, bne_self_eq_false, Bool.false_eq_true]
    split
    · rfl
    · have e : (decide (((nf wants).length : Int) > 512)) = decide ((nf wants).length > 512) := by
        rw [Bool.eq_iff_iff, decide_eq_true_eq, decide_eq_true_eq]; omega
      rw [e]
      by_cases hl : (nf wants).length > 512
      · simp [hl]
      · simp only [hl, decide_false, Bool.false_eq_true, if_false]
        split <;> rfl

theorem RAsk_eq (n : Nat) (t : TTable) (job : Int) (wants : List TWant) (ht : small t) (hw : wants.length ≤ B0) (hn : N0 ≤ n) : ref37_Ask n t job wants = some (askM t job wants) := by
  have hf := nf_len wants
  have hB : (nf wants).length ≤ B0 := by omega
  have h1 := ht.1.1; have h2 := ht.2.1
  have g1 : t.Held.length + 1 ≤ 2147483648 := by unfold B0 at h1; omega
  have g2 : t.Waiting.length + 1 ≤ 2147483648 := by unfold B0 at h2; omega
  have g3 : t.Held.length ≤ 2147483648 := by omega
  have g4 : t.Waiting.length ≤ 2147483648 := by omega
  simp only [ref37_Ask, Valid_eq n t ht hn, Option.bind_some, place_eq n _ _ ht.1.1 hn, place_eq n _ _ ht.2.1 hn, Normal_eq n wants hw hn, free_eq n (⟨job, nf wants⟩ : TRequest) _ hB ht.1 hn, free_eq n (⟨job, nf wants⟩ : TRequest) _ hB ht.2 hn, Option.getD_some, ixI_ge, Option.isSome_some, implies_true, and_self, gd_pos, g1, g2, g3, g4, bif_ite, ite_tt, ite_ff, askM]
  cases hv : vld t with
  | false => simp
  | true =>
    simp only [if_true, Bool.true_eq_false, if_false, Bool.not_true, Bool.false_eq_true]
    split
    · rfl
    · have e : (decide (((nf wants).length : Int) > 512)) = decide ((nf wants).length > 512) := by
        rw [Bool.eq_iff_iff, decide_eq_true_eq, decide_eq_true_eq]; omega
      rw [e]
      by_cases hl : (nf wants).length > 512
      · simp [hl]
      · simp only [hl, decide_false, Bool.false_eq_true, if_false]
        cases blk (nf wants) t.Held <;> cases blk (nf wants) t.Waiting <;> simp

/-! ## Release -/
def rm (l : List TRequest) (k : Nat) : List TRequest := l.take k ++ l.drop (k + 1)
def sweep : List TRequest → List TRequest → List TRequest → List Int → List TRequest × List TRequest × List Int
  | [], H, W, J => (H, W, J)
  | q :: l, H, W, J => if (blk q.Wants H || blk q.Wants W) = true then sweep l H (W ++ [q]) J else sweep l (H ++ [q]) W (J ++ [q.Job])
def relM (t : TTable) (job : Int) : TTable × List Int × Int :=
  if vld t = false then (⟨[], []⟩, [], 5) else
  match ix t.Held job with
  | some k => let s := sweep t.Waiting (rm t.Held k) [] []; (⟨s.1, s.2.1⟩, s.2.2, 0)
  | none => match ix t.Waiting job with
    | some k => let s := sweep (rm t.Waiting k) t.Held [] []; (⟨s.1, s.2.1⟩, s.2.2, 0)
    | none => (⟨[], []⟩, [], 3)

theorem ix_lt {l : List TRequest} {j : Int} {k : Nat} (h : ix l j = some k) : k < l.length := by
  have := List.mem_of_find?_eq_some h
  simpa using this
theorem rm_len {l : List TRequest} {k : Nat} (h : k < l.length) : (rm l k).length + 1 = l.length := by
  simp only [rm, List.length_append, List.length_take, List.length_drop]; omega
theorem rm_mem {l : List TRequest} {k : Nat} {q : TRequest} (h : q ∈ rm l k) : q ∈ l := by
  rcases List.mem_append.1 h with h | h
  · exact List.mem_of_mem_take h
  · exact List.mem_of_mem_drop h

theorem sweep_len : ∀ (l H W : List TRequest) (J : List Int), (sweep l H W J).1.length + (sweep l H W J).2.1.length = H.length + W.length + l.length ∧ (sweep l H W J).2.2.length ≤ J.length + l.length
  | [], H, W, J => by simp [sweep]
  | q :: l, H, W, J => by
    simp only [sweep]
    split
    · have := sweep_len l H (W ++ [q]) J
      simp only [List.length_append, List.length_cons, List.length_nil] at this ⊢; omega
    · have := sweep_len l (H ++ [q]) W (J ++ [q.Job])
      simp only [List.length_append, List.length_cons, List.length_nil] at this ⊢; omega
theorem sweep_mem : ∀ (l H W : List TRequest) (J : List Int) (q : TRequest), (q ∈ (sweep l H W J).1 ∨ q ∈ (sweep l H W J).2.1) ↔ (q ∈ H ∨ q ∈ W ∨ q ∈ l)
  | [], H, W, J, q => by simp [sweep]
  | x :: l, H, W, J, q => by
    simp only [sweep]
    split
    · rw [sweep_mem l H (W ++ [x]) J q]; simp only [List.mem_append, List.mem_singleton, List.mem_cons]; grind
    · rw [sweep_mem l (H ++ [x]) W _ q]; simp only [List.mem_append, List.mem_singleton, List.mem_cons]; grind


/-- what the program's deletion leaves -/
theorem over_take (l : List TRequest) (k : Nat) (h : k < l.length) (z : List TRequest) : (overL (overL l k (l.drop (k + 1))) (l.length - 1) z).take (l.length - 1) = rm l k := by
  have h1 : overL l k (l.drop (k + 1)) = rm l k ++ l.drop (l.length - 1) := by
    rw [overL_pos (by rw [List.length_drop]; omega), List.length_drop, rm]
    congr 2; omega
  have hl : (rm l k).length = l.length - 1 := by have := rm_len h; omega
  have h2 : (overL l k (l.drop (k + 1))).take (l.length - 1) = rm l k := by rw [h1, ← hl, List.take_left]
  have hlen : (overL l k (l.drop (k + 1))).length = l.length := overL_len _ _ _
  by_cases hz : l.length - 1 + z.length ≤ (overL l k (l.drop (k + 1))).length
  · rw [overL_pos hz, List.append_assoc, List.take_append_of_le_length (by rw [List.length_take]; omega), List.take_take, Nat.min_self, h2]
  · rw [overL, if_neg hz, h2]

theorem Delete_eq (n : Nat) (l : List TRequest) (k : Nat) (h : k < l.length) (hl : l.length ≤ B0) :
    ∃ X, slices_Delete_f36_M1 n l (k : Int) (IntKind.wrap .i64 ((k : Int) + 1)) = some (l.length - 1, X) ∧ X.take (l.length - 1) = rm l k ∧ X.length = l.length := by
  unfold B0 at hl
  have e1 : Int.toNat ((k : Int) - 0) = k := by omega
  have e2 : Int.toNat (((k + 1 : Nat)) : Int) = k + 1 := by omega
  have e3 : List.take (Int.toNat ((l.length : Int) - ((k + 1 : Nat) : Int))) (List.drop (k + 1) l) = List.drop (k + 1) l := by
    rw [List.take_of_length_le]; rw [List.length_drop]; omega
  have e4 : k + (List.drop (k + 1) l).length = l.length - 1 := by rw [List.length_drop]; omega
  have e5 : Int.toNat (((l.length : Nat) : Int) - ((l.length - 1 : Nat) : Int)) = 1 := by omega
  have e6 : ((k : Int) == ((k + 1 : Nat) : Int)) = false := by
    rw [beq_eq_false_iff_ne]; omega
  refine ⟨_, ?_, over_take l k h (zreps 1 (⟨0, []⟩ : TRequest)), by rw [overL_len, overL_len]⟩
  simp only [slices_Delete_f36_M1, succ_w (show k < 4194304 by omega), e1, e2, e3, e4, e5, e6, cond_false]
  rw [gd_pos _ (by omega), gd_pos _ (by omega), gd_pos _ (by omega)]

def relF (s : List TRequest × Nat × List TRequest × List Int) (q : TRequest) : List TRequest × Nat × List TRequest × List Int :=
  if (blk q.Wants (s.1.take s.2.1) || blk q.Wants s.2.2.1) = true then (s.1, s.2.1, s.2.2.1 ++ [q], s.2.2.2) else (s.1.take s.2.1 ++ [q], s.2.1 + 1, s.2.2.1, s.2.2.2 ++ [q.Job])

theorem relF_sweep : ∀ (l : List TRequest) (s : List TRequest × Nat × List TRequest × List Int), s.2.1 ≤ s.1.length →
    let r := l.foldl relF s
    (r.1.take r.2.1, r.2.2.1, r.2.2.2) = sweep l (s.1.take s.2.1) s.2.2.1 s.2.2.2
  | [], s, _ => rfl
  | q :: l, (a, m, w, j), h => by
    simp only at h
    simp only [List.foldl_cons, sweep, relF]
    split
    · exact relF_sweep l (a, m, w ++ [q], j) h
    · have e : (a.take m ++ [q]).take (m + 1) = a.take m ++ [q] := by
        rw [List.take_of_length_le]; simp; omega
      have := relF_sweep l (a.take m ++ [q], m + 1, w, j ++ [q.Job]) (by simp; omega)
      simp only [e] at this
      exact this

theorem k1_eq (n : Nat) (H : List TRequest) (h0 : Nat) (W : List TRequest) (w0 : Nat) (hh : h0 ≤ H.length) (hw : w0 ≤ W.length) (hs : h0 + w0 ≤ 1000)
    (hfH : ∀ q ∈ H.take h0, q.Wants.length ≤ 512) (hfW : ∀ q ∈ W.take w0, q.Wants.length ≤ 512) (hn : N0 ≤ n) :
    enqueue_Release_k1 n H h0 W w0 = some (let s := sweep (W.take w0) (H.take h0) [] []; (⟨s.1, s.2.1⟩, s.2.2, 0)) := by
  have hn' := hn
  unfold N0 at hn'
  have hlen : (W.take w0).length = w0 := by rw [List.length_take]; omega
  have hg : ∀ k, k < w0 → gt W k = gt (W.take w0) k := by
    intro k hk
    rw [gt_lt (by first | omega | (dsimp only; omega) | (simp only [List.length_append, List.length_cons, List.length_nil]; omega) | (dsimp only; simp only [List.length_append, List.length_cons, List.length_nil]; omega) | (simp; omega)), gt_lt (by first | omega | (dsimp only; omega) | (simp only [List.length_append, List.length_cons, List.length_nil]; omega) | (dsimp only; simp only [List.length_append, List.length_cons, List.length_nil]; omega) | (simp; omega)), List.getElem_take]
  have h1 := loop_list (body := fun (x : (List TRequest) × Nat × (List TRequest) × (List Int) × Nat × Int) => enqueue_Release_b3 n W ((w0 : Nat) : Int) x.1 x.2.1 x.2.2.1 x.2.2.2.1 x.2.2.2.2.1 x.2.2.2.2.2) (W.take w0)
    (fun k (s : List TRequest × Nat × List TRequest × List Int) => (s.1, s.2.1, s.2.2.1, s.2.2.2, w0, (k : Int))) (fun s q => .inl (relF s q)) (fun s => s)
    (fun k s => s.2.1 ≤ s.1.length ∧ s.2.1 ≤ h0 + k ∧ s.2.2.1.length ≤ k ∧ s.2.2.2.length ≤ k ∧ (∀ q ∈ s.1.take s.2.1, q.Wants.length ≤ 512) ∧ ∀ q ∈ s.2.2.1, q.Wants.length ≤ 512)
    (s := (H, h0, [], [])) ⟨hh, by first | omega | (dsimp only; omega) | (simp only [List.length_append, List.length_cons, List.length_nil]; omega) | (dsimp only; simp only [List.length_append, List.length_cons, List.length_nil]; omega) | (simp; omega), by simp, by simp, hfH, by simp⟩
    (fun k hk s hi => by
      obtain ⟨a, m, w, j⟩ := s
      obtain ⟨i1, i2, i3, i4, i5, i6⟩ := hi
      simp only at i1 i2 i3 i4 i5 i6
      have hk' : k < w0 := by first | omega | (dsimp only; omega) | (simp only [List.length_append, List.length_cons, List.length_nil]; omega) | (dsimp only; simp only [List.length_append, List.length_cons, List.length_nil]; omega) | (simp; omega)
      have hd : decide ((k : Int) < ((w0 : Nat) : Int)) = true := by simp; omega
      have hq : (W.take w0)[k].Wants.length ≤ B0 := by have := hfW _ (List.getElem_mem hk); unfold B0; omega
      have f1 : fits (a.take m) := ⟨by rw [List.length_take]; unfold B0; omega, fun q hq => by have := i5 q hq; unfold B0; omega⟩
      have f2 : fits w := ⟨by unfold B0; omega, fun q hq => by have := i6 q hq; unfold B0; omega⟩
      simp only [enqueue_Release_b3, hd, cond_true, if_true, Int.toNat_natCast, hg k hk', gt_lt hk, blocked_eq n _ _ hq f1 hn, blocked_eq n _ _ hq f2 hn, Option.bind_some, Option.getD_some, ite_tt, bif_ite]
      rw [gd_pos _ (by first | omega | (dsimp only; omega) | (simp only [List.length_append, List.length_cons, List.length_nil]; omega) | (dsimp only; simp only [List.length_append, List.length_cons, List.length_nil]; omega) | (simp; omega)), gd_pos _ (by intro _; rfl)]
      simp only [relF]
      split
      · rw [gd_pos _ (by first | omega | (dsimp only; omega) | (simp only [List.length_append, List.length_cons, List.length_nil]; omega) | (dsimp only; simp only [List.length_append, List.length_cons, List.length_nil]; omega) | (simp; omega))]
        simp only [enqueue_Release_k4, succ_w (show k < 4194304 by first | omega | (dsimp only; omega) | (simp only [List.length_append, List.length_cons, List.length_nil]; omega) | (dsimp only; simp only [List.length_append, List.length_cons, List.length_nil]; omega) | (simp; omega))]
      · rw [gd_pos _ (by first | omega | (dsimp only; omega) | (simp only [List.length_append, List.length_cons, List.length_nil]; omega) | (dsimp only; simp only [List.length_append, List.length_cons, List.length_nil]; omega) | (simp; omega)), gd_pos _ (by first | omega | (dsimp only; omega) | (simp only [List.length_append, List.length_cons, List.length_nil]; omega) | (dsimp only; simp only [List.length_append, List.length_cons, List.length_nil]; omega) | (simp; omega))]
        simp only [enqueue_Release_k4, succ_w (show k < 4194304 by first | omega | (dsimp only; omega) | (simp only [List.length_append, List.length_cons, List.length_nil]; omega) | (dsimp only; simp only [List.length_append, List.length_cons, List.length_nil]; omega) | (simp; omega))])
    (fun k hk s hi s' hs => by
      cases hs
      obtain ⟨a, m, w, j⟩ := s
      obtain ⟨i1, i2, i3, i4, i5, i6⟩ := hi
      simp only at i1 i2 i3 i4 i5 i6
      have hq := hfW _ (List.getElem_mem hk)
      simp only [relF]
      split
      · refine ⟨i1, by first | omega | (dsimp only; omega) | (simp only [List.length_append, List.length_cons, List.length_nil]; omega) | (dsimp only; simp only [List.length_append, List.length_cons, List.length_nil]; omega) | (simp; omega), by first | omega | (dsimp only; omega) | (simp only [List.length_append, List.length_cons, List.length_nil]; omega) | (dsimp only; simp only [List.length_append, List.length_cons, List.length_nil]; omega) | (simp; omega), by first | omega | (dsimp only; omega) | (simp only [List.length_append, List.length_cons, List.length_nil]; omega) | (dsimp only; simp only [List.length_append, List.length_cons, List.length_nil]; omega) | (simp; omega), i5, fun q h => ?_⟩
        rcases List.mem_append.1 h with h | h
        · exact i6 q h
        · rw [List.mem_singleton] at h; subst h; exact hq
      · refine ⟨by first | omega | (dsimp only; omega) | (simp only [List.length_append, List.length_cons, List.length_nil]; omega) | (dsimp only; simp only [List.length_append, List.length_cons, List.length_nil]; omega) | (simp; omega), by first | omega | (dsimp only; omega) | (simp only [List.length_append, List.length_cons, List.length_nil]; omega) | (dsimp only; simp only [List.length_append, List.length_cons, List.length_nil]; omega) | (simp; omega), by first | omega | (dsimp only; omega) | (simp only [List.length_append, List.length_cons, List.length_nil]; omega) | (dsimp only; simp only [List.length_append, List.length_cons, List.length_nil]; omega) | (simp; omega), by first | omega | (dsimp only; omega) | (simp only [List.length_append, List.length_cons, List.length_nil]; omega) | (dsimp only; simp only [List.length_append, List.length_cons, List.length_nil]; omega) | (simp; omega), fun q h => ?_, i6⟩
        have h := List.mem_of_mem_take h
        rcases List.mem_append.1 h with h | h
        · exact i5 q h
        · rw [List.mem_singleton] at h; subst h; exact hq)
    (fun s _ => by simp [enqueue_Release_b3, hlen]) (n := n) (by first | omega | (dsimp only; omega) | (simp only [List.length_append, List.length_cons, List.length_nil]; omega) | (dsimp only; simp only [List.length_append, List.length_cons, List.length_nil]; omega) | (simp; omega))
  have e : ∀ (l : List TRequest) (s : List TRequest × Nat × List TRequest × List Int), runL (fun s q => (.inl (relF s q) : (List TRequest × Nat × List TRequest × List Int) ⊕ (List TRequest × Nat × List TRequest × List Int))) (fun s => s) l s = l.foldl relF s := by
    intro l
    induction l with
    | nil => intro s; rfl
    | cons a l ih => intro s; simp only [runL, List.foldl_cons]; exact ih _
  rw [e] at h1
  have h2 := relF_sweep (W.take w0) (H, h0, [], []) hh
  simp only at h2
  rw [enqueue_Release_k1]
  refine (congrArg (fun o => Option.bind o _) h1).trans ?_
  rw [Option.bind_some, enqueue_Release_k2, ← h2]

theorem Release_eq (n : Nat) (t : TTable) (job : Int) (ht : tb 1000 t) (hn : N0 ≤ n) : enqueue_Release n t job = some (relM t job) := by
  have hs := tb_small ht (Nat.le_refl _)
  have hlen := ht.1
  simp only [enqueue_Release, Check_eq n t hs hn, tcopied_eq n t hs hn, index_eq n _ _ hs.1.1 hn, index_eq n _ _ hs.2.1 hn, Option.bind_some, relM, bif_ite]
  cases hv : vld t with
  | false => simp
  | true =>
    simp only [if_true, Bool.true_eq_false, if_false, bne_self_eq_false, Bool.false_eq_true]
    cases h1 : ix t.Held job with
    | some k =>
      have hI : ixI t.Held job = (k : Int) := by rw [ixI, h1]
      have hk := ix_lt h1
      obtain ⟨X, e1, e2, e3⟩ := Delete_eq n t.Held k hk hs.1.1
      have hge : decide ((k : Int) ≥ 0) = true := by simp
      simp only [hI, hge, if_true, e1, Option.bind_some]
      rw [k1_eq n X (t.Held.length - 1) t.Waiting t.Waiting.length (by first | omega | (dsimp only; omega) | (simp only [List.length_append, List.length_cons, List.length_nil]; omega) | (dsimp only; simp only [List.length_append, List.length_cons, List.length_nil]; omega) | (simp; omega)) (Nat.le_refl _) (by first | omega | (dsimp only; omega) | (simp only [List.length_append, List.length_cons, List.length_nil]; omega) | (dsimp only; simp only [List.length_append, List.length_cons, List.length_nil]; omega) | (simp; omega)) (fun q hq => by rw [e2] at hq; exact ht.2 q (.inl (rm_mem hq))) (fun q hq => ht.2 q (.inr (List.mem_of_mem_take hq))) hn]
      rw [e2, List.take_length]
    | none =>
      have hI : ixI t.Held job = -1 := by rw [ixI, h1]
      have hge : decide ((-1 : Int) ≥ 0) = false := by decide
      simp only [hI, hge, Bool.false_eq_true, if_false]
      cases h2 : ix t.Waiting job with
      | some k =>
        have hI2 : ixI t.Waiting job = (k : Int) := by rw [ixI, h2]
        have hk := ix_lt h2
        obtain ⟨X, e1, e2, e3⟩ := Delete_eq n t.Waiting k hk hs.2.1
        have hge : decide ((k : Int) ≥ 0) = true := by simp
        simp only [hI2, hge, if_true, e1, Option.bind_some]
        rw [k1_eq n t.Held t.Held.length X (t.Waiting.length - 1) (Nat.le_refl _) (by first | omega | (dsimp only; omega) | (simp only [List.length_append, List.length_cons, List.length_nil]; omega) | (dsimp only; simp only [List.length_append, List.length_cons, List.length_nil]; omega) | (simp; omega)) (by first | omega | (dsimp only; omega) | (simp only [List.length_append, List.length_cons, List.length_nil]; omega) | (dsimp only; simp only [List.length_append, List.length_cons, List.length_nil]; omega) | (simp; omega)) (fun q hq => ht.2 q (.inl (List.mem_of_mem_take hq))) (fun q hq => by rw [e2] at hq; exact ht.2 q (.inr (rm_mem hq))) hn]
        rw [e2, List.take_length]
      | none =>
        have hI2 : ixI t.Waiting job = -1 := by rw [ixI, h2]
        simp only [hI2, hge, Bool.false_eq_true, if_false]

/-! ## The reference's release -/
theorem without_eq (n : Nat) (l : List TRequest) (k : Nat) (h : k < l.length) (hl : l.length ≤ B0) : ref37_without n l (k : Int) = some (rm l k) := by
  unfold B0 at hl
  simp only [ref37_without, succ_w (show k < 4194304 by first | omega | (dsimp only; omega) | (simp only [List.length_append, List.length_cons, List.length_nil]; omega) | (dsimp only; simp only [List.length_append, List.length_cons, List.length_nil]; omega) | (simp; omega)), Int.toNat_natCast]
  rw [gd_pos _ (by refine ⟨by first | omega | (dsimp only; omega) | (simp only [List.length_append, List.length_cons, List.length_nil]; omega) | (dsimp only; simp only [List.length_append, List.length_cons, List.length_nil]; omega) | (simp; omega), by rw [List.length_take]; omega, by first | omega | (dsimp only; omega) | (simp only [List.length_append, List.length_cons, List.length_nil]; omega) | (dsimp only; simp only [List.length_append, List.length_cons, List.length_nil]; omega) | (simp; omega), by rw [List.length_take, List.length_drop]; omega⟩)]
  rfl

/-- all of A are held up by H or by an earlier one of A -/
def stuck (H A : List TRequest) : Prop := ∀ k, k < A.length → (blk (gt A k).Wants H || blk (gt A k).Wants (A.take k)) = true
theorem blk_app (a : List TWant) (x y : List TRequest) : blk a (x ++ y) = (blk a x || blk a y) := by simp [blk]
theorem stuck_mono {H A : List TRequest} (h : stuck H A) (q : TRequest) : stuck (H ++ [q]) A := by
  intro k hk
  have := h k hk
  rw [blk_app]
  cases h1 : blk (gt A k).Wants H <;> simp_all
theorem stuck_snoc {H A : List TRequest} (h : stuck H A) {q : TRequest} (hq : (blk q.Wants H || blk q.Wants A) = true) : stuck H (A ++ [q]) := by
  intro k hk
  by_cases hk' : k < A.length
  · have := h k hk'
    have e1 : gt (A ++ [q]) k = gt A k := by rw [gt_lt hk, gt_lt hk', List.getElem_append_left hk']
    have e2 : (A ++ [q]).take k = A.take k := List.take_append_of_le_length (by first | omega | (dsimp only; omega) | (simp only [List.length_append, List.length_cons, List.length_nil]; omega) | (dsimp only; simp only [List.length_append, List.length_cons, List.length_nil]; omega) | (simp; omega))
    rw [e1, e2]; exact this
  · have : k = A.length := by simp at hk; omega
    subst this
    have e1 : gt (A ++ [q]) A.length = q := by rw [gt_lt hk]; simp
    rw [e1, List.take_left]; exact hq

theorem RRel_loop (n : Nat) (H W : List TRequest) (hs : H.length + W.length ≤ 1000) (hf : ∀ q, q ∈ H ∨ q ∈ W → q.Wants.length ≤ 512) (hn : N0 ≤ n) :
    ref37_Release_k1 n H W = some (let s := sweep W H [] []; (⟨s.1, s.2.1⟩, s.2.2, 0)) := by
  have hn' := hn
  unfold N0 at hn'
  obtain ⟨y, h1, h2⟩ := loopF_inv (body := fun (x : (List TRequest) × (List TRequest) × (List Int) × Int) => ref37_Release_b3 n x.1 x.2.1 x.2.2.1 x.2.2.2)
    (fun x => ∃ k m : Nat, x.2.2.2 = (k : Int) ∧ k ≤ m ∧ m ≤ x.2.1.length ∧ x.1.length + x.2.1.length ≤ 1000 ∧ x.2.2.1.length + x.2.1.length ≤ 1000 ∧ (∀ q, q ∈ x.1 ∨ q ∈ x.2.1 → q.Wants.length ≤ 512) ∧ stuck x.1 (x.2.1.take m) ∧ sweep (x.2.1.drop m) x.1 (x.2.1.take m) x.2.2.1 = sweep W H [] [])
    (fun x => x.2.1.length * 1001 + (1001 - x.2.2.2.toNat)) (fun y => y = sweep W H [] [])
    (by
      rintro ⟨a, w, j, kk⟩ ⟨k, m, rfl, i1, i2, i3, i4, i5, i6, i7⟩
      simp only at i1 i2 i3 i4 i5 i6 i7 ⊢
      by_cases hk : k < w.length
      · left
        have hd : decide ((k : Int) < (w.length : Int)) = true := by simp; omega
        have hq : w[k].Wants.length ≤ B0 := by have := i5 _ (.inr (List.getElem_mem hk)); unfold B0; omega
        have f1 : fits a := ⟨by unfold B0; omega, fun q hq => by have := i5 q (.inl hq); unfold B0; omega⟩
        have f2 : fits (w.take k) := ⟨by rw [List.length_take]; unfold B0; omega, fun q hq => by have := i5 q (.inr (List.mem_of_mem_take hq)); unfold B0; omega⟩
        have hb : ref37_Release_b3 n a w j (k : Int) = some (if (blk w[k].Wants a || blk w[k].Wants (w.take k)) = true then .inl (a, w, j, ((k + 1 : Nat) : Int)) else .inl (a ++ [w[k]], rm w k, j ++ [w[k].Job], 0)) := by
          simp only [ref37_Release_b3, hd, cond_true, if_true, Int.toNat_natCast, gt_lt hk, free_eq n _ _ hq f1 hn, free_eq n _ _ hq f2 hn, Option.bind_some, Option.getD_some, ite_ff, bif_ite, without_eq n w k hk (by unfold B0; omega)]
          rw [gd_pos _ (by first | omega | (dsimp only; omega) | (simp only [List.length_append, List.length_cons, List.length_nil]; omega) | (dsimp only; simp only [List.length_append, List.length_cons, List.length_nil]; omega) | (simp; omega)), gd_pos _ (by refine ⟨fun _ => by first | omega | (dsimp only; omega) | (simp only [List.length_append, List.length_cons, List.length_nil]; omega) | (dsimp only; simp only [List.length_append, List.length_cons, List.length_nil]; omega) | (simp; omega), fun _ => rfl⟩), gd_pos _ (by first | omega | (dsimp only; omega) | (simp only [List.length_append, List.length_cons, List.length_nil]; omega) | (dsimp only; simp only [List.length_append, List.length_cons, List.length_nil]; omega) | (simp; omega)), gd_pos _ (by first | omega | (dsimp only; omega) | (simp only [List.length_append, List.length_cons, List.length_nil]; omega) | (dsimp only; simp only [List.length_append, List.length_cons, List.length_nil]; omega) | (simp; omega))]
          simp only [ref37_Release_k4, succ_w (show k < 4194304 by first | omega | (dsimp only; omega) | (simp only [List.length_append, List.length_cons, List.length_nil]; omega) | (dsimp only; simp only [List.length_append, List.length_cons, List.length_nil]; omega) | (simp; omega))]
          cases blk w[k].Wants a <;> cases blk w[k].Wants (w.take k) <;> rfl
        rw [hb]
        by_cases hc : (blk w[k].Wants a || blk w[k].Wants (w.take k)) = true
        · rw [if_pos hc]
          refine ⟨_, rfl, ?_, by first | omega | (dsimp only; omega) | (simp only [List.length_append, List.length_cons, List.length_nil]; omega) | (dsimp only; simp only [List.length_append, List.length_cons, List.length_nil]; omega) | (simp; omega)⟩
          by_cases hkm : k < m
          · exact ⟨k + 1, m, rfl, by first | omega | (dsimp only; omega) | (simp only [List.length_append, List.length_cons, List.length_nil]; omega) | (dsimp only; simp only [List.length_append, List.length_cons, List.length_nil]; omega) | (simp; omega), i2, i3, i4, i5, i6, i7⟩
          · have : k = m := by first | omega | (dsimp only; omega) | (simp only [List.length_append, List.length_cons, List.length_nil]; omega) | (dsimp only; simp only [List.length_append, List.length_cons, List.length_nil]; omega) | (simp; omega)
            subst this
            have ht : w.take (k + 1) = w.take k ++ [w[k]] := List.take_succ_eq_append_getElem hk
            refine ⟨k + 1, k + 1, rfl, Nat.le_refl _, by first | omega | (dsimp only; omega) | (simp only [List.length_append, List.length_cons, List.length_nil]; omega) | (dsimp only; simp only [List.length_append, List.length_cons, List.length_nil]; omega) | (simp; omega), i3, i4, i5, ?_, ?_⟩
            · simp only [ht]; exact stuck_snoc i6 hc
            · simp only [ht]
              rw [List.drop_eq_getElem_cons hk] at i7
              simp only [sweep] at i7
              rw [if_pos hc] at i7
              exact i7
        · rw [if_neg hc]
          have hkm : k = m := by
            apply Classical.byContradiction
            intro hne
            have hlt : k < (w.take m).length := by rw [List.length_take]; omega
            have := i6 k hlt
            rw [gt_lt hlt, List.getElem_take, List.take_take, Nat.min_eq_left (by first | omega | (dsimp only; omega) | (simp only [List.length_append, List.length_cons, List.length_nil]; omega) | (dsimp only; simp only [List.length_append, List.length_cons, List.length_nil]; omega) | (simp; omega))] at this
            exact hc this
          subst hkm
          have hr := rm_len hk
          have hrt : (rm w k).take k = w.take k := by
            rw [rm, List.take_append_of_le_length (by rw [List.length_take]; omega), List.take_take, Nat.min_self]
          have hrd : (rm w k).drop k = w.drop (k + 1) := by
            rw [rm, List.drop_append_of_le_length (by rw [List.length_take]; omega), List.drop_eq_nil_of_le (by rw [List.length_take]; omega), List.nil_append]
          refine ⟨_, rfl, ⟨0, k, rfl, Nat.zero_le _, by first | omega | (dsimp only; omega) | (simp only [List.length_append, List.length_cons, List.length_nil]; omega) | (dsimp only; simp only [List.length_append, List.length_cons, List.length_nil]; omega) | (simp; omega), by first | omega | (dsimp only; omega) | (simp only [List.length_append, List.length_cons, List.length_nil]; omega) | (dsimp only; simp only [List.length_append, List.length_cons, List.length_nil]; omega) | (simp; omega), by first | omega | (dsimp only; omega) | (simp only [List.length_append, List.length_cons, List.length_nil]; omega) | (dsimp only; simp only [List.length_append, List.length_cons, List.length_nil]; omega) | (simp; omega), ?_, ?_, ?_⟩, by first | omega | (dsimp only; omega) | (simp only [List.length_append, List.length_cons, List.length_nil]; omega) | (dsimp only; simp only [List.length_append, List.length_cons, List.length_nil]; omega) | (simp; omega)⟩
          · rintro q (h | h)
            · rcases List.mem_append.1 h with h | h
              · exact i5 q (.inl h)
              · rw [List.mem_singleton] at h; subst h; exact i5 _ (.inr (List.getElem_mem hk))
            · exact i5 q (.inr (rm_mem h))
          · simp only [hrt]; exact stuck_mono i6 _
          · simp only [hrt, hrd]
            rw [List.drop_eq_getElem_cons hk] at i7
            simp only [sweep] at i7
            rw [if_neg hc] at i7
            exact i7
      · right
        have hd : decide ((k : Int) < (w.length : Int)) = false := by simp; omega
        refine ⟨(a, w, j), by simp only [ref37_Release_b3, hd, cond_false], ?_⟩
        have hm : m = w.length := by first | omega | (dsimp only; omega) | (simp only [List.length_append, List.length_cons, List.length_nil]; omega) | (dsimp only; simp only [List.length_append, List.length_cons, List.length_nil]; omega) | (simp; omega)
        subst hm
        rw [List.drop_length, List.take_length] at i7
        simp only [sweep] at i7
        exact i7)
    n (H, W, [], 0) ⟨0, 0, rfl, Nat.le_refl _, Nat.zero_le _, hs, by first | omega | (dsimp only; omega) | (simp only [List.length_append, List.length_cons, List.length_nil]; omega) | (dsimp only; simp only [List.length_append, List.length_cons, List.length_nil]; omega) | (simp; omega), hf, by intro k hk; simp at hk, by simp⟩ (by first | omega | (dsimp only; omega) | (simp only [List.length_append, List.length_cons, List.length_nil]; omega) | (dsimp only; simp only [List.length_append, List.length_cons, List.length_nil]; omega) | (simp; omega))
  rw [ref37_Release_k1, h1, Option.bind_some, ref37_Release_k2, h2]

theorem RRelease_eq (n : Nat) (t : TTable) (job : Int) (ht : tb 1000 t) (hn : N0 ≤ n) : ref37_Release n t job = some (relM t job) := by
  have hs := tb_small ht (Nat.le_refl _)
  have hlen := ht.1
  simp only [ref37_Release, Valid_eq n t hs hn, place_eq n _ _ hs.1.1 hn, place_eq n _ _ hs.2.1 hn, Option.bind_some, relM, bif_ite, ite_ff]
  cases hv : vld t with
  | false => simp
  | true =>
    simp only [if_true, Bool.true_eq_false, if_false, Bool.not_true, Bool.false_eq_true]
    cases h1 : ix t.Held job with
    | some k =>
      have hI : ixI t.Held job = (k : Int) := by rw [ixI, h1]
      have hk := ix_lt h1
      have hge : decide ((k : Int) ≥ 0) = true := by simp
      have hlt : decide ((k : Int) < 0) = false := by simp
      simp only [hI, hge, hlt, Bool.false_and, Bool.false_eq_true, if_false, if_true, without_eq n t.Held k hk hs.1.1, Option.bind_some]
      rw [RRel_loop n _ _ (by have := rm_len hk; omega) (by rintro q (h | h); exact ht.2 q (.inl (rm_mem h)); exact ht.2 q (.inr h)) hn]
    | none =>
      have hI : ixI t.Held job = -1 := by rw [ixI, h1]
      have hge : decide ((-1 : Int) ≥ 0) = false := by decide
      have hlt : decide ((-1 : Int) < 0) = true := by decide
      simp only [hI, hge, hlt, Bool.true_and, Bool.false_eq_true, if_false]
      cases h2 : ix t.Waiting job with
      | some k =>
        have hI2 : ixI t.Waiting job = (k : Int) := by rw [ixI, h2]
        have hk := ix_lt h2
        have hlt : decide ((k : Int) < 0) = false := by simp
        simp only [hI2, hlt, Bool.false_eq_true, if_false, without_eq n t.Waiting k hk hs.2.1, Option.bind_some]
        rw [RRel_loop n _ _ (by have := rm_len hk; omega) (by rintro q (h | h); exact ht.2 q (.inl h); exact ht.2 q (.inr (rm_mem h))) hn]
      | none =>
        have hI2 : ixI t.Waiting job = -1 := by rw [ixI, h2]
        simp only [hI2, hlt, if_true]
end Go.Proofs.Ytcdofkflbnpjjaa
