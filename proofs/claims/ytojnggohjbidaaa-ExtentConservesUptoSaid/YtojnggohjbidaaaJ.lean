/-
  ch. 20: the law of what is kept by taking: it answers true.
-/
import Derived.Test.YtojnggohjbidaaaH
set_option maxHeartbeats 8000000
set_option linter.unusedVariables false
set_option linter.unusedSimpArgs false
set_option maxRecDepth 100000
namespace Go.Proofs.Ytojnggohjbidaaa
open Go.AE

/-! ## What is taken is of what was free -/
theorem nf_weak {e e' : Int} (h : e' ≤ e) : ∀ {l : List TExtent}, nf e l → nf e' l
  | [], _ => trivial
  | x :: l, ⟨h1, h2, h3⟩ => ⟨h1, by omega, h3⟩
theorem nf_erase : ∀ {l : List TExtent} {e : Int} (k : Nat), nf e l → nf e (l.eraseIdx k)
  | [], _, _, _ => by simp [nf]
  | x :: l, e, 0, ⟨h1, h2, h3⟩ => by
    have v := (val_iff _).1 h1
    exact nf_weak (by omega) h3
  | x :: l, e, k + 1, ⟨h1, h2, h3⟩ => ⟨h1, h2, nf_erase k h3⟩
theorem nf_set : ∀ {l : List TExtent} {e : Int} {k : Nat} {w : Int}, nf e l → k < l.length → 1 ≤ w → w < (gt l k).Len → nf e (l.set k ⟨(gt l k).At + w, (gt l k).Len - w⟩)
  | [], _, _, _, _, h, _, _ => by simp at h
  | x :: l, e, 0, w, ⟨h1, h2, h3⟩, _, hw, hw2 => by
    have v := (val_iff _).1 h1
    simp only [gt_zero] at hw2
    refine ⟨(val_iff _).2 (by simp only [gt_zero]; omega), by simp only [gt_zero]; omega, ?_⟩
    have e1 : x.At + w + (x.Len - w) = x.At + x.Len := by omega
    simp only [gt_zero, e1]; exact h3
  | x :: l, e, k + 1, w, ⟨h1, h2, h3⟩, hk, hw, hw2 => by
    simp only [gt_succ] at hw2
    simp only [gt_succ, List.set_cons_succ]
    exact ⟨h1, h2, nf_set h3 (by simpa using hk) hw hw2⟩
theorem trk_split (a n w : Int) (h1 : 0 ≤ w) (h2 : w ≤ n) : trk ⟨a, n⟩ = trk ⟨a, w⟩ ++ trk ⟨a + w, n - w⟩ := by
  unfold trk
  have e : n.toNat = w.toNat + (n - w).toNat := by omega
  rw [e, List.range_add, List.map_append, List.map_map]
  congr 1
  refine List.map_congr_left fun j _ => ?_
  simp only [Function.comp]
  omega
theorem trks_erase : ∀ {r : List TExtent} {k : Nat}, k < r.length → (trk (gt r k) ++ trks (r.eraseIdx k)).Perm (trks r)
  | [], k, h => by simp at h
  | x :: r, 0, _ => by simp [trks_cons]
  | x :: r, k + 1, h => by
    simp only [gt_succ, List.eraseIdx_cons_succ, trks_cons]
    refine List.Perm.trans ?_ (List.Perm.append_left (trk x) (trks_erase (by simpa using h)))
    rw [← List.append_assoc, ← List.append_assoc]
    exact List.Perm.append_right _ List.perm_append_comm
theorem trks_set : ∀ {r : List TExtent} {k : Nat} {w : Int}, k < r.length → 0 ≤ w → w ≤ (gt r k).Len → (trk ⟨(gt r k).At, w⟩ ++ trks (r.set k ⟨(gt r k).At + w, (gt r k).Len - w⟩)).Perm (trks r)
  | [], k, _, h, _, _ => by simp at h
  | x :: r, 0, w, _, h1, h2 => by
    simp only [gt_zero] at h2
    simp only [gt_zero, List.set_cons_zero, trks_cons]
    rw [← List.append_assoc, ← trk_split x.At x.Len w h1 h2]
  | x :: r, k + 1, w, h, h1, h2 => by
    simp only [gt_succ] at h2
    simp only [gt_succ, List.set_cons_succ, trks_cons]
    refine List.Perm.trans ?_ (List.Perm.append_left (trk x) (trks_set (by simpa using h) h1 h2))
    rw [← List.append_assoc, ← List.append_assoc]
    exact List.Perm.append_right _ List.perm_append_comm
theorem nf_good {e : Int} {l : List TExtent} (h : nf e l) : good l := fun x hx => List.all_eq_true.1 (nf_val h) x hx

/-- the longest ones, one after another -/
inductive Sel : Nat → List TExtent → Int → Prop
  | zero (r : List TExtent) : Sel 0 r 0
  | nil (c : Nat) : Sel c [] 0
  | step (c : Nat) (r : List TExtent) (k : Nat) (s : Int) (h : isL r k) (hs : Sel c (r.eraseIdx k) s) : Sel (c + 1) r ((gt r k).Len + s)
theorem Sel_uniq {c : Nat} {r : List TExtent} {s s' : Int} (h : Sel c r s) : Sel c r s' → s = s' := by
  induction h generalizing s' with
  | zero r => intro h'; cases h' <;> rfl
  | nil c =>
    intro h'
    cases h' with
    | zero => rfl
    | nil => rfl
    | step c r k s h hs => exact absurd h.1 (by simp)
  | step c r k s h hs ih =>
    intro h'
    cases h' with
    | nil => exact absurd h.1 (by simp)
    | step c r k' s' h2 hs2 =>
      have := isL_uniq h h2
      subst this
      rw [ih hs2]

theorem Take_inv (N : Nat) (most : Int) : ∀ (m1 len : Nat) (w : Int) (got row : List TExtent), len < m1 → len ≤ row.length → len < N → 1 ≤ w → w ≤ 9223372036854775807 → got.length + len ≤ 1073741823 → nf (-1) (row.take len) → got.all val = true →
    ∃ y, loopF (fun (x : Int × (List TExtent) × (List TExtent) × Nat) => extent_Take_b2 N most x.1 x.2.1 x.2.2.1 x.2.2.2) m1 (w, got, row, len) = some y ∧
      (∀ v, y = .inl v → v.2.2 = 0 ∧ nf (-1) v.2.1 ∧ v.1.all val = true ∧ (trks v.1 ++ trks v.2.1).Perm (trks got ++ trks (row.take len)) ∧ (((trks v.1).length : Nat) : Int) = (((trks got).length : Nat) : Int) + w ∧ ((v.1.length : Nat) : Int) ≤ most) ∧
      (y = .inr () → ∃ s, Sel (most - (got.length : Int)).toNat (row.take len) s ∧ s < w)
  | 0, len, _, _, _, h, _, _, _, _, _, _, _ => by omega
  | m1 + 1, len, w, got, row, h1, hl, hN, hw, hw2, hgl, hnf, hgv => by
    have hg := nf_good hnf
    have hr : (row.take len).length = len := by simp; omega
    by_cases c : ((got.length : Nat) : Int) < most ∧ 0 < len
    · have c1 : (if (decide (((got.length : Nat) : Int) < most)) = true then (decide (((len : Nat) : Int) > 0)) else false) = true := by simp [c.1]; omega
      rcases ext_scan N w most got row ((len : Nat) : Int) len rfl c.2 hl hN hw (by omega) (by omega) hg with ⟨k, hk, hA⟩ | ⟨k, hk1, hk2, hA⟩
      · have hA' : extent_Take_b2 N most w got row len = some (.inr (.inl (got ++ [⟨(gt (row.take len) k).At, w⟩], cut (row.take len) k w, 0))) := by
          simp only [extent_Take_b2, c1, bif_ite, if_true, hA]; rfl
        rw [loopF_done hA']
        have hkl := hk.1
        have hgk := good_gt hg hkl
        have hwk := hk.2.1
        refine ⟨_, rfl, fun v hv => ?_, fun hv => by cases hv⟩
        cases hv
        have hvw : val ⟨(gt (row.take len) k).At, w⟩ = true := (val_iff _).2 (by dsimp only; omega)
        have hlw : (trk ⟨(gt (row.take len) k).At, w⟩).length = w.toNat := trk_length _
        refine ⟨rfl, ?_, by rw [List.all_append, hgv]; simp [hvw], ?_, ?_, ?_⟩
        · dsimp only
          unfold cut
          split
          · exact nf_erase k hnf
          · exact nf_set hnf hkl hw (by omega)
        · dsimp only
          rw [trks_app, trks_one, List.append_assoc]
          refine List.Perm.append_left _ ?_
          unfold cut
          split
          · rename_i e
            have h := trks_erase hkl
            have e2 : (⟨(gt (row.take len) k).At, w⟩ : TExtent) = gt (row.take len) k := by rw [← e]
            rw [e2]; exact h
          · exact trks_set hkl (by omega) hwk
        · dsimp only
          rw [trks_app, trks_one, List.length_append, hlw]; omega
        · dsimp only
          rw [List.length_append]; simp only [List.length_cons, List.length_nil]; omega
      · have hkl : k < (row.take len).length := hk2.1
        have hkl' : k < len := by omega
        have hgk := good_gt hg hkl
        have hwk := hk1 k hkl
        obtain ⟨row', e1, e2, e3⟩ := Delete_eq N row len k hkl' hl
        have e4 := gt_take hkl' hl
        have hA' : extent_Take_b2 N most w got row len = some (.inl (w - (gt (row.take len) k).Len, got ++ [gt (row.take len) k], row', len - 1)) := by
          have d1 : (0 ≤ (k : Int) ∧ (k : Int) < (len : Int)) ∧ k < row.length ∧ got.length + 1 ≤ 2147483648 := by omega
          have d2 : (0 ≤ (k : Int) ∧ (k : Int) < (len : Int)) ∧ k < row.length := by omega
          simp only [extent_Take_b2, c1, bif_ite, if_true, hA, Option.bind_some, extent_Take_k3, Int.toNat_natCast, gd_pos _ d1, gd_pos _ d2]
          rw [wid (by omega), e1, ← e4, w64_id (by omega) (by omega)]
          rfl
        have hgl' : (got ++ [gt (row.take len) k]).length = got.length + 1 := by simp
        have hvk : val (gt (row.take len) k) = true := (val_iff _).2 hgk
        rw [loopF_step hA']
        obtain ⟨y, q1, q2, q3⟩ := Take_inv N most m1 (len - 1) (w - (gt (row.take len) k).Len) (got ++ [gt (row.take len) k]) row' (by omega) (by omega) (by omega) (by omega) (by omega) (by rw [hgl']; omega) (by rw [e3]; exact nf_erase k hnf) (by rw [List.all_append, hgv]; simp [hvk])
        refine ⟨y, q1, fun v hv => ?_, fun hv => ?_⟩
        · obtain ⟨b1, b2, b3, b4, b5, b6⟩ := q2 v hv
          refine ⟨b1, b2, b3, ?_, ?_, b6⟩
          · refine b4.trans ?_
            rw [e3, trks_app, trks_one, List.append_assoc]
            exact List.Perm.append_left _ (trks_erase hkl)
          · rw [b5, trks_app, trks_one, List.length_append, trk_length]; omega
        · obtain ⟨s, s1, s2⟩ := q3 hv
          rw [e3, hgl'] at s1
          have e5 : (most - (got.length : Int)).toNat = (most - ((got.length + 1 : Nat) : Int)).toNat + 1 := by omega
          refine ⟨_, by rw [e5]; exact Sel.step _ _ k s hk2 s1, by omega⟩
    · have c1 : (if (decide (((got.length : Nat) : Int) < most)) = true then (decide (((len : Nat) : Int) > 0)) else false) = false := by
        rw [← Bool.not_eq_true]
        intro h
        split at h
        · rename_i h3
          simp at h h3
          omega
        · cases h
      refine ⟨.inr (), loopF_done ?_, fun v hv => by (cases hv), fun _ => ⟨0, ?_, by omega⟩⟩
      · simp only [extent_Take_b2, c1, bif_ite, Bool.false_eq_true, if_false]
      · by_cases c2 : 0 < len
        · have : (most - (got.length : Int)).toNat = 0 := by omega
          rw [this]; exact Sel.zero _
        · have : row.take len = [] := List.eq_nil_of_length_eq_zero (by omega)
          rw [this]; exact Sel.nil _

/-! ## The longest ones, by marks -/
def rem : List Bool → List TExtent → List TExtent
  | u :: us, x :: l => if u = true then rem us l else x :: rem us l
  | _, _ => []
def pos : List Bool → Nat → Nat
  | _, 0 => 0
  | [], _ + 1 => 0
  | u :: us, b + 1 => (if u = true then 0 else 1) + pos us b
theorem pos_mono : ∀ {us : List Bool} {i b : Nat}, b ≤ i → pos us b ≤ pos us i
  | us, i, 0, _ => by cases us <;> simp [pos]
  | [], i + 1, b + 1, _ => by simp [pos]
  | u :: us, i + 1, b + 1, h => by
    have := pos_mono (us := us) (i := i) (b := b) (by omega)
    simp only [pos]; omega
  | us, 0, b + 1, h => by omega
theorem rem_at : ∀ {us : List Bool} {l : List TExtent} {b : Nat}, us.length = l.length → b < l.length → gt us b = false → pos us b < (rem us l).length ∧ gt (rem us l) (pos us b) = gt l b ∧ rem (us.set b true) l = (rem us l).eraseIdx (pos us b)
  | [], [], b, _, h, _ => by simp at h
  | [], x :: l, b, h, _, _ => by simp at h
  | u :: us, [], b, h, _, _ => by simp at h
  | u :: us, x :: l, 0, h, _, hu => by
    simp only [gt_zero] at hu
    subst hu
    simp [rem, pos]
  | u :: us, x :: l, b + 1, h, hb, hu => by
    simp only [gt_succ] at hu
    obtain ⟨h1, h2, h3⟩ := rem_at (us := us) (l := l) (b := b) (by simpa using h) (by simpa using hb) hu
    cases u with
    | true => simpa [rem, pos] using ⟨h1, h2, h3⟩
    | false =>
      have e : (0 + 1 : Nat) + pos us b = pos us b + 1 := by omega
      simp only [rem, pos, Bool.false_eq_true, if_false, List.length_cons, List.set_cons_succ, gt_succ]
      rw [show (1 : Nat) + pos us b = pos us b + 1 by omega]
      exact ⟨by omega, by rw [gt_succ]; exact h2, by rw [List.eraseIdx_cons_succ, h3]⟩
theorem rem_of : ∀ {us : List Bool} {l : List TExtent} {j : Nat}, us.length = l.length → j < (rem us l).length → ∃ i, i < l.length ∧ gt us i = false ∧ gt (rem us l) j = gt l i ∧ pos us i = j
  | [], [], j, _, h => by simp [rem] at h
  | [], x :: l, j, h, _ => by simp at h
  | u :: us, [], j, h, _ => by simp at h
  | u :: us, x :: l, j, h, hj => by
    cases u with
    | true =>
      simp only [rem, if_true] at hj
      obtain ⟨i, h1, h2, h3, h4⟩ := rem_of (us := us) (l := l) (j := j) (by simpa using h) hj
      exact ⟨i + 1, by simpa using h1, by simpa using h2, by simpa [rem] using h3, by simp [pos, h4]⟩
    | false =>
      cases j with
      | zero => exact ⟨0, by simp, rfl, by simp [rem], by simp [pos]⟩
      | succ j =>
        simp only [rem, Bool.false_eq_true, if_false, List.length_cons] at hj
        obtain ⟨i, h1, h2, h3, h4⟩ := rem_of (us := us) (l := l) (j := j) (by simpa using h) (by omega)
        exact ⟨i + 1, by simpa using h1, by simpa using h2, by simpa [rem] using h3, by simp only [pos, Bool.false_eq_true, if_false, h4]; omega⟩
def best (us : List Bool) (l : List TExtent) (b : Nat) : Prop := b < l.length ∧ gt us b = false ∧ (∀ i, i < l.length → gt us i = false → (gt l i).Len ≤ (gt l b).Len) ∧ ∀ i, i < b → gt us i = false → (gt l i).Len < (gt l b).Len
theorem best_isL {us : List Bool} {l : List TExtent} {b : Nat} (h : us.length = l.length) (hb : best us l b) : isL (rem us l) (pos us b) := by
  obtain ⟨h1, h2, h3⟩ := rem_at h hb.1 hb.2.1
  refine ⟨h1, fun j hj => ?_, fun j hj => ?_⟩
  · obtain ⟨i, i1, i2, i3, i4⟩ := rem_of h hj
    rw [h2, i3]; exact hb.2.2.1 i i1 i2
  · obtain ⟨i, i1, i2, i3, i4⟩ := rem_of h (j := j) (by omega)
    rw [h2, i3]
    refine hb.2.2.2 i ?_ i2
    rcases Nat.lt_or_ge i b with h5 | h5
    · exact h5
    · have := pos_mono (us := us) h5
      omega

theorem best_loop (n : Nat) (l : List TExtent) (most : Int) (us : List Bool) (n_ k : Int) (hu : us.length = l.length) (hn : l.length < n) (hl : l.length ≤ 1073741824) :
    ∃ y, loopF (fun (x : Int × Int) => law20_longest_b5 n l most us n_ k x.1 x.2) n ((-1), 0) = some y ∧ ((y = -1 ∧ ∀ i, i < l.length → gt us i = true) ∨ ∃ b : Nat, y = (b : Int) ∧ best us l b) := by
  refine loopF_inv (body := fun (x : Int × Int) => law20_longest_b5 n l most us n_ k x.1 x.2)
    (fun x => ∃ i : Nat, x.2 = (i : Int) ∧ i ≤ l.length ∧ ((x.1 = -1 ∧ ∀ j, j < i → gt us j = true) ∨ ∃ b : Nat, x.1 = (b : Int) ∧ b < i ∧ gt us b = false ∧ (∀ j, j < i → gt us j = false → (gt l j).Len ≤ (gt l b).Len) ∧ ∀ j, j < b → gt us j = false → (gt l j).Len < (gt l b).Len))
    (fun x => l.length - x.2.toNat) _ ?_ n ((-1), 0) ⟨0, rfl, Nat.zero_le _, .inl ⟨rfl, fun j hj => by omega⟩⟩ (by simpa using hn)
  rintro ⟨bb, ii⟩ ⟨i, rfl, hi, hcase⟩
  dsimp only at hcase ⊢
  by_cases hil : i < l.length
  · have c1 : decide ((i : Int) < (l.length : Int)) = true := by simp; omega
    have cu : (0 ≤ (i : Int) ∧ (i : Int) < (us.length : Int)) ∧ i < us.length := by omega
    have cl : 0 ≤ (i : Int) ∧ (i : Int) < (l.length : Int) := by omega
    have cb : (!decide (bb < 0)) = true → 0 ≤ bb ∧ bb < (l.length : Int) := by
      intro h
      have h' : ¬ bb < 0 := by simpa using h
      rcases hcase with ⟨rfl, _⟩ | ⟨b, rfl, hb, _⟩
      · omega
      · omega
    have c2 : (0 ≤ (i : Int) ∧ (i : Int) < (us.length : Int)) ∧ i < us.length ∧ (((!(gt us i)) && (!(decide (bb < 0)))) = true → (0 ≤ (i : Int) ∧ (i : Int) < (l.length : Int))) ∧ (((!(gt us i)) && (!(decide (bb < 0)))) = true → (0 ≤ bb ∧ bb < (l.length : Int))) ∧ (((!(gt us i)) && !(decide (bb < 0))) = true → ((!(gt us i)) && (!(decide (bb < 0)))) = true) :=
      ⟨cu.1, cu.2, fun _ => cl, fun h => cb (by rw [Bool.and_eq_true] at h; exact h.2), fun h => h⟩
    simp only [law20_longest_b5, law20_longest_k6, c1, bif_ite, if_true, Int.toNat_natCast]
    rw [gd_pos _ c2, wid (by omega)]
    have e1 : (i : Int) + 1 = ((i + 1 : Nat) : Int) := by omega
    rw [e1]
    cases hui : gt us i with
    | true =>
      simp only [Bool.not_true, Bool.false_eq_true, if_false]
      refine .inl ⟨_, rfl, ⟨i + 1, rfl, hil, ?_⟩, by dsimp only; omega⟩
      rcases hcase with ⟨rfl, h⟩ | ⟨b, rfl, hb, hub, h3, h4⟩
      · refine .inl ⟨rfl, fun j hj => ?_⟩
        by_cases e : j = i
        · subst e; exact hui
        · exact h j (by omega)
      · refine .inr ⟨b, rfl, by omega, hub, fun j hj hj2 => ?_, h4⟩
        by_cases e : j = i
        · subst e; rw [hui] at hj2; cases hj2
        · exact h3 j (by omega) hj2
    | false =>
      simp only [Bool.not_false, if_true]
      rcases hcase with ⟨rfl, h⟩ | ⟨b, rfl, hb, hub, h3, h4⟩
      · have c3 : decide ((-1 : Int) < 0) = true := by decide
        simp only [c3, if_true]
        refine .inl ⟨_, rfl, ⟨i + 1, rfl, hil, .inr ⟨i, rfl, by omega, hui, fun j hj hj2 => ?_, fun j hj hj2 => ?_⟩⟩, by dsimp only; omega⟩
        · by_cases e : j = i
          · subst e; exact Int.le_refl _
          · have := h j (by omega); rw [this] at hj2; cases hj2
        · have := h j hj; rw [this] at hj2; cases hj2
      · have c3 : decide ((b : Int) < 0) = false := by simp
        simp only [c3, Bool.false_eq_true, if_false, Int.toNat_natCast]
        by_cases c4 : (gt l i).Len > (gt l b).Len
        · rw [decide_eq_true c4]
          simp only [if_true]
          refine .inl ⟨_, rfl, ⟨i + 1, rfl, hil, .inr ⟨i, rfl, by omega, hui, fun j hj hj2 => ?_, fun j hj hj2 => ?_⟩⟩, by dsimp only; omega⟩
          · by_cases e : j = i
            · subst e; exact Int.le_refl _
            · have := h3 j (by omega) hj2; omega
          · have := h3 j hj hj2; omega
        · rw [decide_eq_false c4]
          simp only [Bool.false_eq_true, if_false]
          refine .inl ⟨_, rfl, ⟨i + 1, rfl, hil, .inr ⟨b, rfl, by omega, hub, fun j hj hj2 => ?_, h4⟩⟩, by dsimp only; omega⟩
          by_cases e : j = i
          · subst e; omega
          · exact h3 j (by omega) hj2
  · have : i = l.length := by omega
    subst this
    refine .inr ⟨bb, by simp [law20_longest_b5, bif_ite], ?_⟩
    rcases hcase with ⟨rfl, h⟩ | ⟨b, rfl, hb, hub, h3, h4⟩
    · exact .inl ⟨rfl, h⟩
    · exact .inr ⟨b, rfl, hb, hub, h3, h4⟩

theorem rem_full {us : List Bool} {l : List TExtent} (h : us.length = l.length) (ha : ∀ i, i < l.length → gt us i = true) : rem us l = [] := by
  cases hr : rem us l with
  | nil => rfl
  | cons x r =>
    obtain ⟨i, i1, i2, _⟩ := rem_of h (j := 0) (by rw [hr]; simp)
    rw [ha i i1] at i2; cases i2

theorem long_loop (n : Nat) (l : List TExtent) (most : Int) (hg : good l) (hn : l.length < n) (hl : l.length ≤ 1048576) : ∀ (d m1 : Nat) (us : List Bool) (n_ : Int) (k : Nat), k + d = l.length → us.length = l.length → (rem us l).length = d → d < m1 → 0 ≤ n_ → n_ ≤ 512 * (k : Int) →
    ∃ s, loopF (fun (x : (List Bool) × Int × Int) => law20_longest_b2 n l most x.1 x.2.1 x.2.2) m1 (us, n_, (k : Int)) = some (n_ + s) ∧ Sel (most - (k : Int)).toNat (rem us l) s
  | d, 0, _, _, _, _, _, _, h, _, _ => by omega
  | 0, m1 + 1, us, n_, k, hk, hu, hr, _, h0, h1 => by
    have e : rem us l = [] := List.eq_nil_of_length_eq_zero hr
    have c1 : (if (decide ((k : Int) < most)) = true then (decide ((k : Int) < (l.length : Int))) else false) = false := by
      have : ¬ (k : Int) < (l.length : Int) := by omega
      simp [this]
    refine ⟨0, loopF_done ?_, by rw [e]; exact Sel.nil _⟩
    simp only [law20_longest_b2, c1, bif_ite, Bool.false_eq_true, if_false]
    simp
  | d + 1, m1 + 1, us, n_, k, hk, hu, hr, hm, h0, h1 => by
    by_cases c : (k : Int) < most
    · have c1 : (if (decide ((k : Int) < most)) = true then (decide ((k : Int) < (l.length : Int))) else false) = true := by
        have : (k : Int) < (l.length : Int) := by omega
        simp only [c, this, decide_true, if_true]
      obtain ⟨y, y1, y2⟩ := best_loop n l most us n_ (k : Int) hu hn (by omega)
      rcases y2 with ⟨_, hall⟩ | ⟨b, rfl, hb⟩
      · have := rem_full hu hall
        rw [this] at hr; simp at hr
      · have hbl := hb.1
        have hgb := good_gt hg hbl
        obtain ⟨a1, a2, a3⟩ := rem_at hu hbl hb.2.1
        have d1 : (0 ≤ (b : Int) ∧ (b : Int) < (us.length : Int)) ∧ b < us.length := by omega
        have d2 : 0 ≤ (b : Int) ∧ (b : Int) < (l.length : Int) := by omega
        have hstep : law20_longest_b2 n l most us n_ (k : Int) = some (.inl (us.set b true, n_ + (gt l b).Len, ((k + 1 : Nat) : Int))) := by
          simp only [law20_longest_b2, c1, bif_ite, if_true, y1, Option.bind_some, law20_longest_k4, law20_longest_k3, Int.toNat_natCast, gd_pos _ d1, gd_pos _ d2]
          rw [wid (by omega), wid (by omega)]; simp
        rw [loopF_step hstep]
        have hlen : (rem (us.set b true) l).length = d := by rw [a3, List.length_eraseIdx, if_pos a1, hr]; omega
        obtain ⟨s, s1, s2⟩ := long_loop n l most hg hn hl d m1 (us.set b true) (n_ + (gt l b).Len) (k + 1) (by omega) (by rw [List.length_set]; exact hu) hlen (by omega) (by omega) (by omega)
        refine ⟨(gt l b).Len + s, by rw [s1]; congr 1; omega, ?_⟩
        have e5 : (most - (k : Int)).toNat = (most - ((k + 1 : Nat) : Int)).toNat + 1 := by omega
        rw [e5, ← a2]
        rw [a3] at s2
        exact Sel.step _ _ _ s (best_isL hu hb) s2
    · have c1 : (if (decide ((k : Int) < most)) = true then (decide ((k : Int) < (l.length : Int))) else false) = false := by simp [c]
      have : (most - (k : Int)).toNat = 0 := by omega
      refine ⟨0, loopF_done ?_, by rw [this]; exact Sel.zero _⟩
      simp only [law20_longest_b2, c1, bif_ite, Bool.false_eq_true, if_false]
      simp

theorem rem_none : ∀ (l : List TExtent), rem (List.replicate l.length false) l = l
  | [] => rfl
  | x :: l => by simp [List.replicate_succ, rem, rem_none l]
theorem longest_eq (n : Nat) (l : List TExtent) (most : Int) (hg : good l) (hn : l.length < n) (hl : l.length ≤ 1048576) : ∃ s, law20_longest n l most = some s ∧ Sel most.toNat l s := by
  obtain ⟨s, s1, s2⟩ := long_loop n l most hg hn hl l.length n (List.replicate l.length false) 0 0 (by omega) (by simp) (by rw [rem_none]) hn (Int.le_refl _) (by omega)
  rw [rem_none] at s2
  have e : (most - ((0 : Nat) : Int)).toNat = most.toNat := by simp
  rw [e] at s2
  refine ⟨s, ?_, s2⟩
  have e2 : zreps (Int.toNat (l.length : Int)) false = List.replicate l.length false := rfl
  have s1' : loopF (fun (x : (List Bool) × Int × Int) => law20_longest_b2 n l most x.1 x.2.1 x.2.2) n (List.replicate l.length false, 0, 0) = some (0 + s) := s1
  simp only [law20_longest, e2]
  rw [gd_pos _ (by omega), s1']
  simp [law20_longest_k1]
end Go.Proofs.Ytojnggohjbidaaa
