/-
  ch. 20: taking extents: the code's and the specification's. No program in sight.
-/
import Derived.Test.YtojnggohjbidaaaR
set_option maxHeartbeats 8000000
set_option linter.unusedVariables false
set_option linter.unusedSimpArgs false
set_option maxRecDepth 100000
namespace Go.Proofs.Ytojnggohjbidaaa
open Go.AE

def isF (r : List TExtent) (w : Int) (k : Nat) : Prop := k < r.length ∧ w ≤ (gt r k).Len ∧ ∀ j, j < k → (gt r j).Len < w
def isL (r : List TExtent) (k : Nat) : Prop := k < r.length ∧ (∀ j, j < r.length → (gt r j).Len ≤ (gt r k).Len) ∧ ∀ j, j < k → (gt r j).Len < (gt r k).Len
def allS (r : List TExtent) (w : Int) : Prop := ∀ j, j < r.length → (gt r j).Len < w
theorem isF_uniq {r : List TExtent} {w : Int} {j k : Nat} (h1 : isF r w j) (h2 : isF r w k) : j = k := by
  rcases Nat.lt_trichotomy j k with h | h | h
  · have := h2.2.2 j h; have := h1.2.1; omega
  · exact h
  · have := h1.2.2 k h; have := h2.2.1; omega
theorem isL_uniq {r : List TExtent} {j k : Nat} (h1 : isL r j) (h2 : isL r k) : j = k := by
  rcases Nat.lt_trichotomy j k with h | h | h
  · have := h2.2.2 j h; have := h1.2.1 k h2.1; omega
  · exact h
  · have := h1.2.2 k h; have := h2.2.1 j h1.1; omega
def cut (r : List TExtent) (k : Nat) (w : Int) : List TExtent := if (gt r k).Len = w then r.eraseIdx k else r.set k ⟨(gt r k).At + w, (gt r k).Len - w⟩
def good (r : List TExtent) : Prop := ∀ x ∈ r, val x = true
theorem good_gt {r : List TExtent} (h : good r) {k : Nat} (hk : k < r.length) : 0 ≤ (gt r k).At ∧ 1 ≤ (gt r k).Len ∧ (gt r k).At < 512 ∧ (gt r k).Len ≤ 512 - (gt r k).At := by
  rw [gt_lt hk]; exact (val_iff _).1 (h _ (List.getElem_mem hk))
theorem good_erase {r : List TExtent} (h : good r) (k : Nat) : good (r.eraseIdx k) := fun x hx => h x (List.mem_of_mem_eraseIdx hx)

theorem gt_take {row : List TExtent} {len k : Nat} (h : k < len) (hl : len ≤ row.length) : gt (row.take len) k = gt row k := by
  rw [gt_lt (by simp; omega), gt_lt (by omega)]; simp

/-! ## The code -/
theorem Delete_eq (n : Nat) (row : List TExtent) (len k : Nat) (hk : k < len) (hl : len ≤ row.length) : ∃ row', slices_Delete_f34_M2 n row len (k : Int) ((k : Int) + 1) = some (len - 1, row') ∧ row'.length = row.length ∧ row'.take (len - 1) = (row.take len).eraseIdx k := by
  have e1 : ((k : Int) == (k : Int) + 1) = false := by simp; omega
  have hp : (List.take (Int.toNat ((len : Int) - ((k : Int) + 1))) (List.drop (Int.toNat ((k : Int) + 1)) row)).length = len - (k + 1) := by
    have a1 : Int.toNat ((len : Int) - ((k : Int) + 1)) = len - (k + 1) := by omega
    have a2 : Int.toNat ((k : Int) + 1) = k + 1 := by omega
    rw [a1, a2]; simp; omega
  have a0 : Int.toNat ((k : Int) - 0) = k := by omega
  have a3 : k + (len - (k + 1)) = len - 1 := by omega
  have a4 : Int.toNat (((len : Nat) : Int) - ((len - 1 : Nat) : Int)) = 1 := by omega
  have a1 : Int.toNat ((len : Int) - ((k : Int) + 1)) = len - (k + 1) := by omega
  have a2 : Int.toNat ((k : Int) + 1) = k + 1 := by omega
  refine ⟨overL (overL row k (List.take (len - (k + 1)) (List.drop (k + 1) row))) (len - 1) (zreps 1 (⟨0, 0⟩ : TExtent)), ?_, by rw [overL_len, overL_len], ?_⟩
  · simp only [slices_Delete_f34_M2, hp, a0, a3, e1, bif_ite, Bool.false_eq_true, if_false, a4, a1, a2]
    rw [a1, a2] at hp
    simp only [hp, a3, a4]
    rw [gd_pos _ (by omega), gd_pos _ (by omega), gd_pos _ (by omega)]
  · have hp' : (List.take (len - (k + 1)) (List.drop (k + 1) row)).length = len - (k + 1) := by have h := hp; rw [a1, a2] at h; exact h
    have h1 : overL row k (List.take (len - (k + 1)) (List.drop (k + 1) row)) = row.take k ++ List.take (len - (k + 1)) (List.drop (k + 1) row) ++ row.drop (k + (len - (k + 1))) := by
      rw [overL_pos (by rw [hp']; omega), hp']
    have h2 : (row.take k ++ List.take (len - (k + 1)) (List.drop (k + 1) row)).length = len - 1 := by rw [List.length_append, hp', List.length_take]; omega
    rw [overL_pos (by rw [overL_len, zreps_len]; omega), List.append_assoc, List.take_append_of_le_length (by rw [List.length_take, overL_len]; omega), List.take_take, Nat.min_self, h1, List.take_append_of_le_length (by rw [h2]; exact Nat.le_refl _), List.take_of_length_le (by rw [h2]; exact Nat.le_refl _)]
    rw [List.eraseIdx_eq_take_drop_succ, List.take_take, List.drop_take, Nat.min_eq_left (by omega)]

theorem ext_scan (n : Nat) (w most : Int) (got row : List TExtent) (v : Int) (len : Nat) (hv : v = (len : Int)) (h0 : 0 < len) (hl : len ≤ row.length) (hn : len < n) (hw : 1 ≤ w) (hb : len ≤ 1073741824) (hgot : got.length + 1 ≤ 2147483648) (hg : good (row.take len)) :
    (∃ k, isF (row.take len) w k ∧ loopF (fun (x : Nat × Int × Int) => extent_Take_b4 n w most got row v x.1 x.2.1 x.2.2) n (len, 0, 0) = some (.inl (got ++ [⟨(gt (row.take len) k).At, w⟩], cut (row.take len) k w, 0))) ∨
    (∃ k, allS (row.take len) w ∧ isL (row.take len) k ∧ loopF (fun (x : Nat × Int × Int) => extent_Take_b4 n w most got row v x.1 x.2.1 x.2.2) n (len, 0, 0) = some (.inr (len, (k : Int)))) := by
  subst hv
  have hr : (row.take len).length = len := by simp; omega
  obtain ⟨y, h1, h2⟩ := loopF_inv (body := fun (x : Nat × Int × Int) => extent_Take_b4 n w most got row (len : Int) x.1 x.2.1 x.2.2)
    (fun x => ∃ lg i : Nat, x = (len, (lg : Int), (i : Int)) ∧ i ≤ len ∧ lg < len ∧ (∀ j, j < i → (gt (row.take len) j).Len < w) ∧ (∀ j, j < i → (gt (row.take len) j).Len ≤ (gt (row.take len) lg).Len) ∧ (∀ j, j < lg → (gt (row.take len) j).Len < (gt (row.take len) lg).Len))
    (fun x => len - x.2.2.toNat)
    (fun y => (∃ k, isF (row.take len) w k ∧ y = .inl (got ++ [⟨(gt (row.take len) k).At, w⟩], cut (row.take len) k w, 0)) ∨ (∃ k, allS (row.take len) w ∧ isL (row.take len) k ∧ y = .inr (len, (k : Int)))) (by
      rintro x ⟨lg, i, rfl, hi, hlg, i1, i2, i3⟩
      by_cases hil : i < len
      · have c1 : decide ((i : Int) < (len : Int)) = true := by simp; omega
        have c2 : (0 ≤ (i : Int) ∧ (i : Int) < (len : Int)) ∧ i < row.length := by omega
        have hgi := good_gt hg (k := i) (by rw [hr]; exact hil)
        have e1 := gt_take hil hl
        have e2 := gt_take hlg hl
        simp only [extent_Take_b4, c1, bif_ite, if_true, Int.toNat_natCast, gd_pos _ c2, ← e1, ← e2]
        by_cases b1 : (gt (row.take len) i).Len > w
        · refine .inr ⟨_, ?_, .inl ⟨i, ⟨by rw [hr]; exact hil, by omega, i1⟩, rfl⟩⟩
          rw [decide_eq_true b1]
          simp only [if_true, gd_pos _ hgot]
          rw [wid (by omega), wid (by omega), List.take_set, cut, if_neg (by omega)]
        · rw [decide_eq_false b1]
          simp only [Bool.false_eq_true, if_false]
          by_cases b2 : (gt (row.take len) i).Len = w
          · refine .inr ⟨_, ?_, .inl ⟨i, ⟨by rw [hr]; exact hil, by omega, i1⟩, rfl⟩⟩
            have c3 : ((gt (row.take len) i).Len == w) = true := by simp [b2]
            rw [c3]
            simp only [if_true, gd_pos _ hgot]
            rw [wid (by omega)]
            obtain ⟨row', d1, d2, d3⟩ := Delete_eq n row len i hil hl
            rw [d1]
            simp only [Option.bind_some, d3, cut, b2, if_true]
            have : (⟨(gt (row.take len) i).At, w⟩ : TExtent) = gt (row.take len) i := by rw [← b2]
            rw [this]
          · have c3 : ((gt (row.take len) i).Len == w) = false := by simp [b2]
            have c4 : (0 ≤ (lg : Int) ∧ (lg : Int) < (len : Int)) ∧ lg < row.length := by omega
            rw [c3]
            simp only [Bool.false_eq_true, if_false, gd_pos _ c4, extent_Take_k5]
            rw [wid (by omega)]
            by_cases b3 : (gt (row.take len) i).Len > (gt (row.take len) lg).Len
            · rw [decide_eq_true b3]
              refine .inl ⟨_, rfl, ⟨i, i + 1, rfl, hil, hil, fun j hj => ?_, fun j hj => ?_, fun j hj => ?_⟩, by dsimp only; omega⟩
              · by_cases e : j = i
                · subst e; omega
                · exact i1 j (by omega)
              · by_cases e : j = i
                · subst e; omega
                · have := i2 j (by omega); omega
              · have := i2 j hj; omega
            · rw [decide_eq_false b3]
              refine .inl ⟨_, rfl, ⟨lg, i + 1, rfl, hil, hlg, fun j hj => ?_, fun j hj => ?_, i3⟩, by dsimp only; omega⟩
              · by_cases e : j = i
                · subst e; omega
                · exact i1 j (by omega)
              · by_cases e : j = i
                · subst e; omega
                · exact i2 j (by omega)
      · have : i = len := by omega
        subst this
        refine .inr ⟨.inr (i, (lg : Int)), by simp [extent_Take_b4, bif_ite], .inr ⟨lg, fun j hj => i1 j (by rw [hr] at hj; exact hj), ⟨by rw [hr]; exact hlg, fun j hj => i2 j (by rw [hr] at hj; exact hj), i3⟩, rfl⟩⟩)
    n (len, 0, 0) ⟨0, 0, rfl, by omega, h0, fun j hj => by omega, fun j hj => by omega, fun j hj => by omega⟩ (by simpa using hn)
  rcases h2 with ⟨k, h3, rfl⟩ | ⟨k, h3, h4, rfl⟩
  · exact .inl ⟨k, h3, h1⟩
  · exact .inr ⟨k, h3, h4, h1⟩

/-! ## The specification -/
theorem ref_scan (n : Nat) (w pieces : Int) (got r : List TExtent) (h0 : 0 < r.length) (hn : r.length < n) (hb : r.length ≤ 1073741824) :
    ∃ f g : Int, loopF (fun (x : Int × Int × Int) => ref20_Take_b4 n w pieces r got x.1 x.2.1 x.2.2) n ((-1), 0, (r.length : Int) - 1) = some (f, g) ∧
      ((∃ k : Nat, f = (k : Int) ∧ isF r w k) ∨ (f = -1 ∧ ∃ k : Nat, g = (k : Int) ∧ allS r w ∧ isL r k)) := by
  obtain ⟨y, h1, h2⟩ := loopF_inv (body := fun (x : Int × Int × Int) => ref20_Take_b4 n w pieces r got x.1 x.2.1 x.2.2)
    (fun x => ∃ (d g : Nat) (f : Int), x = (f, (g : Int), (d : Int) - 1) ∧ d ≤ r.length ∧ g < r.length ∧ ((f = -1 ∧ ∀ j, d ≤ j → j < r.length → (gt r j).Len < w) ∨ (∃ k : Nat, f = (k : Int) ∧ d ≤ k ∧ k < r.length ∧ w ≤ (gt r k).Len ∧ ∀ j, d ≤ j → j < k → (gt r j).Len < w)) ∧
      (∀ j, d ≤ j → j < r.length → (gt r j).Len ≤ (gt r g).Len) ∧ (∀ j, d ≤ j → j < g → (gt r j).Len < (gt r g).Len))
    (fun x => (x.2.2 + 1).toNat)
    (fun y => (∃ k : Nat, y.1 = (k : Int) ∧ isF r w k) ∨ (y.1 = -1 ∧ ∃ k : Nat, y.2 = (k : Int) ∧ allS r w ∧ isL r k)) (by
      rintro x ⟨d, g, f, rfl, hd, hg, hf, i2, i3⟩
      cases d with
      | zero =>
        refine .inr ⟨(f, (g : Int)), by simp [ref20_Take_b4, bif_ite], ?_⟩
        rcases hf with ⟨rfl, hf⟩ | ⟨k, rfl, h1, h2, h3, h4⟩
        · exact .inr ⟨rfl, g, rfl, fun j hj => hf j (by omega) hj, hg, fun j hj => i2 j (by omega) hj, fun j hj => i3 j (by omega) hj⟩
        · exact .inl ⟨k, rfl, h2, h3, fun j hj => h4 j (by omega) hj⟩
      | succ d =>
        have ed : ((d + 1 : Nat) : Int) - 1 = (d : Int) := by omega
        have c1 : decide ((d : Int) ≥ 0) = true := by simp
        have c2 : (0 ≤ (d : Int) ∧ (d : Int) < (r.length : Int)) ∧ d < r.length := by omega
        have c3 : (0 ≤ (d : Int) ∧ (d : Int) < (r.length : Int)) ∧ d < r.length ∧ (0 ≤ (g : Int) ∧ (g : Int) < (r.length : Int)) ∧ g < r.length := by omega
        simp only [ref20_Take_b4, ref20_Take_k6, ref20_Take_k5, ed, c1, bif_ite, if_true, Int.toNat_natCast, gd_pos _ c2, gd_pos _ c3]
        rw [wid (by omega)]
        have key : ∀ f' : Int, ((f' = -1 ∧ ∀ j, d ≤ j → j < r.length → (gt r j).Len < w) ∨ (∃ k : Nat, f' = (k : Int) ∧ d ≤ k ∧ k < r.length ∧ w ≤ (gt r k).Len ∧ ∀ j, d ≤ j → j < k → (gt r j).Len < w)) →
            (∃ x', (if decide ((gt r d).Len ≥ (gt r g).Len) = true then some (.inl (f', (d : Int), (d : Int) - 1)) else some (.inl (f', (g : Int), (d : Int) - 1)) : Option ((Int × Int × Int) ⊕ (Int × Int))) = some (.inl x') ∧ (∃ (d g : Nat) (f : Int), x' = (f, (g : Int), (d : Int) - 1) ∧ d ≤ r.length ∧ g < r.length ∧ ((f = -1 ∧ ∀ j, d ≤ j → j < r.length → (gt r j).Len < w) ∨ (∃ k : Nat, f = (k : Int) ∧ d ≤ k ∧ k < r.length ∧ w ≤ (gt r k).Len ∧ ∀ j, d ≤ j → j < k → (gt r j).Len < w)) ∧
      (∀ j, d ≤ j → j < r.length → (gt r j).Len ≤ (gt r g).Len) ∧ (∀ j, d ≤ j → j < g → (gt r j).Len < (gt r g).Len)) ∧ (x'.2.2 + 1).toNat < ((d : Int) + 1).toNat) := by
          intro f' hf'
          by_cases b : (gt r d).Len ≥ (gt r g).Len
          · rw [decide_eq_true b]
            refine ⟨_, rfl, ⟨d, d, f', rfl, by omega, by omega, hf', fun j h1 h2 => ?_, fun j h1 h2 => by omega⟩, by dsimp only; omega⟩
            by_cases e : j = d
            · subst e; omega
            · have := i2 j (by omega) h2; omega
          · rw [decide_eq_false b]
            refine ⟨_, rfl, ⟨d, g, f', rfl, by omega, by omega, hf', fun j h1 h2 => ?_, fun j h1 h2 => ?_⟩, by dsimp only; omega⟩
            · by_cases e : j = d
              · subst e; omega
              · exact i2 j (by omega) h2
            · by_cases e : j = d
              · subst e; omega
              · exact i3 j (by omega) h2
        by_cases b : (gt r d).Len ≥ w
        · rw [decide_eq_true b]
          simp only [if_true]
          exact .inl (key (d : Int) (.inr ⟨d, rfl, by omega, by omega, b, fun j h1 h2 => by omega⟩))
        · rw [decide_eq_false b]
          simp only [Bool.false_eq_true, if_false]
          refine .inl (key f ?_)
          rcases hf with ⟨rfl, hf⟩ | ⟨k, rfl, h1, h2, h3, h4⟩
          · refine .inl ⟨rfl, fun j h1 h2 => ?_⟩
            by_cases e : j = d
            · subst e; omega
            · exact hf j (by omega) h2
          · refine .inr ⟨k, rfl, by omega, h2, h3, fun j h5 h6 => ?_⟩
            by_cases e : j = d
            · subst e; omega
            · exact h4 j (by omega) h6)
    n ((-1), 0, (r.length : Int) - 1) ⟨r.length, 0, -1, rfl, Nat.le_refl _, h0, .inl ⟨rfl, fun j h1 h2 => by omega⟩, fun j h1 h2 => by omega, fun j h1 h2 => by omega⟩ (by simpa using hn)
  exact ⟨y.1, y.2, h1, h2⟩

theorem drop_eq (n : Nat) (l : List TExtent) (hn : l.length < n) (hb : l.length ≤ 1073741824) : ref20_drop n l = some (l.filter fun x => decide (0 < x.Len)) := by
  have h := loop_list (n := n) (σ := List TExtent) (body := fun (x : (List TExtent) × Int) => ref20_drop_b2 n l x.1 x.2) l (fun k s => (s, (k : Int)))
    (fun s x => .inl (if 0 < x.Len then s ++ [x] else s)) (fun s => s) (fun k s => s.length ≤ k) (s := []) (by simp)
    (fun k hk s hs => by
      have h1 : decide ((k : Int) < (l.length : Int)) = true := by simp; omega
      have h2 : 0 ≤ (k : Int) ∧ (k : Int) < (l.length : Int) := by omega
      have h3 : (0 ≤ (k : Int) ∧ (k : Int) < (l.length : Int)) ∧ s.length + 1 ≤ 2147483648 := by omega
      simp only [ref20_drop_b2, ref20_drop_k3, h1, bif_ite, if_true, gd_pos _ h2, gd_pos _ h3, Int.toNat_natCast, gt_lt hk]
      rw [wid (by omega)]
      simp only [gt_iff_lt, decide_eq_true_eq]
      split <;> simp)
    (fun k hk s hs s' hf => by
      simp only [Sum.inl.injEq] at hf; subst hf
      split
      · rw [List.length_append]; simp only [List.length_cons, List.length_nil]; omega
      · omega)
    (fun s hs => by simp [ref20_drop_b2, bif_ite]) hn
  have e : ∀ (l s : List TExtent), runL (fun s x => (.inl (if 0 < x.Len then s ++ [x] else s) : List TExtent ⊕ List TExtent)) (fun s => s) l s = s ++ l.filter fun x => decide (0 < x.Len) := by
    intro l
    induction l with
    | nil => intro s; simp [runL]
    | cons x l ih =>
      intro s
      simp only [runL, ih, List.filter_cons]
      by_cases hx : 0 < x.Len <;> simp [hx]
  rw [e] at h
  have h' : loopF (fun (x : (List TExtent) × Int) => ref20_drop_b2 n l x.1 x.2) n ([], 0) = some (l.filter fun x => decide (0 < x.Len)) := by simpa using h
  simp only [ref20_drop, h', Option.bind_some, ref20_drop_k1]

theorem filter_set : ∀ {r : List TExtent} {k : Nat} {y : TExtent}, good r → k < r.length → (r.set k y).filter (fun x => decide (0 < x.Len)) = if 0 < y.Len then r.set k y else r.eraseIdx k
  | [], k, y, _, hk => by simp at hk
  | x :: r, 0, y, hg, _ => by
    have : r.filter (fun x => decide (0 < x.Len)) = r := List.filter_eq_self.2 fun z hz => by
      have := (val_iff z).1 (hg z (List.mem_cons_of_mem _ hz)); simp; omega
    simp only [List.set_cons_zero, List.filter_cons, this, List.eraseIdx_cons_zero, decide_eq_true_eq]
  | x :: r, k + 1, y, hg, hk => by
    have hx : 0 < x.Len := by have := (val_iff x).1 (hg x List.mem_cons_self); omega
    have ih := filter_set (r := r) (k := k) (y := y) (fun z hz => hg z (List.mem_cons_of_mem _ hz)) (by simpa using hk)
    simp only [List.set_cons_succ, List.filter_cons, hx, decide_true, if_true, ih, List.eraseIdx_cons_succ]
    split <;> rfl
end Go.Proofs.Ytojnggohjbidaaa
