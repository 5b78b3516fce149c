/-
  ch. 20: the law of what is free: it answers true.
-/
import Derived.Test.YtojnggohjbidaaaX
set_option maxHeartbeats 8000000
set_option linter.unusedVariables false
set_option linter.unusedSimpArgs false
set_option maxRecDepth 100000
namespace Go.Proofs.Ytojnggohjbidaaa
open Go.AE

def mn (a b : Int) : Int := if a < b then a else b
def fr (m : Int) : Int → List TExtent → List TExtent
  | a, [] => if a < m then [⟨a, m - a⟩] else []
  | a, x :: l => (if a < mn m x.At then [⟨a, mn m x.At - a⟩] else []) ++ fr m (x.At + x.Len) l

theorem fr_nf {m : Int} (hm : m ≤ 512) : ∀ {r : List TExtent} {e a : Int}, e < a → 0 ≤ a → r.all val = true → r.Pairwise apart → (∀ x ∈ r, a ≤ x.At) → nf e (fr m a r)
  | [], e, a, he, ha, _, _, _ => by
    unfold fr
    split
    · exact ⟨(val_iff _).2 (by dsimp only; omega), he, trivial⟩
    · trivial
  | x :: l, e, a, he, ha, hv, hp, hx => by
    simp only [List.all_cons, Bool.and_eq_true] at hv
    obtain ⟨hp1, hp2⟩ := List.pairwise_cons.1 hp
    have v := (val_iff _).1 hv.1
    have hax := hx x List.mem_cons_self
    have key : ∀ e', e' < x.At + x.Len → nf e' (fr m (x.At + x.Len) l) := fun e' he' => fr_nf hm he' (by omega) hv.2 hp2 (fun y hy => hp1 y hy)
    unfold fr
    by_cases c : a < mn m x.At
    · have h1 : mn m x.At ≤ m ∧ mn m x.At ≤ x.At := by unfold mn; split <;> omega
      simp only [c, if_true, List.singleton_append, List.cons_append, List.nil_append]
      refine ⟨(val_iff _).2 (by dsimp only; omega), he, key _ (by dsimp only; omega)⟩
    · simp only [c, if_false, List.nil_append]
      exact key _ (by omega)

theorem fr_mem {m : Int} : ∀ {r : List TExtent} {a : Int}, r.all val = true → r.Pairwise apart → (∀ x ∈ r, a ≤ x.At) → ∀ k, k ∈ trks (fr m a r) ↔ a ≤ k ∧ k < m ∧ k ∉ trks r
  | [], a, _, _, _, k => by
    unfold fr
    split
    · simp only [trks_cons, List.mem_append, trk_mem]
      simp only [trks, List.flatMap_nil, List.not_mem_nil, or_false, not_false_eq_true, and_true]
      constructor <;> intro h <;> omega
    · simp only [trks, List.flatMap_nil, List.not_mem_nil, false_iff, not_false_eq_true, and_true]
      omega
  | x :: l, a, hv, hp, hx, k => by
    simp only [List.all_cons, Bool.and_eq_true] at hv
    obtain ⟨hp1, hp2⟩ := List.pairwise_cons.1 hp
    have v := (val_iff _).1 hv.1
    have hax := hx x List.mem_cons_self
    have ih := fr_mem (m := m) (a := x.At + x.Len) hv.2 hp2 (fun y hy => hp1 y hy) k
    have hlow : k ∈ trks l → x.At + x.Len ≤ k := by
      intro hk
      obtain ⟨y, hy, hk⟩ := List.mem_flatMap.1 hk
      have := hp1 y hy
      have := trk_mem.1 hk
      unfold apart at *
      omega
    have hmn : (k < mn m x.At) ↔ (k < m ∧ k < x.At) := by unfold mn; split <;> omega
    have hrhs : k ∉ trks (x :: l) ↔ ¬ (x.At ≤ k ∧ k < x.At + x.Len) ∧ k ∉ trks l := by
      rw [trks_cons, List.mem_append, trk_mem]; exact not_or
    rw [hrhs]
    unfold fr
    have hl : k ∈ trks ((if a < mn m x.At then [⟨a, mn m x.At - a⟩] else []) ++ fr m (x.At + x.Len) l) ↔ (a ≤ k ∧ k < mn m x.At) ∨ k ∈ trks (fr m (x.At + x.Len) l) := by
      by_cases c : a < mn m x.At
      · simp only [c, if_true, List.singleton_append, List.cons_append, List.nil_append, trks_cons, List.mem_append, trk_mem]
        constructor
        · rintro (h | h)
          · exact .inl (by omega)
          · exact .inr h
        · rintro (h | h)
          · exact .inl (by omega)
          · exact .inr h
      · simp only [c, if_false, List.nil_append]
        constructor
        · exact .inr
        · rintro (h | h)
          · exact absurd (show a < mn m x.At by omega) c
          · exact h
    rw [hl, ih, hmn]
    by_cases hk : k ∈ trks l
    · have h7 := hlow hk
      constructor
      · rintro (⟨_, _, h⟩ | ⟨_, _, h⟩)
        · omega
        · exact absurd hk h
      · rintro ⟨_, _, _, h⟩
        exact absurd hk h
    · simp only [hk, not_false_eq_true, and_true]
      omega

/-! ## The code -/
theorem Free_loop (n : Nat) (m : Int) (hm : 0 ≤ m ∧ m ≤ 512) (r : List TExtent) (hv : r.all val = true) (hn : r.length < n) (hl : r.length ≤ 1073741824) :
    ((loopF (fun (x : (List TExtent) × Int × Int) => extent_Free_b3 n m r (r.length : Int) x.1 x.2.1 x.2.2) n ([], 0, 0)).bind fun y => extent_Free_k1 n m y.1 y.2) = some (fr m 0 r) := by
  have h := loop_list (n := n) (σ := List TExtent × Int) (body := fun (x : (List TExtent) × Int × Int) => extent_Free_b3 n m r (r.length : Int) x.1 x.2.1 x.2.2) r (fun k s => (s.1, s.2, (k : Int)))
    (fun s x => .inl (s.1 ++ (if s.2 < mn m x.At then [⟨s.2, mn m x.At - s.2⟩] else []), x.At + x.Len)) (fun s => s) (fun k s => s.1.length ≤ k ∧ 0 ≤ s.2 ∧ s.2 ≤ 1024) (s := ([], 0)) (by simp)
    (fun k hk s hs => by
      have c1 : decide ((k : Int) < (r.length : Int)) = true := by simp; omega
      have c2 : 0 ≤ (k : Int) ∧ (k : Int) < (r.length : Int) := by omega
      have c3 : s.1.length + 1 ≤ 2147483648 := by omega
      have v := (val_iff _).1 (List.all_eq_true.1 hv _ (List.getElem_mem hk))
      have hmn : 0 ≤ mn m r[k].At ∧ mn m r[k].At ≤ 512 := by unfold mn; split <;> omega
      have e1 : (if m < r[k].At then m else r[k].At) = mn m r[k].At := rfl
      simp only [extent_Free_b3, extent_Free_k5, extent_Free_k4, c1, bif_ite, if_true, gd_pos _ c2, Int.toNat_natCast, gt_lt hk, e1, gd_pos _ c3]
      rw [wid (n := r[k].At + r[k].Len) (by omega), wid (n := (k : Int) + 1) (by omega), wid (n := mn m r[k].At - s.2) (by omega)]
      by_cases c : s.2 < mn m r[k].At
      · simp [c]
      · simp [c])
    (fun k hk s hs s' hf => by
      have v := (val_iff _).1 (List.all_eq_true.1 hv _ (List.getElem_mem hk))
      simp only [Sum.inl.injEq] at hf
      subst hf
      refine ⟨?_, by dsimp only; omega, by dsimp only; omega⟩
      dsimp only
      split
      · rw [List.length_append]; simp only [List.length_cons, List.length_nil]; omega
      · rw [List.length_append]; simp only [List.length_nil]; omega)
    (fun s _ => by simp [extent_Free_b3, bif_ite]) hn
  have e : ∀ (l : List TExtent) (s : List TExtent × Int), l.all val = true → 0 ≤ s.2 → s.2 ≤ 1024 → s.1.length + l.length ≤ 1073741824 →
      ∃ y, runL (fun s x => (.inl (s.1 ++ (if s.2 < mn m x.At then [⟨s.2, mn m x.At - s.2⟩] else []), x.At + x.Len) : (List TExtent × Int) ⊕ (List TExtent × Int))) (fun s => s) l s = y ∧ extent_Free_k1 n m y.1 y.2 = some (s.1 ++ fr m s.2 l) := by
    intro l
    induction l with
    | nil =>
      intro s _ h0 h1 h2
      refine ⟨s, rfl, ?_⟩
      simp only [List.length_nil] at h2
      have c3 : s.1.length + 1 ≤ 2147483648 := by omega
      simp only [extent_Free_k1, extent_Free_k2, bif_ite, gd_pos _ c3, decide_eq_true_eq, gt_iff_lt, fr]
      rw [wid (by omega)]
      split <;> simp
    | cons x l ih =>
      intro s hv h0 h1 h2
      simp only [List.all_cons, Bool.and_eq_true] at hv
      have v := (val_iff _).1 hv.1
      simp only [List.length_cons] at h2
      obtain ⟨y, y1, y2⟩ := ih (s.1 ++ (if s.2 < mn m x.At then [⟨s.2, mn m x.At - s.2⟩] else []), x.At + x.Len) hv.2 (by dsimp only; omega) (by dsimp only; omega) (by
        dsimp only
        split
        · rw [List.length_append]; simp only [List.length_cons, List.length_nil]; omega
        · rw [List.length_append]; simp only [List.length_nil]; omega)
      refine ⟨y, by simp only [runL]; exact y1, ?_⟩
      rw [y2]
      simp only [fr, List.append_assoc]
  obtain ⟨y, y1, y2⟩ := e r ([], 0) hv (by simp) (by simp) (by simpa using hl)
  rw [y1] at h
  have h' : loopF (fun (x : (List TExtent) × Int × Int) => extent_Free_b3 n m r (r.length : Int) x.1 x.2.1 x.2.2) n ([], 0, 0) = some y := h
  rw [h', Option.bind_some, y2]; simp

/-! ## The specification -/
def outB (t : List Int) (k : Nat) : List Bool := (List.range 512).map fun (i : Nat) => decide (i < k ∧ (i : Int) ∉ t)
theorem outB_len (t : List Int) (k : Nat) : (outB t k).length = 512 := by simp [outB]
theorem outB_zero (t : List Int) : outB t 0 = mark [] := by
  unfold outB mark
  refine List.map_congr_left fun i _ => ?_
  simp
theorem outB_set (t : List Int) {k : Nat} (hk : k < 512) : (outB t k).set k (!decide ((k : Int) ∈ t)) = outB t (k + 1) := by
  refine List.ext_getElem (by simp [outB]) fun i h1 h2 => ?_
  simp only [List.length_set, outB_len] at h1
  rw [List.getElem_set]
  simp only [outB, List.getElem_map, List.getElem_range]
  by_cases e : k = i
  · subst e
    simp
  · simp only [e, if_false]
    have : (i < k + 1) ↔ (i < k) := by omega
    simp only [this]

theorem RFree_loop (n : Nat) (M : Nat) (hM : M ≤ 512) (t : List Int) (hn : 512 < n) : loopF (fun (x : (List Bool) × Int) => ref20_Free_b2 n (M : Int) (mark t) x.1 x.2) n (mark [], 0) = some (outB t M) := by
  have h := loop_list (n := n) (σ := Unit) (body := fun (x : (List Bool) × Int) => ref20_Free_b2 n (M : Int) (mark t) x.1 x.2) (List.range M) (fun k _ => (outB t k, (k : Int))) (fun _ _ => .inl ()) (fun _ => outB t M) (fun _ _ => True) (s := ()) trivial
    (fun k hk s _ => by
      simp only [List.length_range] at hk
      have c1 : decide ((k : Int) < (M : Int)) = true := by simp; omega
      have c2 : (0 ≤ (k : Int) ∧ (k : Int) < 512 ∧ (mark t).length = 512) ∧ k < (mark t).length ∧ (0 ≤ (k : Int) ∧ (k : Int) < 512 ∧ (outB t k).length = 512) ∧ k < (outB t k).length := by rw [mark_len, outB_len]; omega
      have e1 := mark_gt t (k := (k : Int)) (by omega)
      rw [Int.toNat_natCast] at e1
      simp only [ref20_Free_b2, c1, bif_ite, if_true, Int.toNat_natCast, gd_pos _ c2, e1, outB_set t (show k < 512 by omega)]
      rw [wid (by omega)]; simp)
    (fun _ _ _ _ _ _ => trivial) (fun s _ => by simp [ref20_Free_b2, bif_ite]) (by simp; omega)
  have e : ∀ l : List Nat, runL (fun (_ : Unit) (_ : Nat) => (.inl () : Unit ⊕ List Bool)) (fun _ => outB t M) l () = outB t M := by
    intro l
    induction l with
    | nil => rfl
    | cons a l ih => simp only [runL, ih]
  rw [e, outB_zero] at h
  exact h

theorem Free_eq (n : Nat) (hn : N0 ≤ n) (l : List TExtent) (m : Int) (hl : l.length ≤ 2097152) : ∃ R, extent_Free n l m = some R ∧ ref20_Free n l m = some R ∧ R.length ≤ 512 := by
  simp only [extent_Free, ref20_Free, Valid_eq n hn l (by omega), RValid_eq n hn l hl, Option.bind_some]
  by_cases c : (trkF [] l).isSome = true ∧ 0 ≤ m ∧ m ≤ 512
  · have c1 : (if (if (!(trkF [] l).isSome) = true then true else (decide (m < 0))) = true then true else (decide (m > 512))) = false := by
      have h1 : ¬ m < 0 := by omega
      have h2 : ¬ m > 512 := by omega
      simp [c.1, h1, h2]
    obtain ⟨hv, hnd⟩ := (trkF_isSome l).1 c.1
    obtain ⟨r, r1, r2, r3⟩ := sorted_eq n l (by omega)
    have hrl := r2.length_eq
    have hrv : r.all val = true := by rw [perm_all r2]; exact hv
    have hap : r.Pairwise apart := (nodup_apart hrv r3).1 ((perm_trks r2).nodup_iff.2 hnd)
    have hle := len_le_trks hv
    have hfw := few (m := 512) hnd (trks_range hv)
    obtain ⟨M, rfl⟩ : ∃ M : Nat, m = (M : Int) := ⟨m.toNat, by omega⟩
    have hlo : ∀ x ∈ r, 0 ≤ x.At := fun x hx => ((val_iff _).1 (List.all_eq_true.1 hrv x hx)).1
    have hnf : nf (-1) (fr (M : Int) 0 r) := fr_nf c.2.2 (by omega) (by omega) hrv hap hlo
    have hF := Free_loop n (M : Int) c.2 r hrv (by unfold N0 at hn; omega) (by omega)
    simp only [c1, bif_ite, Bool.false_eq_true, if_false, r1, Option.bind_some, Set_eq n l hn hl, trkO_of c.1]
    rw [gd_pos _ trivial, mark_nil, RFree_loop n M (by omega) _ (by unfold N0 at hn; omega), hF]
    have e1 : outB (trks l) M = mark (trks (fr (M : Int) 0 r)) := by
      unfold outB mark
      refine List.map_congr_left fun i hi => ?_
      have h1 := fr_mem (m := (M : Int)) hrv hap hlo (i : Int)
      rw [decide_eq_decide, h1, (perm_trks r2).mem_iff]
      simp
    refine ⟨_, rfl, ?_, ?_⟩
    · simp only [Option.bind_some, ref20_Free_k1]
      rw [gd_pos _ (outB_len _ _), Normal_eq n _ (outB_len _ _) (by unfold N0 at hn; omega), e1, nrm_nf hnf]
      rfl
    · have h1 := len_le_trks (nf_val hnf)
      have h2 := few (m := 512) ((nf_asc hnf).imp fun h => by omega) (trks_range (nf_val hnf))
      omega
  · have c1 : (if (if (!(trkF [] l).isSome) = true then true else (decide (m < 0))) = true then true else (decide (m > 512))) = true := by
      by_cases h0 : (trkF [] l).isSome = true
      · by_cases h1 : m < 0
        · simp [h0, h1]
        · have h2 : m > 512 := by
            rcases Int.lt_or_le 512 m with h | h
            · exact h
            · exact absurd ⟨h0, by omega, h⟩ c
          simp [h2]
      · simp [h0]
    simp only [c1, bif_ite, if_true]
    exact ⟨[], rfl, rfl, by simp⟩

theorem p_law20_ExtentFree (n : Nat) (hn : N0 ≤ n) (x0 : List TExtent) (x1 : Int) (hc : ∀ i, i < 2 → CanL Try.prog (([(false, [.slice 43]), (false, [.int .i64])] : List (Bool × List Kd)).getD i (false, [])).2 (([[.slice (List.map e_TExtent x0)], [.int x1]] : List (List C)).getD i []))
    (hb : cbss [[.slice (List.map e_TExtent x0)], [.int x1]] ≤ 2097152) : law20_ExtentFree n x0 x1 = some true := by
  clear hc
  have hl := len_of_cbss hb (xs := [.slice (List.map e_TExtent x0)]) (l := x0) (f := e_TExtent) (by simp) (by simp)
  obtain ⟨R, h1, h2, h3⟩ := Free_eq n hn x0 x1 hl
  simp only [law20_ExtentFree, h1, h2, Option.bind_some, Same_eq n R R (by unfold N0 at hn; omega) (by omega), works_eq n hn]
  simp [gd]
end Go.Proofs.Ytojnggohjbidaaa
