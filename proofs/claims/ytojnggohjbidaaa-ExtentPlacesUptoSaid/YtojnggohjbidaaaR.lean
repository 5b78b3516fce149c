/-
  ch. 20: normal forms: the specification's check is the code's. No program in sight.
-/
import Derived.Test.YtojnggohjbidaaaQ
set_option maxHeartbeats 8000000
set_option linter.unusedVariables false
set_option linter.unusedSimpArgs false
set_option maxRecDepth 100000
namespace Go.Proofs.Ytojnggohjbidaaa
open Go.AE

def nf : Int → List TExtent → Prop
  | _, [] => True
  | e, x :: l => val x = true ∧ e < x.At ∧ nf (x.At + x.Len) l
def lastE : Int → List TExtent → Int
  | e, [] => e
  | _, x :: l => lastE (x.At + x.Len) l
theorem nf_snoc {x : TExtent} : ∀ {l : List TExtent} {e : Int}, nf e (l ++ [x]) ↔ nf e l ∧ val x = true ∧ lastE e l < x.At
  | [], e => by simp [nf, lastE]
  | y :: l, e => by simp only [List.cons_append, nf, lastE, nf_snoc]; simp only [and_assoc]
theorem lastE_snoc {x : TExtent} : ∀ {l : List TExtent} {e : Int}, lastE e (l ++ [x]) = x.At + x.Len
  | [], e => rfl
  | y :: l, e => by simp only [List.cons_append, lastE, lastE_snoc]

theorem snoc_cases {α : Type} (l : List α) : l = [] ∨ ∃ i z, l = i ++ [z] := by
  rcases List.eq_nil_or_concat l with h | ⟨i, z, h⟩
  · exact .inl h
  · exact .inr ⟨i, z, by simpa using h⟩
theorem addT_nil (k : Int) : addT [] k = [⟨k, 1⟩] := by simp [addT]
theorem gt_app_last {α : Type} [Inhabited α] (i : List α) (z : α) : gt (i ++ [z]) ((i ++ [z]).length - 1) = z := by
  rw [gt_lt (by simp)]; simp
theorem addT_snoc (i : List TExtent) (z : TExtent) (k : Int) : addT (i ++ [z]) k = if z.At + z.Len = k then i ++ [⟨z.At, z.Len + 1⟩] else i ++ [z] ++ [⟨k, 1⟩] := by
  unfold addT
  rw [gt_app_last]
  have h : 0 < (i ++ [z]).length := by simp
  simp only [h, true_and]
  split
  · simp [List.set_append]
  · rfl
theorem addT_nf {e k : Int} {out : List TExtent} (h : nf e out) (hl : lastE e out ≤ k) (he : e < k) (hk : 0 ≤ k ∧ k < 512) : nf e (addT out k) ∧ lastE e (addT out k) = k + 1 := by
  rcases snoc_cases out with rfl | ⟨i, z, rfl⟩
  · rw [addT_nil]; refine ⟨⟨(val_iff _).2 ?_, he, trivial⟩, rfl⟩; dsimp only; omega
  · rw [addT_snoc]
    rw [lastE_snoc] at hl
    obtain ⟨h1, h2, h3⟩ := nf_snoc.1 h
    have h2' := (val_iff _).1 h2
    split
    · refine ⟨nf_snoc.2 ⟨h1, (val_iff _).2 ?_, h3⟩, by rw [lastE_snoc]; dsimp only; omega⟩
      dsimp only; omega
    · refine ⟨nf_snoc.2 ⟨h, (val_iff _).2 ?_, ?_⟩, by rw [lastE_snoc]⟩
      · dsimp only; omega
      · rw [lastE_snoc]; dsimp only; omega

theorem nf_nrm_aux (p : List Bool) : ∀ m : Nat, m ≤ 512 → nf (-1) ((List.range m).foldl (fun out (k : Nat) => if gt p k then addT out (k : Int) else out) []) ∧ lastE (-1) ((List.range m).foldl (fun out (k : Nat) => if gt p k then addT out (k : Int) else out) []) ≤ (m : Int)
  | 0, _ => by simp [nf, lastE]
  | m + 1, h => by
    obtain ⟨h1, h2⟩ := nf_nrm_aux p m (by omega)
    rw [List.range_succ, List.foldl_append]
    simp only [List.foldl_cons, List.foldl_nil]
    split
    · obtain ⟨h3, h4⟩ := addT_nf h1 h2 (by omega) (by omega)
      exact ⟨h3, by rw [h4]; omega⟩
    · exact ⟨h1, by omega⟩
theorem nf_nrm (p : List Bool) : nf (-1) (nrm p) := (nf_nrm_aux p 512 (Nat.le_refl _)).1

/-! ## Ascending lists -/
theorem asc_ext : ∀ {a b : List Nat}, a.Pairwise (· < ·) → b.Pairwise (· < ·) → (∀ k, k ∈ a ↔ k ∈ b) → a = b
  | [], [], _, _, _ => rfl
  | [], y :: b, _, _, h => absurd ((h y).2 List.mem_cons_self) (by simp)
  | x :: a, [], _, _, h => absurd ((h x).1 List.mem_cons_self) (by simp)
  | x :: a, y :: b, ha, hb, h => by
    obtain ⟨ha1, ha2⟩ := List.pairwise_cons.1 ha
    obtain ⟨hb1, hb2⟩ := List.pairwise_cons.1 hb
    have e : x = y := by
      rcases List.mem_cons.1 ((h x).1 List.mem_cons_self) with e | e
      · exact e
      · rcases List.mem_cons.1 ((h y).2 List.mem_cons_self) with e' | e'
        · exact e'.symm
        · have := ha1 _ e'; have := hb1 _ e; omega
    subst e
    rw [asc_ext ha2 hb2 (fun k => ?_)]
    constructor
    · intro hk
      have h1 := ha1 _ hk
      rcases List.mem_cons.1 ((h k).1 (List.mem_cons_of_mem _ hk)) with e | e
      · omega
      · exact e
    · intro hk
      have h1 := hb1 _ hk
      rcases List.mem_cons.1 ((h k).2 (List.mem_cons_of_mem _ hk)) with e | e
      · omega
      · exact e

theorem trks_cons (x : TExtent) (l : List TExtent) : trks (x :: l) = trk x ++ trks l := by simp [trks]
theorem nf_gt : ∀ {l : List TExtent} {e : Int}, nf e l → ∀ k ∈ trks l, e < k
  | [], _, _, k, hk => by simp [trks] at hk
  | x :: l, e, h, k, hk => by
    obtain ⟨h1, h2, h3⟩ := h
    have h1' := (val_iff _).1 h1
    rw [trks_cons, List.mem_append] at hk
    rcases hk with hk | hk
    · have := trk_mem.1 hk; omega
    · have := nf_gt h3 k hk; omega
theorem trk_asc (x : TExtent) : (trk x).Pairwise (· < ·) := by
  unfold trk
  refine List.pairwise_map.2 (List.Pairwise.imp ?_ List.pairwise_lt_range)
  intro a b h; omega
theorem nf_asc : ∀ {l : List TExtent} {e : Int}, nf e l → (trks l).Pairwise (· < ·)
  | [], _, _ => by simp [trks]
  | x :: l, e, h => by
    obtain ⟨h1, h2, h3⟩ := h
    rw [trks_cons, List.pairwise_append]
    refine ⟨trk_asc x, nf_asc h3, fun a ha b hb => ?_⟩
    have := trk_mem.1 ha
    have := nf_gt h3 b hb
    omega
theorem nf_val : ∀ {l : List TExtent} {e : Int}, nf e l → l.all val = true
  | [], _, _ => rfl
  | x :: l, e, h => by simp [h.1, nf_val h.2.2]

theorem addAll_some : ∀ {t s : List Int}, (s ++ t).Nodup → addAll s t = some (s ++ t)
  | [], s, _ => by simp [addAll]
  | k :: t, s, h => by
    have hk : k ∉ s := fun hk => (List.nodup_append.1 h).2.2 k hk k List.mem_cons_self rfl
    simp only [addAll, hk, if_false]
    rw [addAll_some (by simpa using h)]; simp
theorem trkF_some : ∀ {l : List TExtent} {s : List Int}, l.all val = true → (s ++ trks l).Nodup → trkF s l = some (s ++ trks l)
  | [], s, _, _ => by simp [trkF, trks]
  | x :: l, s, hv, h => by
    simp only [List.all_cons, Bool.and_eq_true] at hv
    rw [trks_cons, ← List.append_assoc] at h
    simp only [trkF, hv.1, if_true]
    rw [addAll_some (List.nodup_append.1 h).1, Option.bind_some, trkF_some hv.2 h, trks_cons, List.append_assoc]
theorem nf_trkF {l : List TExtent} {e : Int} (h : nf e l) : trkF [] l = some (trks l) := by
  have := trkF_some (s := []) (nf_val h) (by
    rw [List.nil_append]
    exact List.Pairwise.imp (fun h => by omega) (nf_asc h))
  simpa using this

/-! ## The normal form of a normal form -/
theorem add_trk_aux (x : TExtent) (out : List TExtent) (ho : ∀ i z, out = i ++ [z] → z.At + z.Len ≠ x.At) : ∀ m : Nat, ((List.range m).map fun (j : Nat) => x.At + (j : Int)).foldl addT out = if m = 0 then out else out ++ [⟨x.At, (m : Int)⟩]
  | 0 => by simp
  | m + 1 => by
    rw [List.range_succ, List.map_append, List.foldl_append, add_trk_aux x out ho m]
    simp only [List.map_cons, List.map_nil, List.foldl_cons, List.foldl_nil]
    by_cases hm : m = 0
    · subst hm
      simp only [if_true]
      rcases snoc_cases out with rfl | ⟨i, z, rfl⟩
      · rw [addT_nil]; simp
      · rw [addT_snoc]
        have := ho i z rfl
        rw [if_neg (by simpa using this)]
        simp
    · simp only [hm, if_false]
      rw [addT_snoc]; simp
theorem add_trk {x : TExtent} {out : List TExtent} (hx : 1 ≤ x.Len) (ho : ∀ i z, out = i ++ [z] → z.At + z.Len ≠ x.At) : (trk x).foldl addT out = out ++ [x] := by
  unfold trk
  rw [add_trk_aux x out ho, if_neg (by omega)]
  have : ((x.Len.toNat : Nat) : Int) = x.Len := by omega
  rw [this]
theorem add_trks : ∀ {l : List TExtent} {e : Int} {out : List TExtent}, nf e l → (∀ i z, out = i ++ [z] → z.At + z.Len ≤ e) → (trks l).foldl addT out = out ++ l
  | [], _, _, _, _ => by simp [trks]
  | x :: l, e, out, h, ho => by
    obtain ⟨h1, h2, h3⟩ := h
    have h1' := (val_iff _).1 h1
    rw [trks_cons, List.foldl_append, add_trk h1'.2.1 (fun i z hz => by have := ho i z hz; omega), add_trks h3 (fun i z hz => ?_)]
    · simp
    · have := List.append_inj' hz rfl
      have e2 : x = z := by simpa using this.2
      subst e2; omega

theorem nrm_nf {l : List TExtent} (h : nf (-1) l) : nrm (mark (trks l)) = l := by
  have e1 : (List.range 512).filter (fun k => gt (mark (trks l)) k) = (trks l).map Int.toNat := by
    refine asc_ext (List.Pairwise.filter _ List.pairwise_lt_range) ?_ fun k => ?_
    · refine List.pairwise_map.2 (List.Pairwise.imp_of_mem ?_ (nf_asc h))
      intro a b ha hb hab
      have := trks_range (nf_val h) a ha
      have := trks_range (nf_val h) b hb
      omega
    · rw [List.mem_filter, List.mem_range, List.mem_map]
      constructor
      · rintro ⟨h1, h2⟩
        have h3 := mark_gt (trks l) (k := (k : Int)) (by omega)
        rw [Int.toNat_natCast] at h3
        rw [h3] at h2
        exact ⟨(k : Int), by simpa using h2, by simp⟩
      · rintro ⟨a, ha, rfl⟩
        have h1 := trks_range (nf_val h) a ha
        refine ⟨by omega, ?_⟩
        rw [mark_gt _ h1]; simpa using ha
  have e2 : nrm (mark (trks l)) = ((trks l).map Int.toNat).foldl (fun out (k : Nat) => addT out (k : Int)) [] := by
    rw [← e1, List.foldl_filter]; rfl
  have e3 : ((trks l).map Int.toNat).foldl (fun out (k : Nat) => addT out (k : Int)) [] = (trks l).foldl addT [] := by
    rw [List.foldl_map]
    have : ∀ (t : List Int) (out : List TExtent), (∀ k ∈ t, 0 ≤ k) → t.foldl (fun out (k : Int) => addT out ((k.toNat : Nat) : Int)) out = t.foldl addT out := by
      intro t
      induction t with
      | nil => intro out _; rfl
      | cons k t ih =>
        intro out ht
        have h0 := ht k List.mem_cons_self
        have e : ((k.toNat : Nat) : Int) = k := by omega
        simp only [List.foldl_cons, e]
        exact ih _ (fun k hk => ht k (List.mem_cons_of_mem _ hk))
    exact this _ _ (fun k hk => (trks_range (nf_val h) k hk).1)
  rw [e2, e3, add_trks h (fun i z hz => by simp at hz)]
  simp

/-! ## ref20.Same, ref20.Check -/
theorem ext_eq {x y : TExtent} : x = y ↔ x.At = y.At ∧ x.Len = y.Len := by
  cases x; cases y; simp
theorem Same_eq (n : Nat) (a b : List TExtent) (hn : a.length < n) (hl : a.length ≤ 2147483648) : ref20_Same n a b = some (decide (a = b)) := by
  simp only [ref20_Same]
  by_cases he : a.length = b.length
  · have e0 : ((a.length : Int) != (b.length : Int)) = false := by simp [he]
    rw [e0]
    simp only [bif_ite, Bool.false_eq_true, if_false]
    obtain ⟨y, h1, h2⟩ := loopF_inv (body := fun (x : Int) => ref20_Same_b2 n a b x) (fun x => ∃ k : Nat, x = (k : Int) ∧ k ≤ a.length ∧ ∀ j, j < k → gt a j = gt b j) (fun x => (a.length : Int).toNat - x.toNat)
      (fun y => (y = .inl false ∧ a ≠ b) ∨ (y = .inr () ∧ a = b)) (by
        rintro x ⟨k, rfl, hk, hj⟩
        by_cases hkl : k < a.length
        · have h1 : decide ((k : Int) < (a.length : Int)) = true := by simp; omega
          have h2 : (0 ≤ (k : Int) ∧ (k : Int) < (a.length : Int)) ∧ (0 ≤ (k : Int) ∧ (k : Int) < (b.length : Int)) := by omega
          simp only [ref20_Same_b2, h1, bif_ite, if_true, gd_pos _ h2, Int.toNat_natCast]
          by_cases hx : gt a k = gt b k
          · refine .inl ⟨((k + 1 : Nat) : Int), ?_, ⟨k + 1, rfl, hkl, fun j hj' => ?_⟩, by omega⟩
            · rw [wid (by omega)]; simp [hx]
            · by_cases e : j = k
              · rw [e]; exact hx
              · exact hj j (by omega)
          · refine .inr ⟨.inl false, ?_, .inl ⟨rfl, fun e => hx (by rw [e])⟩⟩
            have hx' : ¬ ((gt a k).At = (gt b k).At ∧ (gt a k).Len = (gt b k).Len) := fun e => hx (ext_eq.2 e)
            have : (!((gt a k).At == (gt b k).At && (gt a k).Len == (gt b k).Len)) = true := by
              rw [Bool.not_eq_true', ← Bool.not_eq_true, Bool.and_eq_true]
              simpa using hx'
            simp only [this, if_true]
        · have : k = a.length := by omega
          subst this
          refine .inr ⟨.inr (), by simp [ref20_Same_b2, bif_ite], .inr ⟨rfl, List.ext_getElem he fun i h1 h2 => ?_⟩⟩
          have := hj i h1
          rwa [gt_lt h1, gt_lt h2] at this) n 0 ⟨0, rfl, by omega, fun j hj => by omega⟩ (by simpa using hn)
    rw [h1]
    rcases h2 with ⟨rfl, h⟩ | ⟨rfl, h⟩ <;> simp [ref20_Same_k1, h]
  · have e0 : ((a.length : Int) != (b.length : Int)) = true := by simp; omega
    rw [e0]
    have : a ≠ b := fun e => he (by rw [e])
    simp [this]

theorem chk_iff (m : Int) : ∀ (l : List TExtent) (e : Int), chk m e l = true ↔ nf e l ∧ ∀ k ∈ trks l, k < m
  | [], e => by simp [chk, nf, trks]
  | x :: l, e => by
    simp only [chk, Bool.and_eq_true, decide_eq_true_eq, chk_iff m l, nf, trks_cons, List.mem_append]
    constructor
    · rintro ⟨⟨⟨h1, h2⟩, h3⟩, h4, h5⟩
      refine ⟨⟨h1, h2, h4⟩, ?_⟩
      rintro k (hk | hk)
      · have := trk_mem.1 hk; omega
      · exact h5 k hk
    · rintro ⟨⟨h1, h2, h4⟩, h5⟩
      have h1' := (val_iff _).1 h1
      refine ⟨⟨⟨h1, h2⟩, ?_⟩, h4, fun k hk => h5 k (.inr hk)⟩
      have := h5 (x.At + x.Len - 1) (.inl (trk_mem.2 (by omega)))
      omega

theorem RCheck_eq (n : Nat) (hn : N0 ≤ n) (l : List TExtent) (m : Int) (hl : l.length ≤ 2097152) : ref20_Check n l m = some (chk m (-1) l) := by
  have h512 : 512 < n := by unfold N0 at hn; omega
  have hln : l.length < n := by unfold N0 at hn; omega
  simp only [ref20_Check, Tracks_eq' n l hn hl, Set_eq n l hn hl, Normal_eq n _ (mark_len _) h512, Option.bind_some, Same_eq n l _ hln (by omega)]
  by_cases hs : (trkF [] l).isSome = true
  · obtain ⟨s, hs'⟩ := Option.isSome_iff_exists.1 hs
    have hO : trkO l = s := by simp [trkO, hs']
    obtain ⟨h3, h4⟩ := trkF_spec hs'
    simp only [List.nil_append] at h3
    subst h3
    simp only [hs, Bool.not_true, Bool.not_false, bif_ite, Bool.false_eq_true, if_false, hO]
    rw [gd_pos _ trivial, gd_pos _ trivial]
    by_cases he : l = nrm (mark (trks l))
    · have hnf : nf (-1) l := by rw [he]; exact nf_nrm _
      have hfew := trkO_few l
      rw [hO] at hfew
      rw [decide_eq_true he]
      simp only [Bool.not_true, Bool.false_eq_true, if_false]
      have h := loop_any (n := n) (body := fun (x : Int) => ref20_Check_b2 n m (trks l) x) (trks l) (fun k => decide (m ≤ k)) (.inl false) (.inr ())
        (fun k hk => by
          have h1 : decide ((k : Int) < (((trks l).length : Nat) : Int)) = true := by simp; omega
          have h2 : (0 ≤ (k : Int) ∧ (k : Int) < ((trks l).length : Int)) ∧ k < (trks l).length := by omega
          simp only [ref20_Check_b2, h1, bif_ite, if_true, Int.toNat_natCast, gd_pos _ h2, gt_lt hk]
          rw [wid (by omega)]
          simp only [ge_iff_le, decide_eq_true_eq]
          split <;> simp)
        (by simp [ref20_Check_b2, bif_ite]) (by omega)
      rw [h]
      by_cases ha : (trks l).any (fun k => decide (m ≤ k)) = true
      · have : chk m (-1) l = false := by
          rw [← Bool.not_eq_true]
          intro hc
          obtain ⟨k, hk, hm⟩ := List.any_eq_true.1 ha
          have := ((chk_iff m l (-1)).1 hc).2 k hk
          simp at hm; omega
        simp [ha, this]
      · have : chk m (-1) l = true := by
          refine (chk_iff m l (-1)).2 ⟨hnf, fun k hk => ?_⟩
          rw [List.any_eq_true] at ha
          have : ¬ m ≤ k := fun hm => ha ⟨k, hk, by simpa using hm⟩
          omega
        simp [ha, this, ref20_Check_k1]
    · have : chk m (-1) l = false := by
        rw [← Bool.not_eq_true]
        intro hc
        exact he (nrm_nf ((chk_iff m l (-1)).1 hc).1).symm
      simp [he, this]
  · have : chk m (-1) l = false := by
      rw [← Bool.not_eq_true]
      intro hc
      exact hs (by rw [nf_trkF ((chk_iff m l (-1)).1 hc).1]; rfl)
    rw [Bool.not_eq_true] at hs
    simp [hs, this]
end Go.Proofs.Ytojnggohjbidaaa
