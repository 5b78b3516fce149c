/-
  ch. 20: places: Index, Overlap, Track, Keep, as the specification says; the law: it answers true.
-/
import Derived.Test.YtojnggohjbidaaaO
import Derived.Test.YtojnggohjbidaaaH
set_option maxHeartbeats 8000000
set_option linter.unusedVariables false
set_option linter.unusedSimpArgs false
set_option maxRecDepth 100000
namespace Go.Proofs.Ytojnggohjbidaaa
open Go.AE

/-! ## Index -/
theorem upT_fst (f : Nat → Int × Int) : ∀ k, (upT f k).map Prod.fst = List.range (upT f k).length
  | 0 => by simp [upT]
  | k + 1 => by
    simp only [upT, List.map_append, upT_fst f k, List.map_map, List.length_append, List.length_map, List.length_range]
    rw [List.range_add]
    congr 1
theorem firstT_ix (track : Int) : ∀ (t : List Int) (i : Nat) (ps : List (Nat × Int)), ps.map Prod.snd = t → ps.map Prod.fst = (List.range t.length).map (i + ·) →
    firstT track ps = match t.findIdx? (fun k => k == track) with | some j => (((i + j : Nat) : Int), true) | none => (0, false)
  | [], i, ps, h1, h2 => by
    have : ps = [] := by simpa using h1
    subst this; rfl
  | k :: t, i, [], h1, h2 => by simp at h1
  | k :: t, i, p :: ps, h1, h2 => by
    simp only [List.map_cons, List.cons.injEq] at h1
    rw [List.length_cons, List.range_succ_eq_map] at h2
    simp only [List.map_cons, List.cons.injEq, List.map_map] at h2
    have ih := firstT_ix track t (i + 1) ps h1.2 (by
      rw [h2.2]
      refine List.map_congr_left fun j _ => ?_
      simp only [Function.comp]; omega)
    simp only [firstT, h1.1, List.findIdx?_cons, beq_iff_eq]
    by_cases hk : k = track
    · simp only [hk, if_true]
      have : p.1 = i := by simpa using h2.1
      rw [this]; simp
    · simp only [hk, if_false, ih]
      cases t.findIdx? (fun k => k == track) with
      | none => rfl
      | some j =>
        simp only [Option.map_some, Prod.mk.injEq, and_true]
        omega
theorem RIndex_loop (n : Nat) (track : Int) (t : List Int) (hn : t.length < n) (hl : t.length ≤ 1073741824) :
    loopF (fun (x : Int) => ref20_Index_b2 n track t x) n 0 = some (match t.findIdx? (fun k => k == track) with | some j => .inl ((j : Int), true) | none => .inr ()) := by
  have h := loop_list (n := n) (σ := Nat) (body := fun (x : Int) => ref20_Index_b2 n track t x) t (fun k _ => (k : Int)) (fun i k => if (k == track) = true then .inr (.inl ((i : Int), true)) else .inl (i + 1)) (fun _ => .inr ()) (fun k i => i = k) (s := 0) rfl
    (fun k hk s hs => by
      subst hs
      have c1 : decide ((s : Int) < ((t.length : Nat) : Int)) = true := by simp; omega
      have c2 : (0 ≤ (s : Int) ∧ (s : Int) < (t.length : Int)) ∧ s < t.length := by omega
      simp only [ref20_Index_b2, c1, bif_ite, if_true, Int.toNat_natCast, gd_pos _ c2, gt_lt hk]
      rw [wid (by omega)]
      split <;> simp)
    (fun k hk s hs s' hf => by
      split at hf
      · cases hf
      · simp only [Sum.inl.injEq] at hf; omega)
    (fun s _ => by simp [ref20_Index_b2, bif_ite]) hn
  have e : ∀ (t : List Int) (i : Nat), runL (fun (i : Nat) (k : Int) => if (k == track) = true then (.inr (.inl ((i : Int), true)) : Nat ⊕ ((Int × Bool) ⊕ Unit)) else .inl (i + 1)) (fun _ => .inr ()) t i = match t.findIdx? (fun k => k == track) with | some j => .inl (((i + j : Nat) : Int), true) | none => .inr () := by
    intro t
    induction t with
    | nil => intro i; simp [runL]
    | cons k t ih =>
      intro i
      simp only [runL, List.findIdx?_cons]
      by_cases hk : (k == track) = true
      · simp [hk]
      · rw [Bool.not_eq_true] at hk
        simp only [hk, Bool.false_eq_true, if_false, ih]
        cases t.findIdx? (fun k => k == track) with
        | none => rfl
        | some j =>
          simp only [Option.map_some]
          have e1 : ((i + 1 + j : Nat) : Int) = ((i + (j + 1) : Nat) : Int) := by omega
          rw [e1]
  rw [e] at h
  have h' : loopF (fun (x : Int) => ref20_Index_b2 n track t x) n 0 = _ := h
  rw [h']
  cases t.findIdx? (fun k => k == track) with
  | none => rfl
  | some j => simp
theorem RIndex_eq (n : Nat) (hn : N0 ≤ n) (l : List TExtent) (track : Int) (hl : l.length ≤ 2097152) : ref20_Index n l track = extent_Index n l track := by
  have hn0 : 4194304 ≤ n := hn
  have hf := trkO_few l
  rw [Index_eq n hn l track (by omega)]
  simp only [ref20_Index, Tracks_eq' n l hn hl, Option.bind_some]
  rw [RIndex_loop n track (trkO l) (by omega) (by omega)]
  by_cases h : (trkF [] l).isSome = true
  · have h1 := firstT_ix track (trks l) 0 (upT (exF l) l.length) (upT_all l) (by
      rw [upT_fst, ← upT_all l, List.length_map]
      simp)
    simp only [h, if_true, trkO_of h, h1]
    cases (trks l).findIdx? (fun k => k == track) with
    | none => rfl
    | some j => simp
  · rw [Bool.not_eq_true] at h
    simp [h, trkO_none h, ref20_Index_k1]

/-! ## Overlap -/
theorem ROverlap_eq (n : Nat) (hn : N0 ≤ n) (a b : List TExtent) (ha : a.length ≤ 2097152) (hb : b.length ≤ 2097152) : ref20_Overlap n a b = some ((trkF [] a).isSome && (trkF [] b).isSome && !(trkF [] (a ++ b)).isSome) := by
  have hn0 : 4194304 ≤ n := hn
  have h := loop_any (n := n) (body := fun (x : Int) => ref20_Overlap_b2 n (mark (trkO a)) (mark (trkO b)) x) (List.range 512) (fun (k : Nat) => decide ((k : Int) ∈ trkO a) && decide ((k : Int) ∈ trkO b)) (.inl true) (.inr ())
    (fun k hk => by
      simp only [List.length_range] at hk
      have c1 : decide ((k : Int) < 512) = true := by simp; omega
      have e1 := mark_gt (trkO a) (k := (k : Int)) (by omega)
      have e2 := mark_gt (trkO b) (k := (k : Int)) (by omega)
      rw [Int.toNat_natCast] at e1 e2
      have la := mark_len (trkO a)
      have lb := mark_len (trkO b)
      have c2 : (0 ≤ (k : Int) ∧ (k : Int) < 512 ∧ (mark (trkO a)).length = 512) ∧ k < (mark (trkO a)).length ∧ (gt (mark (trkO a)) k = true → (0 ≤ (k : Int) ∧ (k : Int) < 512 ∧ (mark (trkO b)).length = 512)) ∧ (gt (mark (trkO a)) k = true → k < (mark (trkO b)).length) := by
        refine ⟨by omega, by omega, fun _ => by omega, fun _ => by omega⟩
      simp only [ref20_Overlap_b2, c1, bif_ite, if_true, Int.toNat_natCast]
      rw [gd_pos _ c2, e1, e2, wid (by omega)]
      simp only [List.getElem_range]
      by_cases m1 : (k : Int) ∈ trkO a <;> by_cases m2 : (k : Int) ∈ trkO b <;> simp [m1, m2])
    (by simp [ref20_Overlap_b2, bif_ite]) (by simp; omega)
  simp only [ref20_Overlap, Set_eq n a hn ha, Set_eq n b hn hb, Option.bind_some]
  rw [gd_pos _ (by simp), h]
  have key : ((List.range 512).any fun (k : Nat) => decide ((k : Int) ∈ trkO a) && decide ((k : Int) ∈ trkO b)) = ((trkF [] a).isSome && (trkF [] b).isSome && !(trkF [] (a ++ b)).isSome) := by
    rw [Bool.eq_iff_iff, List.any_eq_true]
    simp only [Bool.and_eq_true, decide_eq_true_eq, Bool.not_eq_true', List.mem_range]
    constructor
    · rintro ⟨k, hk, h1, h2⟩
      have s1 : (trkF [] a).isSome = true := by
        by_cases h : (trkF [] a).isSome = true
        · exact h
        · rw [Bool.not_eq_true] at h; rw [trkO_none h] at h1; simp at h1
      have s2 : (trkF [] b).isSome = true := by
        by_cases h : (trkF [] b).isSome = true
        · exact h
        · rw [Bool.not_eq_true] at h; rw [trkO_none h] at h2; simp at h2
      refine ⟨⟨s1, s2⟩, ?_⟩
      rw [← Bool.not_eq_true, trkF_isSome]
      rintro ⟨_, hnd⟩
      rw [trks_app] at hnd
      rw [trkO_of s1] at h1
      rw [trkO_of s2] at h2
      exact (List.nodup_append.1 hnd).2.2 _ h1 _ h2 rfl
    · rintro ⟨⟨s1, s2⟩, h3⟩
      obtain ⟨va, na⟩ := (trkF_isSome a).1 s1
      obtain ⟨vb, nb⟩ := (trkF_isSome b).1 s2
      rw [← Bool.not_eq_true, trkF_isSome] at h3
      have hno : ¬ (trks (a ++ b)).Nodup := fun hnd => h3 ⟨by rw [List.all_append, va, vb]; rfl, hnd⟩
      rw [trks_app, List.nodup_append] at hno
      have : ∃ k, k ∈ trks a ∧ k ∈ trks b := by
        apply Classical.byContradiction
        intro hne
        exact hno ⟨na, nb, fun x hx y hy e => hne ⟨x, hx, by rw [e]; exact hy⟩⟩
      obtain ⟨k, k1, k2⟩ := this
      have hr := trks_range va k k1
      refine ⟨k.toNat, by omega, ?_⟩
      have e : ((k.toNat : Nat) : Int) = k := by omega
      rw [e, trkO_of s1, trkO_of s2]
      exact ⟨k1, k2⟩
  rw [key]
  cases ((trkF [] a).isSome && (trkF [] b).isSome && !(trkF [] (a ++ b)).isSome) <;> rfl

theorem Track_loop (n : Nat) (l : List TExtent) (hv : l.all val = true) (i : Int) (hi : 0 ≤ i ∧ i ≤ 9223372036854775807) (hn : l.length < n) (hl : l.length ≤ 1073741824) :
    loopF (fun (x : Int × Int) => extent_Track_b2 n l (l.length : Int) x.1 x.2) n (i, 0) = some (if i < (((trks l).length : Nat) : Int) then .inl (gt (trks l) i.toNat, true) else .inr ()) := by
  have h := loop_list (n := n) (σ := Int) (body := fun (x : Int × Int) => extent_Track_b2 n l (l.length : Int) x.1 x.2) l (fun k s => (s, (k : Int))) (fun s x => if s < x.Len then .inr (.inl (x.At + s, true)) else .inl (s - x.Len)) (fun _ => .inr ()) (fun k s => 0 ≤ s ∧ s ≤ 9223372036854775807) (s := i) hi
    (fun k hk s hs => by
      have c1 : decide ((k : Int) < (l.length : Int)) = true := by simp; omega
      have c2 : 0 ≤ (k : Int) ∧ (k : Int) < (l.length : Int) := by omega
      have v := (val_iff _).1 (List.all_eq_true.1 hv _ (List.getElem_mem hk))
      simp only [extent_Track_b2, c1, bif_ite, if_true, gd_pos _ c2, Int.toNat_natCast, gt_lt hk, decide_eq_true_eq]
      by_cases h : s < l[k].Len
      · simp only [h, if_true]
        rw [wid (by omega)]
      · simp only [h, if_false]
        rw [w64_id (by omega) (by omega), wid (by omega)]
        simp)
    (fun k hk s hs s' hf => by
      have v := (val_iff _).1 (List.all_eq_true.1 hv _ (List.getElem_mem hk))
      split at hf
      · cases hf
      · simp only [Sum.inl.injEq] at hf; omega)
    (fun s _ => by simp [extent_Track_b2, bif_ite]) hn
  have e : ∀ (l : List TExtent) (s : Int), l.all val = true → 0 ≤ s → runL (fun (s : Int) (x : TExtent) => if s < x.Len then (.inr (.inl (x.At + s, true)) : Int ⊕ ((Int × Bool) ⊕ Unit)) else .inl (s - x.Len)) (fun _ => .inr ()) l s = if s < (((trks l).length : Nat) : Int) then .inl (gt (trks l) s.toNat, true) else .inr () := by
    intro l
    induction l with
    | nil => intro s _ h0; simp [runL, trks]; omega
    | cons x l ih =>
      intro s hv h0
      simp only [List.all_cons, Bool.and_eq_true] at hv
      have v := (val_iff _).1 hv.1
      have hxl : (trk x).length = x.Len.toNat := trk_length x
      simp only [runL, trks_cons, List.length_append]
      by_cases h : s < x.Len
      · have h2 : s < (((trk x).length + (trks l).length : Nat) : Int) := by omega
        have h3 : s.toNat < (trk x).length := by omega
        simp only [h, h2, if_true]
        rw [gt_lt (by rw [List.length_append]; omega), List.getElem_append_left h3, trk_get]
        have : ((s.toNat : Nat) : Int) = s := by omega
        rw [this]
      · have h2 : (s < (((trk x).length + (trks l).length : Nat) : Int)) ↔ (s - x.Len < (((trks l).length : Nat) : Int)) := by omega
        simp only [h, if_false, ih _ hv.2 (by omega : 0 ≤ s - x.Len), h2]
        by_cases h3 : s - x.Len < (((trks l).length : Nat) : Int)
        · simp only [h3, if_true]
          rw [gt_lt (by omega), gt_lt (by rw [List.length_append]; omega), List.getElem_append_right (by omega)]
          have e1 : (s - x.Len).toNat = s.toNat - (trk x).length := by omega
          simp only [e1]
        · simp only [h3, if_false]
  rw [e l i hv hi.1] at h
  exact h

theorem Track_eq (n : Nat) (hn : N0 ≤ n) (l : List TExtent) (i : Int) (hl : l.length ≤ 2097152) (hi : i ≤ 9223372036854775807) : ∃ r, extent_Track n l i = some r ∧ ref20_Track n l i = some r := by
  have hn0 : 4194304 ≤ n := hn
  have hf := trkO_few l
  simp only [extent_Track, ref20_Track, Valid_eq n hn l (by omega), Tracks_eq' n l hn hl, Option.bind_some, Option.isSome_some, Option.getD_some]
  rw [gd_pos _ (by simp)]
  by_cases h0 : i < 0
  · simp only [h0, decide_true, if_true, bif_ite]
    exact ⟨_, rfl, rfl⟩
  · simp only [h0, decide_false, Bool.false_eq_true, if_false]
    by_cases h : (trkF [] l).isSome = true
    · obtain ⟨hv, hnd⟩ := (trkF_isSome l).1 h
      simp only [h, Bool.not_true, bif_ite, Bool.false_eq_true, if_false, Track_loop n l hv i (by omega) (by omega) (by omega), Option.bind_some, trkO_of h]
      by_cases h1 : i < (((trks l).length : Nat) : Int)
      · have h2 : ¬ i ≥ (((trks l).length : Nat) : Int) := by omega
        simp only [h1, h2, if_true, decide_false, Bool.false_eq_true, if_false]
        rw [gd_pos _ (show (0 ≤ i ∧ True) ∧ i.toNat < (trks l).length from ⟨⟨by omega, trivial⟩, by omega⟩)]
        exact ⟨_, rfl, rfl⟩
      · have h2 : i ≥ (((trks l).length : Nat) : Int) := by omega
        simp only [h1, h2, if_false, decide_true, if_true, extent_Track_k1]
        exact ⟨_, rfl, rfl⟩
    · rw [Bool.not_eq_true] at h
      have h2 : i ≥ 0 := by omega
      simp [h, trkO_none h, h2, bif_ite]

/-! ## Keep -/
def tk (w : Int) (x : TExtent) : Int := if x.Len < w then x.Len else w
def kpA : Int → List TExtent → List TExtent
  | _, [] => []
  | w, x :: l => (if 0 < tk w x then [⟨x.At, tk w x⟩] else []) ++ kpA (w - tk w x) l
def kpB : Int → List TExtent → List TExtent
  | _, [] => []
  | w, x :: l => (if tk w x < x.Len then [⟨x.At + tk w x, x.Len - tk w x⟩] else []) ++ kpB (w - tk w x) l

theorem Keep_loop (n : Nat) (l : List TExtent) (hv : l.all val = true) (w : Int) (hw : 0 ≤ w ∧ w ≤ 9223372036854775807) (hn : l.length < n) (hl : l.length ≤ 1073741824) :
    loopF (fun (x : Int × (List TExtent) × (List TExtent) × Int) => extent_Keep_b2 n l (l.length : Int) x.1 x.2.1 x.2.2.1 x.2.2.2) n (w, [], [], 0) = some (kpA w l, kpB w l) := by
  have h := loop_list (n := n) (σ := Int × List TExtent × List TExtent) (body := fun (x : Int × (List TExtent) × (List TExtent) × Int) => extent_Keep_b2 n l (l.length : Int) x.1 x.2.1 x.2.2.1 x.2.2.2) l (fun k s => (s.1, s.2.1, s.2.2, (k : Int)))
    (fun s x => .inl (s.1 - tk s.1 x, s.2.1 ++ (if 0 < tk s.1 x then [⟨x.At, tk s.1 x⟩] else []), s.2.2 ++ (if tk s.1 x < x.Len then [⟨x.At + tk s.1 x, x.Len - tk s.1 x⟩] else []))) (fun s => (s.2.1, s.2.2)) (fun k s => 0 ≤ s.1 ∧ s.1 ≤ 9223372036854775807 ∧ s.2.1.length ≤ k ∧ s.2.2.length ≤ k) (s := (w, [], [])) (by simp [hw])
    (fun k hk s hs => by
      have c1 : decide ((k : Int) < (l.length : Int)) = true := by simp; omega
      have c2 : 0 ≤ (k : Int) ∧ (k : Int) < (l.length : Int) := by omega
      have v := (val_iff _).1 (List.all_eq_true.1 hv _ (List.getElem_mem hk))
      have e1 : (if l[k].Len < s.1 then l[k].Len else s.1) = tk s.1 l[k] := rfl
      have ht : 0 ≤ tk s.1 l[k] ∧ tk s.1 l[k] ≤ l[k].Len ∧ tk s.1 l[k] ≤ s.1 := by unfold tk; split <;> omega
      have c3 : s.2.1.length + 1 ≤ 2147483648 := by omega
      have c4 : s.2.2.length + 1 ≤ 2147483648 := by omega
      simp only [extent_Keep_b2, extent_Keep_k4, extent_Keep_k5, extent_Keep_k3, c1, bif_ite, if_true, gd_pos _ c2, Int.toNat_natCast, gt_lt hk, e1, gd_pos _ c3, gd_pos _ c4, decide_eq_true_eq, gt_iff_lt]
      rw [w64_id (n := s.1 - tk s.1 l[k]) (by omega) (by omega), wid (n := (k : Int) + 1) (by omega), wid (n := l[k].At + tk s.1 l[k]) (by omega), wid (n := l[k].Len - tk s.1 l[k]) (by omega)]
      by_cases h1 : 0 < tk s.1 l[k] <;> by_cases h2 : tk s.1 l[k] < l[k].Len <;> simp [h1, h2])
    (fun k hk s hs s' hf => by
      have v := (val_iff _).1 (List.all_eq_true.1 hv _ (List.getElem_mem hk))
      have ht : 0 ≤ tk s.1 l[k] ∧ tk s.1 l[k] ≤ l[k].Len ∧ tk s.1 l[k] ≤ s.1 := by unfold tk; split <;> omega
      simp only [Sum.inl.injEq] at hf
      subst hf
      dsimp only
      refine ⟨by omega, by omega, ?_, ?_⟩
      · rw [List.length_append]; split <;> simp <;> omega
      · rw [List.length_append]; split <;> simp <;> omega)
    (fun s _ => by simp [extent_Keep_b2, bif_ite]) hn
  have e : ∀ (l : List TExtent) (s : Int × List TExtent × List TExtent), runL (fun (s : Int × List TExtent × List TExtent) (x : TExtent) => (.inl (s.1 - tk s.1 x, s.2.1 ++ (if 0 < tk s.1 x then [⟨x.At, tk s.1 x⟩] else []), s.2.2 ++ (if tk s.1 x < x.Len then [⟨x.At + tk s.1 x, x.Len - tk s.1 x⟩] else [])) : (Int × List TExtent × List TExtent) ⊕ (List TExtent × List TExtent))) (fun s => (s.2.1, s.2.2)) l s = (s.2.1 ++ kpA s.1 l, s.2.2 ++ kpB s.1 l) := by
    intro l
    induction l with
    | nil => intro s; simp [runL, kpA, kpB]
    | cons x l ih => intro s; simp only [runL, ih, kpA, kpB, List.append_assoc]
  rw [e] at h
  simpa using h

def mx (w : Int) : Int := if 0 > w then 0 else w
def t0 (w : Int) (x : TExtent) : Int := if (if x.Len < w then x.Len else w) > 0 then (if x.Len < w then x.Len else w) else 0
theorem t0_eq {w : Int} {x : TExtent} (hx : 1 ≤ x.Len) : t0 w x = tk (mx w) x := by
  unfold t0 tk mx
  by_cases h1 : x.Len < w <;> by_cases h2 : 0 > w <;> simp [h1, h2] <;> (try (split <;> omega)) <;> omega

theorem RKeep_loop (n : Nat) (l : List TExtent) (hv : l.all val = true) (w : Int) (hw : -9223372036854775808 ≤ w ∧ w ≤ 9223372036854775807) (hn : l.length < n) (hl : l.length ≤ 1073741824) :
    ∃ y, loopF (fun (x : Int × (List TExtent) × (List TExtent) × Int) => ref20_Keep_b2 n l x.1 x.2.1 x.2.2.1 x.2.2.2) n (w, [], [], 0) = some y ∧ y.1.filter (fun x => decide (0 < x.Len)) = kpA (mx w) l ∧ y.2.filter (fun x => decide (0 < x.Len)) = kpB (mx w) l ∧ y.1.length ≤ l.length ∧ y.2.length ≤ l.length := by
  have h := loop_list (n := n) (σ := Int × List TExtent × List TExtent) (body := fun (x : Int × (List TExtent) × (List TExtent) × Int) => ref20_Keep_b2 n l x.1 x.2.1 x.2.2.1 x.2.2.2) l (fun k s => (s.1, s.2.1, s.2.2, (k : Int)))
    (fun s x => .inl ((if s.1 > 0 then s.1 else 0) - t0 s.1 x, s.2.1 ++ [⟨x.At, t0 s.1 x⟩], s.2.2 ++ [⟨x.At + t0 s.1 x, x.Len - t0 s.1 x⟩])) (fun s => (s.2.1, s.2.2)) (fun k s => -9223372036854775808 ≤ s.1 ∧ s.1 ≤ 9223372036854775807 ∧ s.2.1.length ≤ k ∧ s.2.2.length ≤ k) (s := (w, [], [])) (by simp [hw])
    (fun k hk s hs => by
      have c1 : decide ((k : Int) < (l.length : Int)) = true := by simp; omega
      have c2 : 0 ≤ (k : Int) ∧ (k : Int) < (l.length : Int) := by omega
      have v := (val_iff _).1 (List.all_eq_true.1 hv _ (List.getElem_mem hk))
      have e1 : (if (if l[k].Len < s.1 then l[k].Len else s.1) > 0 then (if l[k].Len < s.1 then l[k].Len else s.1) else 0) = t0 s.1 l[k] := rfl
      have ht : 0 ≤ t0 s.1 l[k] ∧ t0 s.1 l[k] ≤ l[k].Len := by
        rw [t0_eq v.2.1]; unfold tk mx; split <;> split <;> omega
      have hs1 : 0 ≤ (if s.1 > 0 then s.1 else 0) ∧ (if s.1 > 0 then s.1 else 0) ≤ 9223372036854775807 := by split <;> omega
      have c3 : (0 ≤ (k : Int) ∧ (k : Int) < (l.length : Int)) ∧ s.2.1.length + 1 ≤ 2147483648 := by omega
      have c4 : (0 ≤ (k : Int) ∧ (k : Int) < (l.length : Int)) ∧ (0 ≤ (k : Int) ∧ (k : Int) < (l.length : Int)) ∧ s.2.2.length + 1 ≤ 2147483648 := by omega
      simp only [ref20_Keep_b2, c1, bif_ite, if_true, gd_pos _ c2, Int.toNat_natCast, gt_lt hk, e1, gd_pos _ c3, gd_pos _ c4]
      rw [w64_id (n := (if s.1 > 0 then s.1 else 0) - t0 s.1 l[k]) (by omega) (by omega), wid (n := (k : Int) + 1) (by omega), wid (n := l[k].At + t0 s.1 l[k]) (by omega), wid (n := l[k].Len - t0 s.1 l[k]) (by omega)]
      simp)
    (fun k hk s hs s' hf => by
      have v := (val_iff _).1 (List.all_eq_true.1 hv _ (List.getElem_mem hk))
      have ht : 0 ≤ t0 s.1 l[k] ∧ t0 s.1 l[k] ≤ l[k].Len := by
        rw [t0_eq v.2.1]; unfold tk mx; split <;> split <;> omega
      have hs1 : 0 ≤ (if s.1 > 0 then s.1 else 0) ∧ (if s.1 > 0 then s.1 else 0) ≤ 9223372036854775807 := by split <;> omega
      simp only [Sum.inl.injEq] at hf
      subst hf
      dsimp only
      refine ⟨by omega, by omega, ?_, ?_⟩ <;> (rw [List.length_append]; simp only [List.length_cons, List.length_nil]; omega))
    (fun s _ => by simp [ref20_Keep_b2, bif_ite]) hn
  have e : ∀ (l : List TExtent) (s : Int × List TExtent × List TExtent), l.all val = true → ∃ y, runL (fun (s : Int × List TExtent × List TExtent) (x : TExtent) => (.inl ((if s.1 > 0 then s.1 else 0) - t0 s.1 x, s.2.1 ++ [⟨x.At, t0 s.1 x⟩], s.2.2 ++ [⟨x.At + t0 s.1 x, x.Len - t0 s.1 x⟩]) : (Int × List TExtent × List TExtent) ⊕ (List TExtent × List TExtent))) (fun s => (s.2.1, s.2.2)) l s = y ∧
      y.1.filter (fun x => decide (0 < x.Len)) = s.2.1.filter (fun x => decide (0 < x.Len)) ++ kpA (mx s.1) l ∧ y.2.filter (fun x => decide (0 < x.Len)) = s.2.2.filter (fun x => decide (0 < x.Len)) ++ kpB (mx s.1) l ∧ y.1.length = s.2.1.length + l.length ∧ y.2.length = s.2.2.length + l.length := by
    intro l
    induction l with
    | nil => intro s _; exact ⟨_, rfl, by simp [runL, kpA], by simp [runL, kpB], by simp [runL], by simp [runL]⟩
    | cons x l ih =>
      intro s hv
      simp only [List.all_cons, Bool.and_eq_true] at hv
      have v := (val_iff _).1 hv.1
      have et := t0_eq (w := s.1) (x := x) v.2.1
      obtain ⟨y, y1, y2, y3, y4, y5⟩ := ih ((if s.1 > 0 then s.1 else 0) - t0 s.1 x, s.2.1 ++ [⟨x.At, t0 s.1 x⟩], s.2.2 ++ [⟨x.At + t0 s.1 x, x.Len - t0 s.1 x⟩]) hv.2
      have ht : 0 ≤ tk (mx s.1) x ∧ tk (mx s.1) x ≤ mx s.1 := by unfold tk mx; split <;> split <;> omega
      have em : mx ((if s.1 > 0 then s.1 else 0) - t0 s.1 x) = mx s.1 - tk (mx s.1) x := by
        rw [et]
        have e1 : (if s.1 > 0 then s.1 else 0) = mx s.1 := by unfold mx; split <;> split <;> omega
        rw [e1]
        have hq : 0 ≤ mx s.1 - tk (mx s.1) x := by omega
        generalize mx s.1 - tk (mx s.1) x = q at hq
        unfold mx
        split
        · omega
        · rfl
      have em2 := em
      rw [et] at em2
      simp only [gt_iff_lt] at em2
      refine ⟨y, by simp only [runL]; exact y1, ?_, ?_, ?_, ?_⟩
      · rw [y2]
        simp only [em, List.filter_append, List.append_assoc, kpA, et]
        congr 1
        by_cases h : 0 < tk (mx s.1) x <;> simp [h, em2]
      · rw [y3]
        simp only [em, List.filter_append, List.append_assoc, kpB, et]
        congr 1
        have : (0 < x.Len - tk (mx s.1) x) ↔ (tk (mx s.1) x < x.Len) := by omega
        by_cases h : tk (mx s.1) x < x.Len <;> simp [h, this, em2]
      · rw [y4, List.length_append]; simp only [List.length_cons, List.length_nil]; omega
      · rw [y5, List.length_append]; simp only [List.length_cons, List.length_nil]; omega
  obtain ⟨y, y1, y2, y3, y4, y5⟩ := e l (w, [], []) hv
  rw [y1] at h
  exact ⟨y, h, by simpa using y2, by simpa using y3, by simp at y4; omega, by simp at y5; omega⟩
theorem kp_len : ∀ (l : List TExtent) (w : Int), (kpA w l).length ≤ l.length ∧ (kpB w l).length ≤ l.length
  | [], w => by simp [kpA, kpB]
  | x :: l, w => by
    obtain ⟨h1, h2⟩ := kp_len l (w - tk w x)
    simp only [kpA, kpB, List.length_append, List.length_cons]
    constructor <;> (split <;> simp <;> omega)

theorem Keep_eq (n : Nat) (hn : N0 ≤ n) (l : List TExtent) (w : Int) (hl : l.length ≤ 2097152) (hw : -9223372036854775808 ≤ w ∧ w ≤ 9223372036854775807) : ∃ r : List TExtent × List TExtent, extent_Keep n l w = some r ∧ ref20_Keep n l w = some r ∧ r.1.length ≤ 2097152 ∧ r.2.length ≤ 2097152 := by
  have hn0 : 4194304 ≤ n := hn
  simp only [extent_Keep, ref20_Keep, Valid_eq n hn l (by omega), RValid_eq n hn l hl, Option.bind_some]
  by_cases h : (trkF [] l).isSome = true
  · obtain ⟨hv, hnd⟩ := (trkF_isSome l).1 h
    obtain ⟨y, y1, y2, y3, y4, y5⟩ := RKeep_loop n l hv w hw (by omega) (by omega)
    have hm : 0 ≤ mx w ∧ mx w ≤ 9223372036854775807 := by unfold mx; split <;> omega
    have hK := Keep_loop n l hv (mx w) hm (by omega) (by omega)
    have em : (if 0 > w then 0 else w) = mx w := rfl
    have hk := kp_len l (mx w)
    simp only [h, Bool.not_true, bif_ite, Bool.false_eq_true, if_false, em, hK, y1, Option.bind_some, extent_Keep_k1, ref20_Keep_k1, drop_eq n y.1 (by omega) (by omega), drop_eq n y.2 (by omega) (by omega), y2, y3]
    exact ⟨_, rfl, rfl, by dsimp only; omega, by dsimp only; omega⟩
  · rw [Bool.not_eq_true] at h
    simp only [h, Bool.not_false, bif_ite, if_true]
    exact ⟨_, rfl, rfl, by simp, by simp⟩

theorem p_law20_ExtentPlaces (n : Nat) (hn : N0 ≤ n) (x0 : List TExtent) (x1 : List TExtent) (x2 : Int) (hc : ∀ i, i < 3 → CanL Try.prog (([(false, [.slice 43]), (false, [.slice 43]), (false, [.int .i64])] : List (Bool × List Kd)).getD i (false, [])).2 (([[.slice (List.map e_TExtent x0)], [.slice (List.map e_TExtent x1)], [.int x2]] : List (List C)).getD i []))
    (hb : cbss [[.slice (List.map e_TExtent x0)], [.slice (List.map e_TExtent x1)], [.int x2]] ≤ 2097152) : law20_ExtentPlaces n x0 x1 x2 = some true := by
  have hl0 := len_of_cbss hb (xs := [.slice (List.map e_TExtent x0)]) (l := x0) (f := e_TExtent) (by simp) (by simp)
  have hl1 := len_of_cbss hb (xs := [.slice (List.map e_TExtent x1)]) (l := x1) (f := e_TExtent) (by simp) (by simp)
  have h1 := (hc 2 (by decide)).2 0 (by decide)
  simp only [List.getD_cons_succ, List.getD_cons_zero, cg_zero] at h1
  have hw : -9223372036854775808 ≤ x2 ∧ x2 ≤ 9223372036854775807 := by
    cases h1 with
    | int k n h => have h2 := h.2; have h3 := h.1; have e : IntKind.max .i64 = 9223372036854775807 := by decide
                   have e' : IntKind.min .i64 = -9223372036854775808 := by decide
                   omega
  clear hc h1
  have hn0 : 4194304 ≤ n := hn
  obtain ⟨r1, a1, a2⟩ := Track_eq n hn x0 x2 hl0 hw.2
  have a3 := Index_eq n hn x0 x2 (by omega)
  have a4 := RIndex_eq n hn x0 x2 hl0
  rw [a3] at a4
  obtain ⟨r5, a5, a6, l1, l2⟩ := Keep_eq n hn x0 x2 hl0 hw
  have s1 : ∀ a : List TExtent, a.length ≤ 2097152 → ref20_Same n a a = some true := fun a h1 => by rw [Same_eq n a a (by omega) (by omega)]; simp
  simp only [law20_ExtentPlaces, a1, a2, a3, a4, a5, a6, Option.bind_some, s1 _ l1, s1 _ l2, Overlap_eq n hn x0 x1 hl0 hl1, ROverlap_eq n hn x0 x1 hl0 hl1, works_eq n hn]
  simp [gd]
end Go.Proofs.Ytojnggohjbidaaa
