/-
  ch. 20: the law of giving back: it answers true.
-/
import Derived.Test.YtojnggohjbidaaaX
set_option maxHeartbeats 8000000
set_option linter.unusedVariables false
set_option linter.unusedSimpArgs false
set_option maxRecDepth 100000
namespace Go.Proofs.Ytojnggohjbidaaa
open Go.AE

def addX (out : List TExtent) (x : TExtent) : List TExtent :=
  if 0 < out.length ∧ (gt out (out.length - 1)).At + (gt out (out.length - 1)).Len = x.At then out.set (out.length - 1) ⟨(gt out (out.length - 1)).At, (gt out (out.length - 1)).Len + x.Len⟩ else out ++ [x]
theorem addX_nil (x : TExtent) : addX [] x = [x] := by simp [addX]
theorem addX_snoc (i : List TExtent) (z x : TExtent) : addX (i ++ [z]) x = if z.At + z.Len = x.At then i ++ [⟨z.At, z.Len + x.Len⟩] else i ++ [z] ++ [x] := by
  unfold addX
  rw [gt_app_last]
  have h : 0 < (i ++ [z]).length := by simp
  simp only [h, true_and]
  split
  · simp [List.set_append]
  · rfl
theorem addX_len (out : List TExtent) (x : TExtent) : (addX out x).length ≤ out.length + 1 := by unfold addX; split <;> simp
theorem trks_app (a b : List TExtent) : trks (a ++ b) = trks a ++ trks b := by simp [trks]
theorem trks_one (x : TExtent) : trks [x] = trk x := by simp [trks]

theorem addX_nf {e : Int} {out : List TExtent} {x : TExtent} (h : nf e out) (hx : val x = true) (hl : lastE e out ≤ x.At) (he : e < x.At) : nf e (addX out x) ∧ lastE e (addX out x) = x.At + x.Len ∧ ∀ k, k ∈ trks (addX out x) ↔ k ∈ trks out ∨ k ∈ trk x := by
  have v := (val_iff _).1 hx
  rcases snoc_cases out with rfl | ⟨i, z, rfl⟩
  · rw [addX_nil]
    exact ⟨⟨hx, he, trivial⟩, rfl, fun k => by simp [trks]⟩
  · rw [addX_snoc]
    rw [lastE_snoc] at hl
    obtain ⟨h1, h2, h3⟩ := nf_snoc.1 h
    have h2' := (val_iff _).1 h2
    split
    · rename_i heq
      refine ⟨nf_snoc.2 ⟨h1, (val_iff _).2 (by dsimp only; omega), h3⟩, by rw [lastE_snoc]; dsimp only; omega, fun k => ?_⟩
      rw [trks_app, trks_app, trks_one, trks_one, List.mem_append, List.mem_append, trk_mem, trk_mem, trk_mem]
      dsimp only
      constructor
      · rintro (h | h)
        · exact .inl (.inl h)
        · by_cases hk : k < x.At
          · exact .inl (.inr (by omega))
          · exact .inr (by omega)
      · rintro ((h | h) | h)
        · exact .inl h
        · exact .inr (by omega)
        · exact .inr (by omega)
    · rename_i hne
      refine ⟨nf_snoc.2 ⟨h, hx, by rw [lastE_snoc]; omega⟩, by rw [lastE_snoc], fun k => ?_⟩
      rw [trks_app (i ++ [z]), trks_one, List.mem_append]

theorem mg_spec : ∀ (r out : List TExtent), nf (-1) out → r.all val = true → r.Pairwise apart → (∀ x ∈ r, lastE (-1) out ≤ x.At) → nf (-1) (r.foldl addX out) ∧ ∀ k, k ∈ trks (r.foldl addX out) ↔ k ∈ trks out ∨ k ∈ trks r
  | [], out, h, _, _, _ => by simp [h, trks]
  | x :: r, out, h, hv, hp, hx => by
    simp only [List.all_cons, Bool.and_eq_true] at hv
    obtain ⟨hp1, hp2⟩ := List.pairwise_cons.1 hp
    have v := (val_iff _).1 hv.1
    obtain ⟨h1, h2, h3⟩ := addX_nf h hv.1 (hx x List.mem_cons_self) (by omega)
    obtain ⟨h4, h5⟩ := mg_spec r (addX out x) h1 hv.2 hp2 (fun y hy => by rw [h2]; exact hp1 y hy)
    refine ⟨h4, fun k => ?_⟩
    rw [List.foldl_cons, h5, h3, trks_cons, List.mem_append, or_assoc]

theorem Give_loop (n : Nat) (r : List TExtent) (hv : r.all val = true) (hn : r.length < n) (hl : r.length ≤ 1073741824) : loopF (fun (x : (List TExtent) × Int) => extent_Give_b2 n r (r.length : Int) x.1 x.2) n ([], 0) = some (r.foldl addX []) := by
  have h := loop_list (n := n) (σ := List TExtent) (body := fun (x : (List TExtent) × Int) => extent_Give_b2 n r (r.length : Int) x.1 x.2) r (fun k s => (s, (k : Int)))
    (fun out x => .inl (addX out x)) (fun out => out) (fun k s => s.length ≤ k ∧ ∀ y ∈ s, 0 ≤ y.At ∧ 0 ≤ y.Len ∧ y.At + y.Len ≤ 512) (s := []) (by simp)
    (fun k hk s hs => by
      obtain ⟨hs1, hs2⟩ := hs
      have c1 : decide ((k : Int) < (r.length : Int)) = true := by simp; omega
      have c2 : 0 ≤ (k : Int) ∧ (k : Int) < (r.length : Int) := by omega
      have v := (val_iff _).1 (List.all_eq_true.1 hv _ (List.getElem_mem hk))
      simp only [extent_Give_b2, extent_Give_k3, c1, bif_ite, if_true, Int.toNat_natCast, gd_pos _ c2, gt_lt hk]
      by_cases h0 : 0 < s.length
      · have hm := hs2 _ (gt_last h0)
        have e1 : IntKind.wrap .i64 (((s.length : Nat) : Int) - 1) = ((s.length - 1 : Nat) : Int) := by rw [wid (by omega)]; omega
        have e0 : decide (((s.length : Nat) : Int) > 0) = true := by simp; omega
        simp only [e1, e0, Int.toNat_natCast, if_true]
        have h3 : 0 ≤ ((s.length - 1 : Nat) : Int) ∧ ((s.length - 1 : Nat) : Int) < (s.length : Int) := by omega
        have h4 : s.length - 1 < s.length := by omega
        rw [gd_pos _ ⟨fun _ => h3, fun _ => h4, fun _ => h3, fun _ => h4⟩]
        rw [wid (n := (gt s (s.length - 1)).At + (gt s (s.length - 1)).Len) (by omega)]
        simp only [beq_iff_eq, addX, h0, true_and]
        by_cases h5 : (gt s (s.length - 1)).At + (gt s (s.length - 1)).Len = r[k].At
        · simp only [h5, if_true, gd_pos _ (show ((0 ≤ ((s.length - 1 : Nat) : Int) ∧ ((s.length - 1 : Nat) : Int) < (s.length : Int)) ∧ s.length - 1 < s.length ∧ (0 ≤ ((s.length - 1 : Nat) : Int) ∧ ((s.length - 1 : Nat) : Int) < (s.length : Int)) ∧ s.length - 1 < s.length) from ⟨h3, h4, h3, h4⟩)]
          rw [wid (by omega), wid (by omega)]; simp
        · simp only [h5, if_false, gd_pos _ (show s.length + 1 ≤ 2147483648 by omega)]
          rw [wid (by omega)]; simp
      · have e : s = [] := List.eq_nil_of_length_eq_zero (by omega)
        subst e
        rw [gd_pos _ (by simp)]
        simp only [List.length_nil]
        rw [if_neg (by simp), gd_pos _ (by simp), wid (by omega)]
        simp [addX])
    (fun k hk s hs s' hf => by
      obtain ⟨hs1, hs2⟩ := hs
      have v := (val_iff _).1 (List.all_eq_true.1 hv _ (List.getElem_mem hk))
      simp only [Sum.inl.injEq] at hf
      subst hf
      refine ⟨by have := addX_len s r[k]; omega, ?_⟩
      unfold addX
      split
      · rename_i h
        obtain ⟨h0, h5⟩ := h
        have hm := hs2 _ (gt_last h0)
        intro y hy
        rcases List.mem_or_eq_of_mem_set hy with hy | rfl
        · exact hs2 y hy
        · dsimp only; omega
      · intro y hy
        rcases List.mem_append.1 hy with hy | hy
        · exact hs2 y hy
        · simp only [List.mem_singleton] at hy; subst hy; omega)
    (fun s _ => by simp [extent_Give_b2, bif_ite]) hn
  have e : ∀ (t s : List TExtent), runL (fun out x => (.inl (addX out x) : List TExtent ⊕ List TExtent)) (fun out => out) t s = t.foldl addX s := by
    intro t
    induction t with
    | nil => intro s; simp [runL]
    | cons k t ih => intro s; simp [runL, ih]
  rw [e] at h
  exact h

theorem RGive_loop (n : Nat) (t s : List Int) (ht : ∀ k ∈ t, 0 ≤ k ∧ k < 512) (hn : t.length < n) (hl : t.length ≤ 1073741824) :
    loopF (fun (x : (List Bool) × Int) => ref20_Give_b2 n t x.1 x.2) n (mark s, 0) = some (match addAll s t with | some s' => .inr (mark s') | none => .inl ([], 1)) := by
  have h := loop_list (n := n) (σ := List Int) (body := fun (x : (List Bool) × Int) => ref20_Give_b2 n t x.1 x.2) t (fun k s => (mark s, (k : Int)))
    (fun s k => if k ∈ s then .inr (.inl ([], 1)) else .inl (s ++ [k])) (fun s => .inr (mark s)) (fun _ _ => True) (s := s) trivial
    (fun k hk s _ => by
      have c1 : decide ((k : Int) < ((t.length : Nat) : Int)) = true := by simp; omega
      have hr := ht t[k] (List.getElem_mem hk)
      have c2 : (0 ≤ (k : Int) ∧ (k : Int) < (t.length : Int)) ∧ k < t.length ∧ (0 ≤ t[k] ∧ t[k] < 512 ∧ (mark s).length = 512) ∧ t[k].toNat < (mark s).length := by rw [mark_len]; omega
      simp only [ref20_Give_b2, c1, bif_ite, if_true, Int.toNat_natCast, gt_lt hk, gd_pos _ c2, mark_gt s hr, decide_eq_true_eq]
      by_cases hm : t[k] ∈ s
      · simp [hm]
      · simp only [hm, if_false, mark_set s hr]
        rw [wid (by omega)]; simp)
    (fun _ _ _ _ _ _ => trivial) (fun s _ => by simp [ref20_Give_b2, bif_ite]) hn
  have e : ∀ (t s : List Int), runL (fun s k => if k ∈ s then (.inr (.inl ([], 1)) : List Int ⊕ ((List TExtent × Int) ⊕ List Bool)) else .inl (s ++ [k])) (fun s => .inr (mark s)) t s = match addAll s t with | some s' => .inr (mark s') | none => .inl ([], 1) := by
    intro t
    induction t with
    | nil => intro s; simp [runL, addAll]
    | cons k t ih =>
      intro s
      simp only [runL, addAll]
      by_cases hm : k ∈ s
      · simp [hm]
      · simp only [hm, if_false, ih]
  rw [e] at h
  exact h

theorem Overlap_eq (n : Nat) (hn : N0 ≤ n) (a b : List TExtent) (ha : a.length ≤ 2097152) (hb : b.length ≤ 2097152) : extent_Overlap n a b = some ((trkF [] a).isSome && (trkF [] b).isSome && !(trkF [] (a ++ b)).isSome) := by
  simp only [extent_Overlap, Valid_eq n hn a (by omega), Valid_eq n hn b (by omega), Option.bind_some, Option.isSome_some, Option.getD_some]
  rw [gd_pos _ (by simp)]
  by_cases h1 : (trkF [] a).isSome = true
  · by_cases h2 : (trkF [] b).isSome = true
    · simp only [h1, h2, if_true, bif_ite, Clone_eq n a (by omega), Option.bind_some, Bool.true_and]
      rw [gd_pos _ trivial, gd_pos _ (by omega), Valid_eq n hn (a ++ b) (by rw [List.length_append]; omega)]
      simp
    · rw [Bool.not_eq_true] at h2; simp [h1, h2]
  · rw [Bool.not_eq_true] at h1; simp [h1]

theorem addAll_iff {s t : List Int} (hs : s.Nodup) : (∃ s', addAll s t = some s') ↔ (s ++ t).Nodup := by
  constructor
  · rintro ⟨s', h⟩
    have := addAll_nodup h hs
    rwa [addAll_length h] at this
  · intro h
    exact ⟨_, addAll_some h⟩

theorem Give_eq (n : Nat) (hn : N0 ≤ n) (a b : List TExtent) (ha : a.length ≤ 2097152) (hb : b.length ≤ 2097152) : ∃ r : List TExtent × Int, extent_Give n a b = some r ∧ ref20_Give n a b = some r ∧ r.1.length ≤ 512 := by
  have hn0 : 4194304 ≤ n := hn
  simp only [extent_Give, ref20_Give, Check_eq n a 512 (by omega) (by omega), RCheck_eq n hn a 512 ha, Tracks_eq' n b hn hb, Valid_eq n hn b (by omega), Overlap_eq n hn a b ha hb, Option.bind_some, Option.isSome_some, Option.getD_some]
  rw [gd_pos _ (by simp)]
  by_cases c1 : chk 512 (-1) a = true
  · by_cases c2 : (trkF [] b).isSome = true
    · have hnf := ((chk_iff 512 a (-1)).1 c1).1
      have ha1 : trkF [] a = some (trks a) := nf_trkF hnf
      have hnda : (trks a).Nodup := (nf_asc hnf).imp fun h => by omega
      obtain ⟨hvb, hndb⟩ := (trkF_isSome b).1 c2
      have hvab : (a ++ b).all val = true := by rw [List.all_append, nf_val hnf, hvb]; rfl
      have hTb := trkO_few b
      rw [trkO_of c2] at hTb
      have hR := RGive_loop n (trks b) (trks a) (trks_range hvb) (by omega) (by omega)
      have hOa : trkO a = trks a := trkO_of (by rw [ha1]; rfl)
      simp only [c1, c2, ha1, Option.isSome_some, Bool.not_true, Bool.false_eq_true, if_false, bif_ite, Bool.true_and, Set_eq n a hn ha, hOa, Option.bind_some, trkO_of c2]
      rw [gd_pos _ trivial, hR]
      by_cases c3 : (trkF [] (a ++ b)).isSome = true
      · have hnd := ((trkF_isSome (a ++ b)).1 c3).2
        have hnd' : (trks a ++ trks b).Nodup := by rwa [trks_app] at hnd
        obtain ⟨r, r1, r2, r3⟩ := sorted_eq n (a ++ b) (by rw [List.length_append]; omega)
        have hrv : r.all val = true := by rw [perm_all r2]; exact hvab
        have hap : r.Pairwise apart := (nodup_apart hrv r3).1 ((perm_trks r2).nodup_iff.2 hnd)
        have hle := len_le_trks hvab
        have hfw := few (m := 512) hnd (trks_range hvab)
        have hrl := r2.length_eq
        obtain ⟨g1, g2⟩ := mg_spec r [] trivial hrv hap (fun x hx => by
          have := (val_iff _).1 (List.all_eq_true.1 hrv x hx)
          show (-1 : Int) ≤ x.At
          omega)
        simp only [c3, Bool.not_true, Bool.false_eq_true, if_false, Clone_eq n a (by omega), Option.bind_some, r1, Give_loop n r hrv (by omega) (by omega), addAll_some hnd', extent_Give_k1, ref20_Give_k1]
        have e1 : mark (trks a ++ trks b) = mark (trks (r.foldl addX [])) := by
          unfold mark
          refine List.map_congr_left fun i _ => ?_
          rw [decide_eq_decide, g2, ← trks_app, (perm_trks r2).mem_iff]
          simp [trks]
        rw [gd_pos _ (by omega), gd_pos _ (mark_len _), Normal_eq n _ (mark_len _) (by omega), e1, nrm_nf g1]
        refine ⟨_, rfl, rfl, ?_⟩
        have h1 := len_le_trks (nf_val g1)
        have h2 := few (m := 512) ((nf_asc g1).imp fun h => by omega) (trks_range (nf_val g1))
        dsimp only
        omega
      · have c4 : addAll (trks a) (trks b) = none := by
          cases h : addAll (trks a) (trks b) with
          | none => rfl
          | some s' =>
            exfalso
            refine c3 ((trkF_isSome _).2 ⟨hvab, ?_⟩)
            rw [trks_app]
            exact (addAll_iff hnda).1 ⟨s', h⟩
        rw [Bool.not_eq_true] at c3
        simp only [c3, c4, Bool.not_false, if_true]
        exact ⟨_, rfl, rfl, by simp⟩
    · rw [Bool.not_eq_true] at c2
      simp only [c1, c2, Bool.not_true, Bool.not_false, Bool.false_eq_true, if_false, if_true, bif_ite]
      exact ⟨_, rfl, rfl, by simp⟩
  · rw [Bool.not_eq_true] at c1
    simp only [c1, Bool.not_false, if_true, bif_ite]
    exact ⟨_, rfl, rfl, by simp⟩

theorem p_law20_ExtentGives (n : Nat) (hn : N0 ≤ n) (x0 : List TExtent) (x1 : List TExtent) (hc : ∀ i, i < 2 → CanL Try.prog (([(false, [.slice 43]), (false, [.slice 43])] : List (Bool × List Kd)).getD i (false, [])).2 (([[.slice (List.map e_TExtent x0)], [.slice (List.map e_TExtent x1)]] : List (List C)).getD i []))
    (hb : cbss [[.slice (List.map e_TExtent x0)], [.slice (List.map e_TExtent x1)]] ≤ 2097152) : law20_ExtentGives n x0 x1 = some true := by
  clear hc
  have hl0 := len_of_cbss hb (xs := [.slice (List.map e_TExtent x0)]) (l := x0) (f := e_TExtent) (by simp) (by simp)
  have hl1 := len_of_cbss hb (xs := [.slice (List.map e_TExtent x1)]) (l := x1) (f := e_TExtent) (by simp) (by simp)
  obtain ⟨R, h1, h2, h3⟩ := Give_eq n hn x0 x1 hl0 hl1
  have hn0 : 4194304 ≤ n := hn
  simp only [law20_ExtentGives, h1, h2, Option.bind_some, Same_eq n R.1 R.1 (by omega) (by omega), works_eq n hn]
  simp [gd]
end Go.Proofs.Ytojnggohjbidaaa
