/-
  ch. 20: normal forms: what the specification's check is. No program in sight.
-/
import Derived.Test.YtojnggohjbidaaaP
set_option maxHeartbeats 8000000
set_option linter.unusedVariables false
set_option linter.unusedSimpArgs false
set_option maxRecDepth 100000
namespace Go.Proofs.Ytojnggohjbidaaa
open Go.AE

theorem trkF_spec : ∀ {l : List TExtent} {s s' : List Int}, trkF s l = some s' → s' = s ++ trks l ∧ l.all val = true
  | [], s, s', h => by simp only [trkF, Option.some.injEq] at h; simp [h, trks]
  | x :: l, s, s', h => by
    simp only [trkF] at h
    split at h
    · rename_i hv
      obtain ⟨s2, h1, h2⟩ := bind_some h
      obtain ⟨h3, h4⟩ := trkF_spec h2
      rw [addAll_length h1] at h3
      exact ⟨by rw [h3]; simp [trks], by simp [hv, h4]⟩
    · cases h
theorem trks_range {l : List TExtent} (h : l.all val = true) : ∀ k ∈ trks l, 0 ≤ k ∧ k < 512 := by
  intro k hk
  obtain ⟨x, hx, hk⟩ := List.mem_flatMap.1 hk
  have hv := (val_iff x).1 (List.all_eq_true.1 h x hx)
  have := trk_mem.1 hk
  omega

/-! ## Set -/
theorem Set_loop (n : Nat) (v2 : List Bool) (t : List Int) (ht : ∀ k ∈ t, 0 ≤ k ∧ k < 512) (hn : t.length < n) (hl : t.length ≤ 2147483648) : loopF (fun (x : (List Bool) × Int) => ref20_Set_b2 n v2 t x.1 x.2) n (mark [], 0) = some (mark t) := by
  have h := loop_list (n := n) (σ := List Int) (body := fun (x : (List Bool) × Int) => ref20_Set_b2 n v2 t x.1 x.2) t (fun k s => (mark s, (k : Int))) (fun s k => .inl (s ++ [k])) (fun s => mark s) (fun _ _ => True) (s := []) trivial
    (fun k hk s _ => by
      have h1 : decide ((k : Int) < ((t.length : Nat) : Int)) = true := by simp; omega
      have hr := ht t[k] (List.getElem_mem hk)
      have h2 : (0 ≤ (k : Int) ∧ (k : Int) < (t.length : Int)) ∧ (Int.toNat (k : Int)) < t.length ∧ (0 ≤ t[k] ∧ t[k] < 512 ∧ (mark s).length = 512) ∧ (Int.toNat t[k]) < (mark s).length := by rw [mark_len]; simp; omega
      simp only [ref20_Set_b2, h1, bif_ite, if_true, Int.toNat_natCast, gt_lt hk]
      rw [Int.toNat_natCast] at h2
      rw [gd_pos _ h2, mark_set s hr, wid (by omega)]
      simp)
    (fun _ _ _ _ _ _ => trivial) (fun s _ => by simp [ref20_Set_b2, bif_ite]) hn
  have e : ∀ (t s : List Int), runL (fun s k => (.inl (s ++ [k]) : List Int ⊕ List Bool)) (fun s => mark s) t s = mark (s ++ t) := by
    intro t
    induction t with
    | nil => intro s; simp [runL]
    | cons k t ih => intro s; simp [runL, ih]
  rw [e] at h
  simpa using h

def trkO (l : List TExtent) : List Int := (trkF [] l).getD []
theorem trkO_range (l : List TExtent) : ∀ k ∈ trkO l, 0 ≤ k ∧ k < 512 := by
  unfold trkO
  cases h : trkF [] l with
  | none => simp
  | some s =>
    obtain ⟨h1, h2⟩ := trkF_spec h
    simp only [List.nil_append] at h1
    subst h1
    simpa using trks_range h2
theorem addAll_nodup : ∀ {t s s' : List Int}, addAll s t = some s' → s.Nodup → s'.Nodup
  | [], s, s', h, hs => by simp only [addAll, Option.some.injEq] at h; subst h; exact hs
  | k :: t, s, s', h, hs => by
    simp only [addAll] at h
    split at h
    · cases h
    · rename_i hk
      refine addAll_nodup h (List.nodup_append.2 ⟨hs, by simp, ?_⟩)
      rintro a ha b hb rfl
      simp only [List.mem_singleton] at hb; subst hb
      exact hk ha
theorem trkF_nodup : ∀ {l : List TExtent} {s s' : List Int}, trkF s l = some s' → s.Nodup → s'.Nodup
  | [], s, s', h, hs => by simp only [trkF, Option.some.injEq] at h; subst h; exact hs
  | x :: l, s, s', h, hs => by
    simp only [trkF] at h
    split at h
    · obtain ⟨s2, h1, h2⟩ := bind_some h
      exact trkF_nodup h2 (addAll_nodup h1 hs)
    · cases h
/-- different numbers below a bound are few -/
theorem few : ∀ {m : Nat} {s : List Int}, s.Nodup → (∀ k ∈ s, 0 ≤ k ∧ k < (m : Int)) → s.length ≤ m
  | 0, s, hn, hr => by
    cases s with
    | nil => simp
    | cons k t => have := hr k (by simp); omega
  | m + 1, s, hn, hr => by
    have h := few (m := m) (s := s.erase (m : Int)) (hn.erase _) (fun k hk => by
      have h1 := (List.Nodup.mem_erase_iff hn).1 hk
      have := hr k h1.2
      have := h1.1
      omega)
    rw [List.length_erase] at h
    split at h <;> omega
theorem trkO_few (l : List TExtent) : (trkO l).length ≤ 512 := by
  refine few ?_ (trkO_range l)
  unfold trkO
  cases h : trkF [] l with
  | none => simp
  | some s => simpa using trkF_nodup h List.nodup_nil

theorem Tracks_eq' (n : Nat) (l : List TExtent) (hn : N0 ≤ n) (hl : l.length ≤ 2097152) : ref20_Tracks n l = some (trkO l, (trkF [] l).isSome) := by
  rw [Tracks_eq n l (by unfold N0 at hn; omega) (by unfold N0 at hn; omega) hl]
  unfold trkO
  cases trkF [] l <;> rfl
theorem Set_eq (n : Nat) (l : List TExtent) (hn : N0 ≤ n) (hl : l.length ≤ 2097152) : ref20_Set n l = some (mark (trkO l)) := by
  have h2 := trkO_few l
  have h1 := Set_loop n (zreps 512 false) (trkO l) (trkO_range l) (by unfold N0 at hn; omega) (by omega)
  simp only [ref20_Set, Tracks_eq' n l hn hl, Option.bind_some]
  rw [mark_nil] at h1 ⊢
  simp only [h1, Option.bind_some, ref20_Set_k1]
  have e : (mark (trkO l)).length = 512 := mark_len _
  have e2 : (mark []).length = 512 := mark_len _
  rw [gd_pos _ ⟨e, e2⟩, gd_pos _ e]

/-! ## Normal forms -/
def addT (out : List TExtent) (k : Int) : List TExtent :=
  if 0 < out.length ∧ (gt out (out.length - 1)).At + (gt out (out.length - 1)).Len = k then out.set (out.length - 1) ⟨(gt out (out.length - 1)).At, (gt out (out.length - 1)).Len + 1⟩ else out ++ [⟨k, 1⟩]
def nrm (p : List Bool) : List TExtent := (List.range 512).foldl (fun out (k : Nat) => if gt p k then addT out (k : Int) else out) []

theorem addT_len (out : List TExtent) (k : Int) : (addT out k).length ≤ out.length + 1 := by unfold addT; split <;> simp
theorem gt_last {out : List TExtent} (h : 0 < out.length) : gt out (out.length - 1) ∈ out := by
  rw [gt_lt (by omega)]; exact List.getElem_mem _

theorem Normal_eq (n : Nat) (p : List Bool) (hp : p.length = 512) (hn : 512 < n) : ref20_Normal n p = some (nrm p) := by
  have h := loop_list (n := n) (σ := List TExtent) (body := fun (x : (List TExtent) × Int) => ref20_Normal_b2 n p x.1 x.2) (List.range 512) (fun k s => (s, (k : Int)))
    (fun out (k : Nat) => .inl (if gt p k then addT out (k : Int) else out)) (fun out => out) (fun k s => s.length ≤ k ∧ ∀ y ∈ s, 0 ≤ y.At ∧ 0 ≤ y.Len ∧ y.At + y.Len ≤ 512) (s := []) (by simp)
    (fun k hk s hs => by
      obtain ⟨hs1, hs2⟩ := hs
      simp only [List.length_range] at hk
      have h1 : decide ((k : Int) < 512) = true := by simp; omega
      have h2 : (0 ≤ (k : Int) ∧ (k : Int) < 512 ∧ p.length = 512) ∧ k < p.length := by omega
      simp only [ref20_Normal_b2, ref20_Normal_k3, h1, bif_ite, if_true, Int.toNat_natCast, gd_pos _ h2, List.getElem_range]
      by_cases hg : gt p k = true
      · simp only [hg, Bool.not_true, Bool.false_eq_true, if_false, if_true]
        by_cases h0 : 0 < s.length
        · have hm := hs2 _ (gt_last h0)
          have e1 : IntKind.wrap .i64 (((s.length : Nat) : Int) - 1) = ((s.length - 1 : Nat) : Int) := by rw [wid (by omega)]; omega
          have e0 : decide (((s.length : Nat) : Int) > 0) = true := by simp; omega
          simp only [e1, e0, Int.toNat_natCast, if_true]
          have h3 : 0 ≤ ((s.length - 1 : Nat) : Int) ∧ ((s.length - 1 : Nat) : Int) < (s.length : Int) := by omega
          have h4 : s.length - 1 < s.length := by omega
          rw [gd_pos _ ⟨fun _ => h3, fun _ => h4, fun _ => h3, fun _ => h4⟩]
          rw [wid (n := (gt s (s.length - 1)).At + (gt s (s.length - 1)).Len) (by omega)]
          simp only [beq_iff_eq, addT, h0, true_and]
          by_cases h5 : (gt s (s.length - 1)).At + (gt s (s.length - 1)).Len = (k : Int)
          · simp only [h5, if_true, gd_pos _ (show ((0 ≤ ((s.length - 1 : Nat) : Int) ∧ ((s.length - 1 : Nat) : Int) < (s.length : Int)) ∧ s.length - 1 < s.length ∧ (0 ≤ ((s.length - 1 : Nat) : Int) ∧ ((s.length - 1 : Nat) : Int) < (s.length : Int)) ∧ s.length - 1 < s.length) from ⟨h3, h4, h3, h4⟩)]
            rw [wid (by omega), wid (by omega)]; simp
          · simp only [h5, if_false, gd_pos _ (show s.length + 1 ≤ 2147483648 by omega)]
            rw [wid (by omega)]; simp
        · have e : s = [] := List.eq_nil_of_length_eq_zero (by omega)
          subst e
          rw [gd_pos _ (by simp)]
          simp only [List.length_nil]
          rw [if_neg (by simp), gd_pos _ (by simp), wid (by omega)]
          simp [addT]
      · simp only [hg, Bool.not_false, if_true, if_false, Bool.false_eq_true]
        rw [wid (by omega)]; simp)
    (fun k hk s hs s' hf => by
      obtain ⟨hs1, hs2⟩ := hs
      simp only [List.length_range] at hk
      simp only [Sum.inl.injEq, List.getElem_range] at hf
      subst hf
      split
      · refine ⟨by have := addT_len s (k : Int); omega, ?_⟩
        unfold addT
        split
        · rename_i h
          obtain ⟨h0, h5⟩ := h
          have hm := hs2 _ (gt_last h0)
          intro y hy
          rcases List.mem_or_eq_of_mem_set hy with hy | rfl
          · exact hs2 y hy
          · dsimp only; omega
        · intro y hy
          rcases List.mem_append.1 hy with hy | hy
          · exact hs2 y hy
          · simp only [List.mem_singleton] at hy; subst hy; dsimp only; omega
      · exact ⟨by omega, hs2⟩)
    (fun s _ => by simp [ref20_Normal_b2, bif_ite]) (by simpa using hn)
  have e : ∀ (t : List Nat) (s : List TExtent), runL (fun out (k : Nat) => (.inl (if gt p k then addT out (k : Int) else out) : List TExtent ⊕ List TExtent)) (fun out => out) t s = t.foldl (fun out (k : Nat) => if gt p k then addT out (k : Int) else out) s := by
    intro t
    induction t with
    | nil => intro s; simp [runL]
    | cons k t ih => intro s; simp [runL, ih]
  rw [e] at h
  have h' : loopF (fun (x : (List TExtent) × Int) => ref20_Normal_b2 n p x.1 x.2) n ([], 0) = some (nrm p) := h
  simp only [ref20_Normal, h', Option.bind_some, ref20_Normal_k1]
end Go.Proofs.Ytojnggohjbidaaa
