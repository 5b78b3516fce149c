/-
  ch. 37: plain laws. Both normalizations give the normal form.
-/
import Derived.Test.YtcdofkflbnpjjaaQ
import Derived.Test.YtcdofkflbnpjjaaRA
set_option maxHeartbeats 8000000
set_option linter.unusedVariables false
set_option linter.unusedSimpArgs false
set_option maxRecDepth 100000
namespace Go.Proofs.Ytcdofkflbnpjjaa
open Go.AE Go.Sort

theorem cmpS_neg (x y : List UInt8) : cmpS x y < 0 ↔ Op.bytesLess x y = true := by
  unfold cmpS
  by_cases h : Op.bytesLess x y = true
  · simp [h]
  · by_cases h2 : x = y
    · subst h2; simp [bl_irrefl]
    · simp [h, h2]
theorem swo_cmpS : SWO (Go.Proofs.ltOf fun (x y : TWant) => cmpS x.Name y.Name) := by
  have e : ∀ x y : TWant, Go.Proofs.ltOf (fun (x y : TWant) => cmpS x.Name y.Name) x y = Op.bytesLess x.Name y.Name := by
    intro x y
    rw [Go.Proofs.ltOf, Bool.eq_iff_iff, decide_eq_true_eq]; exact cmpS_neg _ _
  constructor
  · intro x; rw [e]; exact bl_irrefl _
  · intro x y z; rw [e, e, e]; exact bl_trans
  · intro x y z; rw [e, e, e]
    intro h1 h2
    cases h3 : Op.bytesLess x.Name z.Name with
    | false => rfl
    | true =>
      rcases bl_total y.Name x.Name with h | h | h
      · rw [bl_trans h h3] at h2; cases h2
      · rw [h, h3] at h2; cases h2
      · rw [h] at h1; cases h1

theorem norm_loopE (n : Nat) : ∀ (q : List (List UInt8 × Bool)) (out : List TWant) (m : Nat), q.length < m → out.length + q.length ≤ 2147483648 →
    loopE (fun (x : List TWant) oo => enqueue_normalize_b3 n x oo) m out q = some (out ++ q.map fun e => (⟨e.1, e.2⟩ : TWant))
  | [], out, m, hm, _ => by
    obtain ⟨m, rfl⟩ : ∃ k, m = k + 1 := ⟨m - 1, by simp at hm; omega⟩
    simp [loopE, enqueue_normalize_b3]
  | e :: q, out, m, hm, hl => by
    obtain ⟨m, rfl⟩ : ∃ k, m = k + 1 := ⟨m - 1, by simp at hm; omega⟩
    simp only [List.length_cons] at hm hl
    have ih := norm_loopE n q (out ++ [(⟨e.1, e.2⟩ : TWant)]) m (by omega) (by simp; omega)
    have hb : enqueue_normalize_b3 n out (some e) = some (.inl (out ++ [(⟨e.1, e.2⟩ : TWant)])) := by
      simp only [enqueue_normalize_b3]
      rw [gd_pos _ (by omega)]
    simp only [loopE, hb]
    rw [ih]; simp

theorem normalize_eq (n : Nat) (l : List TWant) (hl : l.length ≤ B0) (hn : N0 ≤ n) : enqueue_normalize n l = some (nf l) := by
  unfold N0 at hn; unfold B0 at hl
  have h1 := loop_list (body := fun (x : (List (List UInt8 × Bool)) × Int) => enqueue_normalize_b4 n l (l.length : Int) x.1 x.2) l (fun k s => (s, (k : Int)))
    (fun m (w : TWant) => .inl (tset w.Name (if ((tget w.Name m).getD default) = true then true else w.Exclusive) m)) (fun s => s) (fun _ _ => True) (s := []) trivial
    (fun k hk s _ => by
      have hd : decide ((k : Int) < (l.length : Int)) = true := by simp; omega
      simp only [enqueue_normalize_b4, hd, cond_true, Int.toNat_natCast, succ_w (show k < 4194304 by omega)]
      rw [gd_pos _ (by omega), gt_lt hk])
    (fun _ _ _ _ _ _ => trivial) (fun s _ => by simp [enqueue_normalize_b4]) (n := n) (by omega)
  have e : ∀ (l : List TWant) (s : List (List UInt8 × Bool)), runL (fun m (w : TWant) => (.inl (tset w.Name (if ((tget w.Name m).getD default) = true then true else w.Exclusive) m) : List (List UInt8 × Bool) ⊕ List (List UInt8 × Bool))) (fun s => s) l s = l.foldl (fun m w => tset w.Name (if ((tget w.Name m).getD default) = true then true else w.Exclusive) m) s := by
    intro l
    induction l with
    | nil => intro s; rfl
    | cons a l ih => intro s; simp only [runL, List.foldl_cons]; exact ih _
  rw [e] at h1
  have hml := nmap_len l
  have h2 : enqueue_normalize_k1 n (nmap l) = some (nf l) := by
    rw [enqueue_normalize_k1]
    refine allP_eq fun q hq => ?_
    have hql : q.length ≤ l.length := by rw [hq.length_eq]; exact hml
    rw [norm_loopE n q [] n (by omega) (by simp; omega), Option.bind_some, List.nil_append]
    obtain ⟨r, hr1, hr2, hr3⟩ := sortG_eq (f := fun x y => enqueue_normalize_1 n x y) (c := fun (x y : TWant) => cmpS x.Name y.Name) (l := q.map fun e => (⟨e.1, e.2⟩ : TWant)) (fun _ _ _ _ => rfl) swo_cmpS
    rw [enqueue_normalize_k2, slices_SortFunc_f67_c68, hr1, Option.bind_some]
    have hlen : (q.map fun e => (⟨e.1, e.2⟩ : TWant)).length = r.length := hr2.length_eq.symm
    rw [hlen, List.take_length]
    congr 1
    refine isNF_uniq (sorted_isNF (nmap_of l) hq hr2 ?_) (nf_isNF l)
    refine hr3.imp fun {a b} h => ?_
    rw [cmpS_neg] at h
    simpa using h
  rw [enqueue_normalize]
  exact (congrArg (fun o => Option.bind o _) h1).trans h2

/-! ## The reference's insertion -/
def stepW (w : TWant) (s : Bool × List TWant × Bool) (x : TWant) : Bool × List TWant × Bool :=
  let s1 : Bool × List TWant × Bool := if (!s.2.2 && !Op.bytesLess x.Name w.Name) = true then
    ((if (x.Name == w.Name) = true then (s.1 || x.Exclusive) else s.1), s.2.1 ++ [⟨w.Name, (if (x.Name == w.Name) = true then (s.1 || x.Exclusive) else s.1)⟩], true) else s
  if (x.Name != w.Name) = true then (s1.1, s1.2.1 ++ [x], s1.2.2) else s1
def finW (w : TWant) (s : Bool × List TWant × Bool) : List TWant := if s.2.2 = true then s.2.1 else s.2.1 ++ [⟨w.Name, s.1⟩]

theorem stepW_done (w : TWant) : ∀ (l : List TWant) (e : Bool) (out : List TWant), l.foldl (stepW w) (e, out, true) = (e, out ++ l.filter (fun y => y.Name != w.Name), true)
  | [], e, out => by simp
  | x :: l, e, out => by
    rw [List.foldl_cons]
    have h1 : stepW w (e, out, true) x = (e, (if (x.Name != w.Name) = true then out ++ [x] else out), true) := by
      simp only [stepW, Bool.not_true, Bool.false_and, Bool.false_eq_true, if_false]
      split <;> rfl
    rw [h1, stepW_done w l, List.filter_cons]
    by_cases hx : (x.Name != w.Name) = true
    · rw [if_pos hx, if_pos hx]; simp
    · rw [if_neg hx, if_neg hx]

theorem stepW_eq (w : TWant) : ∀ (l : List TWant) (e : Bool) (out : List TWant), finW w (l.foldl (stepW w) (e, out, false)) = out ++ insr w.Name e l
  | [], e, out => by simp [finW, insr]
  | x :: l, e, out => by
    rw [List.foldl_cons]
    by_cases hlt : Op.bytesLess x.Name w.Name = true
    · have hne : (x.Name != w.Name) = true := by simpa using bl_ne hlt
      have h1 : stepW w (e, out, false) x = (e, out ++ [x], false) := by
        simp only [stepW, hlt, Bool.not_true, Bool.and_false, Bool.false_eq_true, if_false, hne, if_true]
      rw [h1, stepW_eq w l]
      simp only [insr, hlt, if_true]; simp
    · have hlt' : Op.bytesLess x.Name w.Name = false := by simpa using hlt
      by_cases hx : x.Name = w.Name
      · have h1 : stepW w (e, out, false) x = ((e || x.Exclusive), out ++ [⟨w.Name, e || x.Exclusive⟩], true) := by
          simp [stepW, hx, bl_irrefl]
        rw [h1, stepW_done]
        simp [finW, insr, hx, bl_irrefl]
      · have hne : (x.Name != w.Name) = true := by simpa using hx
        have hne2 : (x.Name == w.Name) = false := by simpa using hx
        have h1 : stepW w (e, out, false) x = (e, out ++ [⟨w.Name, e⟩] ++ [x], true) := by
          simp only [stepW, hlt', Bool.not_false, Bool.and_true, if_true, hne, hne2, Bool.false_eq_true, if_false]
        rw [h1, stepW_done]
        simp only [finW, if_true, insr, hlt', Bool.false_eq_true, if_false, hx]
        simp [hx]

theorem with_eq (n : Nat) (l : List TWant) (w : TWant) (hl : l.length ≤ B0) (hn : N0 ≤ n) : ref37_with n l w = some (insr w.Name w.Exclusive l) := by
  unfold N0 at hn; unfold B0 at hl
  have h1 := loop_list (body := fun (x : Bool × (List TWant) × Bool × Int) => ref37_with_b3 n l w x.1 x.2.1 x.2.2.1 x.2.2.2) l (fun k (s : Bool × List TWant × Bool) => (s.1, s.2.1, s.2.2, (k : Int)))
    (fun s x => .inl (stepW w s x)) (fun s => s) (fun k s => s.2.1.length ≤ 2 * k) (s := (w.Exclusive, [], false)) (by simp)
    (fun k hk s hi => by
      obtain ⟨e, out, done⟩ := s
      simp only at hi
      have hd : decide ((k : Int) < (l.length : Int)) = true := by simp; omega
      simp only [ref37_with_b3, hd, cond_true, Int.toNat_natCast, ite_ff, ite_tt, bif_ite, gt_lt hk]
      rw [gd_pos _ (by intro _; omega)]
      have g1 : (0 : Int) ≤ (k : Int) ∧ (k : Int) < (l.length : Int) := by omega
      have g2 : out.length + 1 ≤ 2147483648 := by omega
      have g3 : out.length + 1 + 1 ≤ 2147483648 := by omega
      by_cases hc : (!done && !Op.bytesLess l[k].Name w.Name) = true
      · simp only [hc, if_true, stepW]
        by_cases hx : (l[k].Name == w.Name) = true
        · have hx2 : (l[k].Name != w.Name) = false := by simpa using hx
          simp [ref37_with_k6, ref37_with_k5, ref37_with_k4, gd, hx, hx2, g1, g2, g3, Int.toNat_natCast, gt_lt hk, succ_w (show k < 4194304 by omega), ite_tt, bif_ite]
        · have hx1 : (l[k].Name == w.Name) = false := by simpa using hx
          have hx2 : (l[k].Name != w.Name) = true := by simpa using hx
          simp [ref37_with_k6, ref37_with_k5, ref37_with_k4, gd, hx1, hx2, g1, g2, g3, Int.toNat_natCast, gt_lt hk, succ_w (show k < 4194304 by omega), ite_tt, bif_ite]
      · simp only [hc, if_false, stepW]
        by_cases hx : (l[k].Name != w.Name) = true
        · simp [ref37_with_k6, ref37_with_k5, ref37_with_k4, gd, hx, g1, g2, g3, Int.toNat_natCast, gt_lt hk, succ_w (show k < 4194304 by omega), ite_tt, bif_ite]
        · have hx1 : (l[k].Name != w.Name) = false := by simpa using hx
          simp [ref37_with_k6, ref37_with_k5, ref37_with_k4, gd, hx1, g1, g2, g3, Int.toNat_natCast, gt_lt hk, succ_w (show k < 4194304 by omega), ite_tt, bif_ite])
    (fun k hk s hi s' hs => by
      cases hs
      simp only [stepW]
      repeat' split
      all_goals first | omega | (simp only [List.length_append, List.length_cons, List.length_nil]; omega))
    (fun s _ => by simp [ref37_with_b3]) (n := n) (by omega)
  have e : ∀ (l : List TWant) (s : Bool × List TWant × Bool), runL (fun s x => (.inl (stepW w s x) : (Bool × List TWant × Bool) ⊕ (Bool × List TWant × Bool))) (fun s => s) l s = l.foldl (stepW w) s := by
    intro l
    induction l with
    | nil => intro s; rfl
    | cons a l ih => intro s; simp only [runL, List.foldl_cons]; exact ih _
  rw [e] at h1
  have h2 := stepW_eq w l w.Exclusive []
  have hlen : (l.foldl (stepW w) (w.Exclusive, [], false)).2.1.length ≤ 2 * l.length := by
    have : ∀ (l : List TWant) (s : Bool × List TWant × Bool), (l.foldl (stepW w) s).2.1.length ≤ s.2.1.length + 2 * l.length := by
      intro l
      induction l with
      | nil => intro s; simp
      | cons a l ih =>
        intro s
        rw [List.foldl_cons]
        have h3 := ih (stepW w s a)
        have h4 : (stepW w s a).2.1.length ≤ s.2.1.length + 2 := by
          simp only [stepW]
          repeat' split
          all_goals first | omega | (simp only [List.length_append, List.length_cons, List.length_nil]; omega)
        simp only [List.length_cons]; omega
    simpa using this l (w.Exclusive, [], false)
  rw [ref37_with]
  refine (congrArg (fun o => Option.bind o _) h1).trans ?_
  rw [Option.bind_some]
  generalize l.foldl (stepW w) (w.Exclusive, [], false) = s at h2 hlen
  obtain ⟨e, out, done⟩ := s
  simp only at hlen ⊢
  rw [List.nil_append] at h2
  rw [← h2]
  cases done
  · simp only [ref37_with_k1, finW, Bool.not_false, cond_true, Bool.false_eq_true, if_false]
    rw [gd_pos _ (by omega)]; rfl
  · rfl

theorem Normal_eq (n : Nat) (l : List TWant) (hl : l.length ≤ B0) (hn : N0 ≤ n) : ref37_Normal n l = some (nf l) := by
  have hn' := hn; have hl' := hl
  unfold N0 at hn'; unfold B0 at hl'
  have h1 := loop_acc (body := fun (x : (List TWant) × Int) => ref37_Normal_b2 n l x.1 x.2) l (fun r w => insr w.Name w.Exclusive r) (fun s => s) [] (fun k s => s.length ≤ k) (n := n) (by simp)
    (fun k hk s hi => by
      have hd : decide ((k : Int) < (l.length : Int)) = true := by simp; omega
      simp only [ref37_Normal_b2, hd, cond_true, Int.toNat_natCast, succ_w (show k < 4194304 by omega)]
      rw [gd_pos _ (by omega), with_eq n _ _ (by unfold B0; omega) hn, Option.bind_some, gt_lt hk])
    (fun k hk s hi => by have := insr_len l[k].Name l[k].Exclusive s; omega)
    (fun s _ => by simp [ref37_Normal_b2]) (by omega)
  simp only [ref37_Normal, h1, Option.bind_some, ref37_Normal_k1, nf]
end Go.Proofs.Ytcdofkflbnpjjaa
