/-
  ch. 36: which steps are skipped.
-/
import Derived.Test.YtmaemlpmbjloaaaP
set_option maxHeartbeats 8000000
set_option linter.unusedVariables false
set_option linter.unusedSimpArgs false
set_option maxRecDepth 100000
namespace Go.Proofs.Ytmaemlpmbjloaaa
open Go.AE

abbrev Z := List UInt8 × TStepEnd
def gCodes (c : List (List UInt8 × Int)) (p : Z) : List (List UInt8 × Int) := if p.2.Kind == 1 then tset p.1 p.2.Code c else tdel p.1 c
def fSkip (s : Bool × List (List UInt8 × Int)) (p : Z) : (Bool × List (List UInt8 × Int)) ⊕ (Bool ⊕ (Bool × List (List UInt8 × Int))) :=
  if p.2.Kind == 4 then .inr (.inl true) else .inl (s.1 || p.2.Kind == 2, gCodes s.2 p)

theorem runSkip : ∀ (z : List Z) (a : Bool) (c : List (List UInt8 × Int)), runL fSkip (fun s => (.inr s : Bool ⊕ (Bool × List (List UInt8 × Int)))) z (a, c) = if z.any (fun p => p.2.Kind == 4) then .inl true else .inr (a || z.any (fun p => p.2.Kind == 2), z.foldl gCodes c)
  | [], a, c => by simp [runL]
  | p :: z, a, c => by
    simp only [runL, fSkip, List.any_cons, List.foldl_cons]
    by_cases h : p.2.Kind = 4
    · simp [h]
    · have : (p.2.Kind == 4) = false := by simpa using h
      simp only [this, Bool.false_eq_true, if_false, Bool.false_or]
      rw [runSkip z, Bool.or_assoc]

def lastOf (s : List UInt8) (z : List Z) : Option Z := z.reverse.find? (fun p => s == p.1)
theorem codes_at (s : List UInt8) : ∀ (z : List Z) (c : List (List UInt8 × Int)), (c.map (·.1)).Nodup → tget s (z.foldl gCodes c) = match lastOf s z with | some p => if p.2.Kind == 1 then some p.2.Code else none | none => tget s c
  | [], c, h => by simp [lastOf]
  | p :: z, c, h => by
    have hn : ((gCodes c p).map (·.1)).Nodup := by
      unfold gCodes; split
      · exact nodup_tset _ _ _ h
      · exact nodup_tdel _ _ h
    simp only [List.foldl_cons]
    rw [codes_at s z _ hn]
    have e : lastOf s (p :: z) = (lastOf s z).or (if s == p.1 then some p else none) := by
      simp only [lastOf, List.reverse_cons, List.find?_append, List.find?_cons, List.find?_nil]
      cases s == p.1 <;> rfl
    rw [e]
    cases lastOf s z with
    | some q => simp
    | none =>
      simp only [Option.none_or]
      unfold gCodes
      by_cases h1 : p.2.Kind = 1 <;> by_cases h2 : s = p.1 <;> simp [h1, h2, tget_tset, tget_tdel _ _ _ h]

def cond1 (c : TCond) (z : List Z) : Bool :=
  if c.Step = [] then z.any (fun p => p.2.Kind == 1 && test c p.2.Code) else match lastOf c.Step z with | some p => p.2.Kind == 1 && test c p.2.Code | none => false

def skip (s : TJobStep) (z : List Z) : Bool :=
  z.any (fun p => p.2.Kind == 4) || (z.any (fun p => p.2.Kind == 2) && !s.Even && !s.Only || !z.any (fun p => p.2.Kind == 2) && s.Only) || s.Conds.any (fun c => cond1 c z)

theorem stop_one (c : TCond) (e : TStepEnd) : stop [c] e = (e.Kind == 1 && (c.Step == [] && test c e.Code)) := by simp [stop, stopP]

theorem minI (a b : Nat) : (if (b : Int) < (a : Int) then (b : Int) else (a : Int)) = ((min a b : Nat) : Int) := by
  split <;> omega

theorem Skip_eq (n : Nat) (hn : N0 ≤ n) (s : TJobStep) (names : List (List UInt8)) (ends : List TStepEnd) (h1 : names.length ≤ 2097152) (h2 : ends.length ≤ 2097152) (h3 : s.Conds.length ≤ 2097152) : flow_Skip n s names ends = some (skip s (names.zip ends)) := by
  have hn' : 4194304 ≤ n := hn
  have hzl : (names.zip ends).length = min names.length ends.length := by simp
  have hE : List.take (min names.length ends.length) ends = (names.zip ends).map (·.2) := by
    rw [List.zip_eq_zip_take_min, List.map_snd_zip]
    simp
  have hz : ∀ k (hk : k < (names.zip ends).length), (names.zip ends)[k] = (names[k]'(by omega), ends[k]'(by omega)) := fun k hk => by simp
  have hL : loopF (fun (x : Bool × (List (List UInt8 × Int)) × Int) => flow_Skip_b6 n names ends s ((min names.length ends.length : Nat) : Int) (List.take (min names.length ends.length) ends) ((List.take (min names.length ends.length) ends).length : Int) x.1 x.2.1 x.2.2) n (false, [], 0)
      = some (runL fSkip (fun s => (.inr s : Bool ⊕ (Bool × List (List UInt8 × Int)))) (names.zip ends) (false, [])) := by
    refine loop_list (names.zip ends) (fun k s => (s.1, s.2, (k : Int))) fSkip _ (fun _ _ => True) (s := (false, [])) trivial (fun k hk st _ => ?_) (fun _ _ _ _ _ _ => trivial) (fun st _ => ?_) (n := n) (by omega)
    · rw [hz k hk]
      have hk1 : k < names.length := by omega
      have hk2 : k < ends.length := by omega
      have hk3 : k < (List.take (min names.length ends.length) ends).length := by simp; omega
      have hg : gt (List.take (min names.length ends.length) ends) k = ends[k] := by rw [gt_lt hk3]; simp
      simp only [flow_Skip_b6, flow_Skip_k8, flow_Skip_k7, Int.toNat_natCast, hg, gt_lt hk1, succ_w (show k < 4194304 by omega)]
      rw [show decide ((k : Int) < ((List.take (min names.length ends.length) ends).length : Int)) = true by simp; omega, cond_true, gd_pos _ (by omega)]
      simp only [gd_pos _ (show 0 ≤ (k : Int) ∧ (k : Int) < (names.length : Int) by omega), fSkip, gCodes]
      by_cases e4 : ends[k].Kind = 4
      · simp [e4]
      · by_cases e2 : ends[k].Kind = 2
        · simp [e2, cond_eq_ite]
        · by_cases e1 : ends[k].Kind = 1 <;> simp [e4, e2, e1, cond_eq_ite]
    · simp only [flow_Skip_b6]
      rw [show decide (((names.zip ends).length : Int) < ((List.take (min names.length ends.length) ends).length : Int)) = false by simp]; rfl
  have hC : ∀ c : TCond, (match tget c.Step ((names.zip ends).foldl gCodes []) with | some code => test c code | none => false) = (match lastOf c.Step (names.zip ends) with | some p => p.2.Kind == 1 && test c p.2.Code | none => false) := by
    intro c
    rw [codes_at _ _ _ (by simp)]
    cases lastOf c.Step (names.zip ends) with
    | none => rfl
    | some p => by_cases h : p.2.Kind = 1 <;> simp [h]
  simp only [flow_Skip, minI, Int.toNat_natCast]
  rw [gd_pos _ (by omega), hL, runSkip]
  by_cases hbad : (names.zip ends).any (fun p => p.2.Kind == 4) = true
  · simp [hbad, skip]
  · rw [if_neg hbad]
    rw [Bool.not_eq_true] at hbad
    simp only [Option.bind_some, Bool.false_or, flow_Skip_k1, skip, hbad]
    generalize (names.zip ends).any (fun p => p.2.Kind == 2) = ab
    have hA : loopF (fun (x : Int) => flow_Skip_b3 n ends ((min names.length ends.length : Nat) : Int) ((names.zip ends).foldl gCodes []) s (s.Conds.length : Int) x) n 0 = (some (if s.Conds.any (fun c => cond1 c (names.zip ends)) then .inl true else .inr ()) : Option (Bool ⊕ Unit)) := by
      refine loop_any (Y := Bool ⊕ Unit) s.Conds (fun c => cond1 c (names.zip ends)) (.inl true) (.inr ()) (fun k hk => ?_) ?_ (n := n) (by omega)
      · simp only [flow_Skip_b3, Test_eq, Int.toNat_natCast, gt_lt hk, flow_Skip_k4, succ_w (show k < 4194304 by omega)]
        rw [show decide ((k : Int) < (s.Conds.length : Int)) = true by simp; omega, cond_true, gd_pos _ (by omega)]
        generalize s.Conds[k] = c
        by_cases hs : c.Step = []
        · have hI : loopF (fun (x : Int) => flow_Skip_b5 n ends ((min names.length ends.length : Nat) : Int) ((names.zip ends).foldl gCodes []) c.Code c.Op c.Step s (s.Conds.length : Int) (k : Int) (List.take (min names.length ends.length) ends) ((List.take (min names.length ends.length) ends).length : Int) x) n 0
              = (some (if ((names.zip ends).map (·.2)).any (fun e => stop [c] e) then .inl true else .inr ()) : Option (Bool ⊕ Unit)) := by
            rw [hE]
            refine loop_any (Y := Bool ⊕ Unit) ((names.zip ends).map (·.2)) (fun e => stop [c] e) (.inl true) (.inr ()) (fun j hj => ?_) ?_ (n := n) (by simp; omega)
            · have hj' : j < (names.zip ends).length := by simpa using hj
              simp only [flow_Skip_b5, Int.toNat_natCast, gt_lt hj, succ_w (show j < 4194304 by omega)]
              rw [show decide ((j : Int) < ((List.map (fun (p : Z) => p.2) (names.zip ends)).length : Int)) = true by simp; omega, cond_true, gd_pos _ (by omega)]
              rw [Stop_eq n [c] _ (by simp) hn]
              simp only [Option.bind_some]
              generalize stop [c] ((names.zip ends).map (·.2))[j] = bb
              cases bb <;> rfl
            · simp only [flow_Skip_b5]
              rw [show decide (((List.map (fun (p : Z) => p.2) (names.zip ends)).length : Int) < ((List.map (fun (p : Z) => p.2) (names.zip ends)).length : Int)) = false by simp]; rfl
          rw [show (c.Step != []) = false by simp [hs], cond_false, gd_pos _ (by omega)]
          rw [hI]
          have : ((names.zip ends).map (·.2)).any (fun e => stop [c] e) = cond1 c (names.zip ends) := by
            simp only [cond1, hs, if_true, List.any_map]
            congr 1
            funext p
            simp [stop_one, hs]
          rw [this]
          by_cases hc : cond1 c (names.zip ends) = true <;> simp [hc]
        · rw [show (c.Step != []) = true by simp [hs], cond_true]
          have := hC c
          simp only [cond1, if_neg hs]
          rw [← this]
          simp only [Option.isSome_some, implies_true, gd, if_true, Option.getD_some]
          cases tget c.Step ((names.zip ends).foldl gCodes []) with
          | none => simp
          | some code => by_cases ht : test c code = true <;> simp [ht]
      · simp only [flow_Skip_b3]
        rw [show decide ((s.Conds.length : Int) < (s.Conds.length : Int)) = false by simp]; rfl
    rw [hA]
    by_cases hc : s.Conds.any (fun c => cond1 c (names.zip ends)) = true
    · rw [if_pos hc, hc]
      cases ab <;> cases s.Even <;> cases s.Only <;> simp
    · rw [if_neg hc]
      rw [Bool.not_eq_true] at hc
      rw [hc]
      cases ab <;> cases s.Even <;> cases s.Only <;> simp [flow_Skip_k2]

/-! ## The specification's side -/
def fHolds (c : TCond) (_ : Unit) (p : Z) : Unit ⊕ (Bool ⊕ Unit) :=
  if c.Step = [] then (if p.2.Kind = 1 ∧ test c p.2.Code = true then .inr (.inl true) else .inl ()) else (if p.1 = c.Step then .inr (.inl (p.2.Kind == 1 && test c p.2.Code)) else .inl ())

theorem runHolds0 (c : TCond) (hs : c.Step = []) : ∀ z : List Z, runL (fHolds c) (fun _ => (.inr () : Bool ⊕ Unit)) z () = if z.any (fun p => p.2.Kind == 1 && test c p.2.Code) then .inl true else .inr ()
  | [] => by simp [runL]
  | p :: z => by
    simp only [runL, fHolds, hs, if_true, List.any_cons]
    by_cases h : p.2.Kind = 1 ∧ test c p.2.Code = true
    · simp [h]
    · rw [if_neg h]
      have : (p.2.Kind == 1 && test c p.2.Code) = false := by
        rw [Bool.eq_false_iff]; simpa using h
      simp only [this, Bool.false_or]
      exact runHolds0 c hs z
theorem runHolds1 (c : TCond) (hs : c.Step ≠ []) : ∀ z : List Z, runL (fHolds c) (fun _ => (.inr () : Bool ⊕ Unit)) z () = match z.find? (fun p => c.Step == p.1) with | some p => .inl (p.2.Kind == 1 && test c p.2.Code) | none => .inr ()
  | [] => by simp [runL]
  | p :: z => by
    simp only [runL, fHolds, hs, if_false, List.find?_cons]
    by_cases h : p.1 = c.Step
    · simp [h]
    · rw [if_neg h]
      have : (c.Step == p.1) = false := by simpa using fun e : c.Step = p.1 => h e.symm
      rw [this]
      exact runHolds1 c hs z

theorem holds_eq (n : Nat) (hn : N0 ≤ n) (c : TCond) (N : List (List UInt8)) (E : List TStepEnd) (hl : N.length = E.length) (hE : E.length ≤ 2097152) : ref36_holds n c N E = some (cond1 c (N.zip E)) := by
  have hn' : 4194304 ≤ n := hn
  have hzl : (N.zip E).length = E.length := by simp [hl]
  have hz : ∀ k (hk : k < (N.zip E).reverse.length), (N.zip E).reverse[k] = (N[E.length - 1 - k]'(by simp at hk; omega), E[E.length - 1 - k]'(by simp at hk; omega)) := by
    intro k hk
    rw [List.getElem_reverse]
    simp [hl]
  have hL : loopF (fun (x : Int) => ref36_holds_b2 n N E c x) n ((E.length : Int) - 1 - (0 : Nat)) = some (runL (fHolds c) (fun _ => (.inr () : Bool ⊕ Unit)) (N.zip E).reverse ()) := by
    refine loop_list (N.zip E).reverse (fun k _ => (E.length : Int) - 1 - (k : Nat)) (fHolds c) _ (fun _ _ => True) (s := ()) trivial (fun k hk st _ => ?_) (fun _ _ _ _ _ _ => trivial) (fun st _ => ?_) (n := n) (by simp [hl]; omega)
    · rw [hz k hk]
      have hk' : k < E.length := by simpa [hl] using hk
      have hj : E.length - 1 - k < E.length := by omega
      have ej : (E.length : Int) - 1 - (k : Nat) = ((E.length - 1 - k : Nat) : Int) := by omega
      simp only [ref36_holds_b2, RTest_eq, ej, Int.toNat_natCast, gt_lt hj, gt_lt (show E.length - 1 - k < N.length by omega)]
      have hg1 : 0 ≤ ((E.length - 1 - k : Nat) : Int) ∧ ((E.length - 1 - k : Nat) : Int) < (E.length : Int) := by omega
      have hg2 : 0 ≤ ((E.length - 1 - k : Nat) : Int) ∧ ((E.length - 1 - k : Nat) : Int) < (N.length : Int) := by omega
      rw [show decide (((E.length - 1 - k : Nat) : Int) ≥ 0) = true by simp, cond_true]
      have ew : IntKind.wrap .i64 (((E.length - 1 - k : Nat) : Int) - 1) = (E.length : Int) - 1 - ((k + 1 : Nat) : Int) := by
        rw [w64_id (by omega) (by omega)]; omega
      simp only [Option.isSome_some, implies_true, gd, hg1, hg2, and_self, if_true, Option.getD_some, ew, fHolds]
      generalize E[E.length - 1 - k] = e
      generalize N[E.length - 1 - k]'(by omega) = w
      by_cases hs : c.Step = []
      · by_cases h1 : e.Kind = 1 <;> by_cases h2 : test c e.Code = true <;> simp [hs, h1, h2, cond_eq_ite]
      · by_cases hw : w = c.Step <;> by_cases h1 : e.Kind = 1 <;> simp [hs, h1, hw, cond_eq_ite]
    · have : (E.length : Int) - 1 - ((N.zip E).reverse.length : Nat) = -1 := by simp [hl]; omega
      simp only [ref36_holds_b2, this]
      rfl
  simp only [ref36_holds]
  rw [w64_id (by omega) (by omega), show (E.length : Int) - 1 = (E.length : Int) - 1 - (0 : Nat) by omega, hL]
  by_cases hs : c.Step = []
  · rw [runHolds0 c hs]
    have : (N.zip E).reverse.any (fun p => p.2.Kind == 1 && test c p.2.Code) = cond1 c (N.zip E) := by
      simp only [cond1, hs, if_true, List.any_reverse]
    rw [this]
    by_cases h : cond1 c (N.zip E) = true <;> simp [h, ref36_holds_k1]
  · rw [runHolds1 c hs]
    simp only [cond1, if_neg hs, lastOf]
    cases (N.zip E).reverse.find? (fun p => c.Step == p.1) <;> simp [ref36_holds_k1]

theorem RSkip_eq (n : Nat) (hn : N0 ≤ n) (s : TJobStep) (names : List (List UInt8)) (ends : List TStepEnd) (h1 : names.length ≤ 2097152) (h2 : ends.length ≤ 2097152) (h3 : s.Conds.length ≤ 2097152) :
    ref36_Skip n s names ends = some (skip s (names.zip ends)) := by
  have hn' : 4194304 ≤ n := hn
  have hzip : names.zip ends = (List.take (min names.length ends.length) names).zip (List.take (min names.length ends.length) ends) := by rw [← List.zip_eq_zip_take_min]
  simp only [ref36_Skip, minI, Int.toNat_natCast]
  rw [gd_pos _ (by omega), hzip]
  have hNl : (List.take (min names.length ends.length) names).length = min names.length ends.length := by simp
  have hEl : (List.take (min names.length ends.length) ends).length = min names.length ends.length := by simp
  have hm : min names.length ends.length ≤ 2097152 := by omega
  generalize min names.length ends.length = m at *
  generalize List.take m names = N at *
  generalize List.take m ends = E at *
  have hzl : (N.zip E).length = m := by simp [hNl, hEl]
  have hL : loopF (fun (x : Bool × Bool × Int) => ref36_Skip_b4 n N E s (m : Int) x.1 x.2.1 x.2.2) n (false, false, 0)
      = some (runL (fun (q : Bool × Bool) (p : Z) => (.inl (q.1 || p.2.Kind == 2, q.2 || p.2.Kind == 4) : (Bool × Bool) ⊕ (Bool × Bool))) (fun q => q) (N.zip E) (false, false)) := by
    refine loop_list (N.zip E) (fun k q => (q.1, q.2, (k : Int))) _ _ (fun _ _ => True) (s := (false, false)) trivial (fun k hk st _ => ?_) (fun _ _ _ _ _ _ => trivial) (fun st _ => ?_) (n := n) (by omega)
    · have hk1 : k < E.length := by omega
      have e : (N.zip E)[k] = (N[k]'(by omega), E[k]) := by simp
      rw [e]
      simp only [ref36_Skip_b4, Int.toNat_natCast, gt_lt hk1, succ_w (show k < 4194304 by omega)]
      rw [show decide ((k : Int) < (m : Int)) = true by simp; omega, cond_true]
      have hg : 0 ≤ (k : Int) ∧ (k : Int) < (E.length : Int) := by omega
      simp only [hg, gd, implies_true, and_self, if_true]
      cases st.1 <;> cases st.2 <;> simp
    · simp only [ref36_Skip_b4]
      rw [show decide (((N.zip E).length : Int) < (m : Int)) = false by simp; omega]; rfl
  have hrun : ∀ (z : List Z) (a b : Bool), runL (fun (q : Bool × Bool) (p : Z) => (.inl (q.1 || p.2.Kind == 2, q.2 || p.2.Kind == 4) : (Bool × Bool) ⊕ (Bool × Bool))) (fun q => q) z (a, b) = (a || z.any (fun p => p.2.Kind == 2), b || z.any (fun p => p.2.Kind == 4)) := by
    intro z
    induction z with
    | nil => intro a b; simp [runL]
    | cons p z ih => intro a b; simp only [runL, List.any_cons]; rw [ih, Bool.or_assoc, Bool.or_assoc]
  rw [hL, hrun]
  simp only [Option.bind_some, Bool.false_or, ref36_Skip_k1, skip]
  have hA : loopF (fun (x : Int) => ref36_Skip_b3 n N E s x) n 0 = (some (if s.Conds.any (fun c => cond1 c (N.zip E)) then .inl true else .inr ()) : Option (Bool ⊕ Unit)) := by
    refine loop_any (Y := Bool ⊕ Unit) s.Conds (fun c => cond1 c (N.zip E)) (.inl true) (.inr ()) (fun k hk => ?_) ?_ (n := n) (by omega)
    · simp only [ref36_Skip_b3, Int.toNat_natCast, gt_lt hk, succ_w (show k < 4194304 by omega)]
      rw [show decide ((k : Int) < (s.Conds.length : Int)) = true by simp; omega, cond_true, gd_pos _ (by omega), holds_eq n hn _ N E (by omega) (by omega)]
      simp only [Option.bind_some]
      generalize cond1 s.Conds[k] (N.zip E) = bb
      cases bb <;> rfl
    · simp only [ref36_Skip_b3]
      rw [show decide ((s.Conds.length : Int) < (s.Conds.length : Int)) = false by simp]; rfl
  rw [hA]
  generalize (N.zip E).any (fun p => p.2.Kind == 2) = ab
  generalize (N.zip E).any (fun p => p.2.Kind == 4) = bad
  generalize s.Conds.any (fun c => cond1 c (N.zip E)) = cc
  cases ab <;> cases bad <;> cases s.Even <;> cases s.Only <;> cases cc <;> simp [ref36_Skip_k2]

theorem Skips_true (n : Nat) (hn : N0 ≤ n) (s : TJobStep) (names : List (List UInt8)) (ends : List TStepEnd) (h1 : names.length ≤ 2097152) (h2 : ends.length ≤ 2097152) (h3 : s.Conds.length ≤ 2097152) :
    law36_FlowSkips n s names ends = some true := by
  simp only [law36_FlowSkips, Skip_eq n hn s names ends h1 h2 h3, RSkip_eq n hn s names ends h1 h2 h3, Option.bind_some]
  exact law_end n hn _ (by simp)

theorem p_law36_FlowSkips (n : Nat) (hn : N0 ≤ n) (x0 : TJobStep) (x1 : List (List UInt8)) (x2 : List TStepEnd) (hc : ∀ i, i < 3 → CanL Try.prog (([(true, [.str, .str, .str, .slice 27, .bool, .bool, .int .i64, .slice 39]), (false, [.slice 9]), (false, [.slice 24])] : List (Bool × List Kd)).getD i (false, [])).2 (([[.str x0.Name, .str x0.Pgm, .str x0.Parm, .slice (List.map e_TCond x0.Conds), .bool x0.Even, .bool x0.Only, .int x0.Time, .slice (List.map e_TDD x0.DDs)], [.slice (List.map e_Str x1)], [.slice (List.map e_TStepEnd x2)]] : List (List C)).getD i []))
    (hb : cbss [[.str x0.Name, .str x0.Pgm, .str x0.Parm, .slice (List.map e_TCond x0.Conds), .bool x0.Even, .bool x0.Only, .int x0.Time, .slice (List.map e_TDD x0.DDs)], [.slice (List.map e_Str x1)], [.slice (List.map e_TStepEnd x2)]] ≤ 2097152) : law36_FlowSkips n x0 x1 x2 = some true := by
  exact Skips_true n hn x0 x1 x2 (len_of_cbss (f := e_Str) (l := x1) hb (.head _) (.tail _ (.head _))) (len_of_cbss (f := e_TStepEnd) (l := x2) hb (.head _) (.tail _ (.tail _ (.head _)))) (len_of_cbss (f := e_TCond) (l := x0.Conds) hb (by simp only [List.mem_cons, true_or, or_true]) (.head _))
end Go.Proofs.Ytmaemlpmbjloaaa
