/-
  ch. 36: the order of conditions.
-/
import Derived.Test.YtmaemlpmbjloaaaQ
set_option maxHeartbeats 8000000
set_option linter.unusedVariables false
set_option linter.unusedSimpArgs false
set_option maxRecDepth 100000
namespace Go.Proofs.Ytmaemlpmbjloaaa
open Go.AE

def baseSkip (s : TJobStep) (z : List Z) : Bool :=
  z.any (fun p => p.2.Kind == 4) || (z.any (fun p => p.2.Kind == 2) && !s.Even && !s.Only || !z.any (fun p => p.2.Kind == 2) && s.Only)
def withC (s : TJobStep) (l : List TCond) : TJobStep := ⟨s.Name, s.Pgm, s.Parm, l, s.Even, s.Only, s.Time, s.DDs⟩
theorem skip_with (s : TJobStep) (l : List TCond) (z : List Z) : skip (withC s l) z = (baseSkip s z || l.any (fun c => cond1 c z)) := rfl

theorem Order_true (n : Nat) (hn : N0 ≤ n) (s : TJobStep) (names : List (List UInt8)) (ends : List TStepEnd) (h1 : names.length ≤ 2097152) (h2 : ends.length ≤ 2097152) (h3 : s.Conds.length ≤ 2097152) :
    law36_FlowOrder n s names ends = some true := by
  have hn' : 4194304 ≤ n := hn
  have hS : ∀ l : List TCond, l.length ≤ 2097152 → flow_Skip n (withC s l) names ends = some (baseSkip s (names.zip ends) || l.any (fun c => cond1 c (names.zip ends))) := fun l hl => by
    rw [Skip_eq n hn (withC s l) names ends h1 h2 hl, skip_with]
  have hL4 : loopF (fun (x : (List TCond) × Int) => law36_FlowOrder_b4 n names ends s x.1 x.2) n ([], (s.Conds.length : Int) - 1 - (0 : Nat)) = some (runL (fun (t : List TCond) c => (.inl (t ++ [c]) : List TCond ⊕ List TCond)) (fun t => t) s.Conds.reverse []) := by
    refine loop_list s.Conds.reverse (fun k t => (t, (s.Conds.length : Int) - 1 - (k : Nat))) _ _ (fun k t => t.length = k) (s := []) rfl (fun k hk t ht => ?_) (fun k hk t ht t' h => ?_) (fun t ht => ?_) (n := n) (by simp; omega)
    · have hk' : k < s.Conds.length := by simpa using hk
      have hj : s.Conds.length - 1 - k < s.Conds.length := by omega
      have ej : (s.Conds.length : Int) - 1 - (k : Nat) = ((s.Conds.length - 1 - k : Nat) : Int) := by omega
      have er : s.Conds.reverse[k] = s.Conds[s.Conds.length - 1 - k] := by rw [List.getElem_reverse]
      simp only [law36_FlowOrder_b4, ej, Int.toNat_natCast, gt_lt hj]
      rw [show decide (((s.Conds.length - 1 - k : Nat) : Int) ≥ 0) = true by simp, cond_true, gd_pos _ (by omega), w64_id (by omega) (by omega), er]
      rw [show ((s.Conds.length - 1 - k : Nat) : Int) - 1 = (s.Conds.length : Int) - 1 - ((k + 1 : Nat) : Int) by omega]
    · cases h; simp [ht]
    · simp only [law36_FlowOrder_b4]
      rw [show decide ((s.Conds.length : Int) - 1 - (s.Conds.reverse.length : Nat) ≥ 0) = false by simp; omega]; rfl
  have hrun : ∀ (l t : List TCond), runL (fun (t : List TCond) c => (.inl (t ++ [c]) : List TCond ⊕ List TCond)) (fun t => t) l t = t ++ l := by
    intro l
    induction l with
    | nil => intro t; simp [runL]
    | cons a l ih => intro t; simp only [runL]; rw [ih]; simp
  have hL3 : ∀ (t : List TCond) (al b : Bool), loopF (fun (x : Bool × Int) => law36_FlowOrder_b3 n names ends s t al x.1 x.2) n (b, 0) = some (b || s.Conds.any (fun c => baseSkip s (names.zip ends) || cond1 c (names.zip ends))) := by
    intro t al b
    have := loop_list (body := fun (x : Bool × Int) => law36_FlowOrder_b3 n names ends s t al x.1 x.2) s.Conds (fun k b => (b, (k : Int))) (fun b c => (.inl (b || (baseSkip s (names.zip ends) || cond1 c (names.zip ends))) : Bool ⊕ Bool)) (fun b => b) (fun _ _ => True) (s := b) trivial (fun k hk b _ => ?_) (fun _ _ _ _ _ _ => trivial) (fun b _ => ?_) (n := n) (by omega)
    · have hr : ∀ (l : List TCond) (b : Bool), runL (fun b c => (.inl (b || (baseSkip s (names.zip ends) || cond1 c (names.zip ends))) : Bool ⊕ Bool)) (fun b => b) l b = (b || l.any (fun c => baseSkip s (names.zip ends) || cond1 c (names.zip ends))) := by
        intro l
        induction l with
        | nil => intro b; simp [runL]
        | cons a l ih => intro b; simp only [runL, List.any_cons]; rw [ih, Bool.or_assoc]
      rw [hr] at this
      exact this
    · simp only [law36_FlowOrder_b3, Int.toNat_natCast, gt_lt hk, succ_w (show k < 4194304 by omega)]
      rw [show decide ((k : Int) < (s.Conds.length : Int)) = true by simp; omega, cond_true, gd_pos _ (by omega)]
      have := hS [s.Conds[k]] (by simp)
      unfold withC at this
      rw [this]
      cases b <;> simp [gd]
    · simp only [law36_FlowOrder_b3]
      rw [show decide ((s.Conds.length : Int) < (s.Conds.length : Int)) = false by simp]; rfl
  have hs : flow_Skip n s names ends = some (baseSkip s (names.zip ends) || s.Conds.any (fun c => cond1 c (names.zip ends))) := hS s.Conds h3
  have h0 := hS [] (by simp)
  have hr := hS s.Conds.reverse (by simpa using h3)
  unfold withC at h0 hr
  simp only [law36_FlowOrder]
  rw [w64_id (by omega) (by omega), show (s.Conds.length : Int) - 1 = (s.Conds.length : Int) - 1 - (0 : Nat) by omega, hL4, hrun]
  simp only [List.nil_append, Option.bind_some, law36_FlowOrder_k1, hs, h0, hL3, law36_FlowOrder_k2, hr]
  refine law_end n hn _ ?_
  have e : s.Conds.any (fun c => baseSkip s (names.zip ends) || cond1 c (names.zip ends)) = (!s.Conds.isEmpty && baseSkip s (names.zip ends) || s.Conds.any (fun c => cond1 c (names.zip ends))) := by
    generalize s.Conds = l
    generalize baseSkip s (names.zip ends) = bb
    induction l with
    | nil => simp
    | cons a l ih =>
      simp only [List.any_cons, ih]
      cases bb <;> cases cond1 a (names.zip ends) <;> simp
  rw [e]
  simp only [List.any_nil, List.any_reverse, Bool.or_false]
  generalize baseSkip s (names.zip ends) = bb
  generalize s.Conds.any (fun c => cond1 c (names.zip ends)) = cc
  cases bb <;> cases cc <;> simp

theorem p_law36_FlowOrder (n : Nat) (hn : N0 ≤ n) (x0 : TJobStep) (x1 : List (List UInt8)) (x2 : List TStepEnd) (hc : ∀ i, i < 3 → CanL Try.prog (([(true, [.str, .str, .str, .slice 27, .bool, .bool, .int .i64, .slice 39]), (false, [.slice 9]), (false, [.slice 24])] : List (Bool × List Kd)).getD i (false, [])).2 (([[.str x0.Name, .str x0.Pgm, .str x0.Parm, .slice (List.map e_TCond x0.Conds), .bool x0.Even, .bool x0.Only, .int x0.Time, .slice (List.map e_TDD x0.DDs)], [.slice (List.map e_Str x1)], [.slice (List.map e_TStepEnd x2)]] : List (List C)).getD i []))
    (hb : cbss [[.str x0.Name, .str x0.Pgm, .str x0.Parm, .slice (List.map e_TCond x0.Conds), .bool x0.Even, .bool x0.Only, .int x0.Time, .slice (List.map e_TDD x0.DDs)], [.slice (List.map e_Str x1)], [.slice (List.map e_TStepEnd x2)]] ≤ 2097152) : law36_FlowOrder n x0 x1 x2 = some true := by
  exact Order_true n hn x0 x1 x2 (len_of_cbss (f := e_Str) (l := x1) hb (.head _) (.tail _ (.head _))) (len_of_cbss (f := e_TStepEnd) (l := x2) hb (.head _) (.tail _ (.tail _ (.head _)))) (len_of_cbss (f := e_TCond) (l := x0.Conds) hb (by simp only [List.mem_cons, true_or, or_true]) (.head _))
end Go.Proofs.Ytmaemlpmbjloaaa
