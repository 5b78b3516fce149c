/-
  ch. 37 (door): the comparator of enqueue.normalize, on raw cells (a walk of the kit's); strings.Trim, out of the shelf's contract.
-/
import Derived.Test.YtcdofkflbnpjjaaDoorT
import Derived.Test.YtcdofkflbnpjjaaDoorL38
import Derived.Shelf.Strings.SlTrimAscii
import Derived.Laws.Externs
import Derived.WalkKit
import GoSem.Extern.BytealgCompare
set_option maxRecDepth 100000
set_option linter.unusedVariables false
namespace Go.Proofs.YtcdofkflbnpjjaaDoor
open Go.RowKit Go.Shelf Go.Proofs Go.Sort

/-- the order of texts as a number -/
def cmpS (x y : List UInt8) : Int := if Op.bytesLess x y = true then -1 else if x = y then 0 else 1

theorem find_succ (n : Nat) (p : Nat → Bool) : (List.range (n + 1)).find? p = if p 0 = true then some 0 else ((List.range n).find? fun i => p (i + 1)).map (· + 1) := by
  rw [List.range_succ_eq_map, List.find?_cons]
  cases h : p 0
  · simp only [List.find?_map, Function.comp_def, Bool.false_eq_true, if_false]
  · simp

theorem ba_get (x : List UInt8) (i : Nat) : (⟨x.toArray⟩ : ByteArray)[i]! = x.getD i 0 := by
  by_cases h : i < x.length
  · rw [getElem!_pos _ _ (by simpa [ByteArray.size] using h)]
    simp [List.getD_eq_getElem?_getD, h, ByteArray.getElem_eq_getElem_data]
  · rw [getElem!_neg _ _ (by simpa [ByteArray.size] using h)]
    simp [List.getD_eq_getElem?_getD, Nat.le_of_not_lt h]
    rfl

def cmpL (x y : List UInt8) : Int :=
  match (List.range (min x.length y.length)).find? fun i => x.getD i 0 != y.getD i 0 with
  | some i => if x.getD i 0 < y.getD i 0 then -1 else 1
  | none => if x.length < y.length then -1 else if x.length > y.length then 1 else 0

theorem cmpL_eq : ∀ (x y : List UInt8), cmpL x y = cmpS x y
  | [], [] => by decide
  | [], y :: ys => by simp [cmpL, cmpS, Op.bytesLess]
  | x :: xs, [] => by simp [cmpL, cmpS, Op.bytesLess]
  | x :: xs, y :: ys => by
    have ih := cmpL_eq xs ys
    have hl : min (x :: xs).length (y :: ys).length = min xs.length ys.length + 1 := by simp only [List.length_cons]; omega
    unfold cmpL at ih ⊢
    rw [hl, find_succ]
    by_cases hxy : x = y
    · subst hxy
      have e1 : ((x :: xs).getD 0 0 != (x :: ys).getD 0 0) = false := by simp
      rw [e1]
      simp only [Bool.false_eq_true, if_false, List.getD_cons_succ, List.length_cons]
      have e2 : cmpS (x :: xs) (x :: ys) = cmpS xs ys := by
        unfold cmpS
        have : Op.bytesLess (x :: xs) (x :: ys) = Op.bytesLess xs ys := by simp [Op.bytesLess]
        rw [this]; simp
      rw [e2, ← ih]
      cases (List.range (min xs.length ys.length)).find? fun i => xs.getD i 0 != ys.getD i 0 with
      | some i => simp
      | none => simp
    · have e1 : ((x :: xs).getD 0 0 != (y :: ys).getD 0 0) = true := by simpa using hxy
      rw [e1]
      simp only [if_true, List.getD_cons_zero]
      have e3 : (x == y) = false := by simpa using hxy
      by_cases hlt : x < y
      · simp [cmpS, Op.bytesLess, hlt]
      · have : ¬ (x :: xs = y :: ys) := fun h => hxy (List.cons.inj h).1
        simp [cmpS, Op.bytesLess, hlt, hxy]

theorem cmp_eq (x y : List UInt8) : Extern.BytealgCompare.cmp ⟨x.toArray⟩ ⟨y.toArray⟩ = cmpS x y := by
  rw [← cmpL_eq]
  unfold Extern.BytealgCompare.cmp cmpL
  have hs : ∀ l : List UInt8, (⟨l.toArray⟩ : ByteArray).size = l.length := fun l => rfl
  simp only [hs, ba_get]
  rfl

theorem run91 (x y : List UInt8) (W : World) : (callFunc 91 #[.string ⟨x.toArray⟩, .string ⟨y.toArray⟩]).run Tryd.prog W = .ok (.value (.int .i64 (cmpS x y))) W := by
  rw [run_callFunc_extern Tryd.func91 (by kernel_rfl) (by kernel_rfl) (by kernel_rfl) (e := Extern.BytealgCompare.compare) (by kernel_rfl)]
  rw [← cmp_eq]
  rfl

set_option maxHeartbeats 1000000 in
theorem closure64 (x y : List UInt8) (W : World) : Calls Tryd.prog 64 #[.string ⟨x.toArray⟩, .string ⟨y.toArray⟩] W fun e w' => e = .returned (.int .i64 (cmpS x y)) ∧ w' = W := by
  go_enter Tryd.func64, Tryd.ntmps64
  go_wp2
  rw [run91]
  rw [Oper.upon_value]
  go_wp2
  go_ret
  exact ⟨rfl, rfl⟩
set_option maxHeartbeats 1000000 in
theorem closure41 (x y : List UInt8) (W : World) : Calls Tryd.prog 41 #[.string ⟨x.toArray⟩, .string ⟨y.toArray⟩] W fun e w' => e = .returned (.int .i64 (cmpS x y)) ∧ w' = W := by
  go_enter Tryd.func41, Tryd.ntmps41
  go_wp2_with (go_at_call 64; refine (closure64 x y _).mono ?_; rintro e w' ⟨rfl, rfl⟩)
  go_ret
  exact ⟨rfl, rfl⟩
set_option maxHeartbeats 1000000 in
theorem closure40 (x y : List UInt8) (a b : Bool) (W : World) : Calls Tryd.prog 40 #[.agg #[.string ⟨x.toArray⟩, .bool a], .agg #[.string ⟨y.toArray⟩, .bool b]] W fun e w' => e = .returned (.int .i64 (cmpS x y)) ∧ ∃ q os', w' = grow (W.drewN q) os' := by
  go_enter Tryd.func40, Tryd.ntmps40
  go_wp2_with (go_at_call 41; refine (closure41 x y _).mono ?_; rintro e w' ⟨rfl, rfl⟩)
  go_ret
  exact ⟨rfl, 0, _, by rw [alloc_eq_grow, alloc_eq_grow, grow_grow]; rfl⟩

def enqueue_normalize_1 (n : Nat) (a b : TWant) : Option Int := some (cmpS a.Name b.Name)

theorem raw40 {n : Nat} (x y : TWant) (c : Int) (h : enqueue_normalize_1 n x y = some c) : Go.AE.RawCmp Tryd.prog 40 [.str, .bool] (e_TWant x) (e_TWant y) c := by
  simp only [enqueue_normalize_1, Option.some.injEq] at h
  subst h
  intro W al us vs h1 h2
  obtain ⟨us', e1, l1, _, r1⟩ := h1
  obtain ⟨vs', e2, l2, _, r2⟩ := h2
  have u0 := r1 0 (by simp)
  have u1 := r1 1 (by simp)
  have v0 := r2 0 (by simp)
  have v1 := r2 1 (by simp)
  rw [e1, e2]
  match us', l1, vs', l2 with
  | [x0, x1], _, [y0, y1], _ =>
    simp only [List.getD_cons_zero, List.getD_cons_succ, Go.AE.cg_zero, Go.AE.cg_succ, e_TWant] at u0 u1 v0 v1
    cases u0; cases u1; cases v0; cases v1
    exact closure40 x.Name y.Name _ _ W

/-! ## strings.Trim -/
open Go.AE in
def strings_Trim (n : Nat) (s c : List UInt8) : Option (List UInt8) := gd (c.length < 4294967281 ∧ (c.all fun b => decide (b.toNat < 128)) = true) (some (Go.Lib.trimS s c))
open Go.AE in
def xstrings_Trim (n : Nat) : Go.AE.Fn := mkFn (A := List UInt8 × List UInt8) (R := List UInt8) 38 [(false, [.str]), (false, [.str])] false (fun xs => ((cg (xs.getD 0 []) 0).toStr, (cg (xs.getD 1 []) 0).toStr)) (fun a => [[.str a.1], [.str a.2]]) (fun a => strings_Trim n a.1 a.2) (fun r => [.c .str (.str r)]) (fun r => [])
theorem dropWhile_len {α : Type} (p : α → Bool) : ∀ l : List α, (l.dropWhile p).length ≤ l.length
  | [] => by simp
  | x :: l => by
    simp only [List.dropWhile_cons, List.length_cons]
    split
    · have := dropWhile_len p l; omega
    · simp
theorem trimS_len (s c : List UInt8) : (Go.Lib.trimS s c).length ≤ s.length := by
  unfold Go.Lib.trimS Go.Lib.trimLeftS Go.Lib.trimRightS
  refine Nat.le_trans (dropWhile_len _ _) ?_
  rw [List.length_reverse]
  refine Nat.le_trans (dropWhile_len _ _) ?_
  simp
open Go.AE in
theorem cstrings_Trim (n : Nat) : Contract Tryd.prog (xstrings_Trim n) := by
  refine ⟨fun args w => Tryd.call38 args w, fun _ cs => ⟨rfl, by simp [xstrings_Trim, mkFn]⟩, ?_⟩
  intro w al vs cs hal hvl hcl harg hpre
  obtain ⟨hc, hs⟩ := hpre
  obtain ⟨⟨s, c⟩, hd⟩ : ∃ a : List UInt8 × List UInt8, a = ((cg (cs.getD 0 []) 0).toStr, (cg (cs.getD 1 []) 0).toStr) := ⟨_, rfl⟩
  have hc' : cs = [[.str s], [.str c]] := by
    have : cs = [[.str (cg (cs.getD 0 []) 0).toStr], [.str (cg (cs.getD 1 []) 0).toStr]] := hc
    rw [this, ← (Prod.mk.inj hd).1, ← (Prod.mk.inj hd).2]
  subst hc'
  have hs' : (strings_Trim n s c).isSome = true := hs
  obtain ⟨r, hr⟩ := Option.isSome_iff_exists.1 hs'
  have hres : ((xstrings_Trim n).sem [[.str s], [.str c]]).res = [.c .str (.str r)] := by
    show ([.c .str (.str ((strings_Trim n s c).getD default))] : List A) = _
    rw [hr]; rfl
  have hrows : ((xstrings_Trim n).sem [[.str s], [.str c]]).rows = [] := rfl
  obtain ⟨⟨hlen, hall⟩, hr2⟩ := gd_some hr
  simp only [Option.some.injEq] at hr2
  match vs, hvl with
  | [v0, v1], _ =>
    have a0 := harg 0 (show 0 < 2 by decide)
    have a1 := harg 1 (show 1 < 2 by decide)
    obtain ⟨_, _, a0⟩ := a0
    obtain ⟨_, _, a1⟩ := a1
    have a0' : RepC Tryd.prog w al .str v0 (.str s) := a0
    have a1' : RepC Tryd.prog w al .str v1 (.str c) := a1
    cases a0' with
    | str _ h0 =>
    cases a1' with
    | str _ h1 =>
    have hcon := Any.strings_Trim_laid lay38 (by kernel_rfl) ⟨s.toArray⟩ ⟨c.toArray⟩ w h0 (by simpa [ByteArray.size] using hlen) (fun j b hj => by
      have hm : b ∈ c := List.mem_of_getElem? (by simpa using hj)
      have := List.all_eq_true.1 hall b hm
      simpa using this)
    change Calls Tryd.prog 38 _ _ _ at hcon
    refine Calls.mono hcon ?_
    rintro e w' ⟨rfl, hbel⟩
    refine ⟨_, rfl, hbel, by rw [hrows]; simp, fun _ => .dead, fun j => rfl, fun i j b h => by simp [blockOf] at h, ?_⟩
    rw [hres]
    refine ARel.c _ _ _ ?_
    have e1 : (⟨(Go.Lib.trimS s c).toArray⟩ : ByteArray) = ⟨r.toArray⟩ := by rw [hr2]
    show RepC _ _ _ .str (.string ⟨(Go.Lib.trimS s c).toArray⟩) (.str r)
    rw [e1]
    exact RepC.str (.str r) (by
      have := trimS_len s c
      have h0' : s.length ≤ 9223372036854775807 := h0
      simp only [C.toStr_str]; rw [← hr2]; omega)
end Go.Proofs.YtcdofkflbnpjjaaDoor
