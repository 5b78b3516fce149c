/-
  The library's comparison of texts as an entry of closed code.
-/
import Derived.Test.YtcdofkflbnpjjaaDoorK22
import Derived.Laws.Externs
import GoSem.Extern.BytealgCompare
set_option maxRecDepth 100000
set_option linter.unusedVariables false
set_option linter.unusedSimpArgs false
namespace Go.KX

/-- the order of texts as a number -/
def cmpS (x y : List UInt8) : Int := bif Op.bytesLess x y then -1 else bif x == y then 0 else 1

theorem find_succ (n : Nat) (p : Nat → Bool) : (List.range (n + 1)).find? p = if p 0 = true then some 0 else ((List.range n).find? fun i => p (i + 1)).map (· + 1) := by
  rw [List.range_succ_eq_map, List.find?_cons]
  cases h : p 0
  · simp only [List.find?_map, Function.comp_def, Bool.false_eq_true, if_false]
  · simp

theorem ba_get (x : List UInt8) (i : Nat) : (⟨x.toArray⟩ : ByteArray)[i]! = x.getD i 0 := by
  by_cases h : i < x.length
  · rw [getElem!_pos _ _ (by simpa [ByteArray.size] using h)]
    simp [List.getD_eq_getElem?_getD, h, ByteArray.getElem_eq_getElem_data]
  · rw [getElem!_neg _ _ (by simpa [ByteArray.size] using h)]
    simp [List.getD_eq_getElem?_getD, Nat.le_of_not_lt h]
    rfl

def cmpL (x y : List UInt8) : Int :=
  match (List.range (min x.length y.length)).find? fun i => x.getD i 0 != y.getD i 0 with
  | some i => if x.getD i 0 < y.getD i 0 then -1 else 1
  | none => if x.length < y.length then -1 else if x.length > y.length then 1 else 0

theorem cmpL_eq : ∀ (x y : List UInt8), cmpL x y = cmpS x y
  | [], [] => by decide
  | [], y :: ys => by simp [cmpL, cmpS, Op.bytesLess]
  | x :: xs, [] => by simp [cmpL, cmpS, Op.bytesLess]
  | x :: xs, y :: ys => by
    have ih := cmpL_eq xs ys
    have hl : min (x :: xs).length (y :: ys).length = min xs.length ys.length + 1 := by simp only [List.length_cons]; omega
    unfold cmpL at ih ⊢
    rw [hl, find_succ]
    by_cases hxy : x = y
    · subst hxy
      have e1 : ((x :: xs).getD 0 0 != (x :: ys).getD 0 0) = false := by simp
      rw [e1]
      simp only [Bool.false_eq_true, if_false, List.getD_cons_succ, List.length_cons]
      have e2 : cmpS (x :: xs) (x :: ys) = cmpS xs ys := by
        unfold cmpS
        have : Op.bytesLess (x :: xs) (x :: ys) = Op.bytesLess xs ys := by simp [Op.bytesLess]
        rw [this]; simp
      rw [e2, ← ih]
      cases (List.range (min xs.length ys.length)).find? fun i => xs.getD i 0 != ys.getD i 0 with
      | some i => simp
      | none => simp
    · have e1 : ((x :: xs).getD 0 0 != (y :: ys).getD 0 0) = true := by simpa using hxy
      rw [e1]
      simp only [if_true, List.getD_cons_zero]
      have e3 : (x == y) = false := by simpa using hxy
      by_cases hlt : x < y
      · simp [cmpS, Op.bytesLess, hlt]
      · simp [cmpS, Op.bytesLess, hlt, e3]

theorem cmp_eq (x y : ByteArray) : Extern.BytealgCompare.cmp x y = cmpS x.data.toList y.data.toList := by
  obtain ⟨⟨x⟩⟩ := x
  obtain ⟨⟨y⟩⟩ := y
  rw [← cmpL_eq]
  unfold Extern.BytealgCompare.cmp cmpL
  have hs : ∀ l : List UInt8, (⟨l.toArray⟩ : ByteArray).size = l.length := fun l => rfl
  simp only [hs, ba_get]
  rfl

def kCompare : List KV → Option KV
  | [.str s, .str t] => some (.int .i64 (cmpS s t))
  | _ => none
theorem entry_compare {P : Program} {g : FuncId} {fn : Func} (hf : P.funcs[g]? = some fn) (hname : (fn.name == "runtime.NumGoroutine") = false)
    (hb : fn.body.isNone = true) (hn : Extern.findNext fn = none) (he : Extern.find fn = some Extern.BytealgCompare.compare) : EntryOk P g kCompare := by
  intro args v hv ρ vs w hvs
  have hs : ∃ s t, args = [.str s, .str t] := by
    unfold kCompare at hv
    split at hv
    · exact ⟨_, _, rfl⟩
    · cases hv
  obtain ⟨s, t, rfl⟩ := hs
  simp only [kCompare, Option.some.injEq] at hv
  subst hv
  match vs, hvs with
  | [a, b], hvs =>
    have h0 := hvs.2 0 _ a rfl rfl
    have h1 := hvs.2 1 _ b rfl rfl
    cases h0 with | str _ bs e1 =>
    cases h1 with | str _ bt e2 =>
    subst e1
    subst e2
    refine ⟨.int .i64 (cmpS bs.data.toList bt.data.toList), ?_, .int _ _⟩
    rw [run_callFunc_extern hf hname hb hn he, ← cmp_eq]
    rfl
  | [], hvs => exact absurd hvs.1 (by simp)
  | [a], hvs => exact absurd hvs.1 (by simp)
  | a :: b :: c :: r, hvs => exact absurd hvs.1 (by simp)
end Go.KX
