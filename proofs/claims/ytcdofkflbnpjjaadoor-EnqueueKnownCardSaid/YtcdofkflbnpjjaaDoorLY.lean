/-
  What EnqueueKnown's run takes as known: the comparison of wants, and works().
-/
import Derived.Test.YtcdofkflbnpjjaaDoorK23
import Derived.Test.YtcdofkflbnpjjaaDoorProg
import Derived.WalkKit
set_option linter.unusedVariables false
set_option maxRecDepth 100000
namespace Go.Proofs.YtcdofkflbnpjjaaDoor
namespace enqueueKnown
open Go.KX
open Go.RowKit

def kX (g : FuncId) : Option (List KV → Option KV) := bif Nat.beq g 110 then some kIndexByte else bif Nat.beq g 91 then some kCompare else none
theorem ext : ∀ g e, kX g = some e → EntryOk Tryd.prog g e := by
  intro g e h
  simp only [kX] at h
  cases h1 : Nat.beq g 110 with
  | true =>
    rw [h1] at h
    obtain rfl := Nat.eq_of_beq_eq_true h1
    obtain rfl := Option.some.inj h
    exact entry_indexByte (fn := Tryd.f110) (by kernel_rfl) (by kernel_rfl) (by kernel_rfl) (by kernel_rfl) (by kernel_rfl)
  | false =>
    rw [h1] at h
    cases h2 : Nat.beq g 91 with
    | true =>
      rw [h2] at h
      obtain rfl := Nat.eq_of_beq_eq_true h2
      obtain rfl := Option.some.inj h
      exact entry_compare (fn := Tryd.f91) (by kernel_rfl) (by kernel_rfl) (by kernel_rfl) (by kernel_rfl) (by kernel_rfl)
    | false => rw [h2] at h; cases h

theorem run91 (x y : ByteArray) (W : World) : (callFunc 91 #[.string x, .string y]).run Tryd.prog W = .ok (.value (.int .i64 (KX.cmpS x.data.toList y.data.toList))) W := by
  rw [run_callFunc_extern Tryd.func91 (by kernel_rfl) (by kernel_rfl) (by kernel_rfl) (e := Extern.BytealgCompare.compare) (by kernel_rfl)]
  rw [← KX.cmp_eq]
  rfl
set_option maxHeartbeats 1000000 in
theorem closure64 (x y : ByteArray) (W : World) : Calls Tryd.prog 64 #[.string x, .string y] W fun e w' => e = .returned (.int .i64 (KX.cmpS x.data.toList y.data.toList)) ∧ w' = W := by
  go_enter Tryd.func64, Tryd.ntmps64
  go_wp2
  rw [run91]
  rw [Oper.upon_value]
  go_wp2
  go_ret
  exact ⟨rfl, rfl⟩
set_option maxHeartbeats 1000000 in
theorem closure41 (x y : ByteArray) (W : World) : Calls Tryd.prog 41 #[.string x, .string y] W fun e w' => e = .returned (.int .i64 (KX.cmpS x.data.toList y.data.toList)) ∧ w' = W := by
  go_enter Tryd.func41, Tryd.ntmps41
  go_wp2_with (go_at_call 64; refine (closure64 x y _).mono ?_; rintro e w' ⟨rfl, rfl⟩)
  go_ret
  exact ⟨rfl, rfl⟩
set_option maxHeartbeats 1000000 in
theorem closure40 (x y : ByteArray) (a b : Bool) (W : World) : Calls Tryd.prog 40 #[.agg #[.string x, .bool a], .agg #[.string y, .bool b]] W fun e w' => e = .returned (.int .i64 (KX.cmpS x.data.toList y.data.toList)) ∧ Below W.heap.size W w' := by
  go_enter Tryd.func40, Tryd.ntmps40
  go_wp2_with (go_at_call 41; refine (closure41 x y _).mono ?_; rintro e w' ⟨rfl, rfl⟩)
  go_ret
  exact ⟨rfl, ((Below.refl _ _).alloc (Nat.le_refl _) _).alloc (by simp) _⟩
theorem enter40 (args : Array Value) (w : World) : (callFunc 40 args).run Tryd.prog w = .ok (.enter 40 args) w := callFunc_enter Tryd.func40 rfl (by kernel_rfl) args w
theorem enter5 (args : Array Value) (w : World) : (callFunc 5 args).run Tryd.prog w = .ok (.enter 5 args) w := callFunc_enter Tryd.func5 rfl (by kernel_rfl) args w

def y40 : List KV → Option KV
  | [.agg [.str s, .bool _], .agg [.str t, .bool _]] => some (.int .i64 (KX.cmpS s t))
  | _ => none
theorem y40_ok : ∀ args v, y40 args = some v → ∀ (ρ : Ren) (vs : List Value) (w : World), VRs ρ args vs → Calls Tryd.prog 40 vs.toArray w fun x w' => ∃ u, x = .returned u ∧ VR ρ v u ∧ Below w.heap.size w w' := by
  intro args v hv ρ vs w hvs
  have hs : ∃ s a t b, args = [.agg [.str s, .bool a], .agg [.str t, .bool b]] := by
    unfold y40 at hv
    split at hv
    · exact ⟨_, _, _, _, rfl⟩
    · cases hv
  obtain ⟨s, a, t, b, rfl⟩ := hs
  simp only [y40, Option.some.injEq] at hv
  subst hv
  match vs, hvs with
  | [x, y], hvs =>
    obtain ⟨cs, rfl, ha⟩ := (hvs.2 0 _ x rfl rfl).agg_inv
    obtain ⟨ds, rfl, hb⟩ := (hvs.2 1 _ y rfl rfl).agg_inv
    match cs, ha, ds, hb with
    | [a0, a1], ha, [b0, b1], hb =>
      have h0 := ha.2 0 _ a0 rfl rfl
      have h1 := ha.2 1 _ a1 rfl rfl
      have h2 := hb.2 0 _ b0 rfl rfl
      have h3 := hb.2 1 _ b1 rfl rfl
      cases h0 with | str _ bs e1 =>
      cases h2 with | str _ bt e2 =>
      cases h1
      cases h3
      subst e1
      subst e2
      exact (closure40 bs bt _ _ w).mono fun e w' ⟨h1, h2⟩ => ⟨_, h1, .int _ _, h2⟩
    | [], ha, _, _ => exact absurd ha.1 (by simp)
    | [_], ha, _, _ => exact absurd ha.1 (by simp)
    | _ :: _ :: _ :: _, ha, _, _ => exact absurd ha.1 (by simp)
    | [_, _], _, [], hb => exact absurd hb.1 (by simp)
    | [_, _], _, [_], hb => exact absurd hb.1 (by simp)
    | [_, _], _, _ :: _ :: _ :: _, hb => exact absurd hb.1 (by simp)
  | [], hvs => exact absurd hvs.1 (by simp)
  | [a], hvs => exact absurd hvs.1 (by simp)
  | a :: b :: c :: r, hvs => exact absurd hvs.1 (by simp)

def kY0 (g : FuncId) : Option (List KV → Option KV) := bif Nat.beq g 40 then some y40 else none
def y5 : List KV → Option KV
  | [] => some (.bool true)
  | _ => none
def kY (g : FuncId) : Option (List KV → Option KV) := bif Nat.beq g 40 then some y40 else bif Nat.beq g 5 then some y5 else none
noncomputable def kE0 : Env := { P := Tryd.prog, X := kX, F := [43, 44, 51, 52, 56, 57, 64], Y := kY0 }
noncomputable def kE : Env := { P := Tryd.prog, X := kX, F := [43, 44, 51, 52, 56, 57, 64], Y := kY }
theorem kEok0 : EnvOk kE0 := ⟨fun t ht => List.all_eq_true.1 (show kE0.F.all (flatOk kE0.P) = true by kernel_rfl) t ht, by kernel_rfl, ext, by
  intro g e h
  simp only [kE0, kY0] at h
  cases h1 : Nat.beq g 40 with
  | true =>
    rw [h1] at h
    obtain rfl := Nat.eq_of_beq_eq_true h1
    obtain rfl := Option.some.inj h
    exact ⟨enter40, y40_ok⟩
  | false => rw [h1] at h; cases h⟩
theorem works : (match run kE0 1000 (.call 5 [] .e 10) with | some rs => rs.all fun r => isTrue r.v | none => false) = true := by decide +kernel
theorem y5_ok : ∀ args v, y5 args = some v → ∀ (ρ : Ren) (vs : List Value) (w : World), VRs ρ args vs → Calls Tryd.prog 5 vs.toArray w fun x w' => ∃ u, x = .returned u ∧ VR ρ v u ∧ Below w.heap.size w w' := by
  intro args v hv ρ vs w hvs
  match args, hv with
  | [], hv =>
    cases hv
    match vs, hvs with
    | [], hvs => exact (closed_true kEok0 works w).mono fun e w' ⟨h1, h2⟩ => ⟨_, h1, .bool _, h2⟩
    | _ :: _, hvs => exact absurd hvs.1 (by simp)
theorem kEok : EnvOk kE := ⟨fun t ht => List.all_eq_true.1 (show kE.F.all (flatOk kE.P) = true by kernel_rfl) t ht, by kernel_rfl, ext, by
  intro g e h
  simp only [kE, kY] at h
  cases h1 : Nat.beq g 40 with
  | true =>
    rw [h1] at h
    obtain rfl := Nat.eq_of_beq_eq_true h1
    obtain rfl := Option.some.inj h
    exact ⟨enter40, y40_ok⟩
  | false =>
    rw [h1] at h
    cases h2 : Nat.beq g 5 with
    | true =>
      rw [h2] at h
      obtain rfl := Nat.eq_of_beq_eq_true h2
      obtain rfl := Option.some.inj h
      exact ⟨enter5, y5_ok⟩
    | false => rw [h2] at h; cases h⟩
end enqueueKnown
end Go.Proofs.YtcdofkflbnpjjaaDoor
