/- Text. -/
import Derived.Test.YtfhnelkbiihpiaaGreatDoorT
import Derived.Test.YtfhnelkbiihpiaaGreatDoorWK
import Derived.Test.YtfhnelkbiihpiaaGreatDoorAE21
import Derived.Test.YtfhnelkbiihpiaaGreatDoorAE41
set_option linter.unusedVariables false
set_option linter.unusedSimpArgs false
set_option maxRecDepth 100000
namespace Go.Proofs.YtfhnelkbiihpiaaGreatDoor
open Go.AE
theorem loop_out {X Y : Type} {body : X → Option (X ⊕ Y)} (I : X → Prop) (R : Y → Prop) (h1 : ∀ x y, I x → body x = some (.inl y) → I y) (h2 : ∀ x z, I x → body x = some (.inr z) → R z) : ∀ (n : Nat) (x : X) (z : Y), I x → loopF body n x = some z → R z
  | 0, x, z, _, h => by simp [loopF] at h
  | n + 1, x, z, hI, h => by
    cases hb : body x with
    | none => simp [loopF, hb] at h
    | some w =>
      cases w with
      | inl y => rw [loopF_step hb] at h; exact loop_out I R h1 h2 n y z (h1 x y hI hb) h
      | inr y => rw [loopF_done hb] at h; cases h; exact h2 x z hI hb
def works (n : Nat) : Option Bool := some true
def xworks (n : Nat) : Go.AE.Fn := mkFn (A := Unit) (R := Bool) 14 [] false (fun _ => ()) (fun _ => []) (fun _ => works n) (fun r => [.c .bool (.bool r)]) (fun r => [])
theorem works_res (n : Nat) (w : World) (al : Nat → Prop) (vs : List Value) (cs : List (List C)) (h : vs.length = 0) : Calls Tryz.prog 14 vs.toArray w (fun e w' => ∃ v, e = .returned v ∧ ResRel Tryz.prog w al w' v ((xworks n).sem cs)) := by
  match vs, h with
  | [], _ =>
    refine (works14 w).mono ?_
    rintro e w' ⟨rfl, hb⟩
    have hrows : ((xworks n).sem cs).rows = [] := rfl
    have hres : ((xworks n).sem cs).res = [.c .bool (.bool true)] := rfl
    refine ⟨_, rfl, hb, by rw [hrows]; simp, fun _ => .dead, fun j => rfl, fun i j b h => by simp [blockOf] at h, ?_⟩
    rw [hres]
    exact ARel.c _ _ _ (RepC.bool (.bool true))
theorem cworks (n : Nat) : Contract Tryz.prog (xworks n) :=
  ⟨fun args w => Tryz.call14 args w, fun _ w al vs cs _ h _ _ _ => works_res n w _ vs cs h, fun w al vs cs _ h _ _ _ => works_res n w al vs cs h⟩
set_option maxHeartbeats 1000000 in
theorem maker49 : Go.AE.Maker Tryz.prog 49 84 [24] := by
  refine ⟨fun args w => by exact Tryz.call49 args w, fun vs w hl hv => ?_⟩
  obtain ⟨a, rfl⟩ : ∃ a, vs = [a] := by
    match vs, hl with
    | [a], _ => exact ⟨a, rfl⟩
  have h1 := hv a (by simp)
  clear hv hl
  go_enter Tryz.func49, Tryz.ntmps49
  go_wp2
  all_goals first | (exfalso; revert h1; simp [Value.oneCell']; done) | (go_ret; exact ⟨rfl, rfl⟩)
end Go.Proofs.YtfhnelkbiihpiaaGreatDoor
