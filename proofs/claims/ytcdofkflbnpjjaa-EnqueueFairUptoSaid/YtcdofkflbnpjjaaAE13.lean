/-
  Code, in the order of the text: what follows from a piece of code at an abstract state.
-/
import Derived.Test.YtcdofkflbnpjjaaAE12D
set_option linter.unusedVariables false
namespace Go.AE
open Go.RowKit (Below)
variable {P : Program} {w0 : Base} {w : World} {N : Nat} {σ : Nat → RefI} {s : S} {tms : Array Value} {ρ : Operand → Value} {al : Nat → Prop} {Γ : List Fn}

/-- what is known at s' follows from what is known at s -/
def Weak (P : Program) (K : Nat) (s s' : S) : Prop := ∀ (w0 : Base) (N : Nat) (tms : Array Value) (w : World), (∀ id, K ≤ id → w0.sg id = .dead) → Rel P w0 N s tms w → Rel P w0 N s' tms w

theorem Weak.refl (P : Program) (K : Nat) (s : S) : Weak P K s s := fun _ _ _ _ _ h => h
theorem Weak.trans {K : Nat} {s1 s2 s3 : S} (h : Weak P K s1 s2) (h' : Weak P K s2 s3) : Weak P K s1 s3 := fun _ _ _ _ hk r => h' _ _ _ _ hk (h _ _ _ _ hk r)

def wpA (P : Program) (Γ : List Fn) : Code → S → (Exit → S → Prop) → Prop
  | .skip, s, Q => Q .normal s
  | .region _ ops draw, s, Q => match draw with
    | true => wpOpsD P Γ ops.toList ops.toList s (Q .normal)
    | false => wpOpsA P Γ ops.toList ops.toList s (Q .normal)
  | .seq a b, s, Q => wpA P Γ a s fun e s' => match e with | .normal => wpA P Γ b s' Q | e => Q e s'
  | .cond c x y, s, Q => match opdA s.tm c with
    | .c .bool b => (b.toBool = true → wpA P Γ x s Q) ∧ (b.toBool = false → wpA P Γ y s Q)
    | _ => False
  | .block id c, s, Q => wpA P Γ c s fun e s' => match e with | .exit id' => if id' = id then Q .normal s' else Q (.exit id') s' | e => Q e s'
  | .exit id, s, Q => Q (.exit id) s
  | .label _, s, Q => Q .normal s
  | .ret, s, Q => Q .ret s
  | _, _, _ => False

def codeOk (N : Nat) : Code → Bool
  | .skip => true
  | .region _ ops draw => ops.toList.all (operOk N) && (!draw || lexD ops)
  | .seq a b => codeOk N a && codeOk N b
  | .cond c x y => okOpd c && (codeOk N x && codeOk N y)
  | .block _ c => codeOk N c
  | .exit _ => true
  | .label _ => true
  | .ret => true
  | _ => false

/-- a loop, with a number that falls -/
theorem wp_loop_n {Q : Exit → Act → World → Prop} {a : Act} {c : Code} (I : Nat → Act → World → Prop) (h₀ : ∃ n, I n a w)
    (round : ∀ n a w, I n a w → c.wp P (Exit.then (fun a' w' => ∃ n', n' < n ∧ I n' a' w') Q) a w) : (Code.loop c).wp P Q a w := by
  intro b k cs
  have key : ∀ n a w, I n a w → ∃ e a' w', Q e a' w' ∧ Arrives P (lone (b.at a (.code c :: .inLoop c :: k)) cs w) b k cs e a' w' := by
    intro n
    induction n using Nat.strongRecOn with
    | _ n ih =>
      intro a w hI
      obtain ⟨e, a₁, w₁, hq, harr⟩ := round n a w hI b (.inLoop c :: k) cs
      cases e with
      | normal =>
        obtain ⟨n', hlt, hI₁⟩ := hq
        obtain ⟨e₂, a₂, w₂, hq₂, harr₂⟩ := ih n' hlt a₁ w₁ hI₁
        exact ⟨e₂, a₂, w₂, hq₂, .of_steps (Steps.trans harr (.one step_inLoop)) harr₂⟩
      | exit id => exact ⟨_, a₁, w₁, hq, .pass (x := .inLoop c) rfl (fun _ _ => .inl (by simp)) harr⟩
      | goto l => exact ⟨_, a₁, w₁, hq, .pass (x := .inLoop c) rfl (fun _ _ => .inl (by simp)) harr⟩
      | ret => exact ⟨_, a₁, w₁, hq, .pass (x := .inLoop c) rfl (fun _ _ => .inl (by simp)) harr⟩
      | panic ch => exact ⟨_, a₁, w₁, hq, .pass (x := .inLoop c) rfl (fun _ _ => .inl (by simp)) harr⟩
      | outgrown => exact ⟨_, a₁, w₁, hq, .pass (x := .inLoop c) rfl (fun _ _ => .inl (by simp)) harr⟩
  obtain ⟨n, hn⟩ := h₀
  obtain ⟨e, a', w', hq, harr⟩ := key n a w hn
  exact ⟨e, a', w', hq, .of_steps (.one step_loop) harr⟩

theorem wpA_sound (h00 : tyI P 0 = none) (hm : P.follows .mixedOrders = true) (hΓ : ∀ g, g ∈ Γ → Contract P g) : ∀ (c : Code) (s : S) (Q : Exit → S → Prop) (Q' : Exit → Act → World → Prop) (a : Act) (w : World), codeOk N c = true → wpA P Γ c s Q → a.defers = [] → Rel P w0 N s a.tmps w →
    (∀ e s' a' w', a'.defers = [] → Rel P w0 N s' a'.tmps w' → Q e s' → Q' e a' w') → c.wp P Q' a w := by
  intro c
  induction c with
  | skip => intro s Q Q' a w _ h hd hR hQ; exact wp_skip (hQ _ _ _ _ hd hR h)
  | region id ops draw =>
    intro s Q Q' a w hok h hd hR hQ
    simp only [codeOk, Bool.and_eq_true, List.all_eq_true] at hok
    obtain ⟨hok, hlex⟩ := hok
    cases draw with
    | false =>
      have := wpOps_sound (Q' := Q') h00 hΓ (Q .normal) ops.toList s a w hok h hR (fun s' a' w' h1 h2 h3 => hQ _ _ _ _ (h1.trans hd) h2 h3)
      exact wp_region_list (by simpa using this)
    | true => exact region_draw_sound (Q := Q .normal) h00 hm hΓ hok (by simpa using hlex) h hR (fun s' a' w' h1 h2 h3 => hQ _ _ _ _ (h1.trans hd) h2 h3)
  | seq x y ihx ihy =>
    intro s Q Q' a w hok h hd hR hQ
    simp only [codeOk, Bool.and_eq_true] at hok
    refine wp_seq (ihx s _ _ a w hok.1 h hd hR (fun e s' a' w' hd' hR' hq => ?_))
    cases e <;> first | exact ihy s' Q Q' a' w' hok.2 hq hd' hR' hQ | exact hQ _ _ _ _ hd' hR' hq
  | cond c x y ihx ihy =>
    intro s Q Q' a w hok h hd hR hQ
    simp only [codeOk, Bool.and_eq_true] at hok
    simp only [wpA] at h
    split at h
    · rename_i b hb
      obtain ⟨σ, hR'⟩ := hR
      have hc := opd_sound hR' hok.1
      rw [hb] at hc
      refine wp_cond_split hc.bool_inv (fun ht => ihx s Q Q' a w hok.2.1 (h.1 ht) hd ⟨σ, hR'⟩ hQ) (fun hf => ihy s Q Q' a w hok.2.2 (h.2 hf) hd ⟨σ, hR'⟩ hQ)
    · exact h.elim
  | block id c ih =>
    intro s Q Q' a w hok h hd hR hQ
    refine wp_block (ih s _ _ a w hok h hd hR (fun e s' a' w' hd' hR' hq => ?_))
    cases e with
    | exit id' =>
      simp only [Exit.inBlock] at hq ⊢
      split
      · rename_i e; rw [if_pos e] at hq; exact hQ _ _ _ _ hd' hR' hq
      · rename_i e; rw [if_neg e] at hq; exact hQ _ _ _ _ hd' hR' hq
    | _ => exact hQ _ _ _ _ hd' hR' hq
  | exit id => intro s Q Q' a w _ h hd hR hQ; exact wp_exit (hQ _ _ _ _ hd hR h)
  | label l => intro s Q Q' a w _ h hd hR hQ; exact wp_label (hQ _ _ _ _ hd hR h)
  | ret => intro s Q Q' a w _ h hd hR hQ; exact wp_ret (hQ _ _ _ _ hd hR h)
  | _ => intro s Q Q' a w hok; simp [codeOk] at hok

end Go.AE
