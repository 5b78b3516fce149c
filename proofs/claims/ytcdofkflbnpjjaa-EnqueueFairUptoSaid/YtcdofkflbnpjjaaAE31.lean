/-
  Regions that draw their order, once more: calls among them that make rows, guards that are known.
-/
import Derived.Test.YtcdofkflbnpjjaaAE30
set_option linter.unusedVariables false
namespace Go.AE
open Go.RowKit (Below)
variable {P : Program} {w0 : Base} {w : World} {N kp : Nat} {σ : Nat → RefI} {s : S} {tms : Array Value} {ρ : Operand → Value} {al : Nat → Prop} {Γ : List Fn}

/-! ## What a step does if a guard is known -/
def pickR (tm : Nat → A) (hp : Nat → Blk) (k : Bool) (g : Option (Nat × Bool)) (c a b : Operand) : Option (Prop × Prop × A × (Nat → Blk)) :=
  match g with
  | none => match plainTm tm c with
    | .c .bool x => some (x.toBool = k ∧ (allNeeds tm [c] ∧ allNeeds tm [match k with | true => a | false => b]), True, plainTm tm (match k with | true => a | false => b), hp)
    | _ => none
  | some _ => none
def guardR (P : Program) (tm : Nat → A) (hp : Nat → Blk) (k : Bool) (g : Option Bool) (e : Option (Prop × Prop × A × (Nat → Blk))) : Option (Prop × Prop × A × (Nat → Blk)) :=
  match g with
  | some g => match k with
    | true => match e with
      | some q => some (g = true ∧ q.1, q.2)
      | none => none
    | false => some (g = false, True, .unk, hp)
  | none => none
def effR (P : Program) (Γ : List Fn) (r : Option Bool) (ops : List Oper) (o : Oper) (tm : Nat → A) (hp : Nat → Blk) : Option (Prop × Prop × A × (Nat → Blk)) :=
  match r with
  | none => eff P Γ ops o tm hp
  | some k => match o.op with
    | .pick c a b => pickR tm hp k o.guard c a b
    | _ => match o.guard with
      | some (j, want) => guardR P tm hp k (guardOf ops tm j want) (eff P Γ ops (unguard o) tm hp)
      | none => none
def effRG (P : Program) (Γ : List Fn) (r : Option Bool) (gd : Option Nat) (o : Oper) (tm : Nat → A) (hp : Nat → Blk) : Option (Prop × Prop × A × (Nat → Blk)) :=
  match r with
  | none => effG P Γ gd o tm hp
  | some k => match o.op with
    | .pick c a b => pickR tm hp k o.guard c a b
    | _ => match o.guard with
      | some (_, want) => guardR P tm hp k (guardT tm gd want) (effG P Γ none (unguard o) tm hp)
      | none => none
theorem effR_G (r : Option Bool) (ops : List Oper) (o : Oper) (tm : Nat → A) (hp : Nat → Blk) : effR P Γ r ops o tm hp = effRG P Γ r (gdst ops o) o tm hp := by
  unfold effR effRG
  cases r with
  | none => exact eff_effG _ _ _ _
  | some k =>
    dsimp only
    have key : (match o.guard with | some (j, want) => guardR P tm hp k (guardOf ops tm j want) (eff P Γ ops (unguard o) tm hp) | none => none) = (match o.guard with | some (_, want) => guardR P tm hp k (guardT tm (gdst ops o) want) (effG P Γ none (unguard o) tm hp) | none => none) := by
      cases hg : o.guard with
      | none => rfl
      | some q =>
        obtain ⟨j, want⟩ := q
        dsimp only
        rw [guardOf_gdst hg, eff_effG]
        rfl
    cases o.op <;> first | exact key | rfl

/-- the cases of a known outcome -/
theorem effR_cases {r : Option Bool} {ops : List Oper} {o : Oper} {tm : Nat → A} {hp hp1 : Nat → Blk} {p f : Prop} {v : A} (h : effR P Γ r ops o tm hp = some (p, f, v, hp1)) :
    (r = none ∧ eff P Γ ops o tm hp = some (p, f, v, hp1)) ∨
    (∃ k c a b x, r = some k ∧ o.op = .pick c a b ∧ o.guard = none ∧ plainTm tm c = .c .bool x ∧ hp1 = hp ∧ p = (x.toBool = k ∧ (allNeeds tm [c] ∧ allNeeds tm [match k with | true => a | false => b])) ∧ v = plainTm tm (match k with | true => a | false => b) ∧ f = True) ∨
    (∃ j want g p1, r = some true ∧ (∀ c a b, o.op ≠ .pick c a b) ∧ o.guard = some (j, want) ∧ guardOf ops tm j want = some g ∧ p = (g = true ∧ p1) ∧ eff P Γ ops (unguard o) tm hp = some (p1, f, v, hp1)) ∨
    (∃ j want g, r = some false ∧ (∀ c a b, o.op ≠ .pick c a b) ∧ o.guard = some (j, want) ∧ guardOf ops tm j want = some g ∧ p = (g = false) ∧ f = True ∧ v = .unk ∧ hp1 = hp) := by
  unfold effR at h
  cases r with
  | none => exact .inl ⟨rfl, h⟩
  | some k =>
    dsimp only at h
    have key : (∀ c a b, o.op ≠ .pick c a b) → (match o.guard with | some (j, want) => guardR P tm hp k (guardOf ops tm j want) (eff P Γ ops (unguard o) tm hp) | none => none) = some (p, f, v, hp1) →
        (∃ j want g p1, some k = some true ∧ (∀ c a b, o.op ≠ .pick c a b) ∧ o.guard = some (j, want) ∧ guardOf ops tm j want = some g ∧ p = (g = true ∧ p1) ∧ eff P Γ ops (unguard o) tm hp = some (p1, f, v, hp1)) ∨
        (∃ j want g, some k = some false ∧ (∀ c a b, o.op ≠ .pick c a b) ∧ o.guard = some (j, want) ∧ guardOf ops tm j want = some g ∧ p = (g = false) ∧ f = True ∧ v = .unk ∧ hp1 = hp) := by
      intro hnp h
      split at h
      · rename_i j want hg
        unfold guardR at h
        split at h
        · rename_i g hgo
          split at h
          · split at h
            · rename_i q he
              obtain ⟨p1, f1, v1, h1⟩ := q
              simp only [Option.some.injEq, Prod.mk.injEq] at h
              obtain ⟨rfl, rfl, rfl, rfl⟩ := h
              exact .inl ⟨j, want, g, p1, rfl, hnp, hg, hgo, rfl, he⟩
            · cases h
          · simp only [Option.some.injEq, Prod.mk.injEq] at h
            obtain ⟨rfl, rfl, rfl, rfl⟩ := h
            exact .inr ⟨j, want, g, rfl, hnp, hg, hgo, rfl, rfl, rfl, rfl⟩
        · cases h
      · cases h
    cases ho : o.op with
    | pick c a b =>
      simp only [ho, pickR] at h
      split at h
      · rename_i hg
        split at h
        · rename_i x hx
          simp only [Option.some.injEq, Prod.mk.injEq] at h
          obtain ⟨rfl, rfl, rfl, rfl⟩ := h
          exact .inr (.inl ⟨k, c, a, b, x, rfl, rfl, hg, hx, rfl, rfl, rfl, rfl⟩)
        · cases h
      · cases h
    | _ => exact .inr (.inr (by rw [← ho]; exact key (by intro c a b e; rw [ho] at e; cases e) (by simpa only [ho] using h)))

theorem looks_unguard {o : Oper} {ops : Array Oper} {t : Nat} (h : t ∈ (unguard o).looksAt ops) : t ∈ o.looksAt ops := by
  simp only [Oper.looksAt, unguard] at h ⊢
  rcases List.mem_append.1 h with h | h
  · exact List.mem_append.2 (.inl h)
  · simp at h
theorem effR_congr {r : Option Bool} {ops : List Oper} {o : Oper} {tm tm' : Nat → A} {hp : Nat → Blk} (h : ∀ t, t ∈ o.looksAt ops.toArray → tm t = tm' t) : effR P Γ r ops o tm hp = effR P Γ r ops o tm' hp := by
  unfold effR
  cases r with
  | none => exact eff_congr h
  | some k =>
    dsimp only
    have hop : ∀ x, x ∈ o.op.operands → plainTm tm x = plainTm tm' x ∧ needs tm x = needs tm' x := fun x hx => plainTm_congr (fun t ht => h t (by
      simp only [Oper.looksAt]
      refine List.mem_append.2 (.inl ?_)
      rw [List.mem_filterMap]
      exact ⟨x, Array.mem_toList_iff.2 hx, by rw [ht]⟩))
    have key : (match o.guard with | some (j, want) => guardR P tm hp k (guardOf ops tm j want) (eff P Γ ops (unguard o) tm hp) | none => none) = (match o.guard with | some (j, want) => guardR P tm' hp k (guardOf ops tm' j want) (eff P Γ ops (unguard o) tm' hp) | none => none) := by
      cases hg : o.guard with
      | none => rfl
      | some q =>
        obtain ⟨j, want⟩ := q
        dsimp only
        have e1 : guardOf ops tm j want = guardOf ops tm' j want := guardOf_congr (fun oj d ho hd => h d (by
          simp only [Oper.looksAt, hg]
          refine List.mem_append.2 (.inr ?_)
          simp [ho, hd]))
        rw [e1, eff_congr (o := unguard o) (fun t ht => h t (looks_unguard ht))]
        rfl
    cases ho : o.op with
    | pick c a b =>
      have hc := hop c (by rw [ho]; simp [Op.operands])
      have ha := hop a (by rw [ho]; simp [Op.operands])
      have hb := hop b (by rw [ho]; simp [Op.operands])
      have hcn : allNeeds tm [c] = allNeeds tm' [c] := allNeeds_congr (fun x hx => by simp at hx; subst hx; exact hc.2)
      have han : allNeeds tm [a] = allNeeds tm' [a] := allNeeds_congr (fun x hx => by simp at hx; subst hx; exact ha.2)
      have hbn : allNeeds tm [b] = allNeeds tm' [b] := allNeeds_congr (fun x hx => by simp at hx; subst hx; exact hb.2)
      simp only [pickR]
      cases k <;> simp only [hc.1, ha.1, hb.1, hcn, han, hbn]
    | _ => exact key
end Go.AE
