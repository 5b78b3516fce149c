/-
  Regions.
-/
import Derived.Test.YtcdofkflbnpjjaaDoorK15
set_option linter.unusedVariables false
set_option linter.unusedSimpArgs false
set_option maxRecDepth 20000
namespace Go.KX
open Go.RowKit (Below)
variable {E : Env} {ρ : Ren} {w0 w : World} {hp : T KO}

/-- a frame's state, but for some temporaries -/
def SX (X : Nat → Prop) (ρ : Ren) (n : Nat) (w0 : World) (s : KS) (a : Act) (w : World) : Prop :=
  (a.tmps.size = n ∧ ∀ t, ¬ X t → VR ρ ((s.tm.get t).getD (.tup [])) (a.tmps.getD t undef)) ∧ DR ρ s.df a.defers ∧ HR ρ w0 s.hp w

theorem SX.of {n : Nat} {s : KS} {a : Act} (h : SR ρ n w0 s a w) (X : Nat → Prop) : SX X ρ n w0 s a w := ⟨⟨h.1.1, fun t _ => h.1.2 t⟩, h.2.1, h.2.2⟩
theorem SX.to {n : Nat} {s : KS} {a : Act} {X : Nat → Prop} (h : SX X ρ n w0 s a w) (hX : ∀ t, ¬ X t) : SR ρ n w0 s a w := ⟨⟨h.1.1, fun t => h.1.2 t (hX t)⟩, h.2.1, h.2.2⟩

theorem SX.opd {X : Nat → Prop} {n : Nat} {s : KS} {a : Act} (h : SX X ρ n w0 s a w) {x : Operand} (hx : ∀ t, x = .tmp t → ¬ X t) {k : KV} (hk : kopd s x = some k) : VR ρ k (a.eval x) := by
  cases x with
  | tmp t =>
    have ht := h.1.2 t (hx t rfl)
    simp only [kopd] at hk
    cases hg : s.tm.get t with
    | some v => rw [hg] at hk ht; simp only [Option.some.injEq, Option.getD_some] at hk ht; subst hk; exact ht
    | none => rw [hg] at hk ht; simp only [Option.some.injEq, Option.getD_none] at hk ht; subst hk; exact ht
  | const v => exact kc_sound hk
  | global g => simp [kopd] at hk
  | func f =>
    simp only [kopd, Option.some.injEq] at hk; subst hk
    exact .fn f [] [] #[] #[] rfl (fun i x y h => by simp at h) rfl (fun i x y h => by simp at h)

theorem opd_tmpsOf {ops : Array Oper} {o : Oper} {x : Operand} (hx : x ∈ o.op.operands) {t : Nat} (ht : x = .tmp t) : t ∈ tmpsOf ops o := by
  subst ht
  unfold tmpsOf
  exact List.mem_append.2 (.inl (List.mem_filterMap.2 ⟨.tmp t, Array.mem_toList_iff.2 hx, rfl⟩))

theorem wanted_eq {X : Nat → Prop} {n : Nat} {s : KS} {a : Act} (h : SX X ρ n w0 s a w) {ops : Array Oper} {o : Oper} (hx : ∀ t ∈ tmpsOf ops o, ¬ X t) : kwanted ops s o = Region.wanted o (yielded ops a.tmps) := by
  unfold kwanted Region.wanted
  cases hg : o.guard with
  | none => rfl
  | some g =>
    obtain ⟨j, want⟩ := g
    simp only
    cases hd : (ops[j]?).bind (·.dst) with
    | none => simp [yielded, hd]
    | some t =>
      have htm : t ∈ tmpsOf ops o := by
        unfold tmpsOf
        rw [hg]
        simp only [hd]
        exact List.mem_append.2 (.inr (by simp))
      have hv := h.1.2 t (hx t htm)
      simp only [yielded, hd, Option.bind_some]
      have hget : a.tmps.getD t undef = (a.tmps[t]?).getD undef := by simp [Array.getD_eq_getD_getElem?]
      rw [hget] at hv
      cases ht : a.tmps[t]? with
      | none =>
        rw [ht] at hv
        simp only [Option.getD_none] at hv
        cases hs : s.tm.get t with
        | none => rfl
        | some k =>
          rw [hs] at hv
          simp only [Option.getD_some] at hv
          cases k <;> first | rfl | (exfalso; revert hv; unfold undef; intro hv; cases hv)
      | some u =>
        rw [ht] at hv
        simp only [Option.getD_some] at hv
        cases hs : s.tm.get t with
        | none =>
          rw [hs] at hv
          simp only [Option.getD_none] at hv
          cases hv
          rfl
        | some k =>
          rw [hs] at hv
          simp only [Option.getD_some] at hv
          cases hv <;> first | rfl | (rename_i b; cases b <;> cases want <;> rfl)

theorem getD_set {a : Array Value} {d t : Nat} {v : Value} (hd : d < a.size) : (a.setIfInBounds d v).getD t undef = if t = d then v else a.getD t undef := by
  simp only [Array.getD_eq_getD_getElem?, Array.getElem?_setIfInBounds]
  by_cases e : d = t
  · subst e; simp [hd]
  · rw [if_neg e, if_neg (Ne.symm e)]

theorem put_defers (a : Act) (dst : Option Tmp) (v : Value) : (a.put dst v).defers = a.defers := by cases dst <;> rfl
theorem putD_hp (s : KS) (d : Option Nat) (v : KV) : (s.putD d v).hp = s.hp := by cases d <;> rfl
theorem putD_df (s : KS) (d : Option Nat) (v : KV) : (s.putD d v).df = s.df := by cases d <;> rfl

/-- an operation's result is put -/
theorem SX.put {X : Nat → Prop} {n : Nat} {s s1 : KS} {a : Act} (h : SX X ρ n w0 s a w) {ρ' : Ren} {w' : World} {d : Option Nat} {r : KV} {u : Value} (hd : dstOk n d = true) (he : Ext ρ ρ') (hv : VR ρ' r u) (htm : s1.tm = s.tm) (hdf : s1.df = s.df) (hh : HR ρ' w0 s1.hp w') :
    SX X ρ' n w0 (s1.putD d r) (a.put d u) w' ∧ ∀ t, d = some t → VR ρ' (((s1.putD d r).tm.get t).getD (.tup [])) ((a.put d u).tmps.getD t undef) := by
  refine ⟨⟨?_, ?_, by rw [putD_hp]; exact hh⟩, ?_⟩
  · cases d with
    | none => exact ⟨h.1.1, fun t ht => by have := (h.1.2 t ht).mono he; simpa [KS.putD, htm, Act.put] using this⟩
    | some t0 =>
      have hlt : t0 < a.tmps.size := by rw [h.1.1]; exact bleT hd
      refine ⟨by simp [Act.put, h.1.1], fun t ht => ?_⟩
      simp only [KS.putD, Act.put, htm, T.get_set]
      rw [getD_set hlt]
      by_cases e : t = t0
      · rw [if_pos e, if_pos e]; exact hv
      · rw [if_neg e, if_neg e]; exact (h.1.2 t ht).mono he
  · rw [putD_df, hdf, put_defers]
    exact h.2.1.mono he
  · intro t ht
    subst ht
    have hlt : t < a.tmps.size := by rw [h.1.1]; exact bleT hd
    simp only [KS.putD, Act.put, T.get_set, getD_set hlt, if_true]
    exact hv

theorem kstep_x (hE : EnvOk E) {ih : Run} (hih : Sound E ih) {X : Nat → Prop} {n base : Nat} {ops : Array Oper} {i : Nat} {s : KS} {ss : List KS} (hk : kstep E ih n base ops i s = some ss) {a : Act} (h : SX X ρ n w0 s a w) (hx : ∀ o, ops[i]? = some o → ∀ t ∈ tmpsOf ops o, ¬ X t)
    {F : Fence} {N : Nat} (hF : FenceW F) {K : Act → World → Prop} {Q : Exit → Act → World → Prop} (hK : ∀ s' ∈ ss, ∀ ρ' a' w', Ext ρ ρ' → SX X ρ' n w0 s' a' w' → (∀ o t, ops[i]? = some o → o.dst = some t → VR ρ' ((s'.tm.get t).getD (.tup [])) (a'.tmps.getD t undef)) → K a' w') :
    wpOpIn F N E.P ops Q i K a w := by
  unfold kstep at hk
  unfold wpOpIn
  cases ho : ops[i]? with
  | none =>
    rw [ho] at hk
    simp only [Option.some.injEq] at hk; subst hk
    exact hK s (List.mem_singleton.2 rfl) ρ a w (.refl _) h (fun o t e => by rw [ho] at e; cases e)
  | some o =>
    rw [ho] at hk
    simp only at hk ⊢
    obtain ⟨hd, hk⟩ := bifS hk
    have hxo := hx o ho
    rw [← wanted_eq h hxo]
    cases hw : kwanted ops s o with
    | false =>
      rw [hw] at hk
      simp only [cond_false, Option.some.injEq] at hk; subst hk
      simp only [Bool.false_eq_true, if_false]
      refine ⟨fun f _ => hF.fn f, ?_⟩
      obtain ⟨g1, g2⟩ := h.put (s1 := s) hd (.refl _) VR.undef rfl rfl h.2.2
      exact hK _ (List.mem_singleton.2 rfl) ρ _ w (.refl _) g1 (fun o' t e ht => by rw [ho] at e; cases e; exact g2 t ht)
    | true =>
      rw [hw] at hk
      simp only [cond_true] at hk
      simp only [if_true]
      split at hk
      · rename_i rs hrs
        simp only [Option.some.injEq] at hk; subst hk
        refine kval_sound hE hih h.2.2 rfl (fun x hx k hk => h.opd (fun t ht => hxo t (opd_tmpsOf hx ht)) hk) hF hrs (fun r hr ρ' u w' k1 k2 k3 => ?_)
        obtain ⟨e1, e2⟩ := kval_keeps hrs r hr
        obtain ⟨g1, g2⟩ := h.put (s1 := r.2) hd k1 k2 e1 e2 k3
        exact hK _ (List.mem_map.2 ⟨r, hr, rfl⟩) ρ' _ w' k1 g1 (fun o' t e ht => by rw [ho] at e; cases e; exact g2 t ht)
      · cases hk

/-- in the order of the text -/
theorem kops_sound (hE : EnvOk E) {ih : Run} (hih : Sound E ih) {n base : Nat} {ops : Array Oper} {F : Fence} {N : Nat} (hF : FenceW F) {Q : Exit → Act → World → Prop} : ∀ {is : List Nat} {s : KS} {ss : List KS} {ρ : Ren} {a : Act} {w : World}, kops E ih n base ops is s = some ss → SR ρ n w0 s a w →
    (∀ s' ∈ ss, ∀ ρ' a' w', Ext ρ ρ' → SR ρ' n w0 s' a' w' → Q .normal a' w') → wpOpsIn F N E.P ops Q is a w
  | [], s, ss, ρ, a, w, hk, h, hQ => by
    simp only [kops, Option.some.injEq] at hk; subst hk
    exact hQ s (List.mem_singleton.2 rfl) ρ a w (.refl _) h
  | i :: is, s, ss, ρ, a, w, hk, h, hQ => by
    simp only [kops] at hk
    rw [wpOpsIn_cons]
    split at hk
    · rename_i ss1 h1
      refine kstep_x hE hih h1 (SX.of h (fun _ => False)) (fun _ _ _ _ => id) hF (fun s' hs' ρ' a' w' k1 k2 _ => ?_)
      obtain ⟨bs, h2, h3⟩ := bindL_some hk s' hs'
      exact kops_sound hE hih hF h2 (k2.to (fun _ => id)) (fun s2 hs2 ρ2 a2 w2 j1 j2 => hQ s2 (h3 s2 hs2) ρ2 a2 w2 (k1.trans j1) j2)
    · cases hk
end Go.KX
