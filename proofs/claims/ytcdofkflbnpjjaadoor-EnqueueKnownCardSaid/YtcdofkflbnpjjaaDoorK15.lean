/-
  What is to be shown of the executor; an operation with its calls.
-/
import Derived.Test.YtcdofkflbnpjjaaDoorK14
set_option linter.unusedVariables false
set_option linter.unusedSimpArgs false
set_option maxRecDepth 20000
namespace Go.KX
open Go.RowKit (Below)
variable {E : Env} {ρ : Ren} {w0 w : World} {hp : T KO}

structure EnvOk (E : Env) : Prop where
  flat : ∀ t ∈ E.F, flatOk E.P t = true
  mixed : E.P.follows .mixedOrders = true
  ext : ∀ g e, E.X g = some e → ∀ args v, e args = some v → ∀ (ρ : Ren) (vs : List Value) (w : World), VRs ρ args vs → ∃ u, (callFunc g vs.toArray).run E.P w = .ok (.value u) w ∧ VR ρ v u
  ents : ∀ g e, E.Y g = some e → (∀ args w, (callFunc g args).run E.P w = .ok (.enter g args) w) ∧ ∀ args v, e args = some v → ∀ (ρ : Ren) (vs : List Value) (w : World), VRs ρ args vs → Calls E.P g vs.toArray w fun x w' => ∃ u, x = .returned u ∧ VR ρ v u ∧ Below w.heap.size w w'

/-- the marks that a frame bears for its ranges over functions -/
def DR (ρ : Ren) : List Nat → List Deferred → Prop
  | [], [] => True
  | r :: rs, d :: ds => (∃ R m, ρ r = some (R, m) ∧ d = { target := .collected R, args := #[] }) ∧ DR ρ rs ds
  | _, _ => False
theorem DR.mono {ρ ρ' : Ren} (he : Ext ρ ρ') : ∀ {rs : List Nat} {ds : List Deferred}, DR ρ rs ds → DR ρ' rs ds
  | [], [], _ => trivial
  | _ :: _, _ :: _, ⟨⟨R, m, h1, h2⟩, h3⟩ => ⟨⟨R, m, he _ _ h1, h2⟩, h3.mono he⟩
  | [], _ :: _, h => h.elim
  | _ :: _, [], h => h.elim

def SR (ρ : Ren) (n : Nat) (w0 : World) (s : KS) (a : Act) (w : World) : Prop := TR ρ n s.tm a.tmps ∧ DR ρ s.df a.defers ∧ HR ρ w0 s.hp w

def exQ : Ex → Exit
  | .normal => .normal
  | .exit id => .exit id
  | .ret => .ret

def FenceOk (rd : Option Nat) (ρ : Ren) (F : Fence) : Prop :=
  match rd with
  | none => F = Fence.wide
  | some l => ∃ L m, ρ l = some (L, m) ∧ F = Fence.wide.inRound L
def FenceW (F : Fence) : Prop := F = Fence.wide ∨ ∃ L, F = Fence.wide.inRound L
theorem FenceOk.wd {rd : Option Nat} {F : Fence} (h : FenceOk rd ρ F) : FenceW F := by
  cases rd with
  | none => exact .inl h
  | some l => obtain ⟨L, m, _, h⟩ := h; exact .inr ⟨L, h⟩
theorem FenceOk.mono {rd : Option Nat} {F : Fence} {ρ' : Ren} (he : Ext ρ ρ') (h : FenceOk rd ρ F) : FenceOk rd ρ' F := by
  cases rd with
  | none => exact h
  | some l => obtain ⟨L, m, h1, h2⟩ := h; exact ⟨L, m, he _ _ h1, h2⟩
theorem FenceW.fn {F : Fence} (h : FenceW F) (f : FuncId) : F.fn f := by rcases h with rfl | ⟨L, rfl⟩ <;> trivial
theorem FenceW.depth {F : Fence} (h : FenceW F) {p : Prop} : F.depth.isSome = true → p := by
  rcases h with rfl | ⟨L, rfl⟩ <;> (intro h; exact absurd h (by simp [Fence.wide, Fence.inRound]))
theorem FenceW.calls {F : Fence} (h : FenceW F) {n : Nat} {P : Program} {f : FuncId} {args : Array Value} {w : World} {R : Ending → World → Prop} (hc : CallsIn Fence.wide n P f args w R) : CallsIn F n P f args w R := by
  rcases h with rfl | ⟨L, rfl⟩
  · exact hc
  · exact hc.inRound L

/-- where a call ends -/
def CallEnd (ρ : Ren) (w0 : World) (rs : List Res) (e : Ending) (w' : World) : Prop := ∃ r ∈ rs, ∃ ρ' v, e = .returned v ∧ Ext ρ ρ' ∧ VR ρ' r.v v ∧ HR ρ' w0 r.s.hp w'

def TaskOk (E : Env) : Task → List Res → Prop
  | .code rd n c s, rs => ∀ (ρ : Ren) (w0 : World) (F : Fence) (N : Nat) (a : Act) (w : World), FenceOk rd ρ F → SR ρ n w0 s a w → ∀ (Q : Exit → Act → World → Prop), (∀ r ∈ rs, ∀ ρ' a' w', Ext ρ ρ' → SR ρ' n w0 r.s a' w' → Q (exQ r.ex) a' w') → c.wpIn F N E.P Q a w
  | .call f args hp nx, rs => (∀ args w, (callFunc f args).run E.P w = .ok (.enter f args) w) ∧ ∀ (ρ : Ren) (w0 : World) (N : Nat) (vs : List Value) (w : World), VRs ρ args vs → HR ρ w0 hp w → CallsIn Fence.wide N E.P f vs.toArray w (CallEnd ρ w0 rs)
  | .round l args hp nx, rs => ∀ (ρ : Ren) (w0 : World) (F : Fence) (N L m : Nat) (vs : List Value) (w : World), ρ l = some (L, m) → FenceW F → VRs ρ args vs → HR ρ w0 hp w →
      ∃ f tmps assign body, (Instr.yield L vs.toArray).run E.P w = .ok (.round L f tmps assign body) w ∧ RoundIn F N E.P L f tmps assign body w (CallEnd ρ w0 rs)

def Sound (E : Env) (ih : Run) : Prop := ∀ t rs, ih t = some rs → TaskOk E t rs

theorem kval_keeps {ih : Run} {self : Nat} {o : Oper} {s : KS} {rs : List (KV × KS)} (h : kval E ih self o s = some rs) : ∀ r ∈ rs, r.2.tm = s.tm ∧ r.2.df = s.df := by
  have plain : ∀ {x : Option (KV × T KO)}, (x.map fun r => [(r.1, { s with hp := r.2 })]) = some rs → ∀ r ∈ rs, r.2.tm = s.tm ∧ r.2.df = s.df := by
    intro x hx
    cases x with
    | none => cases hx
    | some v =>
      simp only [Option.map_some, Option.some.injEq] at hx; subst hx
      intro r hr
      rw [List.mem_singleton.1 hr]
      exact ⟨rfl, rfl⟩
  rw [kval_eq] at h
  unfold kvalS at h
  split at h
  · rename_i c
    split at h
    · split at h
      · rename_i f xs hf hxs
        unfold kcall at h
        split at h
        · split at h
          · split at h
            · cases h; intro r hr; rw [List.mem_singleton.1 hr]; exact ⟨rfl, rfl⟩
            · cases h
          · split at h
            · cases h; intro r hr; obtain ⟨q, _, rfl⟩ := List.mem_map.1 hr; exact ⟨rfl, rfl⟩
            · cases h
        · split at h
          · cases h; intro r hr; obtain ⟨q, _, rfl⟩ := List.mem_map.1 hr; exact ⟨rfl, rfl⟩
          · cases h
        · cases h
      · cases h
    · exact plain h
  · split at h
    · rename_i x hx
      cases hk : knext s.hp x with
      | none => rw [hk] at h; cases h
      | some l =>
        rw [hk] at h
        simp only [Option.map_some, Option.some.injEq] at h; subst h
        intro r hr; obtain ⟨q, _, rfl⟩ := List.mem_map.1 hr; exact ⟨rfl, rfl⟩
    · cases h
  · split at h
    · exact plain h
    · cases h
  · exact plain h

theorem kop_noDefer {P : Program} {F : List TypeId} {self : Nat} {o : Oper} {v : Operand → Option KV} {r : KV × T KO} (h : kop P F self hp v o = some r) : ∀ c, o.op ≠ .defer c := by
  intro c hc
  obtain ⟨dst, op, type, pos, after, guard⟩ := o
  simp only at hc
  subst hc
  simp [kop] at h

theorem upon_end {F : Fence} {N : Nat} {o : Oper} {a : Act} {K : Act → World → Prop} {Q : Exit → Act → World → Prop} {r : KV} {hp' : T KO} (hF : FenceW F) (hnd : ∀ c, o.op ≠ .defer c) (he : OpEnd E.P ρ w0 w (execOp a.eval o) r hp')
    (hK : ∀ ρ' u w', Ext ρ ρ' → VR ρ' r u → HR ρ' w0 hp' w' → K (a.put o.dst u) w') : o.wpIn F N E.P a w K Q := by
  obtain ⟨nx, u, w', ρ', h1, h2, h3, h4, h5⟩ := he
  refine ⟨fun f _ => hF.fn f, ?_⟩
  rw [Oper.semAt_eq _ _ _ hnd, h1]
  rcases h2 with rfl | ⟨rfl, rfl⟩
  · rw [Oper.uponIn_value]; exact hK ρ' u w' h5 h3 h4
  · rw [Oper.uponIn_skip]; exact hK ρ' _ w' h5 h3 h4

theorem kval_sound (hE : EnvOk E) {ih : Run} (hih : Sound E ih) (hHR : HR ρ w0 hp w) {s : KS} (hs : s.hp = hp) {o : Oper} {a : Act} (ha : ∀ x ∈ o.op.operands, ∀ k, kopd s x = some k → VR ρ k (a.eval x)) {F : Fence} {N : Nat} (hF : FenceW F) {self : Nat} {rs : List (KV × KS)} (hk : kval E ih self o s = some rs)
    {K : Act → World → Prop} {Q : Exit → Act → World → Prop} (hK : ∀ r ∈ rs, ∀ ρ' u w', Ext ρ ρ' → VR ρ' r.1 u → HR ρ' w0 r.2.hp w' → K (a.put o.dst u) w') : o.wpIn F N E.P a w K Q := by
  subst hs
  obtain ⟨dst, op, type, pos, after, guard⟩ := o
  have plain : (kop E.P E.F self s.hp (kopd s) ⟨dst, op, type, pos, after, guard⟩).map (fun r => [(r.1, { s with hp := r.2 })]) = some rs → (Oper.mk dst op type pos after guard).wpIn F N E.P a w K Q := by
    intro hx
    cases hq : kop E.P E.F self s.hp (kopd s) ⟨dst, op, type, pos, after, guard⟩ with
    | none => rw [hq] at hx; cases hx
    | some r =>
      rw [hq] at hx
      simp only [Option.map_some, Option.some.injEq] at hx; subst hx
      exact upon_end hF (kop_noDefer hq) (kop_sound hE.flat hHR (fun x hx k hk => ha x hx k hk) hq) (fun ρ' u w' h1 h2 h3 => hK _ (List.mem_singleton.2 rfl) ρ' u w' h1 h2 h3)
  rw [kval_eq] at hk
  unfold kvalS at hk
  simp only at hk
  split at hk
  · rename_i c
    obtain ⟨callee, args, argTypes⟩ := c
    simp only at hk
    split at hk
    · rename_i f
      split at hk
      · rename_i fv xs hf hxs
        have hv := ha f (by simp [Op.operands, Call.operands]) _ hf
        have hxv := omap_opd (ρ := ρ) (v := kopd s) (e := a.eval) (fun x hx k hk => ha x (by simp only [Op.operands, Call.operands]; exact Array.mem_append.2 (.inr (Array.mem_toList_iff.1 hx))) k hk) hxs
        refine ⟨fun g _ => hF.fn g, ?_⟩
        rw [Oper.semAt_eq _ _ _ (fun c => by simp)]
        unfold kcall at hk
        split at hk
        · rename_i g first caps
          generalize hfe : a.eval f = fe at hv
          cases hv with | fn _ _ _ as bs h1 h2 h3 h4 =>
          have hall : VRs ρ (first ++ xs ++ caps) (as.toList ++ args.toList.map a.eval ++ bs.toList) := (VRs.append ⟨h1, h2⟩ hxv).append ⟨h3, h4⟩
          have harr : (as.toList ++ args.toList.map a.eval ++ bs.toList).toArray = (as ++ args.map a.eval) ++ bs := Array.ext' (by simp)
          have hrun : ∀ {r}, (callFunc g (as.toList ++ args.toList.map a.eval ++ bs.toList).toArray).run E.P w = r → (execOp a.eval ⟨dst, .call ⟨.value f, args, argTypes⟩, type, pos, after, guard⟩).run E.P w = r := by
            intro r hr
            rw [harr] at hr
            simp only [execOp, resolve, hfe, Deferred.ofValue, Sem.run_bind, Sem.run_pure, Result.andThen_ok, invoke, hr]
          split at hk
          · rename_i e hX
            split at hk
            · rename_i v hev
              cases hk
              obtain ⟨u, g1, g2⟩ := hE.ext g e hX _ _ hev ρ _ w hall
              rw [hrun g1, Oper.uponIn_value]
              exact hK _ (List.mem_singleton.2 rfl) ρ u w (.refl _) g2 hHR
            · cases hk
          · split at hk
            · rename_i rs' hih'
              cases hk
              obtain ⟨henter, hcall⟩ := hih _ _ hih'
              rw [hrun (henter _ _), Oper.uponIn_enter]
              refine ⟨hF.depth, hF.calls ((hcall ρ w0 (N - 1) _ w hall hHR).mono ?_)⟩
              rintro e w' ⟨r, hr, ρ', v, rfl, k1, k2, k3⟩
              exact hK (r.v, { s with hp := r.s.hp, nx := r.s.nx }) (List.mem_map.2 ⟨r, hr, rfl⟩) ρ' v w' k1 k2 k3
            · cases hk
        · rename_i l
          generalize hfe : a.eval f = fe at hv
          cases hv with | yld _ L m hL =>
          split at hk
          · rename_i rs' hih'
            cases hk
            obtain ⟨fn, tmps, assign, body, g1, g2⟩ := hih _ _ hih' ρ w0 F (N - 1) L m _ w hL hF hxv hHR
            have harr : (args.toList.map a.eval).toArray = #[] ++ args.map a.eval := Array.ext' (by simp)
            have hrun : (execOp a.eval ⟨dst, .call ⟨.value f, args, argTypes⟩, type, pos, after, guard⟩).run E.P w = .ok (.round L fn tmps assign body) w := by
              rw [harr] at g1
              simp only [execOp, resolve, hfe, Deferred.ofValue, Sem.run_bind, Sem.run_pure, Result.andThen_ok, invoke, g1]
            rw [hrun, Oper.uponIn_round]
            refine ⟨hF.depth, g2.mono ?_⟩
            rintro e w' ⟨r, hr, ρ', v, rfl, k1, k2, k3⟩
            exact hK (r.v, { s with hp := r.s.hp, nx := r.s.nx }) (List.mem_map.2 ⟨r, hr, rfl⟩) ρ' v w' k1 k2 k3
          · cases hk
        · cases hk
      · cases hk
    · exact plain hk
  · rename_i x
    split at hk
    · rename_i y hy
      cases hn : knext s.hp y with
      | none => rw [hn] at hk; cases hk
      | some l =>
        rw [hn] at hk
        simp only [Option.map_some, Option.some.injEq] at hk; subst hk
        obtain ⟨r, hr, u, w', h1, h2, h3⟩ := knext_sound (P := E.P) (ty := type) hHR (ha x (by simp [Op.operands]) _ hy) hn
        refine ⟨fun g _ => hF.fn g, ?_⟩
        rw [Oper.semAt_eq _ _ _ (fun c => by simp)]
        have hrun : (execOp a.eval ⟨dst, .next x false, type, pos, after, guard⟩).run E.P w = .ok (.value u) w' := run_value h1
        rw [hrun, Oper.uponIn_value]
        exact hK (r.1, { s with hp := r.2 }) (List.mem_map.2 ⟨r, hr, rfl⟩) ρ u w' (.refl _) h2 h3
    · cases hk
  · rename_i x
    split at hk
    · rename_i y hy
      cases hn : knextS s.hp y with
      | none => rw [hn] at hk; cases hk
      | some r =>
        rw [hn] at hk
        simp only [Option.map_some, Option.some.injEq] at hk; subst hk
        obtain ⟨u, w', h1, h2, h3⟩ := knextS_sound (P := E.P) (ty := type) hHR (ha x (by simp [Op.operands]) _ hy) hn
        refine ⟨fun g _ => hF.fn g, ?_⟩
        rw [Oper.semAt_eq _ _ _ (fun c => by simp)]
        have hrun : (execOp a.eval ⟨dst, .next x true, type, pos, after, guard⟩).run E.P w = .ok (.value u) w' := run_value h1
        rw [hrun, Oper.uponIn_value]
        exact hK _ (List.mem_singleton.2 rfl) ρ u w' (.refl _) h2 h3
    · cases hk
  · exact plain hk
end Go.KX
