/-
  Code, calls, ranges over functions: the executor is sound.
-/
import Derived.Test.YtcdofkflbnpjjaaDoorK18
set_option linter.unusedVariables false
set_option linter.unusedSimpArgs false
set_option maxRecDepth 20000
namespace Go.KX
open Go.RowKit (Below)
variable {E : Env} {ρ : Ren} {w0 w : World} {hp : T KO}

theorem SR.mono {ρ' : Ren} {n : Nat} {s : KS} {a : Act} (he : Ext ρ ρ') (h : SR ρ n w0 s a w) (hh : HR ρ' w0 s.hp w) : SR ρ' n w0 s a w := ⟨h.1.mono he, h.2.1.mono he, hh⟩

theorem run_succ (E : Env) (f : Nat) : run E (f + 1) = body E (run E f) := rfl

theorem least {p : Nat → Prop} (h : ∃ k, p k) : ∃ k, p k ∧ ∀ j, j < k → ¬ p j := by
  obtain ⟨k, hk⟩ := h
  induction k using Nat.strongRecOn with
  | _ k ih =>
    by_cases hl : ∃ j, j < k ∧ p j
    · obtain ⟨j, hj, hp⟩ := hl
      exact ih j hj hp
    · exact ⟨k, hk, fun j hj hp => hl ⟨j, hj, hp⟩⟩

theorem loop_sound {f : Nat} (hih : ∀ j, j < f → Sound E (run E j)) {rd : Option Nat} {n : Nat} {c : Code} {s : KS} {rs : List Res} (hk : run E f (.code rd n (.loop c) s) = some rs) : TaskOk E (.code rd n (.loop c) s) rs := by
  intro ρ w0 F N a w hF h Q hQ
  let R : Nat → Act → World → Prop := fun k a w => k ≤ f ∧ ∃ ρ' s' rs', Ext ρ ρ' ∧ SR ρ' n w0 s' a w ∧ run E k (.code rd n (.loop c) s') = some rs' ∧ ∀ r ∈ rs', r ∈ rs
  let I : Act → World → Prop := fun a w => ∃ k, R k a w
  have hl : ∀ a w, I a w → ∃ k, R k a w ∧ ∀ j, j < k → ¬ R j a w := fun a w h => least h
  let μ : Act → World → Nat := fun a w => open Classical in if h : I a w then Classical.choose (hl a w h) else 0
  have hμ : ∀ a w (h : I a w), R (μ a w) a w ∧ ∀ j, j < μ a w → ¬ R j a w := by
    intro a w h
    have : μ a w = Classical.choose (hl a w h) := by simp only [μ, dif_pos h]
    rw [this]
    exact Classical.choose_spec (hl a w h)
  refine wpIn_loop I μ ⟨f, Nat.le_refl _, ρ, s, rs, .refl _, h, hk, fun r hr => hr⟩ ?_
  intro a1 w1 hI
  obtain ⟨⟨hle, ρ1, s1, rs1, he1, h1, hk1, hsub⟩, hleast⟩ := hμ a1 w1 hI
  cases hm : μ a1 w1 with
  | zero => rw [hm] at hk1; exact absurd hk1 (by simp [run])
  | succ k =>
    rw [hm] at hk1 hle
    rw [run_succ] at hk1
    simp only [body] at hk1
    split at hk1
    · rename_i rs2 hk2
      refine hih k (by omega) _ _ hk2 ρ1 w0 F N a1 w1 (hF.mono he1) h1 _ (fun r hr ρ2 a2 w2 he2 h2 => ?_)
      obtain ⟨bs, hbs, hmem⟩ := bindL_some hk1 r hr
      cases hex : r.ex with
      | normal =>
        rw [hex] at hbs
        simp only at hbs
        have hR : R k a2 w2 := ⟨by omega, ρ2, r.s, bs, he1.trans he2, h2, hbs, fun q hq => hsub q (hmem q hq)⟩
        refine ⟨⟨k, hR⟩, ?_⟩
        have := (hμ a2 w2 ⟨k, hR⟩).2
        rcases Nat.lt_or_ge k (μ a2 w2) with hlt | hge
        · exact absurd hR (this k hlt)
        · exact Nat.lt_succ_of_le hge
      | exit id =>
        rw [hex] at hbs
        simp only [Option.some.injEq] at hbs; subst hbs
        have := hQ r (hsub r (hmem r (List.mem_singleton.2 rfl))) ρ2 a2 w2 (he1.trans he2) h2
        rw [hex] at this
        exact this
      | ret =>
        rw [hex] at hbs
        simp only [Option.some.injEq] at hbs; subst hbs
        have := hQ r (hsub r (hmem r (List.mem_singleton.2 rfl))) ρ2 a2 w2 (he1.trans he2) h2
        rw [hex] at this
        exact this
    · cases hk1

theorem callFunc_enter {P : Program} {f : FuncId} {fn : Func} (hf : P.funcs[f]? = some fn) {c : Code} (hb : fn.body = some c) (hn : (fn.name == "runtime.NumGoroutine") = false) (args : Array Value) (w : World) : (callFunc f args).run P w = .ok (.enter f args) w := by
  have hn' : ¬ fn.name = "runtime.NumGoroutine" := by simpa using hn
  simp [callFunc, program, Sem.run, hf, hb, hn', Result.andThen]

theorem ofList_get : ∀ (vs : List KV) (i : Nat) (t : T KV) (j : Nat), (ofList vs i t).get j = if i ≤ j ∧ j < i + vs.length then vs[j - i]? else t.get j
  | [], i, t, j => by simp only [ofList, List.length_nil]; rw [if_neg (by omega)]
  | v :: vs, i, t, j => by
    simp only [ofList]
    rw [ofList_get vs (i + 1) (t.set i v) j, T.get_set]
    by_cases e : j = i
    · subst e
      rw [if_neg (by omega), if_pos rfl, if_pos (by simp)]
      simp
    · rw [if_neg e]
      by_cases h : i + 1 ≤ j ∧ j < i + 1 + vs.length
      · rw [if_pos h, if_pos (by simp; omega)]
        rw [show j - i = (j - (i + 1)) + 1 by omega, List.getElem?_cons_succ]
      · rw [if_neg h, if_neg (by simp; omega)]

theorem args_TR {args : List KV} {vs : List Value} (h : VRs ρ args vs) (nt : Nat) : TR ρ (max nt args.length) (ofList args 0 .e) (vs.toArray ++ Array.replicate (nt - vs.toArray.size) undef) := by
  refine ⟨by simp [← h.1]; omega, fun t => ?_⟩
  rw [ofList_get]
  simp only [Nat.zero_le, true_and, Nat.zero_add, Nat.sub_zero]
  have hget : (vs.toArray ++ Array.replicate (nt - vs.toArray.size) undef).getD t undef = (vs[t]?).getD undef := by
    simp only [Array.getD_eq_getD_getElem?, Array.getElem?_append, List.size_toArray, List.getElem?_toArray]
    split
    · rfl
    · rename_i hlt
      rw [List.getElem?_eq_none (by omega)]
      rw [Array.getElem?_replicate]
      split <;> rfl
  rw [hget]
  by_cases ht : t < args.length
  · rw [if_pos ht]
    obtain ⟨v, h1, h2⟩ := h.get (List.getElem?_eq_getElem ht)
    rw [List.getElem?_eq_getElem ht, h1]
    exact h2
  · rw [if_neg ht, List.getElem?_eq_none (by rw [← h.1]; omega)]
    exact VR.undef

/-! ## Results -/
def resVar (P : Program) (tms : Array Value) : ResultVar → Sem Value
  | .tmp t => pure (tms.getD t undef)
  | .cell a t => do loadVar t (← asAddr (tms.getD a undef))
def tupV : List Value → Value
  | [v] => v
  | vs => .tuple vs.toArray

theorem run_results {P : Program} {tms : Array Value} {fn : Func} {vs : List Value} (h : (fn.results.toList.mapM (resVar P tms)).run P w = .ok vs w) :
    (results fn tms).run P w = .ok (tupV vs) w := by
  have h1 : (fn.results.mapM (resVar P tms)).run P w = .ok vs.toArray w := by
    rw [Array.mapM_eq_mapM_toList, Sem.run_map, h]; rfl
  have h2 : results fn tms = (do let vs ← fn.results.mapM (resVar P tms); pure (if h : vs.size = 1 then vs[0] else .tuple vs)) := by
    unfold results
    congr 1
  rw [h2]
  simp only [Sem.run_bind, h1, Result.andThen_ok, Sem.run_pure]
  congr 1
  match vs with
  | [] => rfl
  | [v] => rfl
  | v :: u :: vs => simp [tupV]

theorem one_tupV {xs : List KV} {vs : List Value} (h : VRs ρ xs vs) : VR ρ (one xs) (tupV vs) := by
  match xs, vs, h with
  | [], [], h => exact VR.undef
  | [x], [v], h => exact h.head
  | x :: y :: xs, v :: u :: vs, h => exact VR.tup' h
  | [], _ :: _, h => have := h.1; simp at this
  | _ :: _, [], h => have := h.1; simp at this
  | [_], _ :: _ :: _, h => have := h.1; simp at this
  | _ :: _ :: _, [_], h => have := h.1; simp at this

theorem kresult_sound {P : Program} {n : Nat} {s : KS} {tms : Array Value} (ht : TR ρ n s.tm tms) (hh : HR ρ w0 s.hp w) : ∀ {rv : List ResultVar} {xs : List KV}, kresult P s rv = some xs → ∃ vs, (rv.mapM (resVar P tms)).run P w = .ok vs w ∧ VRs ρ xs vs
  | [], xs, h => by simp only [kresult, Option.some.injEq] at h; subst h; exact ⟨[], rfl, VRs.nil⟩
  | .tmp t :: r, xs, h => by
    simp only [kresult] at h
    split at h
    · rename_i ys hys
      cases h
      obtain ⟨vs, h1, h2⟩ := kresult_sound ht hh hys
      exact ⟨tms.getD t undef :: vs, by rw [List.mapM_cons]; simp only [Sem.run_bind, resVar, Sem.run_pure, Result.andThen_ok, h1], .cons (ht.2 t) h2⟩
    · cases h
  | .cell a t :: r, xs, h => by
    simp only [kresult] at h
    split at h
    · rename_i v ys hv hys
      cases h
      obtain ⟨vs, h1, h2⟩ := kresult_sound ht hh hys
      have ha := ht.2 a
      obtain ⟨u, hu, hru⟩ := kload_sound (P := P) hh ha hv
      have hp : ∃ A, tms.getD a undef = .pointer (some A) := by
        unfold kload at hv
        split at hv
        · rename_i b off hb
          rw [hb] at ha
          generalize tms.getD a undef = va at ha
          cases ha
          exact ⟨_, rfl⟩
        · cases hv
      obtain ⟨A, hA⟩ := hp
      rw [hA] at hu
      have hl : (loadVar t A).run P w = .ok u w := by
        simp only [Instr.loadAt, Instr.sureAddr, Sem.run_bind, Sem.run_pure, Result.andThen_ok] at hu
        exact hu
      exact ⟨u :: vs, by rw [List.mapM_cons]; simp only [Sem.run_bind, resVar, hA, asAddr, Sem.run_pure, Result.andThen_ok, hl, h1], .cons hru h2⟩
    · cases h

/-- on the way out -/
theorem leaves {P : Program} {F : Fence} {N : Nat} {fn : Func} {n : Nat} {s : KS} {tms : Array Value} {R : Ending → World → Prop} {xs : List KV} : ∀ {df : List Nat} {ds : List Deferred} {hp hp' : T KO} {w : World}, kshut df hp = some hp' → DR ρ df ds → TR ρ n s.tm tms → HR ρ w0 hp w → kresult P { s with hp := hp' } fn.results.toList = some xs →
    (∀ w' v, VR ρ (one xs) v → HR ρ w0 hp' w' → R (.returned v) w') → LeavesInM F N P fn tms R ds .returning w
  | [], [], hp, hp', w, hk, hd, ht, hh, hr, hR => by
    simp only [kshut, Option.some.injEq] at hk; subst hk
    obtain ⟨vs, h1, h2⟩ := kresult_sound (s := { s with hp := hp }) ht hh hr
    exact ⟨tupV vs, run_results h1, hR w _ (one_tupV h2) hh⟩
  | r :: rs, d :: ds, hp, hp', w, hk, ⟨⟨L, m, hL, hd⟩, hds⟩, ht, hh, hr, hR => by
    simp only [kshut] at hk
    split at hk
    · rename_i ho
      obtain ⟨obj, h1, h2⟩ := hh.get hL ho
      have h2' : obj = .deferred (some []) := h2
      subst h2'
      refine ⟨by simp, .inl ⟨L, w.putObj L (.deferred none), by rw [hd], run_takeDeferred h1, ?_⟩⟩
      exact leaves hk hds ht (hh.putObj hL (by rw [ho]; simp) rfl) hr hR
    · cases hk
  | [], _ :: _, _, _, _, _, hd, _, _, _, _ => hd.elim
  | _ :: _, [], _, _, _, _, hd, _, _, _, _ => hd.elim

/-! ## Outcomes that come to the same -/
def Deadened (h h' : T KO) : Prop := ∀ b, h'.get b = h.get b ∨ h'.get b = some .dead
theorem sweep_dead {keep : List Nat} : ∀ (n b : Nat) (hp : T KO), Deadened hp (sweep keep n b hp)
  | 0, _, _, _ => .inl rfl
  | n + 1, b, hp, c => by
    simp only [sweep]
    rcases sweep_dead n (b + 1) (bif keep.contains b then hp else hp.set b .dead) c with h | h
    · rw [h]
      cases keep.contains b with
      | true => exact .inl rfl
      | false =>
        simp only [cond_false]
        rw [T.get_set]
        by_cases e : c = b
        · rw [if_pos e]; exact .inr rfl
        · rw [if_neg e]; exact .inl rfl
    · exact .inr h
theorem HR.deaden {ρ : Ren} {w0 w : World} {hp hp' : T KO} (h : HR ρ w0 hp w) (hd : Deadened hp hp') : HR ρ w0 hp' w := by
  have live : ∀ b, hp'.get b ≠ some .dead → hp.get b ≠ some .dead := by
    intro b hb e
    rcases hd b with h1 | h1
    · rw [h1] at hb; exact hb e
    · exact hb h1
  refine ⟨h.below, fun b B m hb => ?_, h.low, fun b b' B m m' h1 h2 h3 h4 => h.inj b b' B m m' h1 h2 (live b h3) (live b' h4)⟩
  obtain ⟨o, obj, h1, h2, h3⟩ := h.dom b B m hb
  rcases hd b with e | e
  · exact ⟨o, obj, by rw [e]; exact h1, h2, h3⟩
  · exact ⟨.dead, obj, e, h2, trivial⟩
theorem mergeR_mem : ∀ {rs : List Res} {r : Res}, r ∈ rs → ∃ q ∈ mergeR rs, q.v = r.v ∧ q.s = r.s
  | t :: rs, r, h => by
    simp only [mergeR]
    cases hm : (mergeR rs).any (fun q => KV.eqF t.v q.v && KS.eqF t.s q.s) with
    | true =>
      simp only [cond_true]
      rcases List.mem_cons.1 h with rfl | h
      · obtain ⟨u, hu, he⟩ := List.any_eq_true.1 hm
        simp only [Bool.and_eq_true] at he
        rw [KV.eqF_eq, KS.eqF_eq] at he
        exact ⟨u, hu, (KV.eqb_eq he.1).symm, (KS.eqb_eq he.2).symm⟩
      · exact mergeR_mem h
    | false =>
      simp only [cond_false]
      rcases List.mem_cons.1 h with rfl | h
      · exact ⟨_, List.mem_cons_self, rfl, rfl⟩
      · obtain ⟨q, hq, h1⟩ := mergeR_mem h
        exact ⟨q, List.mem_cons_of_mem _ hq, h1⟩
theorem kmg_mem {lo : Nat} {rs : List Res} {r : Res} (h : r ∈ rs) : ∃ q ∈ kmg lo rs, q.v = r.v ∧ Deadened r.s.hp q.s.hp := by
  unfold kmg
  split
  · obtain ⟨q, hq, h1, h2⟩ := mergeR_mem (List.mem_map.2 ⟨r, h, rfl⟩ : clean lo (maxNx _) r ∈ List.map (clean lo (maxNx _)) _)
    refine ⟨q, hq, h1, ?_⟩
    rw [h2]
    exact sweep_dead _ _ _
  · exact ⟨r, h, rfl, fun b => .inl rfl⟩

theorem HR.grown {ρ : Ren} {w0 w w' : World} {hp : T KO} (h : HR ρ w0 hp w) (hb : Below w.heap.size w w') : HR ρ w0 hp w' := by
  refine ⟨h.below.trans (hb.mono h.below.size), fun b B m hb' => ?_, h.low, h.inj⟩
  obtain ⟨o, obj, h1, h2, h3⟩ := h.dom b B m hb'
  exact ⟨o, obj, h1, by rw [hb.block B (h.lt hb')]; exact h2, h3⟩
theorem call_sound (hE : EnvOk E) {ih : Run} (hih : Sound E ih) {f : FuncId} {args : List KV} {hp : T KO} {nx : Nat} {rs : List Res} (hk : body E ih (.call f args hp nx) = some rs) : TaskOk E (.call f args hp nx) rs := by
  simp only [body] at hk
  split at hk
  · rename_i e he
    split at hk
    · rename_i v hv
      cases hk
      obtain ⟨h1, h2⟩ := hE.ents f e he
      refine ⟨h1, fun ρ w0 N vs w hvs hh => ?_⟩
      refine ((callsIn_wide.2 (h2 _ _ hv ρ vs w hvs)).mono ?_)
      rintro x w' ⟨u, rfl, hu, hb⟩
      exact ⟨_, List.mem_singleton.2 rfl, ρ, u, rfl, .refl _, hu, hh.grown hb⟩
    · cases hk
  split at hk
  · rename_i fn hf
    split at hk
    · rename_i c hb
      obtain ⟨hn, hk⟩ := bifS hk
      have hn' : (fn.name == "runtime.NumGoroutine") = false := by simpa using hn
      refine ⟨callFunc_enter hf hb hn', fun ρ w0 N vs w hv hh => ?_⟩
      split at hk
      · rename_i rs1 hk1
        obtain ⟨rs0, hk0, rfl⟩ := Option.map_eq_some_iff.1 hk
        refine callsIn_of_wp_marks hf hb trivial ?_
        refine hih _ _ hk1 ρ w0 Fence.wide N { tmps := vs.toArray ++ Array.replicate (fn.ntmps - vs.toArray.size) undef, defers := [] } w rfl ⟨args_TR hv fn.ntmps, trivial, hh⟩ _ (fun r hr ρ' a' w' he h => ?_)
        obtain ⟨bs, hbs, hmem⟩ := bindL_some hk0 r hr
        have fin : ∀ {bs : List Res}, (match kshut r.s.df r.s.hp with
              | some hp' => match kresult E.P { r.s with hp := hp' } fn.results.toList with
                | some vs => some [⟨.ret, one vs, { r.s with hp := hp' }⟩]
                | none => none
              | none => none) = some bs → (∀ b ∈ bs, b ∈ rs0) → LeavesInM Fence.wide N E.P fn a'.tmps (CallEnd ρ w0 (kmg nx rs0)) a'.defers .returning w' := by
          intro bs hbs hmem
          split at hbs
          · rename_i hp' hsh
            split at hbs
            · rename_i xs hxs
              cases hbs
              exact leaves hsh h.2.1 h.1 h.2.2 hxs (fun w2 v k1 k2 => by
                obtain ⟨q, hq, e1, e2⟩ := kmg_mem (lo := nx) (hmem _ (List.mem_singleton.2 rfl))
                exact ⟨q, hq, ρ', v, rfl, he, by rw [e1]; exact k1, k2.deaden e2⟩)
            · cases hbs
          · cases hbs
        cases hex : r.ex with
        | normal => rw [hex] at hbs; exact fin hbs hmem
        | ret => rw [hex] at hbs; exact fin hbs hmem
        | exit id => rw [hex] at hbs; cases hbs
      · cases hk
    · cases hk
  · cases hk
end Go.KX
