/-
  Code; the executor is sound; what it gives for closed code.
-/
import Derived.Test.YtcdofkflbnpjjaaDoorK20
set_option linter.unusedVariables false
set_option linter.unusedSimpArgs false
set_option maxRecDepth 20000
namespace Go.KX
open Go.RowKit (Below)
variable {E : Env} {ρ : Ren} {w0 w : World} {hp : T KO}

theorem rangeFunc_sound {ih : Run} (hih : Sound E ih) {rd : Option Nat} {n : Nat} {f : Operand} {ps : Array Tmp} {assign b : Code} {s : KS} {rs : List Res} (hk : body E ih (.code rd n (.rangeFunc f ps assign b) s) = some rs) : TaskOk E (.code rd n (.rangeFunc f ps assign b) s) rs := by
  simp only [body] at hk
  intro ρ w0 F N a w hF h Q hQ
  split at hk
  · rename_i d g first caps hd hf
    obtain ⟨hfr, hk⟩ := bifS hk
    simp only [Bool.and_eq_true] at hfr
    have hf0 := fresh_spec hfr.1
    have hf1 := fresh_spec hfr.2
    split at hk
    · rename_i rs1 hk1
      have hv : VR ρ (.fn g first caps) (a.eval f) := kopd_sound h.1 hf
      generalize hfe : a.eval f = fe at hv
      cases hv with | fn _ _ _ as bs v1 v2 v3 v4 =>
      obtain ⟨henter, hcall⟩ := hih _ _ hk1
      refine wpIn_rangeFunc (fun fnid _ => ?_)
      -- the call, whatever has been laid
      have key : ∀ (l : Nat) (mark : List Deferred) (w1 : World) (ρ1 : Ren) (m1 : Nat), (Instr.enterLoop fnid a.tmps ps assign b F.round).run E.P w = .ok (l, mark) w1 → Ext ρ ρ1 → ρ1 (s.nx + 1) = some (l, m1) →
          HR ρ1 w0 ((khp rd s).set (s.nx + 1) (.loop .ready s.tm n ps.toList assign b d)) w1 →
          DR ρ1 (kdf rd s) (mark ++ a.defers) →
          ∃ (l : Nat) (mark : List Deferred) (w₁ : World) (d : Deferred) (w₁' : World) (f_1 : FuncId) (args : Array Value) (w₂ : World),
            (Instr.enterLoop fnid a.tmps ps assign b F.round).run E.P w = .ok (l, mark) w₁ ∧ (resolve a.eval (rangeCall f l) 0).run E.P w₁ = .ok d w₁' ∧ (∀ f', Target.leads E.P w₁' d.target d.args = some f' → F.fn f') ∧
            (invoke d.target d.args).run E.P w₁' = .ok (.enter f_1 args) w₂ ∧ (F.depth.isSome = true → 1 ≤ N) ∧ CallsIn F (N - 1) E.P f_1 args w₂ (rangePost F N E.P l Q { a with defers := mark ++ a.defers }) := by
        intro l mark w1 ρ1 m1 hent he1 hl hh1 hdr
        have hargs : VRs ρ1 (first ++ [.yld (s.nx + 1)] ++ caps) (as.toList ++ [.func (.yield l) #[] #[]] ++ bs.toList) := ((VRs.mono he1 ⟨v1, v2⟩).append (.cons (.yld _ l m1 hl) .nil)).append (VRs.mono he1 ⟨v3, v4⟩)
        have harr : (as.toList ++ [Value.func (.yield l) #[] #[]] ++ bs.toList).toArray = (as ++ #[.func (.yield l) #[] #[]]) ++ bs := Array.ext' (by simp)
        refine ⟨l, mark, w1, { target := .fn (.func g) bs, args := as ++ #[.func (.yield l) #[] #[]] }, w1, g, (as ++ #[.func (.yield l) #[] #[]]) ++ bs, w1, hent, ?_, fun f' _ => hF.wd.fn f', ?_, hF.wd.depth, ?_⟩
        · simp only [resolve, hfe, Deferred.ofValue, Sem.run_bind, Sem.run_pure, Result.andThen_ok]
          simp [Act.eval]
        · simp only [invoke]; exact henter _ _
        · have hc := hcall ρ1 w0 (N - 1) _ w1 hargs hh1
          rw [harr] at hc
          refine (hF.wd.calls hc).mono ?_
          rintro e w2 ⟨r, hr, ρ2, v, rfl, he2, hv2, hh2⟩
          obtain ⟨cs, hcs, hmem⟩ := bindL_some hk r hr
          unfold krangeEnd at hcs
          split at hcs
          · rename_i tm2 n2 ps2 a2 b2 d2 hget
            cases hcs
            have hl2 := he2 _ _ hl
            obtain ⟨f2, tms2, D2, m2, hobj, hD2, ht2⟩ := loop_obj hh2 hl2 hget
            refine ⟨none, _, run_endLoop hobj (by simp), ?_⟩
            have hh3 : HR ρ2 w0 (r.s.hp.set (s.nx + 1) .dead) (w2.putObj l (.loop { state := .exhausted, pending := none, fn := f2, tmps := tms2, params := ps2.toArray, assign := a2, body := b2, defers := D2 })) := hh2.putObj hl2 (by rw [hget]; simp) trivial
            exact hQ _ (hmem _ (List.mem_singleton.2 rfl)) ρ2 _ _ (he1.trans he2) ⟨h.1.mono (he1.trans he2), hdr.mono he2, hh3⟩
          · cases hcs
      cases rd with
      | none =>
        have hFw : F = Fence.wide := hF
        subst hFw
        simp only [kdefers, Option.some.injEq] at hd
        subst hd
        obtain ⟨g1, g2⟩ := h.2.2.new (b := s.nx) (m := 0) hf0 (o := .defd true) (obj := .deferred (some [])) rfl
        have hf1' : (s.hp.set s.nx (.defd true)).get (s.nx + 1) = none := by rw [T.get_set, if_neg (by omega)]; exact hf1
        have hEx : Ext (ρ.upd s.nx (w.heap.size, 0)) ((ρ.upd s.nx (w.heap.size, 0)).upd (s.nx + 1) ((w.alloc (.deferred (some []))).heap.size, 0)) := Ren.ext_upd (g1.none hf1')
        obtain ⟨g3, g4⟩ := g1.new (b := s.nx + 1) (m := 0) hf1' (o := .loop .ready s.tm n ps.toList assign b s.nx) (obj := .loop { state := .ready, pending := none, fn := fnid, tmps := a.tmps, params := ps, assign := assign, body := b, defers := w.heap.size })
          ⟨fnid, a.tmps, w.heap.size, 0, by simp, hEx _ _ (Ren.upd_same _ _), h.1.mono (g2.trans hEx)⟩
        refine key (w.heap.size + 1) [{ target := .collected w.heap.size, args := #[] }] _ _ 0 (run_enterLoop_outer fnid a.tmps ps assign b) (g2.trans g4) ?_ g3 ?_
        · have : (w.alloc (.deferred (some []))).heap.size = w.heap.size + 1 := World.size_alloc _ _
          rw [← this]; exact Ren.upd_same _ _
        · exact ⟨⟨w.heap.size, 0, hEx _ _ (Ren.upd_same _ _), rfl⟩, h.2.1.mono (g2.trans g4)⟩
      | some l0 =>
        obtain ⟨L0, m0, hL0, rfl⟩ := hF
        simp only [kdefers] at hd
        split at hd
        · rename_i st0 tm0 n0 ps0 a0 b0 d0 ho0
          cases hd
          obtain ⟨f0, tms0, D0, md, hobj0, hD0, ht0⟩ := loop_obj h.2.2 hL0 ho0
          have hEx : Ext ρ (ρ.upd (s.nx + 1) (w.heap.size, 0)) := Ren.ext_upd (h.2.2.none hf1)
          obtain ⟨g3, g4⟩ := h.2.2.new (b := s.nx + 1) (m := 0) hf1 (o := .loop .ready s.tm n ps.toList assign b d) (obj := .loop { state := .ready, pending := none, fn := fnid, tmps := a.tmps, params := ps, assign := assign, body := b, defers := D0 })
            ⟨fnid, a.tmps, D0, md, by simp, hEx _ _ hD0, h.1.mono hEx⟩
          exact key w.heap.size [] _ _ 0 (run_enterLoop_inner hobj0 fnid a.tmps ps assign b) g4 (Ren.upd_same _ _) g3 (h.2.1.mono g4)
        · cases hd
    · cases hk
  · cases hk

theorem code_sound (hE : EnvOk E) {ih : Run} (hih : Sound E ih) {rd : Option Nat} {n : Nat} {c : Code} {s : KS} {rs : List Res} (hl : ∀ a, c ≠ .loop a) (hk : body E ih (.code rd n c s) = some rs) : TaskOk E (.code rd n c s) rs := by
  cases c with
  | rangeFunc f ps assign b => exact rangeFunc_sound hih hk
  | loop a => exact absurd rfl (hl a)
  | skip =>
    simp only [body, Option.some.injEq] at hk; subst hk
    intro ρ w0 F N a w hF h Q hQ
    exact wpIn_skip (hQ _ (List.mem_singleton.2 rfl) ρ a w (.refl _) h)
  | label l =>
    simp only [body, Option.some.injEq] at hk; subst hk
    intro ρ w0 F N a w hF h Q hQ
    exact wpIn_label (hQ _ (List.mem_singleton.2 rfl) ρ a w (.refl _) h)
  | exit id =>
    simp only [body, Option.some.injEq] at hk; subst hk
    intro ρ w0 F N a w hF h Q hQ
    exact wpIn_exit (hQ _ (List.mem_singleton.2 rfl) ρ a w (.refl _) h)
  | ret =>
    simp only [body, Option.some.injEq] at hk; subst hk
    intro ρ w0 F N a w hF h Q hQ
    exact wpIn_ret (hQ _ (List.mem_singleton.2 rfl) ρ a w (.refl _) h)
  | region id ops draw =>
    simp only [body] at hk
    intro ρ w0 F N a w hF h Q hQ
    cases hr : kregion E ih n ops draw s with
    | none => rw [hr] at hk; cases hk
    | some ss =>
      rw [hr] at hk
      simp only [Option.map_some, Option.some.injEq] at hk; subst hk
      exact kregion_sound hE hih hr h hF.wd (fun s' hs' ρ' a' w' k1 k2 => hQ ⟨.normal, .tup [], s'⟩ (List.mem_map.2 ⟨s', hs', rfl⟩) ρ' a' w' k1 k2)
  | seq x y =>
    simp only [body] at hk
    intro ρ w0 F N a w hF h Q hQ
    split at hk
    · rename_i rs1 hk1
      refine wpIn_seq (hih _ _ hk1 ρ w0 F N a w hF h _ (fun r hr ρ1 a1 w1 he1 h1 => ?_))
      obtain ⟨bs, hbs, hmem⟩ := bindL_some hk r hr
      cases hex : r.ex with
      | normal =>
        rw [hex] at hbs
        simp only at hbs
        exact hih _ _ hbs ρ1 w0 F N a1 w1 (hF.mono he1) h1 _ (fun r2 hr2 ρ2 a2 w2 he2 h2 => hQ r2 (hmem r2 hr2) ρ2 a2 w2 (he1.trans he2) h2)
      | exit id =>
        rw [hex] at hbs
        simp only [Option.some.injEq] at hbs; subst hbs
        have := hQ r (hmem r (List.mem_singleton.2 rfl)) ρ1 a1 w1 he1 h1
        rw [hex] at this; exact this
      | ret =>
        rw [hex] at hbs
        simp only [Option.some.injEq] at hbs; subst hbs
        have := hQ r (hmem r (List.mem_singleton.2 rfl)) ρ1 a1 w1 he1 h1
        rw [hex] at this; exact this
    · cases hk
  | cond x y z =>
    simp only [body] at hk
    intro ρ w0 F N a w hF h Q hQ
    split at hk
    · rename_i t ht
      have hv : VR ρ (.bool t) (a.eval x) := kopd_sound h.1 ht
      have he : a.eval x = .bool t := by
        generalize a.eval x = v at hv
        cases hv; rfl
      refine wpIn_cond he ?_
      cases t
      · exact hih _ _ hk ρ w0 F N a w hF h Q hQ
      · exact hih _ _ hk ρ w0 F N a w hF h Q hQ
    · cases hk
  | block id x =>
    simp only [body] at hk
    intro ρ w0 F N a w hF h Q hQ
    split at hk
    · rename_i rs1 hk1
      simp only [Option.some.injEq] at hk
      refine wpIn_block (hih _ _ hk1 ρ w0 F N a w hF h _ (fun r hr ρ1 a1 w1 he1 h1 => ?_))
      have hm : kblk id r ∈ rs := by rw [← hk]; exact List.mem_map.2 ⟨r, hr, rfl⟩
      unfold kblk at hm
      cases hex : r.ex with
      | normal =>
        simp only [hex] at hm
        have := hQ _ hm ρ1 a1 w1 he1 h1
        rw [hex] at this; exact this
      | ret =>
        simp only [hex] at hm
        have := hQ _ hm ρ1 a1 w1 he1 h1
        rw [hex] at this; exact this
      | exit i =>
        simp only [hex] at hm
        simp only [exQ, Exit.inBlock]
        by_cases e : i = id
        · rw [if_pos e] at hm ⊢
          exact hQ _ hm ρ1 a1 w1 he1 h1
        · rw [if_neg e] at hm ⊢
          have := hQ _ hm ρ1 a1 w1 he1 h1
          rw [hex] at this; exact this
    · cases hk
  | scope x => simp [body] at hk
  | goto l => simp [body] at hk
  | refuse m => simp [body] at hk

theorem run_sound (hE : EnvOk E) : ∀ f, Sound E (run E f) := by
  intro f
  induction f using Nat.strongRecOn with
  | _ f ih =>
    cases f with
    | zero => intro t rs h; exact absurd h (by simp [run])
    | succ f =>
      intro t rs h
      cases t with
      | code rd n c s =>
        by_cases hl : ∃ a, c = .loop a
        · obtain ⟨a, rfl⟩ := hl
          exact loop_sound (fun j hj => ih j hj) h
        · rw [run_succ] at h
          exact code_sound hE (ih f (by omega)) (fun a e => hl ⟨a, e⟩) h
      | call g args hp nx => rw [run_succ] at h; exact call_sound hE (ih f (by omega)) h
      | round l args hp nx => rw [run_succ] at h; exact round_sound (ih f (by omega)) h

/-- a call without arguments, in whatever world -/
theorem closed_calls (hE : EnvOk E) {f : FuncId} {fuel nx : Nat} {p : KV → Bool} (h : (match run E fuel (.call f [] .e nx) with | some rs => rs.all fun r => p r.v | none => false) = true) (w : World) :
    Calls E.P f #[] w fun e w' => ∃ (ρ : Ren) (k : KV) (v : Value), p k = true ∧ e = .returned v ∧ VR ρ k v ∧ Below w.heap.size w w' := by
  cases hr : run E fuel (.call f [] .e nx) with
  | none => rw [hr] at h; cases h
  | some rs =>
    rw [hr] at h
    have hs := (run_sound hE fuel _ _ hr).2 (fun _ => none) w 0 [] w VRs.nil ⟨Below.refl _ _, fun b B m e => by (cases e), fun b B m e => by (cases e), fun b b' B m m' e => by (cases e)⟩
    refine callsIn_wide.1 (hs.mono ?_)
    rintro e w' ⟨r, hr, ρ', v, rfl, _, hv, hh⟩
    exact ⟨ρ', r.v, v, List.all_eq_true.1 h r hr, rfl, hv, hh.below⟩

def isTrue (v : KV) : Bool := match v with | .bool b => b | _ => false

/-- .. that returns true -/
theorem closed_true (hE : EnvOk E) {f : FuncId} {fuel nx : Nat} (h : (match run E fuel (.call f [] .e nx) with | some rs => rs.all fun r => isTrue r.v | none => false) = true) (w : World) :
    Calls E.P f #[] w fun e w' => e = .returned (.bool true) ∧ Below w.heap.size w w' := by
  have := closed_calls hE h w
  intro cs
  obtain ⟨e, w', fr, ⟨ρ, k, v, h1, h2, h3, h4⟩, rest⟩ := this cs
  refine ⟨e, w', fr, ⟨?_, h4⟩, rest⟩
  rw [h2]
  cases k <;> simp [isTrue] at h1
  subst h1
  cases h3
  rfl
end Go.KX
