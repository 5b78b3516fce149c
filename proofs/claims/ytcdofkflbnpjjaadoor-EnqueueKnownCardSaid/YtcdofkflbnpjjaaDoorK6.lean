/-
  The executor's operations that leave the blocks alone: literals, slices, maps read.
-/
import Derived.Test.YtcdofkflbnpjjaaDoorK5
set_option linter.unusedVariables false
set_option linter.unusedSimpArgs false
namespace Go.KX
open Go.RowKit (Below)
variable {P : Program} {F : List TypeId} {ρ : Ren} {w0 w : World} {hp : T KO}

theorem omap_get {α β : Type} {f : α → Option β} : ∀ {l : List α} {xs : List β}, omap f l = some xs → xs.length = l.length ∧ ∀ (i : Nat) (a : α), l[i]? = some a → ∃ b, f a = some b ∧ xs[i]? = some b
  | [], xs, h => by simp only [omap, Option.some.injEq] at h; subst h; exact ⟨rfl, fun i a h => by simp at h⟩
  | a :: l, xs, h => by
    simp only [omap] at h
    split at h
    · rename_i b hb
      split at h
      · rename_i bs hbs
        simp only [Option.some.injEq] at h; subst h
        obtain ⟨h1, h2⟩ := omap_get hbs
        refine ⟨by simp [h1], fun i x hx => ?_⟩
        cases i with
        | zero => simp at hx; subst hx; exact ⟨b, hb, rfl⟩
        | succ i => obtain ⟨c, hc, hg⟩ := h2 i x (by simpa using hx); exact ⟨c, hc, by simpa using hg⟩
      · cases h
    · cases h

theorem mapM_run {α β : Type} (f : α → Sem β) : ∀ (l : List α) (ys : List β), ys.length = l.length → (∀ (i : Nat) (a : α) (b : β), l[i]? = some a → ys[i]? = some b → (f a).run P w = .ok b w) → (l.mapM f).run P w = .ok ys w
  | [], [], _, _ => rfl
  | a :: l, b :: ys, hl, h => by
    have ih := mapM_run f l ys (by simpa using hl) (fun i x y hx hy => h (i + 1) x y (by simpa using hx) (by simpa using hy))
    rw [List.mapM_cons]
    simp only [Sem.run_bind, h 0 a b rfl rfl, Result.andThen_ok, ih, Sem.run_pure]
  | [], _ :: _, hl, _ => by simp at hl
  | _ :: _, [], hl, _ => by simp at hl

theorem kbuild_sound {t : TypeId} {ps : List (Nat × KV)} {vs : Array (Nat × Value)} {r : KV} (hl : ps.length = vs.toList.length) (hv : ∀ (i : Nat) (p : Nat × KV) (v : Nat × Value), ps[i]? = some p → vs.toList[i]? = some v → p.1 = v.1 ∧ VR ρ p.2 v.2)
    (hk : kbuild P t ps = some r) : ∃ u, (Instr.build t vs).run P w = .ok u w ∧ VR ρ r u := by
  unfold kbuild at hk
  split at hk
  · rename_i z hz
    obtain ⟨vz, hrz, hvz⟩ := tzero_spec (ρ := ρ) (w := w) hz
    split at hk
    · rename_i fs hd
      split at hk
      · rename_i places hpl
        obtain ⟨g1, g2⟩ := omap_get hpl
        cases hf : kfill (lget places) z.cells ps with
        | none => rw [hf] at hk; cases hk
        | some cs =>
          rw [hf] at hk; simp only [Option.map_some, Option.some.injEq] at hk; subst hk
          have hm : (fs.mapM (fun f : Field => do pure (f.offset, ← sizeOf f.type) : Field → Sem (Nat × Nat))).run P w = .ok places.toArray w := by
            rw [Array.mapM_eq_mapM_toList]
            have := mapM_run (P := P) (w := w) (fun f : Field => (do pure (f.offset, ← sizeOf f.type) : Sem (Nat × Nat))) fs.toList places g1 (fun i f b hf hb => by
              obtain ⟨c, hc, hg⟩ := g2 i f hf
              rw [hb] at hg; simp only [Option.some.injEq] at hg; subst hg
              cases hs : tsz P f.type with
              | none => simp [hs] at hc
              | some n =>
                simp only [hs, Option.map_some, Option.some.injEq] at hc; subst hc
                obtain ⟨_, _, _, hr⟩ := tsz_spec (w := w) hs
                simp only [Sem.run_bind, hr, Result.andThen_ok, Sem.run_pure])
            simp only [Sem.run_map, this]
            rfl
          obtain ⟨us', hfl, hr⟩ := kfill_sound (ρ := ρ) (place' := fun i => places.toArray[i]?) (fun i x hx => by rw [lget_eq] at hx; simpa using hx) hl hv hvz.cells hf
          refine ⟨.agg us'.toArray, ?_, VR.agg' hr⟩
          have hcz : vz.cells.toList.toArray = vz.cells := by simp
          rw [hcz] at hfl
          simp only [Instr.build, Sem.run_bind, hrz, Result.andThen_ok, run_underlying hd, hm, hfl, Sem.run_pure]
      · cases hk
    · rename_i n e hd
      split at hk
      · rename_i sz hs
        cases hf : kfill (fun i => some (i * sz, sz)) z.cells ps with
        | none => rw [hf] at hk; cases hk
        | some cs =>
          rw [hf] at hk; simp only [Option.map_some, Option.some.injEq] at hk; subst hk
          obtain ⟨_, _, _, hrs⟩ := tsz_spec (w := w) hs
          obtain ⟨us', hfl, hr⟩ := kfill_sound (ρ := ρ) (place' := fun i => some (i * sz, sz)) (fun i x hx => hx) hl hv hvz.cells hf
          refine ⟨.agg us'.toArray, ?_, VR.agg' hr⟩
          have hcz : vz.cells.toList.toArray = vz.cells := by simp
          rw [hcz] at hfl
          simp only [Instr.build, Sem.run_bind, hrz, Result.andThen_ok, run_underlying hd, hrs, hfl, Sem.run_pure]
      · cases hk
    · cases hk
  · cases hk

/-! ## Slices -/
inductive OVR (ρ : Ren) : Option KV → Option Value → Prop
  | none : OVR ρ none none
  | some {x : KV} {v : Value} : VR ρ x v → OVR ρ (some x) (some v)

theorem kbound_sound {x : KV} {v : Value} {d lim L r : Nat} (code : BoundsCode) (hx : VR ρ x v) (hL : lim ≤ L) (h : kbound (some x) d lim = some r) : (Instr.sliceBound v L code).run P w = .ok r w ∧ r ≤ lim := by
  unfold kbound at h
  split at h
  · rename_i hn; cases hn
  · rename_i k i hn
    simp only [Option.some.injEq] at hn; subst hn
    cases hx
    obtain ⟨hc, h⟩ := bifS h
    cases h
    simp only [Bool.and_eq_true, decide_eq_true_eq] at hc
    have hc' : 0 ≤ i ∧ i ≤ (L : Int) := by omega
    exact ⟨by simp only [Instr.sliceBound, asIntOf, Sem.run_bind, Sem.run_pure, Result.andThen_ok, if_pos hc'], by omega⟩
  · cases h

theorem kbounds_sound {len cap C l h m : Nat} {lo hi mx : Option KV} {vl vh vm : Option Value} (isS : Bool) (hl : OVR ρ lo vl) (hh : OVR ρ hi vh) (hm : OVR ρ mx vm) (hC : cap ≤ C) (hk : kbounds len cap lo hi mx = some (l, h, m)) :
    ∃ M, (Instr.sliceBounds isS len C vl vh vm).run P w = .ok (l, h, M) w ∧ l ≤ h ∧ (mx = none → M = C ∧ m = cap) ∧ (mx ≠ none → M = m ∧ m ≤ cap) ∧ (hi ≠ none → h ≤ m) ∧ (hi = none → h = len) := by
  unfold kbounds at hk
  split at hk
  · rename_i m' hm'
    split at hk
    · rename_i h' hh'
      split at hk
      · rename_i l' hl'
        simp only [Option.some.injEq, Prod.mk.injEq] at hk
        obtain ⟨rfl, rfl, rfl⟩ := hk
        cases hm with
        | none =>
          simp only [kbound, Option.some.injEq] at hm'; subst hm'
          cases hh with
          | none =>
            simp only [kbound, Option.some.injEq] at hh'; subst hh'
            cases hl with
            | none =>
              simp only [kbound, Option.some.injEq] at hl'; subst hl'
              exact ⟨C, by simp only [Instr.sliceBounds, Sem.run_bind, Sem.run_pure, Result.andThen_ok], Nat.zero_le _, fun _ => ⟨rfl, rfl⟩, fun e => absurd rfl e, fun e => absurd rfl e, fun _ => rfl⟩
            | some hx =>
              obtain ⟨a1, a2⟩ := kbound_sound (P := P) (w := w) (BoundsCode.sliceB) hx (Nat.le_refl _) hl'
              exact ⟨C, by simp only [Instr.sliceBounds, Sem.run_bind, Sem.run_pure, Result.andThen_ok, Option.isSome_none, Bool.false_eq_true, if_false, a1], a2, fun _ => ⟨rfl, rfl⟩, fun e => absurd rfl e, fun e => absurd rfl e, fun _ => rfl⟩
          | some hy =>
            obtain ⟨b1, b2⟩ := kbound_sound (P := P) (w := w) (if isS then BoundsCode.sliceAcap else .sliceAlen) hy hC hh'
            cases hl with
            | none =>
              simp only [kbound, Option.some.injEq] at hl'; subst hl'
              exact ⟨C, by simp only [Instr.sliceBounds, Sem.run_bind, Sem.run_pure, Result.andThen_ok, b1], Nat.zero_le _, fun _ => ⟨rfl, rfl⟩, fun e => absurd rfl e, fun _ => b2, fun e => by cases e⟩
            | some hx =>
              obtain ⟨a1, a2⟩ := kbound_sound (P := P) (w := w) (BoundsCode.sliceB) hx (Nat.le_refl _) hl'
              exact ⟨C, by simp only [Instr.sliceBounds, Sem.run_bind, Sem.run_pure, Result.andThen_ok, Option.isSome_none, Bool.false_eq_true, if_false, a1, b1], a2, fun _ => ⟨rfl, rfl⟩, fun e => absurd rfl e, fun _ => b2, fun e => by cases e⟩
        | some hz =>
          obtain ⟨c1, c2⟩ := kbound_sound (P := P) (w := w) (if isS then BoundsCode.slice3Acap else .slice3Alen) hz hC hm'
          cases hh with
          | none => cases hh'
          | some hy =>
            obtain ⟨b1, b2⟩ := kbound_sound (P := P) (w := w) BoundsCode.slice3B hy (Nat.le_refl _) hh'
            cases hl with
            | none =>
              simp only [kbound, Option.some.injEq] at hl'; subst hl'
              exact ⟨m', by simp only [Instr.sliceBounds, Sem.run_bind, Sem.run_pure, Result.andThen_ok, b1, c1], Nat.zero_le _, fun e => by (cases e), fun _ => ⟨rfl, c2⟩, fun _ => b2, fun e => by cases e⟩
            | some hx =>
              obtain ⟨a1, a2⟩ := kbound_sound (P := P) (w := w) (BoundsCode.slice3C) hx (Nat.le_refl _) hl'
              exact ⟨m', by simp only [Instr.sliceBounds, Sem.run_bind, Sem.run_pure, Result.andThen_ok, Option.isSome_some, if_true, a1, b1, c1], a2, fun e => by (cases e), fun _ => ⟨rfl, c2⟩, fun _ => b2, fun e => by cases e⟩
      · cases hk
    · cases hk
  · cases hk

theorem sliceAt_slice {t e : TypeId} (hd : P.underlying t = some (.slice e)) {a : Option Addr} {len cap l h m : Nat} {vl vh vm : Option Value} (hb : (Instr.sliceBounds true len cap vl vh vm).run P w = .ok (l, h, m) w) {sz : Nat} (hs : (sizeOf e).run P w = .ok sz w) :
    (Instr.sliceAt t (.slice a len cap) vl vh vm).run P w = .ok (.slice (if m = l then a else a.map (·.add (l * sz))) (h - l) (m - l)) w := by
  simp only [Instr.sliceAt, Instr.slice, Sem.run_bind, run_underlying hd, Result.andThen_ok, hb, hs, Sem.run_pure]

theorem kslice_sound {t : TypeId} {x r : KV} {lo hi mx : Option KV} {vx : Value} {vl vh vm : Option Value} (hx : VR ρ x vx) (hl : OVR ρ lo vl) (hh : OVR ρ hi vh) (hm : OVR ρ mx vm) (hk : kslice P hp t x lo hi mx = some r) :
    ∃ u, (Instr.sliceAt t vx vl vh vm).run P w = .ok u w ∧ VR ρ r u := by
  unfold kslice at hk
  split at hk
  · -- strings
    rename_i s hd
    split at hk
    · cases hk
    · split at hk
      · rename_i l h m hb
        cases hk
        cases hx with | str _ vs hvs =>
        cases hm
        have hsz : vs.size = s.length := by rw [← hvs]; simp
        obtain ⟨M, hrun, h1, h3, h4, h5, h6⟩ := kbounds_sound (P := P) (w := w) (C := s.length) false hl hh .none (Nat.le_refl _) hb
        refine ⟨.string (vs.extract l h), ?_, .str _ _ ?_⟩
        · simp only [Instr.sliceAt, Instr.slice, Sem.run_bind, run_underlying hd, Result.andThen_ok, Option.isSome_none, Bool.false_eq_true, if_false, hsz, hrun, Sem.run_pure]
        · rw [← hvs]; simp [ByteArray.data_extract]
      · cases hk
  · -- a slice whose capacity is known
    rename_i e b off len cap hd
    split at hk
    · rename_i l h m sz hb hs
      cases hk
      cases hx with | sl _ _ _ _ B m0 hB hlc =>
      obtain ⟨M, hrun, h1, h3, h4, h5, h6⟩ := kbounds_sound (P := P) (w := w) (C := cap) true hl hh hm (Nat.le_refl _) hb
      have hM : M = m := by
        by_cases e : mx = none
        · rw [(h3 e).1, (h3 e).2]
        · exact (h4 e).1
      subst hM
      have hhm : h ≤ M := by
        by_cases e : hi = none
        · have e2 : mx = none := by
            cases mx with
            | none => rfl
            | some y => exfalso; subst e; unfold kbounds at hb; split at hb <;> simp at hb
          rw [h6 e, (h3 e2).1]; exact hlc
        · exact h5 e
      obtain ⟨_, _, _, hrs⟩ := tsz_spec (w := w) hs
      refine ⟨_, sliceAt_slice hd hrun hrs, ?_⟩
      by_cases e : M = l
      · subst e; simp only [Nat.beq_refl, cond_true, if_true]; exact .sl _ _ _ _ B m0 hB (by omega)
      · simp only [beqF e, cond_false, if_neg e, Option.map_some, Addr.add_lit]; exact .sl _ _ _ _ B m0 hB (by omega)
    · cases hk
  · -- a slice whose capacity is not
    rename_i e b off len sz kc hd
    split at hk
    · rename_i z hz
      obtain ⟨hzs, hk⟩ := bifS hk
      obtain rfl := beqT hzs
      cases hx with | slo b off len z kc B m0 c hB hle hkc hcm =>
      obtain ⟨_, _, _, hrs⟩ := tsz_spec (w := w) hz
      split at hk
      · rename_i mx' y
        split at hk
        · rename_i l h m hb
          cases hk
          obtain ⟨M, hrun, h1, h3, h4, h5, h6⟩ := kbounds_sound (P := P) (w := w) (C := c) true hl hh hm hkc hb
          obtain ⟨rfl, hml⟩ := h4 (by simp)
          have hhm : h ≤ M := by
            by_cases e : hi = none
            · exfalso; subst e; unfold kbounds at hb; split at hb <;> simp at hb
            · exact h5 e
          refine ⟨_, sliceAt_slice hd hrun hrs, ?_⟩
          by_cases e : M = l
          · subst e; simp only [Nat.beq_refl, cond_true, if_true]; exact .sl _ _ _ _ B m0 hB (by omega)
          · simp only [beqF e, cond_false, if_neg e, Option.map_some, Addr.add_lit]; exact .sl _ _ _ _ B m0 hB (by omega)
        · cases hk
      · split at hk
        · rename_i l h m hb
          obtain ⟨M, hrun, h1, h3, h4, h5, h6⟩ := kbounds_sound (P := P) (w := w) (C := c) true hl hh hm hkc hb
          obtain ⟨rfl, hml⟩ := h3 rfl
          cases hlt : (Nat.blt l kc || Nat.beq l 0) with
          | false =>
            rw [hlt] at hk
            obtain ⟨hhl, hk⟩ := bifS hk
            cases hk
            obtain rfl := beqT hhl
            refine ⟨_, sliceAt_slice hd hrun hrs, ?_⟩
            rw [Nat.sub_self]
            by_cases e : M = h
            · simp only [if_pos e]; exact .slz _ _
            · simp only [if_neg e, Option.map_some]; exact .slz _ _
          | true =>
          rw [hlt] at hk
          simp only [cond_true, Option.some.injEq] at hk
          subst hk
          have hhl : h ≤ kc := by
            by_cases e : hi = none
            · rw [h6 e]; exact hle
            · have := h5 e; omega
          have hll : l < kc ∨ l = 0 := by
            simp only [Bool.or_eq_true] at hlt
            rcases hlt with h | h
            · exact .inl (bleT h)
            · exact .inr (beqT h)
          refine ⟨_, sliceAt_slice hd hrun hrs, ?_⟩
          have hmul : (M - l) * z + l * z = M * z := by rw [← Nat.add_mul, Nat.sub_add_cancel (by omega)]
          by_cases e : M = l
          · have hl0 : l = 0 := by omega
            subst e
            subst hl0
            simp only [if_true, Nat.zero_mul, Nat.add_zero, Nat.sub_zero]
            exact .slo _ _ _ _ _ B m0 _ hB (by omega) (by omega) (by omega)
          · simp only [if_neg e, Option.map_some, Addr.add_lit]
            exact .slo _ _ _ _ _ B m0 _ hB (by omega) (by omega) (by omega)
        · cases hk
    · cases hk
  · -- nil
    rename_i e hd
    split at hk
    · rename_i q s0 hb hs0
      obtain ⟨l, h, m⟩ := q
      cases hk
      obtain ⟨_, _, _, hs⟩ := tsz_spec (w := w) hs0
      cases hx
      obtain ⟨M, hrun, h1, h3, h4, h5, h6⟩ := kbounds_sound (P := P) (w := w) (C := 0) true hl hh hm (Nat.le_refl _) hb
      have hM : M = m ∧ m = 0 := by
        by_cases e : mx = none
        · exact ⟨by rw [(h3 e).1, (h3 e).2], (h3 e).2⟩
        · have := h4 e; omega
      obtain ⟨rfl, rfl⟩ := hM
      have hh0 : h = 0 := by
        by_cases e : hi = none
        · exact h6 e
        · have := h5 e; omega
      subst hh0
      obtain rfl : l = 0 := by omega
      refine ⟨.slice none 0 0, ?_, .nilsl⟩
      simp only [Instr.sliceAt, Instr.slice, Sem.run_bind, run_underlying hd, Result.andThen_ok, hrun]
      simp only [hs, Result.andThen_ok, Sem.run_pure, Option.map_none, ite_self, Nat.sub_self]
    · cases hk
  · -- an array
    rename_i n e b off hd
    split at hk
    · rename_i l h m sz hb hs
      cases hk
      cases hx with | ptr _ _ B m0 hB =>
      obtain ⟨M, hrun, h1, h3, h4, h5, h6⟩ := kbounds_sound (P := P) (w := w) (C := n) false hl hh hm (Nat.le_refl _) hb
      have hM : M = m := by
        by_cases e : mx = none
        · rw [(h3 e).1, (h3 e).2]
        · exact (h4 e).1
      subst hM
      have hhm : h ≤ M := by
        by_cases e : hi = none
        · have e2 : mx = none := by
            cases mx with
            | none => rfl
            | some y => exfalso; subst e; unfold kbounds at hb; split at hb <;> simp at hb
          rw [h6 e, (h3 e2).1]; exact Nat.le_refl _
        · exact h5 e
      obtain ⟨_, _, _, hrs⟩ := tsz_spec (w := w) hs
      by_cases e : M = l
      · subst e
        refine ⟨.slice (some ⟨B, off, none⟩) (h - M) (M - M), ?_, ?_⟩
        · simp only [Instr.sliceAt, Sem.run_bind, run_underlying hd, Result.andThen_ok, Instr.sureAddr, Sem.run_pure, hrun, hrs, if_true]
        · simp only [Nat.beq_refl, cond_true]; exact .sl _ _ _ _ B m0 hB (by omega)
      · refine ⟨.slice (some ⟨B, off + l * sz, none⟩) (h - l) (M - l), ?_, ?_⟩
        · simp only [Instr.sliceAt, Sem.run_bind, run_underlying hd, Result.andThen_ok, Instr.sureAddr, Sem.run_pure, hrun, hrs, if_neg e, Addr.add_lit]
        · simp only [beqF e, cond_false]; exact .sl _ _ _ _ B m0 hB (by omega)
    · cases hk
  · cases hk

/-! ## Elements -/
theorem kindexAddr_sound {t : TypeId} {x i r : KV} {vx vi : Value} (hx : VR ρ x vx) (hi : VR ρ i vi) (hk : kindexAddr P t x i = some r) : ∃ u, (Instr.indexAt t vx vi).run P w = .ok u w ∧ VR ρ r u := by
  unfold kindexAddr at hk
  split at hk
  · rename_i e b off len cap q n hd
    cases hi
    split at hk
    · rename_i sz hs
      obtain ⟨hc, hk⟩ := bifS hk
      cases hk
      simp only [Bool.and_eq_true, decide_eq_true_eq] at hc
      obtain ⟨_, _, _, hrs⟩ := tsz_spec (w := w) hs
      cases hx with | sl _ _ _ _ B m0 hB _ =>
      refine ⟨_, ?_, .ptr b _ B m0 hB⟩
      simp [Instr.indexAt, asIntOf, run_underlying hd, hc, hrs, Addr.add_lit, Result.andThen]
    · cases hk
  · rename_i e b off len cap kc q n hd
    cases hi
    split at hk
    · rename_i sz hs
      obtain ⟨hc, hk⟩ := bifS hk
      cases hk
      simp only [Bool.and_eq_true, decide_eq_true_eq] at hc
      obtain ⟨_, _, _, hrs⟩ := tsz_spec (w := w) hs
      cases hx with | slo _ _ _ _ _ B m0 c hB _ _ _ =>
      refine ⟨_, ?_, .ptr b _ B m0 hB⟩
      simp [Instr.indexAt, asIntOf, run_underlying hd, hc, hrs, Addr.add_lit, Result.andThen]
    · cases hk
  · rename_i m e b off q n hd
    cases hi
    split at hk
    · rename_i sz hs
      obtain ⟨hc, hk⟩ := bifS hk
      cases hk
      simp only [Bool.and_eq_true, decide_eq_true_eq] at hc
      obtain ⟨_, _, _, hrs⟩ := tsz_spec (w := w) hs
      cases hx with | ptr _ _ B m0 hB =>
      refine ⟨_, ?_, .ptr b _ B m0 hB⟩
      simp [Instr.indexAt, Instr.sureAddr, asIntOf, run_underlying hd, hc, hrs, Addr.add_lit, Result.andThen]
    · cases hk
  · cases hk

theorem kindex_sound {t : TypeId} {x i r : KV} {vx vi : Value} (hx : VR ρ x vx) (hi : VR ρ i vi) (hk : kindex P t x i = some r) : ∃ u, (Instr.index t vx vi).run P w = .ok u w ∧ VR ρ r u := by
  unfold kindex at hk
  split at hk
  · rename_i s q n hd
    cases hi
    obtain ⟨hc, hk⟩ := bifS hk
    simp only [decide_eq_true_eq] at hc
    rw [lget_eq] at hk
    cases hx with | str _ vs hvs =>
    cases hg : s[n.toNat]? with
    | none => rw [hg] at hk; cases hk
    | some b =>
      rw [hg] at hk; simp only [Option.map_some, Option.some.injEq] at hk; subst hk
      have hb : vs[n.toNat]? = some b := by
        subst hvs
        have hlt : n.toNat < vs.size := by
          have := (List.getElem?_eq_some_iff.1 hg).1
          simpa using this
        have : vs[n.toNat]? = some vs[n.toNat] := by simp [hlt]
        rw [this]
        rw [Array.getElem?_toList] at hg
        have h2 : vs.data[n.toNat]? = some vs.data[n.toNat] := Array.getElem?_eq_getElem (by simpa using hlt)
        rw [h2] at hg
        exact hg
      refine ⟨.int .u8 b.toNat, ?_, .int _ _⟩
      simp only [Instr.index, asIntOf, Sem.run_bind, Sem.run_pure, Result.andThen_ok, run_underlying hd, if_pos hc, hb]
  · rename_i m e cs q n hd
    cases hi
    split at hk
    · rename_i sz hs
      obtain ⟨hc, hk⟩ := bifS hk
      simp only [Bool.and_eq_true, decide_eq_true_eq] at hc
      obtain ⟨_, _, _, hrs⟩ := tsz_spec (w := w) hs
      obtain ⟨us, rfl, hv⟩ := hx.agg_inv
      obtain ⟨u, hu, hr⟩ := kpart_sound (P := P) (w := w) hv hk
      refine ⟨u, ?_, hr⟩
      simp only [Instr.index, asIntOf, Sem.run_bind, Sem.run_pure, Result.andThen_ok, run_underlying hd, if_pos hc, hrs, hu]
    · cases hk
  · cases hk

theorem kconv_sound {s d : TypeId} {x r : KV} {vx : Value} (hx : VR ρ x vx) (hk : kconv P s d x = some r) : ∃ u, (convert s d vx).run P w = .ok u w ∧ VR ρ r u := by
  unfold kconv at hk
  split at hk
  · rename_i D k q n hs hd
    cases hx; cases hk
    exact ⟨.int k (k.wrap n), by simp [convert, run_underlying hs, run_underlying hd, Conv.intToInt, Result.andThen], .int _ _⟩
  · rename_i D b hs hd
    cases hk
    cases hx with | str _ vb hb =>
    exact ⟨.string vb, by simp [convert, run_underlying hs, run_underlying hd, Result.andThen], .str _ _ hb⟩
  · cases hk

theorem kfoldMM_sound {mx : Bool} : ∀ {xs : List KV} {vs : List Value} {x r : KV} {vx : Value}, VR ρ x vx → VRs ρ xs vs → kfoldMM mx x xs = some r → ∃ u, (vs.foldlM (if mx then Builtin.max2 else Builtin.min2) vx).run P w = .ok u w ∧ VR ρ r u
  | [], [], x, r, vx, hx, hv, hk => by cases hk; exact ⟨vx, rfl, hx⟩
  | y :: xs, v :: vs, x, r, vx, hx, hv, hk => by
    simp only [kfoldMM] at hk
    split at hk
    · rename_i z hz
      have hy := hv.head
      unfold kmm at hz
      split at hz
      · rename_i k a q b
        cases hx; cases hy; cases hz
        have hstep : ((if mx then Builtin.max2 else Builtin.min2) (.int k a) (.int q b)).run P w = .ok (.int k (if mx then (if b > a then b else a) else (if b < a then b else a))) w := by
          cases mx <;> rfl
        obtain ⟨u, hu, hr⟩ := kfoldMM_sound (VR.int k _) hv.tail hk
        exact ⟨u, by simp only [List.foldlM_cons, Sem.run_bind, hstep, Result.andThen_ok, hu], hr⟩
      · cases hz
    · cases hk
  | [], _ :: _, x, r, vx, hx, hv, hk => by have := hv.1; simp at this
  | _ :: _, [], x, r, vx, hx, hv, hk => by have := hv.1; simp at this

/-! ## Maps -/
theorem flat_basic : ∀ {fs : List Field} {j : Nat}, flatF P j fs = true → ∀ (i : Nat) (f : Field), fs[i]? = some f → f.offset = j + i ∧ f.name ≠ "_" ∧ ∃ d, P.underlying f.type = some d ∧ aggD d = false ∧ (d = .bool ∨ (∃ k, d = .int k) ∨ d = .string)
  | f :: fs, j, hf, i, g, hg => by
    simp only [flatF, Bool.and_eq_true, decide_eq_true_eq] at hf
    obtain ⟨ho, hn, hk, hr⟩ := hf
    cases i with
    | zero =>
      simp at hg; subst hg
      obtain ⟨d, hd, h1, h2⟩ := flat_kind hk
      exact ⟨by rw [beqT ho]; rfl, hn, d, hd, h1, h2⟩
    | succ i =>
      obtain ⟨a, b, c⟩ := flat_basic hr i g (by simpa using hg)
      exact ⟨by omega, b, c⟩
  | [], j, hf, i, g, hg => by simp at hg

theorem check_basic {t : TypeId} {d : TypeDesc} (hd : P.underlying t = some d) (hb : d = .bool ∨ (∃ k, d = .int k) ∨ d = .string) (em : Bool) (n : Nat) (v : Value) : (Instr.checkKey em (n + 1) t v).run P w = .ok () w := by
  rcases hb with rfl | ⟨k, rfl⟩ | rfl <;> simp [Instr.checkKey, run_underlying hd, Result.andThen]

theorem keyKind_spec (hF : ∀ t ∈ F, flatOk P t = true) {kt : TypeId} {k : KV} {vk : Value} {d : TypeDesc} (h : keyKind P F kt k = some d) (hv : VR ρ k vk) : P.underlying kt = some d ∧ (∀ em n, (Instr.checkKey em (n + 2) kt vk).run P w = .ok () w) ∧
    ((d = .bool ∨ (∃ q, d = .int q) ∨ d = .string) ∨ ∃ fs, d = .struct fs ∧ flatOk P kt = true) := by
  unfold keyKind at h
  split at h
  · rename_i q j a hd; cases h; exact ⟨hd, fun em n => check_basic hd (by simp) em (n + 1) vk, .inl (by simp)⟩
  · rename_i s hd; cases h; exact ⟨hd, fun em n => check_basic hd (by simp) em (n + 1) vk, .inl (by simp)⟩
  · rename_i b hd; cases h; exact ⟨hd, fun em n => check_basic hd (by simp) em (n + 1) vk, .inl (by simp)⟩
  · rename_i fs xs hd
    obtain ⟨hc, h⟩ := bifS h
    cases h
    simp only [Bool.and_eq_true] at hc
    have hfl := hF kt (by simpa using hc.1)
    have hlen := beqT hc.2
    refine ⟨hd, fun em n => ?_, .inr ⟨fs, rfl, hfl⟩⟩
    obtain ⟨us, rfl, hu⟩ := hv.agg_inv
    obtain ⟨_, _, hff⟩ := flat_struct hd hfl
    have key : ∀ (l : List Field), (∀ f ∈ l, f.name ≠ "_" ∧ f.offset < us.length ∧ ∃ d, P.underlying f.type = some d ∧ aggD d = false ∧ (d = .bool ∨ (∃ k, d = .int k) ∨ d = .string)) →
        (forIn l PUnit.unit (fun f _ => do
          if f.name ≠ "_" then do
            Instr.checkKey em (n + 1) f.type (← part f.type us.toArray f.offset)
            pure (ForInStep.yield PUnit.unit)
          else pure (ForInStep.yield PUnit.unit)) : Sem PUnit).run P w = .ok PUnit.unit w := by
      intro l
      induction l with
      | nil => intro _; rfl
      | cons f l ih =>
        intro hl
        obtain ⟨hn, hlt, d, hdt, hag, hb⟩ := hl f (by simp)
        have hg : us.toArray[f.offset]? = some us[f.offset] := by simp [hlt]
        simp only [List.forIn_cons, Sem.run_bind, hn, ne_eq, not_false_eq_true, if_true, run_part1 hdt hag hg, Result.andThen_ok, check_basic hdt hb, Sem.run_pure]
        exact ih (fun g hg => hl g (by simp [hg]))
    have hall : ∀ f ∈ fs.toList, f.name ≠ "_" ∧ f.offset < us.length ∧ ∃ d, P.underlying f.type = some d ∧ aggD d = false ∧ (d = .bool ∨ (∃ k, d = .int k) ∨ d = .string) := by
      intro f hf
      obtain ⟨i, hi, rfl⟩ := List.mem_iff_getElem.1 hf
      obtain ⟨a, b, c⟩ := flat_basic hff i _ (List.getElem?_eq_getElem hi)
      refine ⟨b, ?_, c⟩
      have := hu.1
      have hi' : i < fs.size := by simpa using hi
      omega
    have := key fs.toList hall
    rw [Instr.checkKey]
    simp only [Sem.run_bind, run_underlying hd, Result.andThen_ok]
    rw [← Array.forIn_toList, this]
    rfl
  · cases h
end Go.KX
