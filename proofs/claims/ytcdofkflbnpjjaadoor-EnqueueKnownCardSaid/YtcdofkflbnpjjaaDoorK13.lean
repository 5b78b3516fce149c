/-
  The executor's operations, all of them: what the executor says, the program does.
-/
import Derived.Test.YtcdofkflbnpjjaaDoorK12
set_option linter.unusedVariables false
set_option linter.unusedSimpArgs false
set_option maxRecDepth 20000
namespace Go.KX
open Go.RowKit (Below)
variable {P : Program} {F : List TypeId} {ρ : Ren} {w0 w : World} {hp : T KO}

theorem two_of {α : Type} {l : List α} (h : l.length = 2) : ∃ a b, l = [a, b] := by
  match l, h with
  | [a, b], _ => exact ⟨a, b, rfl⟩

/-- an operation's end -/
def OpEnd (P : Program) (ρ : Ren) (w0 : World) (w : World) (s : Sem Next) (r : KV) (hp' : T KO) : Prop :=
  ∃ nx u w' ρ', s.run P w = .ok nx w' ∧ (nx = .value u ∨ (nx = .skip ∧ u = Go.undef)) ∧ VR ρ' r u ∧ HR ρ' w0 hp' w' ∧ Ext ρ ρ'

theorem run_value {x : Sem Value} {v : Value} {w' : World} (h : x.run P w = .ok v w') : (do let a ← x; pure (Next.value a) : Sem Next).run P w = .ok (.value v) w' := by
  simp only [Sem.run_bind, h, Result.andThen_ok, Sem.run_pure]
theorem run_skip {x : Sem Unit} {w' : World} (h : x.run P w = .ok () w') : (do x; pure Next.skip : Sem Next).run P w = .ok .skip w' := by
  simp only [Sem.run_bind, h, Result.andThen_ok, Sem.run_pure]

theorem OpEnd.same (h : HR ρ w0 hp w) {x : Sem Value} {r : KV} (hx : ∃ u, x.run P w = .ok u w ∧ VR ρ r u) : OpEnd P ρ w0 w (do let a ← x; pure (Next.value a)) r hp := by
  obtain ⟨u, h1, h2⟩ := hx
  exact ⟨_, u, w, ρ, run_value h1, .inl rfl, h2, h, .refl _⟩
theorem OpEnd.new {x : Sem Value} {r : KV} {hp' : T KO} (hx : ∃ u w' ρ', x.run P w = .ok u w' ∧ VR ρ' r u ∧ HR ρ' w0 hp' w' ∧ Ext ρ ρ') : OpEnd P ρ w0 w (do let a ← x; pure (Next.value a)) r hp' := by
  obtain ⟨u, w', ρ', h1, h2, h3, h4⟩ := hx
  exact ⟨_, u, w', ρ', run_value h1, .inl rfl, h2, h3, h4⟩
theorem OpEnd.unit {x : Sem Unit} {hp' : T KO} (hx : ∃ w', x.run P w = .ok () w' ∧ HR ρ w0 hp' w') : OpEnd P ρ w0 w (do x; pure Next.skip) (.tup []) hp' := by
  obtain ⟨w', h1, h2⟩ := hx
  exact ⟨_, Go.undef, w', ρ, run_skip h1, .inr ⟨rfl, rfl⟩, VR.undef, h2, .refl _⟩
theorem OpEnd.pure (h : HR ρ w0 hp w) {r : KV} {u : Value} (hx : VR ρ r u) : OpEnd P ρ w0 w (Pure.pure (.value u)) r hp := ⟨_, u, w, ρ, rfl, .inl rfl, hx, h, .refl _⟩

theorem pair_spec {x : Option KV} {r : KV} {hp' : T KO} (h : pair hp x = some (r, hp')) : x = some r ∧ hp' = hp := by
  unfold pair at h
  cases x with
  | none => cases h
  | some v => cases h; exact ⟨rfl, rfl⟩
theorem unitv_spec {x : Option (T KO)} {r : KV} {hp' : T KO} (h : unitv x = some (r, hp')) : x = some hp' ∧ r = .tup [] := by
  unfold unitv at h
  cases x with
  | none => cases h
  | some v => cases h; exact ⟨rfl, rfl⟩

theorem kbuiltin_sound (hF : ∀ t ∈ F, flatOk P t = true) (h : HR ρ w0 hp w) {self : Nat} {b : Builtin} {argTypes : Array TypeId} {ty : TypeId} {consts : Array Bool} {xs : List KV} {vs : List Value} {r : KV} {hp' : T KO} (hv : VRs ρ xs vs) (hk : kbuiltin P F self hp b argTypes.toList xs = some (r, hp')) :
    OpEnd P ρ w0 w (builtin b argTypes ty consts vs.toArray) r hp' := by
  have hlen := hv.1
  have at1 : ∀ {t : TypeId} {ts : List TypeId}, argTypes.toList = t :: ts → argTypes = (t :: ts).toArray := fun e => by rw [← e]
  unfold kbuiltin at hk
  split at hk
  · -- len
    rename_i t ts x hat
    obtain ⟨v, rfl⟩ : ∃ v, vs = [v] := List.length_eq_one_iff.1 (by simpa using hlen.symm)
    have hx := hv.head
    rw [at1 hat]
    have fin : ∀ n : Int, (Builtin.len_ (t :: ts).toArray ty #[v]).run P w = .ok (goInt n) w → OpEnd P ρ w0 w (builtin .len (t :: ts).toArray ty consts #[v]) (.int .i64 n) hp := fun n hn => OpEnd.same h ⟨_, hn, .int _ _⟩
    split at hk
    · rename_i s hd
      cases hk
      cases hx with | str _ vb hvb =>
      have hsz : vb.size = s.length := by rw [← hvb]; simp
      exact fin _ (by simp only [Builtin.len_, List.getElem?_toArray, List.getElem?_cons_zero, Sem.run_bind, run_underlying hd, Result.andThen_ok, Sem.run_pure, hsz])
    · rename_i n e hd
      cases hk
      exact fin _ (by simp only [Builtin.len_, List.getElem?_toArray, List.getElem?_cons_zero, Sem.run_bind, run_underlying hd, Result.andThen_ok, Sem.run_pure])
    · rename_i e hd
      cases hk; cases hx
      exact fin _ (by simp only [Builtin.len_, List.getElem?_toArray, List.getElem?_cons_zero, Sem.run_bind, run_underlying hd, Result.andThen_ok, Sem.run_pure]; rfl)
    · rename_i e b off n c hd
      cases hk; cases hx
      exact fin _ (by simp only [Builtin.len_, List.getElem?_toArray, List.getElem?_cons_zero, Sem.run_bind, run_underlying hd, Result.andThen_ok, Sem.run_pure])
    · rename_i e b off n c hd
      cases hk; cases hx
      exact fin _ (by simp only [Builtin.len_, List.getElem?_toArray, List.getElem?_cons_zero, Sem.run_bind, run_underlying hd, Result.andThen_ok, Sem.run_pure])
    · rename_i kt e hd
      cases hk; cases hx
      exact fin _ (by simp only [Builtin.len_, List.getElem?_toArray, List.getElem?_cons_zero, Sem.run_bind, run_underlying hd, Result.andThen_ok, Sem.run_pure])
    · rename_i kt e b hd
      split at hk
      · rename_i es c ho
        cases hk
        cases hx with | map _ B m hB =>
        obtain ⟨ents, hh, hER⟩ := map_obj h hB ho
        have hg := MapKept.run_getObj_map (P := P) hh
        have hsz : ents.size = es.length := by rw [hER.1]; simp
        exact fin _ (by simp only [Builtin.len_, List.getElem?_toArray, List.getElem?_cons_zero, Sem.run_bind, run_underlying hd, Result.andThen_ok, Sem.run_pure, hg, hsz])
      · cases hk
    · cases hk
  · -- cap
    rename_i t ts x hat
    obtain ⟨v, rfl⟩ : ∃ v, vs = [v] := List.length_eq_one_iff.1 (by simpa using hlen.symm)
    have hx := hv.head
    rw [at1 hat]
    split at hk
    · rename_i e hd
      cases hk; cases hx
      exact OpEnd.same h ⟨goInt 0, by simp only [Builtin.cap_, List.getElem?_toArray, List.getElem?_cons_zero, Sem.run_bind, run_underlying hd, Result.andThen_ok, Sem.run_pure]; rfl, .int _ _⟩
    · rename_i e b off n c hd
      cases hk; cases hx
      exact OpEnd.same h ⟨goInt c, by simp only [Builtin.cap_, List.getElem?_toArray, List.getElem?_cons_zero, Sem.run_bind, run_underlying hd, Result.andThen_ok, Sem.run_pure], .int _ _⟩
    · cases hk
  · -- append
    rename_i t u s x hat
    obtain ⟨v1, v2, rfl⟩ : ∃ v1 v2, vs = [v1, v2] := two_of (by simpa using hlen.symm)
    rw [at1 hat]
    exact OpEnd.new (kappend_sound h hv.head hv.tail.head hk)
  · -- copy
    rename_i t ts d x hat
    obtain ⟨v1, v2, rfl⟩ : ∃ v1 v2, vs = [v1, v2] := two_of (by simpa using hlen.symm)
    rw [at1 hat]
    obtain ⟨u, w', h1, h2, h3⟩ := kcopy_sound (ty := ty) (ts := ts) h hv.head hv.tail.head hk
    exact OpEnd.new ⟨u, w', ρ, h1, h2, h3, .refl _⟩
  · -- clear
    rename_i t ts x hat
    obtain ⟨v, rfl⟩ : ∃ v, vs = [v] := List.length_eq_one_iff.1 (by simpa using hlen.symm)
    rw [at1 hat]
    cases hc : kclear P hp t x with
    | none => rw [hc] at hk; cases hk
    | some hq =>
      rw [hc] at hk; cases hk
      obtain ⟨w', h1, h2⟩ := kclear_sound (ty := ty) (ts := ts) h hv.head hc
      exact OpEnd.new ⟨_, w', ρ, h1, VR.undef, h2, .refl _⟩
  · -- delete
    rename_i t ts m k hat
    obtain ⟨v1, v2, rfl⟩ : ∃ v1 v2, vs = [v1, v2] := two_of (by simpa using hlen.symm)
    rw [at1 hat]
    cases hc : kdelete P F t hp m k with
    | none => rw [hc] at hk; cases hk
    | some hq =>
      rw [hc] at hk; cases hk
      obtain ⟨w', h1, h2⟩ := kdelete_sound (ty := ty) (ts := ts) hF h hv.head hv.tail.head hc
      exact OpEnd.new ⟨_, w', ρ, h1, VR.undef, h2, .refl _⟩
  · -- min
    rename_i ts x l
    obtain ⟨v, vs', rfl⟩ : ∃ v vs', vs = v :: vs' := by cases vs with | nil => simp at hlen | cons a b => exact ⟨a, b, rfl⟩
    cases hc : kfoldMM false x l with
    | none => rw [hc] at hk; cases hk
    | some z =>
      rw [hc] at hk; cases hk
      obtain ⟨u, h1, h2⟩ := kfoldMM_sound (P := P) (w := w) hv.head hv.tail hc
      exact OpEnd.same h ⟨u, h1, h2⟩
  · -- max
    rename_i ts x l
    obtain ⟨v, vs', rfl⟩ : ∃ v vs', vs = v :: vs' := by cases vs with | nil => simp at hlen | cons a b => exact ⟨a, b, rfl⟩
    cases hc : kfoldMM true x l with
    | none => rw [hc] at hk; cases hk
    | some z =>
      rw [hc] at hk; cases hk
      obtain ⟨u, h1, h2⟩ := kfoldMM_sound (P := P) (w := w) hv.head hv.tail hc
      exact OpEnd.same h ⟨u, h1, h2⟩
  · cases hk

theorem OVR_of {v : Operand → Option KV} {e : Operand → Value} {o : Option Operand} {xs : List KV} (hv : ∀ x, o = some x → ∀ k, v x = some k → VR ρ k (e x)) (h : omap v o.toList = some xs) : OVR ρ xs.head? (o.map e) := by
  cases o with
  | none => simp only [Option.toList, omap, Option.some.injEq] at h; subst h; exact .none
  | some x =>
    simp only [Option.toList, omap] at h
    split at h
    · rename_i b hb
      simp only [Option.some.injEq] at h; subst h
      exact .some (hv x rfl _ hb)
    · cases h

set_option maxHeartbeats 4000000 in
theorem kop_sound (hF : ∀ t ∈ F, flatOk P t = true) (h : HR ρ w0 hp w) {self : Nat} {o : Oper} {v : Operand → Option KV} {e : Operand → Value} {r : KV} {hp' : T KO} (hv : ∀ x ∈ o.op.operands, ∀ k, v x = some k → VR ρ k (e x)) (hk : kop P F self hp v o = some (r, hp')) :
    OpEnd P ρ w0 w (execOp e o) r hp' := by
  obtain ⟨dst, op, type, pos, after, guard⟩ := o
  simp only at hv
  unfold kop at hk
  simp only at hk
  unfold execOp
  simp only
  split at hk
  · rename_i x
    obtain ⟨h1, rfl⟩ := pair_spec hk
    exact OpEnd.pure h (hv x (by simp [Op.operands]) _ h1)
  · rename_i x
    obtain ⟨h1, rfl⟩ := pair_spec hk
    exact OpEnd.pure h (hv x (by simp [Op.operands]) _ h1)
  · rename_i c a b
    split at hk
    · rename_i t ht
      obtain ⟨h1, rfl⟩ := pair_spec hk
      have hc := hv c (by simp [Op.operands]) _ ht
      generalize hec : e c = ec at hc
      cases hc
      refine ⟨_, if t then e a else e b, w, ρ, by simp only [hec, asBool, Sem.run_bind, Sem.run_pure, Result.andThen_ok], .inl rfl, ?_, h, .refl _⟩
      cases t
      · exact hv b (by simp [Op.operands]) _ h1
      · exact hv a (by simp [Op.operands]) _ h1
    · cases hk
  · rename_i t
    split at hk
    · rename_i z hz
      obtain ⟨vz, hrz, hvz⟩ := tzero_spec (P := P) (ρ := ρ) (w := w) hz
      obtain ⟨u, w', ρ', h1, h2, h3, h4⟩ := knew_sound (P := P) h hvz t hk
      refine OpEnd.new ⟨u, w', ρ', ?_, h2, h3, h4⟩
      simp only [Instr.alloc, Sem.run_bind, hrz, Result.andThen_ok]
      exact h1
    · cases hk
  · rename_i t x
    split at hk
    · rename_i y hy
      exact OpEnd.new (knew_sound (P := P) h (hv x (by simp [Op.operands]) _ hy) t hk)
    · cases hk
  · rename_i t ps
    split at hk
    · rename_i l hl
      obtain ⟨h1, rfl⟩ := pair_spec hk
      obtain ⟨p1, p2⟩ := parts_sound (ρ := ρ) (e := e) (fun p hp k hk => hv p.2 (by simp only [Op.operands]; simp; exact ⟨p.1, Array.mem_toList_iff.1 hp⟩) k hk) hl
      refine OpEnd.same h (kbuild_sound (P := P) (w := w) (vs := ps.map fun p => (p.1, e p.2)) ?_ ?_ h1)
      · simpa using p1
      · intro i p q hp hq
        exact p2 i p q hp (by simpa using hq)
    · cases hk
  · rename_i t n ps
    split at hk
    · rename_i l hl
      obtain ⟨p1, p2⟩ := parts_sound (ρ := ρ) (e := e) (fun p hp k hk => hv p.2 (by simp only [Op.operands]; simp; exact ⟨p.1, Array.mem_toList_iff.1 hp⟩) k hk) hl
      refine OpEnd.new (kbuildSlice_sound (P := P) (w := w) (vs := ps.map fun p => (p.1, e p.2)) h ?_ ?_ hk)
      · simpa using p1
      · intro i p q hp hq
        exact p2 i p q hp (by simpa using hq)
    · cases hk
  · rename_i t x
    split at hk
    · rename_i y hy
      obtain ⟨h1, rfl⟩ := pair_spec hk
      exact OpEnd.same h (kload_sound h (hv x (by simp [Op.operands]) _ hy) h1)
    · cases hk
  · rename_i t x y
    split at hk
    · rename_i a b ha hb
      obtain ⟨h1, rfl⟩ := unitv_spec hk
      exact OpEnd.unit (kstore_sound h (hv x (by simp [Op.operands]) _ ha) (hv y (by simp [Op.operands]) _ hb) h1)
    · cases hk
  · rename_i x
    split at hk
    · rename_i b off hx
      cases hk
      have hc := hv x (by simp [Op.operands]) _ hx
      generalize hec : e x = ec at hc
      cases hc with | ptr _ _ B m hB =>
      exact ⟨_, _, w, ρ, by simp only [hec, Sem.run_pure], .inl rfl, .ptr _ _ B m hB, h, .refl _⟩
    · rename_i f a b hx
      cases hk
      have hc := hv x (by simp [Op.operands]) _ hx
      generalize hec : e x = ec at hc
      cases hc with | fn _ _ _ as bs h1 h2 h3 h4 =>
      exact ⟨_, _, w, ρ, by simp only [hec, Sem.run_pure], .inl rfl, .fn f a b as bs h1 h2 h3 h4, h, .refl _⟩
    · cases hk
  · rename_i op t x y yt
    split at hk
    · rename_i a b ha hb
      obtain ⟨h1, rfl⟩ := pair_spec hk
      exact OpEnd.same h (kbin_sound hF h (hv x (by simp [Op.operands]) _ ha) (hv y (by simp [Op.operands]) _ hb) x y h1)
    · cases hk
  · rename_i op t x
    split at hk
    · rename_i a ha
      obtain ⟨h1, rfl⟩ := pair_spec hk
      exact OpEnd.same h (kun_sound (hv x (by simp [Op.operands]) _ ha) h1)
    · cases hk
  · rename_i s d x
    split at hk
    · rename_i a ha
      obtain ⟨h1, rfl⟩ := pair_spec hk
      exact OpEnd.same h (kconv_sound (hv x (by simp [Op.operands]) _ ha) h1)
    · cases hk
  · rename_i f a b
    split at hk
    · rename_i xs ys hxs hys
      cases hk
      have v1 := omap_opd (ρ := ρ) (e := e) (fun x hx k hk => hv x (by simp only [Op.operands]; exact Array.mem_append.2 (.inl (Array.mem_toList_iff.1 hx))) k hk) hxs
      have v2 := omap_opd (ρ := ρ) (e := e) (fun x hx k hk => hv x (by simp only [Op.operands]; exact Array.mem_append.2 (.inr (Array.mem_toList_iff.1 hx))) k hk) hys
      refine OpEnd.same h ⟨.func (.func f) (a.map e) (b.map e), rfl, .fn f xs ys _ _ ?_ ?_ ?_ ?_⟩
      · simpa using v1.1
      · intro i x y hx hy; exact v1.2 i x y hx (by simpa using hy)
      · simpa using v2.1
      · intro i x y hx hy; exact v2.2 i x y hx (by simpa using hy)
    · cases hk
  · rename_i t r0
    split at hk
    · rename_i kt et q n hd hr
      obtain ⟨hf, hk⟩ := chk_spec hk
      cases hk
      obtain ⟨g1, g2⟩ := h.new (b := self) (m := 0) (fresh_spec hf) (o := .mp [] 0) (obj := .map #[] 0) ⟨#[], rfl, rfl, fun i a b h => by simp at h⟩
      refine OpEnd.new ⟨.map (some w.heap.size), _, _, ?_, .map _ _ _ (Ren.upd_same _ _), g1, g2⟩
      cases r0 with
      | none => simp only [Instr.makeMap, Option.map_none, Sem.run_bind, run_newObj_alloc, Result.andThen_ok, Sem.run_pure]
      | some x =>
        simp only at hr
        have hc := hv x (by simp [Op.operands]) _ hr
        simp only [Instr.makeMap, Option.map_some]
        generalize e x = ec at hc
        cases hc
        simp only [Sem.run_bind, run_underlying hd, Result.andThen_ok, asInt, asIntOf, Sem.run_pure, run_newObj_alloc]
    · cases hk
  · rename_i t l c
    split at hk
    · rename_i a b ha hb
      exact OpEnd.new (kmakeSlice_sound h (hv l (by simp [Op.operands]) _ ha) (hv c (by simp [Op.operands]) _ hb) hk)
    · cases hk
  · rename_i t x lo hi mx
    split at hk
    · rename_i a lo' hi' mx' ha hlo hhi hmx
      obtain ⟨h1, rfl⟩ := pair_spec hk
      refine OpEnd.same h (kslice_sound (hv x (by simp [Op.operands]) _ ha) (OVR_of (e := e) ?_ hlo) (OVR_of (e := e) ?_ hhi) (OVR_of (e := e) ?_ hmx) h1)
      · intro y hy k hk; subst hy; exact hv y (by simp [Op.operands]) k hk
      · intro y hy k hk; subst hy; exact hv y (by simp [Op.operands]) k hk
      · intro y hy k hk; subst hy; exact hv y (by simp [Op.operands]) k hk
    · cases hk
  · rename_i t x f
    split at hk
    · rename_i b off fd ha hfd
      obtain ⟨hp1, hk⟩ := bifS hk
      cases hk
      exact OpEnd.same h (kfieldAddr_sound hfd hp1 (hv x (by simp [Op.operands]) _ ha))
    · cases hk
  · rename_i t x f
    split at hk
    · rename_i cs fd ha hfd
      obtain ⟨h1, rfl⟩ := pair_spec hk
      exact OpEnd.same h (kfield_sound hfd (hv x (by simp [Op.operands]) _ ha) h1)
    · cases hk
  · rename_i t x i
    split at hk
    · rename_i a b ha hb
      obtain ⟨h1, rfl⟩ := pair_spec hk
      exact OpEnd.same h (kindexAddr_sound (hv x (by simp [Op.operands]) _ ha) (hv i (by simp [Op.operands]) _ hb) h1)
    · cases hk
  · rename_i t x i
    split at hk
    · rename_i a b ha hb
      obtain ⟨h1, rfl⟩ := pair_spec hk
      exact OpEnd.same h (kindex_sound (hv x (by simp [Op.operands]) _ ha) (hv i (by simp [Op.operands]) _ hb) h1)
    · cases hk
  · rename_i t x k ok
    split at hk
    · rename_i a b ha hb
      obtain ⟨h1, rfl⟩ := pair_spec hk
      exact OpEnd.same h (klookup_sound hF h (hv x (by simp [Op.operands]) _ ha) (hv k (by simp [Op.operands]) _ hb) h1)
    · cases hk
  · rename_i t m k x
    split at hk
    · rename_i a b c ha hb hc
      obtain ⟨h1, rfl⟩ := unitv_spec hk
      exact OpEnd.unit (kupdate_sound hF h (hv m (by simp [Op.operands]) _ ha) (hv k (by simp [Op.operands]) _ hb) (hv x (by simp [Op.operands]) _ hc) h1)
    · cases hk
  · rename_i t m k x
    split at hk
    · rename_i a b c ha hb hc
      obtain ⟨h1, rfl⟩ := unitv_spec hk
      exact OpEnd.unit (kupdate_sound hF h (hv m (by simp [Op.operands]) _ ha) (hv k (by simp [Op.operands]) _ hb) (hv x (by simp [Op.operands]) _ hc) h1)
    · cases hk
  · rename_i t x
    split at hk
    · rename_i a ha
      exact OpEnd.new (krange_sound h (hv x (by simp [Op.operands]) _ ha) hk)
    · cases hk
  · rename_i x
    split at hk
    · rename_i a ha
      obtain ⟨h1, rfl⟩ := pair_spec hk
      exact OpEnd.same h (kentry_sound h (hv x (by simp [Op.operands]) _ ha) h1)
    · cases hk
  · rename_i x i
    split at hk
    · rename_i xs ha
      obtain ⟨h1, rfl⟩ := pair_spec hk
      rw [lget_eq] at h1
      have hc := hv x (by simp [Op.operands]) _ ha
      obtain ⟨us, hus, hu⟩ := hc.tup_inv
      obtain ⟨u, g1, g2⟩ := hu.get h1
      have g1' : us.toArray[i]? = some u := by simpa using g1
      have hx2 : (Instr.extract (e x) i).run P w = .ok u w := by rw [hus]; simp only [Instr.extract, g1', Sem.run_pure]
      exact OpEnd.same h ⟨u, hx2, g2⟩
    · cases hk
  · rename_i c
    obtain ⟨callee, args, argTypes⟩ := c
    simp only at hk
    split at hk
    · rename_i b
      split at hk
      · rename_i xs hxs
        have v1 := omap_opd (ρ := ρ) (e := e) (fun x hx k hk => hv x (by simp only [Op.operands, Call.operands]; exact Array.mem_append.2 (.inr (Array.mem_toList_iff.1 hx))) k hk) hxs
        have := kbuiltin_sound (ty := type) (consts := args.map fun x => match x with | .const _ => true | _ => false) hF h v1 hk
        have ea : (args.toList.map e).toArray = args.map e := Array.ext' (by simp)
        rw [ea] at this
        exact this
      · cases hk
    · cases hk
  · cases hk
end Go.KX
