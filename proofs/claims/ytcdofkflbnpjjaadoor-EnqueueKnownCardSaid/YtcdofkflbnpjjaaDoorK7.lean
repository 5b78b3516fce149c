/-
  The executor's maps.
-/
import Derived.Test.YtcdofkflbnpjjaaDoorK6
set_option linter.unusedVariables false
set_option linter.unusedSimpArgs false
namespace Go.KX
open Go.RowKit (Below)
variable {P : Program} {F : List TypeId} {ρ : Ren} {w0 w : World} {hp : T KO}

def ER (ρ : Ren) (es : List KE) (l : List MapEntry) : Prop := es.length = l.length ∧ ∀ (i : Nat) (e : KE) (x : MapEntry), es[i]? = some e → l[i]? = some x → VR ρ e.key x.key ∧ VR ρ e.val x.val ∧ x.born = e.born

theorem ER.cons {e : KE} {x : MapEntry} {es : List KE} {l : List MapEntry} (h : VR ρ e.key x.key ∧ VR ρ e.val x.val ∧ x.born = e.born) (hs : ER ρ es l) : ER ρ (e :: es) (x :: l) :=
  ⟨by simp [hs.1], fun i a b h1 h2 => by
    cases i with
    | zero => simp at h1 h2; subst h1; subst h2; exact h
    | succ i => simp at h1 h2; exact hs.2 i a b h1 h2⟩
theorem ER.tail {e : KE} {x : MapEntry} {es : List KE} {l : List MapEntry} (h : ER ρ (e :: es) (x :: l)) : ER ρ es l := ⟨by simpa using h.1, fun i a b h1 h2 => h.2 (i + 1) a b h1 h2⟩
theorem ER.head {e : KE} {x : MapEntry} {es : List KE} {l : List MapEntry} (h : ER ρ (e :: es) (x :: l)) : VR ρ e.key x.key ∧ VR ρ e.val x.val ∧ x.born = e.born := h.2 0 e x rfl rfl
theorem ER.nil : ER ρ [] [] := ⟨rfl, fun i a b h => by simp at h⟩
theorem ER.append {es fs : List KE} {l m : List MapEntry} (h : ER ρ es l) (k : ER ρ fs m) : ER ρ (es ++ fs) (l ++ m) := by
  induction es generalizing l with
  | nil => cases l with
    | nil => exact k
    | cons => have := h.1; simp at this
  | cons e es ih => cases l with
    | nil => have := h.1; simp at this
    | cons x l => exact .cons h.head (ih h.tail)
theorem ER.get {es : List KE} {l : List MapEntry} (h : ER ρ es l) {i : Nat} {e : KE} (he : es[i]? = some e) : ∃ x, l[i]? = some x ∧ VR ρ e.key x.key ∧ VR ρ e.val x.val ∧ x.born = e.born := by
  have hi : i < es.length := (List.getElem?_eq_some_iff.1 he).1
  exact ⟨l[i]'(by rw [← h.1]; exact hi), List.getElem?_eq_getElem _, h.2 i e _ he (List.getElem?_eq_getElem _)⟩

def basicD (d : TypeDesc) : Prop := d = .bool ∨ (∃ q, d = .int q) ∨ d = .string

theorem keq1_now {d : TypeDesc} {x y : KV} {b : Bool} {vx vy : Value} (h : keq1 d x y = some b) (hx : VR ρ x vx) (hy : VR ρ y vy) : Instr.sameNow d vx vy = some b := by
  unfold keq1 at h
  split at h
  · rename_i q j a k b'
    cases hx; cases hy
    obtain ⟨hc, h⟩ := bifS h
    cases h
    have : j = k := by simpa using hc
    simp [Instr.sameNow, this]
  · rename_i a b'
    cases hx with | str _ va ha => cases hy with | str _ vb hb =>
    cases h
    simp only [Instr.sameNow, beq_toListBytes, bytes_toList, ha, hb]
  · rename_i a b'
    cases hx; cases hy; cases h; rfl
  · cases h

theorem keq1_bits {d : TypeDesc} {x y : KV} {vx vy : Value} (n : Nat) (h : keq1 d x y = some true) (hx : VR ρ x vx) (hy : VR ρ y vy) : Instr.sameBits n vy vx = true := by
  unfold keq1 at h
  split at h
  · rename_i q j a k b'
    cases hx; cases hy
    obtain ⟨hc, h⟩ := bifS h
    have h1 : j = k := by simpa using hc
    have h2 : a = b' := by simpa using h
    subst h1 h2
    cases n <;> simp [Instr.sameBits]
  · rename_i a b'
    cases hx with | str _ va ha => cases hy with | str _ vb hb =>
    have h2 : a = b' := by simpa using h
    have : (vb == va) = true := by rw [beq_toListBytes, bytes_toList, bytes_toList, ha, hb, h2]; simp
    cases n <;> simp only [Instr.sameBits, this]
  · rename_i a b'
    cases hx; cases hy
    have h2 : a = b' := by simpa using h
    subst h2
    cases n <;> simp [Instr.sameBits]
  · cases h

theorem keqF_bits (n : Nat) : ∀ {fs : List Field} {xs ys : List KV} {us vs : List Value}, keqF P fs xs ys = some true → VRs ρ xs us → VRs ρ ys vs → vs.length = us.length ∧ ((vs.zip us).all fun p => Instr.sameBits n p.1 p.2) = true
  | [], [], [], us, vs, h, hx, hy => by
    have h1 := hx.1
    have h2 := hy.1
    obtain rfl : us = [] := List.eq_nil_of_length_eq_zero (by simpa using h1.symm)
    obtain rfl : vs = [] := List.eq_nil_of_length_eq_zero (by simpa using h2.symm)
    simp
  | f :: fs, x :: xs, y :: ys, us, vs, h, hx, hy => by
    obtain ⟨u, us, rfl⟩ : ∃ u us', us = u :: us' := by cases us with | nil => have := hx.1; simp at this | cons a b => exact ⟨a, b, rfl⟩
    obtain ⟨v, vs, rfl⟩ : ∃ v vs', vs = v :: vs' := by cases vs with | nil => have := hy.1; simp at this | cons a b => exact ⟨a, b, rfl⟩
    simp only [keqF] at h
    split at h
    · split at h
      · rename_i p q hp hq
        simp only [Option.some.injEq, Bool.and_eq_true] at h
        obtain ⟨rfl, rfl⟩ := h
        obtain ⟨h1, h2⟩ := keqF_bits n hq hx.tail hy.tail
        exact ⟨by simp [h1], by simp [keq1_bits n hp hx.head hy.head, h2]⟩
      · cases h
    · cases h
  | [], _ :: _, _, us, vs, h, hx, hy => by simp [keqF] at h
  | [], [], _ :: _, us, vs, h, hx, hy => by simp [keqF] at h
  | _ :: _, [], _, us, vs, h, hx, hy => by simp [keqF] at h
  | _ :: _, _ :: _, [], us, vs, h, hx, hy => by simp [keqF] at h

theorem keyEq_bits {d : TypeDesc} {x y : KV} {vx vy : Value} (n : Nat) (h : keyEq P d x y = some true) (hx : VR ρ x vx) (hy : VR ρ y vy) : Instr.sameBits (n + 1) vy vx = true := by
  unfold keyEq at h
  split at h
  · split at h
    · rename_i xs ys
      obtain ⟨us, rfl, hu⟩ := hx.agg_inv
      obtain ⟨vs, rfl, hv⟩ := hy.agg_inv
      obtain ⟨h1, h2⟩ := keqF_bits n h hu hv
      simp only [Instr.sameBits, List.size_toArray, h1, beq_self_eq_true, Bool.true_and]
      exact h2
    · cases h
  · exact keq1_bits _ h hx hy

theorem stays {d : TypeDesc} {x y : KV} {vx vy : Value} (h : keyEq P d x y = some true) (hx : VR ρ x vx) (hy : VR ρ y vy) : (Instr.keyThatStays vy vx).run P w = .ok vx w := by
  simp only [Instr.keyThatStays, keyEq_bits 9999 h hx hy, if_true, Sem.run_pure]

/-- what a search gives -/
def FR (P : Program) (d : TypeDesc) (k : KV) (es : List KE) (l : List MapEntry) (i : Nat) : Option (Nat × KV) → Option (Nat × Value) → Prop
  | none, none => True
  | some (j, v), some (j', u) => j' = j ∧ ∃ m e x, j = i + m ∧ es[m]? = some e ∧ l[m]? = some x ∧ e.val = v ∧ x.val = u ∧ keyEq P d k e.key = some true
  | _, _ => False

theorem FR.up {d : TypeDesc} {k : KV} {es : List KE} {l : List MapEntry} {i : Nat} {e : KE} {x : MapEntry} : ∀ {r : Option (Nat × KV)} {r' : Option (Nat × Value)}, FR P d k es l (i + 1) r r' → FR P d k (e :: es) (x :: l) i r r'
  | none, none, _ => trivial
  | some (j, v), some (j', u), ⟨h1, m, e', x', h2, h3, h4, h5, h6, h7⟩ => ⟨h1, m + 1, e', x', by omega, by simpa using h3, by simpa using h4, h5, h6, h7⟩
  | none, some _, h => h.elim
  | some (_, _), none, h => h.elim

theorem kfind_now {d : TypeDesc} (hb : basicD d) {k : KV} {vk : Value} (hk : VR ρ k vk) : ∀ {es : List KE} {l : List MapEntry} {i : Nat} {r : Option (Nat × KV)}, ER ρ es l → kfind P d k es i = some r → ∃ r', Instr.findNow d vk l i = some r' ∧ FR P d k es l i r r'
  | [], [], i, r, h, hf => by cases hf; exact ⟨none, rfl, trivial⟩
  | e :: es, x :: l, i, r, h, hf => by
    obtain ⟨h1, h2, h3⟩ := h.head
    have he : keyEq P d k e.key = keq1 d k e.key := by
      rcases hb with rfl | ⟨q, rfl⟩ | rfl <;> rfl
    simp only [kfind] at hf
    split at hf
    · rename_i hq
      cases hf
      rw [he] at hq
      exact ⟨some (i, x.val), by simp only [Instr.findNow, keq1_now hq hk h1], rfl, 0, e, x, by simp, rfl, rfl, rfl, rfl, by rw [he]; exact hq⟩
    · rename_i hq
      rw [he] at hq
      obtain ⟨r', hr, hfr⟩ := kfind_now hb hk h.tail hf
      exact ⟨r', by simp only [Instr.findNow, keq1_now hq hk h1, hr], hfr.up⟩
    · cases hf
  | [], _ :: _, i, r, h, hf => by have := h.1; simp at this
  | _ :: _, [], i, r, h, hf => by have := h.1; simp at this

theorem kfind_ask {kt : TypeId} {fs : Array Field} (hd : P.underlying kt = some (.struct fs)) (hfl : flatOk P kt = true) {k : KV} {vk : Value} (hk : VR ρ k vk) : ∀ {es : List KE} {l : List MapEntry} {i : Nat} {r : Option (Nat × KV)}, ER ρ es l → kfind P (.struct fs) k es i = some r →
    ∃ r', (Instr.findAsking kt vk l i).run P w = .ok r' w ∧ FR P (.struct fs) k es l i r r'
  | [], [], i, r, h, hf => by cases hf; exact ⟨none, rfl, trivial⟩
  | e :: es, x :: l, i, r, h, hf => by
    obtain ⟨h1, h2, h3⟩ := h.head
    have heq : ∀ b, keyEq P (.struct fs) k e.key = some b → (Op.equal kt vk x.key).run P w = .ok b w := by
      intro b hb
      simp only [keyEq] at hb
      split at hb
      · rename_i xs ys hek
        obtain ⟨us, rfl, hu⟩ := hk.agg_inv
        rw [hek] at h1
        obtain ⟨vs, hvs, hv⟩ := h1.agg_inv
        rw [hvs]
        have := keqS_sound (w := w) 9998 hd hfl hb (us := us.toArray) (vs := vs.toArray) (by simpa using hu) (by simpa using hv)
        exact this
      · cases hb
    simp only [kfind] at hf
    split at hf
    · rename_i hq
      cases hf
      exact ⟨some (i, x.val), by simp only [Instr.findAsking, Sem.run_bind, heq true hq, Result.andThen_ok, if_true, Sem.run_pure], rfl, 0, e, x, by simp, rfl, rfl, rfl, rfl, hq⟩
    · rename_i hq
      obtain ⟨r', hr, hfr⟩ := kfind_ask hd hfl hk h.tail hf
      exact ⟨r', by simp only [Instr.findAsking, Sem.run_bind, heq false hq, Result.andThen_ok, Bool.false_eq_true, if_false, hr], hfr.up⟩
    · cases hf
  | [], _ :: _, i, r, h, hf => by have := h.1; simp at this
  | _ :: _, [], i, r, h, hf => by have := h.1; simp at this

theorem kfind_sound {kt : TypeId} {d : TypeDesc} (hd : P.underlying kt = some d) (hb : (d = .bool ∨ (∃ q, d = .int q) ∨ d = .string) ∨ ∃ fs, d = .struct fs ∧ flatOk P kt = true) {k : KV} {vk : Value} (hk : VR ρ k vk) {es : List KE} {l : List MapEntry} {r : Option (Nat × KV)} (h : ER ρ es l) (hf : kfind P d k es 0 = some r) :
    ∃ r', (Instr.findKey kt vk l).run P w = .ok r' w ∧ FR P d k es l 0 r r' := by
  rcases hb with hb | ⟨fs, rfl, hfl⟩
  · obtain ⟨r', h1, h2⟩ := kfind_now hb hk h hf
    exact ⟨r', by simp only [Instr.findKey, Sem.run_bind, run_underlying hd, Result.andThen_ok, h1, Sem.run_pure], h2⟩
  · obtain ⟨r', h1, h2⟩ := kfind_ask (w := w) hd hfl hk h hf
    refine ⟨r', ?_, h2⟩
    cases l with
    | nil =>
      simp only [Instr.findAsking, Sem.run_pure, Result.ok.injEq, and_true] at h1
      subst h1
      simp only [Instr.findKey, Sem.run_bind, run_underlying hd, Result.andThen_ok, Instr.findNow, Sem.run_pure]
    | cons x l =>
      have hn : Instr.findNow (.struct fs) vk (x :: l) 0 = none := by simp [Instr.findNow, Instr.sameNow]
      simp only [Instr.findKey, Sem.run_bind, run_underlying hd, Result.andThen_ok, hn, h1]

theorem map_obj (h : HR ρ w0 hp w) {b B m : Nat} {es : List KE} {c : Nat} (hb : ρ b = some (B, m)) (ho : hp.get b = some (.mp es c)) : ∃ ents : Array MapEntry, w.heap[B]? = some (.map ents c) ∧ ER ρ es ents.toList := by
  obtain ⟨obj, h1, ents, rfl, h2, h3⟩ := h.get hb ho
  exact ⟨ents, h1, h2, h3⟩

theorem klookup_sound (hF : ∀ t ∈ F, flatOk P t = true) (h : HR ρ w0 hp w) {t : TypeId} {ok : Bool} {x k r : KV} {vx vk : Value} (hx : VR ρ x vx) (hk : VR ρ k vk) (hl : klookup P F t ok hp x k = some r) : ∃ u, (Instr.lookup t vx vk ok).run P w = .ok u w ∧ VR ρ r u := by
  unfold klookup at hl
  split at hl
  · rename_i kt e hd
    split at hl
    · rename_i d z hkk hz
      obtain ⟨hkd, hck, hb⟩ := keyKind_spec (w := w) hF hkk hk
      obtain ⟨vz, hrz, hvz⟩ := tzero_spec (ρ := ρ) (w := w) hz
      have hck : ∀ em, (Instr.checkKey em 10000 kt vk).run P w = .ok () w := fun em => hck em 9998
      have two : ∀ (v : KV) (u : Value) (b : Bool), VR ρ v u → VR ρ (if ok then .tup [v, .bool b] else v) (if ok then .tuple #[u, .bool b] else u) := by
        intro v u b hv
        cases ok
        · exact hv
        · exact VR.tup' (.cons hv (.cons (.bool b) .nil))
      split at hl
      · cases hl
        cases hx
        refine ⟨_, ?_, two z vz false hvz⟩
        have hfk : (Instr.findKey kt vk []).run P w = .ok none w := by simp only [Instr.findKey, Sem.run_bind, run_underlying hkd, Result.andThen_ok, Instr.findNow, Sem.run_pure]
        simp [Instr.lookup, run_underlying hd, hck, hfk, hrz, Result.andThen]
      · rename_i b
        split at hl
        · rename_i es c ho
          cases hx with | map _ B m hB =>
          obtain ⟨ents, hh, hER⟩ := map_obj h hB ho
          have hg := MapKept.run_getObj_map (P := P) hh
          split at hl
          · rename_i j v hf
            cases hl
            obtain ⟨r', h1, h2⟩ := kfind_sound (w := w) hkd hb hk hER hf
            cases r' with
            | none => exact h2.elim
            | some q =>
              obtain ⟨j', u⟩ := q
              obtain ⟨rfl, m', e', x', _, h3, h4, rfl, rfl, _⟩ := h2
              refine ⟨_, ?_, two e'.val x'.val true (hER.2 m' e' x' h3 h4).2.1⟩
              simp [Instr.lookup, run_underlying hd, hg, hck, h1, Result.andThen]
          · rename_i hf
            cases hl
            obtain ⟨r', h1, h2⟩ := kfind_sound (w := w) hkd hb hk hER hf
            cases r' with
            | some _ => exact h2.elim
            | none =>
              refine ⟨_, ?_, two z vz false hvz⟩
              simp [Instr.lookup, run_underlying hd, hg, hck, h1, hrz, Result.andThen]
          · cases hl
        · cases hl
      · cases hl
    · cases hl
  · cases hl
end Go.KX
