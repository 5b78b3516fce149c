/-
  The executor's operations: copy, clear, maps written, ranges; all of them together.
-/
import Derived.Test.YtcdofkflbnpjjaaDoorK10
set_option linter.unusedVariables false
set_option linter.unusedSimpArgs false
set_option maxRecDepth 20000
namespace Go.KX
open Go.RowKit (Below)
variable {P : Program} {F : List TypeId} {ρ : Ren} {w0 w : World} {hp : T KO}

theorem kcopy_sound (h : HR ρ w0 hp w) {t ty : TypeId} {ts : List TypeId} {d x r : KV} {vd vx : Value} {hp' : T KO} (hd : VR ρ d vd) (hx : VR ρ x vx) (hk : kcopy P hp t d x = some (r, hp')) :
    ∃ u w', (Builtin.copy_ (t :: ts).toArray ty #[vd, vx]).run P w = .ok u w' ∧ VR ρ r u ∧ HR ρ w0 hp' w' := by
  unfold kcopy at hk
  split at hk
  · rename_i e hde
    split at hk
    · rename_i sz n dl hsz hxl hdl
      split at hk
      · rename_i xs hxs
        replace hk := bifS hk
        obtain ⟨c1, hk⟩ := hk
        obtain ⟨i, hi, hisz, hrs⟩ := tsz_spec (w := w) hsz
        obtain ⟨hlx, hlxs, hfx⟩ := kelems_sound (P := P) h hx hxl hxs
        obtain ⟨us, hf, hv⟩ := hfx (Nat.min n dl) (Nat.min_le_left _ _)
        simp only [Bool.and_eq_true] at c1
        have hes : esz x sz = sz := by
          cases x with
          | str s => simp only [esz]; exact (beqT c1.2).symm
          | _ => rfl
        rw [hes] at hv
        have go : ∀ (b off dlen c : Nat) (B m : Nat), ρ b = some (B, m) → dl = dlen → vd = .slice (some ⟨B, off, none⟩) dlen c → (kput hp b off (xs.take (Nat.min n dl * sz))).map (fun hp' => (KV.int .i64 (Nat.min n dl), hp')) = some (r, hp') →
            ∃ u w', (Builtin.copy_ (t :: ts).toArray ty #[vd, vx]).run P w = .ok u w' ∧ VR ρ r u ∧ HR ρ w0 hp' w' := by
          intro b off dlen c B m hB hdd hvd hk
          subst hdd hvd
          cases hp1 : kput hp b off (xs.take (Nat.min n dl * sz)) with
          | none => rw [hp1] at hk; cases hk
          | some hq =>
            rw [hp1] at hk
            simp only [Option.map_some, Option.some.injEq, Prod.mk.injEq] at hk
            obtain ⟨rfl, rfl⟩ := hk
            obtain ⟨w', s1, s2⟩ := kput_sound (P := P) h hB hv hp1
            refine ⟨goInt (Nat.min n dl), w', ?_, .int _ _, s2⟩
            simp only [Builtin.copy_, List.getElem?_toArray, List.getElem?_cons_zero, List.getElem?_cons_succ, Sem.run_bind, run_underlying hde, Result.andThen_ok, hlx, hrs, hf, s1, Sem.run_pure]
        cases hd with
        | nilsl =>
          simp only [klen, Option.some.injEq] at hdl; subst hdl
          cases hk
          refine ⟨goInt 0, w, ?_, .int _ _, h⟩
          have hz : Nat.min n 0 = 0 := Nat.min_eq_right (Nat.zero_le _)
          rw [hz] at hf
          simp only [Builtin.copy_, List.getElem?_toArray, List.getElem?_cons_zero, List.getElem?_cons_succ, Sem.run_bind, run_underlying hde, Result.andThen_ok, hlx, hrs, hz, hf, Sem.run_pure]
          rfl
        | sl b off len cap B m hB hlc =>
          simp only [klen, Option.some.injEq] at hdl
          exact go b off len cap B m hB hdl.symm rfl hk
        | slo b off len z kc B m c hB hlc hkc hcm =>
          simp only [klen, Option.some.injEq] at hdl
          exact go b off len c B m hB hdl.symm rfl hk
        | _ => cases hk
      · cases hk
    · cases hk
  · cases hk

theorem kclear_sound (h : HR ρ w0 hp w) {t ty : TypeId} {ts : List TypeId} {x : KV} {vx : Value} {hp' : T KO} (hx : VR ρ x vx) (hk : kclear P hp t x = some hp') : ∃ w', (Builtin.clear_ (t :: ts).toArray ty #[vx]).run P w = .ok (.tuple #[]) w' ∧ HR ρ w0 hp' w' := by
  unfold kclear at hk
  split at hk
  · rename_i e hd
    cases hk; cases hx
    exact ⟨w, by simp only [Builtin.clear_, List.getElem?_toArray, List.getElem?_cons_zero, Sem.run_bind, run_underlying hd, Result.andThen_ok, Sem.run_pure], h⟩
  · rename_i e b off len cap hd
    split at hk
    · rename_i z sz hz hsz
      obtain ⟨c1, hk⟩ := bifS hk
      simp only [Bool.and_eq_true] at c1
      cases hx with | sl _ _ _ _ B m hB hlc =>
      cases h0 : Nat.beq len 0 with
      | true =>
        rw [h0] at hk; cases hk
        obtain rfl := beqT h0
        exact ⟨w, by simp only [Builtin.clear_, List.getElem?_toArray, List.getElem?_cons_zero, Sem.run_bind, run_underlying hd, Result.andThen_ok, Sem.run_pure], h⟩
      | false =>
        rw [h0] at hk
        simp only [cond_false] at hk
        obtain ⟨vz, hrz, hvz⟩ := tzero_spec (P := P) (ρ := ρ) (w := w) hz
        have hcz := hvz.cells
        have hz0 : 0 < z.cells.length := by have := beqT c1.1; have := bleT c1.2; omega
        have hzv := zeros_VRs hz0 hcz len
        obtain ⟨w', s1, s2⟩ := kput_sound (P := P) h hB hzv hk
        refine ⟨w', ?_, s2⟩
        have hne : len ≠ 0 := fun e => by subst e; cases h0
        have hl : ∃ k, len = k + 1 := ⟨len - 1, by omega⟩
        obtain ⟨k, rfl⟩ := hl
        have s1' : (storeCells ⟨B, off, none⟩ (Builtin.zeroCells vz.cells (k + 1)).toList).run P w = .ok () w' := s1
        simp only [Builtin.clear_, List.getElem?_toArray, List.getElem?_cons_zero, Sem.run_bind, run_underlying hd, Result.andThen_ok, Sem.run_pure, hrz, s1']
    · cases hk
  · rename_i e b off len z0 kc hd
    split at hk
    · rename_i z sz hz hsz
      obtain ⟨c1, hk⟩ := bifS hk
      simp only [Bool.and_eq_true] at c1
      cases hx with | slo _ _ _ _ _ B m c hB hlc hkc hcm =>
      cases h0 : Nat.beq len 0 with
      | true =>
        rw [h0] at hk; cases hk
        obtain rfl := beqT h0
        exact ⟨w, by simp only [Builtin.clear_, List.getElem?_toArray, List.getElem?_cons_zero, Sem.run_bind, run_underlying hd, Result.andThen_ok, Sem.run_pure], h⟩
      | false =>
        rw [h0] at hk
        simp only [cond_false] at hk
        obtain ⟨vz, hrz, hvz⟩ := tzero_spec (P := P) (ρ := ρ) (w := w) hz
        have hcz := hvz.cells
        have hz0 : 0 < z.cells.length := by have := beqT c1.1; have := bleT c1.2; omega
        have hzv := zeros_VRs hz0 hcz len
        obtain ⟨w', s1, s2⟩ := kput_sound (P := P) h hB hzv hk
        refine ⟨w', ?_, s2⟩
        have hne : len ≠ 0 := fun e => by subst e; cases h0
        have hl : ∃ k, len = k + 1 := ⟨len - 1, by omega⟩
        obtain ⟨k, rfl⟩ := hl
        have s1' : (storeCells ⟨B, off, none⟩ (Builtin.zeroCells vz.cells (k + 1)).toList).run P w = .ok () w' := s1
        simp only [Builtin.clear_, List.getElem?_toArray, List.getElem?_cons_zero, Sem.run_bind, run_underlying hd, Result.andThen_ok, Sem.run_pure, hrz, s1']
    · cases hk
  · cases hk

/-! ## Maps -/
theorem kmodify_ER {es : List KE} {l : List MapEntry} {f : KE → KE} {g : MapEntry → MapEntry} (hfg : ∀ e x, VR ρ e.key x.key ∧ VR ρ e.val x.val ∧ x.born = e.born → VR ρ (f e).key (g x).key ∧ VR ρ (f e).val (g x).val ∧ (g x).born = (f e).born) (h : ER ρ es l) : ∀ i, ER ρ (kmodify f es i) (l.modify i g) := by
  induction es generalizing l with
  | nil =>
    intro i
    cases l with
    | nil => simpa [kmodify] using ER.nil
    | cons => have := h.1; simp at this
  | cons e es ih =>
    intro i
    cases l with
    | nil => have := h.1; simp at this
    | cons x l =>
      cases i with
      | zero => simp only [kmodify, List.modify_zero_cons]; exact .cons (hfg _ _ h.head) h.tail
      | succ i => simp only [kmodify, List.modify_succ_cons]; exact .cons h.head (ih h.tail i)

theorem kerase_ER {es : List KE} {l : List MapEntry} (h : ER ρ es l) : ∀ i, ER ρ (keraseIdx es i) (l.eraseIdx i) := by
  induction es generalizing l with
  | nil =>
    intro i
    cases l with
    | nil => simpa [keraseIdx] using ER.nil
    | cons => have := h.1; simp at this
  | cons e es ih =>
    intro i
    cases l with
    | nil => have := h.1; simp at this
    | cons x l =>
      cases i with
      | zero => simp only [keraseIdx, List.eraseIdx_cons_zero]; exact h.tail
      | succ i => simp only [keraseIdx, List.eraseIdx_cons_succ]; exact .cons h.head (ih h.tail i)

theorem HR.putObj (h : HR ρ w0 hp w) {b B m : Nat} (hb : ρ b = some (B, m)) (hl : hp.get b ≠ some .dead) {o : KO} {obj : Obj} (ho : OR ρ m o obj) : HR ρ w0 (hp.set b o) (w.putObj B obj) :=
  h.turn hb hl ho rfl rfl rfl World.putObj_size (World.putObj_heap_same (h.lt hb)) (fun k hk => World.putObj_heap_other hk)

theorem run_setObj_map' {r : Nat} {es : Array MapEntry} {c : Nat} (o : Obj) (hb : w.heap[r]? = some (.map es c)) : (setObj r o).run P w = .ok () (w.putObj r o) := by
  simp [setObj, Sem.run, hb, World.putObj]

theorem kupdate_sound (hF : ∀ t ∈ F, flatOk P t = true) (h : HR ρ w0 hp w) {t : TypeId} {x k v : KV} {vx vk vv : Value} {hp' : T KO} (hx : VR ρ x vx) (hk : VR ρ k vk) (hv : VR ρ v vv) (hu : kupdate P F t hp x k v = some hp') : ∃ w', (Instr.mapUpdate t vx vk vv).run P w = .ok () w' ∧ HR ρ w0 hp' w' := by
  unfold kupdate at hu
  split at hu
  · rename_i kt et b hd
    split at hu
    · rename_i es c d ho hkk
      obtain ⟨hkd, hck, hb⟩ := keyKind_spec (w := w) hF hkk hk
      have hck : ∀ em, (Instr.checkKey em 10000 kt vk).run P w = .ok () w := fun em => hck em 9998
      cases hx with | map _ B m hB =>
      obtain ⟨ents, hh, hER⟩ := map_obj h hB ho
      have hg := MapKept.run_getObj_map (P := P) hh
      split at hu
      · rename_i i v' hf
        cases hu
        obtain ⟨r', h1, h2⟩ := kfind_sound (w := w) hkd hb hk hER hf
        cases r' with
        | none => exact h2.elim
        | some q =>
          obtain ⟨j', u⟩ := q
          obtain ⟨rfl, m', e', x', hj, h3, h4, rfl, rfl, h7⟩ := h2
          have hm : j' = m' := by omega
          subst hm
          have hx' : ents[j']? = some x' := by rw [← Array.getElem?_toList]; exact h4
          have hst := stays (P := P) (w := w) h7 hk (hER.2 _ _ _ h3 h4).1
          refine ⟨w.putObj B (.map (ents.modify j' fun e => { e with key := vk, val := vv }) c), ?_, h.putObj hB (by rw [ho]; simp) ⟨_, rfl, ?_⟩⟩
          · simp only [Instr.mapUpdate, Sem.run_bind, run_underlying hd, Result.andThen_ok, hg, hck, h1, hx', Option.map_some, Option.getD_some, hst, run_setObj_map' _ hh]
          · have := kmodify_ER (ρ := ρ) (f := fun e : KE => { e with key := k, val := v }) (g := fun e : MapEntry => { e with key := vk, val := vv }) (fun e x he => ⟨hk, hv, he.2.2⟩) hER j'
            have e : (ents.modify j' fun e => { e with key := vk, val := vv }).toList = ents.toList.modify j' fun e => { e with key := vk, val := vv } := by simp
            show ER ρ _ _
            rw [e]; exact this
      · rename_i hf
        cases hu
        obtain ⟨r', h1, h2⟩ := kfind_sound (w := w) hkd hb hk hER hf
        cases r' with
        | some _ => exact h2.elim
        | none =>
          refine ⟨w.putObj B (.map (ents.push { key := vk, val := vv, born := c }) (c + 1)), ?_, h.putObj hB (by rw [ho]; simp) ⟨_, rfl, ?_⟩⟩
          · simp only [Instr.mapUpdate, Sem.run_bind, run_underlying hd, Result.andThen_ok, hg, hck, h1, run_setObj_map' _ hh]
          · have := hER.append (ER.cons (ρ := ρ) (e := { key := k, val := v, born := c }) (x := { key := vk, val := vv, born := c }) ⟨hk, hv, rfl⟩ .nil)
            have e : (ents.push { key := vk, val := vv, born := c }).toList = ents.toList ++ [{ key := vk, val := vv, born := c }] := by simp
            show ER ρ _ _
            rw [e]; exact this
      · cases hu
    · cases hu
  · cases hu

theorem kdelete_sound (hF : ∀ t ∈ F, flatOk P t = true) (h : HR ρ w0 hp w) {t ty : TypeId} {ts : List TypeId} {x k : KV} {vx vk : Value} {hp' : T KO} (hx : VR ρ x vx) (hk : VR ρ k vk) (hu : kdelete P F t hp x k = some hp') : ∃ w', (Builtin.delete_ (t :: ts).toArray ty #[vx, vk]).run P w = .ok (.tuple #[]) w' ∧ HR ρ w0 hp' w' := by
  unfold kdelete at hu
  split at hu
  · rename_i kt et b hd
    split at hu
    · rename_i es c d ho hkk
      obtain ⟨hkd, hck, hb⟩ := keyKind_spec (w := w) hF hkk hk
      have hck : ∀ em, (Instr.checkKey em 10000 kt vk).run P w = .ok () w := fun em => hck em 9998
      cases hx with | map _ B m hB =>
      obtain ⟨ents, hh, hER⟩ := map_obj h hB ho
      have hg := MapKept.run_getObj_map (P := P) hh
      split at hu
      · rename_i i v' hf
        cases hu
        obtain ⟨r', h1, h2⟩ := kfind_sound (w := w) hkd hb hk hER hf
        cases r' with
        | none => exact h2.elim
        | some q =>
          obtain ⟨j', u⟩ := q
          obtain ⟨rfl, m', e', x', hj, h3, h4, rfl, rfl, h7⟩ := h2
          have hm : j' = m' := by omega
          subst hm
          refine ⟨w.putObj B (.map (ents.eraseIdxIfInBounds j') c), ?_, h.putObj hB (by rw [ho]; simp) ⟨_, rfl, ?_⟩⟩
          · simp only [Builtin.delete_, List.getElem?_toArray, List.getElem?_cons_zero, List.getElem?_cons_succ, Sem.run_bind, run_underlying hd, Result.andThen_ok, hg, hck, h1, run_setObj_map' _ hh, Sem.run_pure]
          · have := kerase_ER hER j'
            have e : (ents.eraseIdxIfInBounds j').toList = ents.toList.eraseIdx j' := by
              simp
            rw [e]; exact this
      · rename_i hf
        cases hu
        obtain ⟨r', h1, h2⟩ := kfind_sound (w := w) hkd hb hk hER hf
        cases r' with
        | some _ => exact h2.elim
        | none =>
          refine ⟨w.putObj B (.map ents c), ?_, ?_⟩
          · simp only [Builtin.delete_, List.getElem?_toArray, List.getElem?_cons_zero, List.getElem?_cons_succ, Sem.run_bind, run_underlying hd, Result.andThen_ok, hg, hck, h1, run_setObj_map' _ hh, Sem.run_pure]
          · have hself : w.putObj B (.map ents c) = w := by
              have hlt : B < w.heap.size := (Array.getElem?_eq_some_iff.1 hh).1
              have : w.heap.setIfInBounds B (.map ents c) = w.heap := by
                apply Array.ext_getElem?
                intro j
                by_cases e : j = B
                · subst e; rw [Array.getElem?_eq_getElem hlt] at hh; simp [hlt]; exact (Option.some.inj hh).symm
                · rw [Array.getElem?_setIfInBounds_ne (Ne.symm e)]
              simp [World.putObj, this]
            rw [hself]; exact h
      · cases hu
    · cases hu
  · cases hu
end Go.KX
