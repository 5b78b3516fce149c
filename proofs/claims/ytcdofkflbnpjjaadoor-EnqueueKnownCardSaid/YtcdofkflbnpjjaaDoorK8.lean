/-
  The executor's operations that make blocks or write in them.
-/
import Derived.Test.YtcdofkflbnpjjaaDoorK7
set_option linter.unusedVariables false
set_option linter.unusedSimpArgs false
namespace Go.KX
open Go.RowKit (Below)
variable {P : Program} {F : List TypeId} {ρ : Ren} {w0 w : World} {hp : T KO}

theorem fresh_spec {b : Nat} (h : fresh hp b = true) : hp.get b = none := by
  unfold fresh at h
  cases hb : hp.get b with
  | none => rfl
  | some o => rw [hb] at h; cases h

/-- a new row -/
theorem row_new (h : HR ρ w0 hp w) {self : Nat} (hf : hp.get self = none) {cs : List KV} {us : Array Value} (t : TypeId) (hv : VRs ρ cs us.toList) :
    HR (ρ.upd self (w.heap.size, us.size)) w0 (hp.set self (.row cs)) (w.alloc (.cells us t)) ∧ Ext ρ (ρ.upd self (w.heap.size, us.size)) ∧ ρ.upd self (w.heap.size, us.size) self = some (w.heap.size, us.size) := by
  have he : Ext ρ (ρ.upd self (w.heap.size, us.size)) := Ren.ext_upd (h.none hf)
  obtain ⟨h1, h2⟩ := h.new (b := self) (m := us.size) hf (o := .row cs) (obj := .cells us t) ⟨us, t, rfl, rfl, by rw [hv.1]; simp, by
    have : us.toList.take cs.length = us.toList := List.take_of_length_le (by rw [hv.1]; exact Nat.le_refl _)
    rw [this]
    exact hv.mono he⟩
  exact ⟨h1, h2, Ren.upd_same _ _⟩

/-- a new row, only the first of whose cells are told -/
theorem row_new' (h : HR ρ w0 hp w) {self : Nat} (hf : hp.get self = none) {cs : List KV} {us : Array Value} (t : TypeId) (hl : cs.length ≤ us.size) (hv : VRs ρ cs (us.toList.take cs.length)) :
    HR (ρ.upd self (w.heap.size, us.size)) w0 (hp.set self (.row cs)) (w.alloc (.cells us t)) ∧ Ext ρ (ρ.upd self (w.heap.size, us.size)) ∧ ρ.upd self (w.heap.size, us.size) self = some (w.heap.size, us.size) := by
  have he : Ext ρ (ρ.upd self (w.heap.size, us.size)) := Ren.ext_upd (h.none hf)
  obtain ⟨h1, h2⟩ := h.new (b := self) (m := us.size) hf (o := .row cs) (obj := .cells us t) ⟨us, t, rfl, rfl, hl, hv.mono he⟩
  exact ⟨h1, h2, Ren.upd_same _ _⟩

theorem knew_sound (h : HR ρ w0 hp w) {self : Nat} {x : KV} {vx : Value} {r : KV} {hp' : T KO} (hx : VR ρ x vx) (t : TypeId) (hk : knew hp self x.cells = some (r, hp')) : ∃ u w' ρ', ((do pure (.pointer (some (← newVar t vx))) : Sem Value)).run P w = .ok u w' ∧ VR ρ' r u ∧ HR ρ' w0 hp' w' ∧ Ext ρ ρ' := by
  unfold knew at hk
  obtain ⟨hc, hk⟩ := bifS hk
  cases hk
  simp only [Bool.and_eq_true] at hc
  obtain ⟨h1, h2, h3⟩ := row_new h (fresh_spec hc.1) t hx.cells
  refine ⟨.pointer (some ⟨w.heap.size, 0, none⟩), w.alloc (.cells vx.cells t), _, ?_, .ptr _ _ _ _ h3, h1, h2⟩
  simp only [newVar, newRow, Sem.run_bind, run_newObj_alloc, Result.andThen_ok, Sem.run_pure]

theorem kput_sound (h : HR ρ w0 hp w) {b off : Nat} {xs : List KV} {vs : List Value} {hp' : T KO} {B m : Nat} (hB : ρ b = some (B, m)) (hv : VRs ρ xs vs) (hk : kput hp b off xs = some hp') :
    ∃ w', (storeCells ⟨B, off, none⟩ vs).run P w = .ok () w' ∧ HR ρ w0 hp' w' := by
  unfold kput at hk
  split at hk
  · rename_i cs ho
    obtain ⟨hc, hk⟩ := bifS hk
    cases hk
    simp only [Bool.and_eq_true] at hc
    have hle := bleT hc.1
    obtain ⟨c, t, hh, hm, hcl, hcv⟩ := row_obj h hB ho
    have hvl := hv.1
    have hrun := run_storeCells_at (P := P) B off t vs 0 c w hh (by omega) (hv.one hc.2)
    refine ⟨_, hrun, ?_⟩
    simp only [Nat.add_zero]
    have hlen : (c.toList.take off ++ vs ++ c.toList.drop (off + vs.length)).length = c.size := by simp; omega
    refine h.turn hB (by rw [ho]; simp) (obj := .cells (c.toList.take off ++ vs ++ c.toList.drop (off + vs.length)).toArray t (0, 0)) ⟨_, t, rfl, by simp; omega, by rw [put_len hle]; exact hcl, ?_⟩ (setRow_os _ _ _) (setRow_tape _ _ _) (setRow_output _ _ _) (setRow_size _ _ _) (setRow_heap w B c _ t (0, 0) hh) (fun k hk => setRow_other w B k _ hk)
    rw [put_len hle]
    have hpv := put_VRs hcv hv (off := off)
    have e : (c.toList.take off ++ vs ++ c.toList.drop (off + vs.length)).toArray.toList.take cs.length = putV (c.toList.take cs.length) off vs := by
      unfold putV
      apply List.ext_getElem?
      intro i
      simp only [List.getElem?_take, List.toList_toArray, List.append_assoc]
      by_cases hi : i < cs.length
      · rw [if_pos hi]
        by_cases h1 : i < off
        · rw [List.getElem?_append_left (by simp; omega), List.getElem?_append_left (by simp; omega)]
          simp [h1, hi]
        · have e1 : (c.toList.take off).length = off := by simp; omega
          have e2 : ((c.toList.take cs.length).take off).length = off := by simp; omega
          rw [List.getElem?_append_right (l₁ := c.toList.take off) (by rw [e1]; omega), List.getElem?_append_right (l₁ := (c.toList.take cs.length).take off) (by rw [e2]; omega), e1, e2]
          by_cases h2 : i - off < vs.length
          · rw [List.getElem?_append_left h2, List.getElem?_append_left h2]
          · rw [List.getElem?_append_right (by omega), List.getElem?_append_right (by omega)]
            rw [List.getElem?_drop, List.getElem?_drop, List.getElem?_take, if_pos (by omega)]
      · rw [if_neg hi]
        symm
        apply List.getElem?_eq_none
        simp
        omega
    rw [e]
    exact hpv
  · cases hk

theorem kstore_sound (h : HR ρ w0 hp w) {t : TypeId} {x y : KV} {vx vy : Value} {hp' : T KO} (hx : VR ρ x vx) (hy : VR ρ y vy) (hk : kstore P t hp x y = some hp') : ∃ w', (Instr.storeAt t vx vy).run P w = .ok () w' ∧ HR ρ w0 hp' w' := by
  unfold kstore at hk
  split at hk
  · rename_i b off n hn
    obtain ⟨hl, hk⟩ := bifS hk
    cases hx with | ptr _ _ B m hB =>
    obtain ⟨_, _, _, hrs⟩ := tsz_spec (w := w) hn
    have hcy := hy.cells
    obtain ⟨w', h1, h2⟩ := kput_sound (P := P) h hB hcy hk
    have hsz : vy.cells.size = n := by
      have := beqT hl
      rw [hcy.1] at this; simpa using this
    exact ⟨w', by simp only [Instr.storeAt, Instr.sureAddr, storeVar, Sem.run_bind, Sem.run_pure, Result.andThen_ok, hrs, hsz, ne_eq, not_true_eq_false, if_false, h1], h2⟩
  · cases hk

/-! ## Rows of zeros -/
theorem reps_len (z : List KV) : ∀ n, (reps z n).length = n * z.length
  | 0 => by simp [reps]
  | n + 1 => by simp only [reps, List.length_append, reps_len z n, Nat.add_mul]; omega
theorem reps_get (z : List KV) (hz : 0 < z.length) : ∀ (n i : Nat), i < n * z.length → (reps z n)[i]? = z[i % z.length]?
  | 0, i, h => by simp at h
  | n + 1, i, h => by
    simp only [reps]
    by_cases hi : i < z.length
    · rw [List.getElem?_append_left hi, Nat.mod_eq_of_lt hi]
    · rw [List.getElem?_append_right (by omega), reps_get z hz n _ (by rw [Nat.add_mul] at h; omega)]
      congr 1
      rw [← Nat.mod_eq_sub_mod (by omega)]

theorem zeros_VRs {z : List KV} {zc : Array Value} (hz : 0 < z.length) (hv : VRs ρ z zc.toList) (n : Nat) : VRs ρ (reps z n) ((Array.range (n * zc.size)).map fun i => zc[i % zc.size]!).toList := by
  have hl : z.length = zc.size := by rw [hv.1]; simp
  refine ⟨by rw [reps_len, hl]; simp, fun i x y hx hy => ?_⟩
  have hi : i < n * z.length := by
    have := (List.getElem?_eq_some_iff.1 hx).1
    rwa [reps_len] at this
  rw [reps_get z hz n i hi] at hx
  have hm : i % z.length < z.length := Nat.mod_lt _ hz
  rw [Array.getElem?_toList, Array.getElem?_map, Array.getElem?_range, if_pos (by rw [← hl]; exact hi)] at hy
  simp only [Option.map_some, Option.some.injEq] at hy
  have hm' : i % zc.size < zc.size := by rw [← hl]; exact hm
  have : zc.toList[i % z.length]? = some y := by
    rw [← hy, hl, Array.getElem?_toList]
    simp [hm']
  exact hv.2 _ x y hx this

theorem emptyRange (f : Nat → Value) : (Array.range 0).map f = #[] := Array.eq_empty_of_size_eq_zero (by simp)
theorem wrap_id {n : Int} (h0 : 0 ≤ n) (h1 : n < 9223372036854775808) : IntKind.i64.wrap n = n := by
  have h : n % (2 ^ 64 : Int) = n := Int.emod_eq_of_lt h0 (by omega)
  have h2 : ¬ ((2 : Int) ^ (64 - 1) ≤ n) := by omega
  simp only [IntKind.wrap, IntKind.bits, IntKind.signed, h, ge_iff_le, Bool.true_and, decide_eq_true_eq, if_neg h2]

theorem kmakeSlice_sound (h : HR ρ w0 hp w) {self : Nat} {t : TypeId} {l c r : KV} {vl vc : Value} {hp' : T KO} (hl : VR ρ l vl) (hc : VR ρ c vc) (hk : kmakeSlice P self hp t l c = some (r, hp')) : ∃ u w' ρ', (Instr.makeSlice t vl vc).run P w = .ok u w' ∧ VR ρ' r u ∧ HR ρ' w0 hp' w' ∧ Ext ρ ρ' := by
  unfold kmakeSlice at hk
  split at hk
  · rename_i kl l kc c e hd
    cases hl; cases hc
    split at hk
    · rename_i sz by_ z hs hby hz
      obtain ⟨hcnd, hk⟩ := bifS hk
      cases hk
      simp only [Bool.and_eq_true, decide_eq_true_eq] at hcnd
      obtain ⟨c1, c2, c3, c4, c5, c6, c7, c8⟩ := hcnd
      obtain ⟨i, hi, hisz, hrs⟩ := tsz_spec (w := w) hs
      obtain ⟨vz, hrz, hvz⟩ := tzero_spec (P := P) (ρ := ρ) (w := w) hz
      have hby' : i.bytes = by_ := by unfold tby at hby; rw [hi] at hby; simpa using hby
      have h5 := bleT c5
      have h6 := beqT c6
      have hz0 : 0 < z.cells.length := by omega
      have hti : (typeInfo e).run P w = .ok i w := by simp [typeInfo, hi, Result.andThen]
      have hwl : IntKind.i64.wrap l = l := wrap_id (by omega) (by omega)
      have hwc : IntKind.i64.wrap c = c := wrap_id (by omega) (by omega)
      have hcz := hvz.cells
      have hzs : vz.cells.size = sz := by rw [← h6, hcz.1]; simp
      have hzv := zeros_VRs hz0 hcz c.toNat
      rw [hzs] at hzv
      by_cases hc0 : c.toNat * sz = 0
      · have hcn : c.toNat = 0 := by
          rcases Nat.mul_eq_zero.1 hc0 with h0 | h0
          · exact h0
          · omega
        have hreps : reps z.cells c.toNat = [] := by rw [hcn]; rfl
        obtain ⟨g1, g2, g3⟩ := row_new h (fresh_spec c8) (cs := []) (us := #[]) e VRs.nil
        refine ⟨.slice (some ⟨w.heap.size, 0, none⟩) l.toNat c.toNat, _, _, ?_, .sl _ _ _ _ _ _ g3 (by omega), by rw [hreps]; exact g1, g2⟩
        have e1 : ¬ (c < 0 ∨ (by_ : Int) * c > 2 ^ 48) := by
          have : (by_ : Int) * c = c * by_ := Int.mul_comm _ _
          omega
        have e2 : ¬ (decide (c < 0) || decide ((by_ : Int) * c > 2 ^ 48) || decide (l < 0) || decide (l > c)) = true := by
          simp only [Bool.or_eq_true, decide_eq_true_eq]; omega
        have e3 : ¬ (c.toNat * by_ > roomBytes) := by rw [hcn]; simp
        simp only [Instr.makeSlice, Sem.run_bind, run_underlying hd, Result.andThen_ok, asInt, asIntOf, Sem.run_pure, hti, hby', hwl, hwc, e2, Bool.false_eq_true, if_false, askRoom, if_neg e3, hrs, hc0, newRow, run_newObj_alloc, if_true]
        rw [emptyRange]
      · obtain ⟨g1, g2, g3⟩ := row_new h (fresh_spec c8) (us := (Array.range (c.toNat * sz)).map fun i => vz.cells[i % sz]!) e hzv
        refine ⟨.slice (some ⟨w.heap.size, 0, none⟩) l.toNat c.toNat, _, _, ?_, .sl _ _ _ _ _ _ g3 (by omega), g1, g2⟩
        have e2 : ¬ (decide (c < 0) || decide ((by_ : Int) * c > 2 ^ 48) || decide (l < 0) || decide (l > c)) = true := by
          have : (by_ : Int) * c = c * by_ := Int.mul_comm _ _
          simp only [Bool.or_eq_true, decide_eq_true_eq]; omega
        have e3 : ¬ (c.toNat * by_ > roomBytes) := by
          have : ((c.toNat * by_ : Nat) : Int) = c * by_ := by rw [Int.natCast_mul, Int.toNat_of_nonneg (by omega)]
          simp only [roomBytes]; omega
        simp only [Instr.makeSlice, Sem.run_bind, run_underlying hd, Result.andThen_ok, asInt, asIntOf, Sem.run_pure, hti, hby', hwl, hwc, e2, Bool.false_eq_true, if_false, hrs, hc0, newRow, run_newObj_alloc, askRoom, if_neg e3, hrz, hzs]
    · cases hk
  · cases hk
end Go.KX
