/-
  The executor's operations: append, copy, clear, maps written, ranges.
-/
import Derived.Test.YtcdofkflbnpjjaaDoorK8
set_option linter.unusedVariables false
set_option linter.unusedSimpArgs false
namespace Go.KX
open Go.RowKit (Below)
variable {P : Program} {F : List TypeId} {ρ : Ren} {w0 w : World} {hp : T KO}

theorem kbuildSlice_sound (h : HR ρ w0 hp w) {self : Nat} {t : TypeId} {n : Nat} {ps : List (Nat × KV)} {vs : Array (Nat × Value)} {r : KV} {hp' : T KO} (hl : ps.length = vs.toList.length) (hv : ∀ (i : Nat) (p : Nat × KV) (v : Nat × Value), ps[i]? = some p → vs.toList[i]? = some v → p.1 = v.1 ∧ VR ρ p.2 v.2)
    (hk : kbuildSlice P self hp t n ps = some (r, hp')) : ∃ u w' ρ', (Instr.buildSlice t n vs).run P w = .ok u w' ∧ VR ρ' r u ∧ HR ρ' w0 hp' w' ∧ Ext ρ ρ' := by
  unfold kbuildSlice at hk
  split at hk
  · rename_i e hd
    split at hk
    · rename_i sz z hs hz
      obtain ⟨hc, hk⟩ := bifS hk
      simp only [Bool.and_eq_true] at hc
      obtain ⟨c1, c2, c3, c4, c5⟩ := hc
      split at hk
      · rename_i cs hf
        obtain ⟨c6, hk⟩ := bifS hk
        cases hk
        obtain ⟨_, _, _, hrs⟩ := tsz_spec (w := w) hs
        obtain ⟨vz, hrz, hvz⟩ := tzero_spec (P := P) (ρ := ρ) (w := w) hz
        have h1 := bleT c1
        have h2 := bleT c2
        have h3 := beqT c3
        have hcz := hvz.cells
        have hzs : vz.cells.size = sz := by rw [← h3, hcz.1]; simp
        have hzv := zeros_VRs (by omega : 0 < z.cells.length) hcz n
        rw [hzs] at hzv
        obtain ⟨us', hfl, hr⟩ := kfill_sound (ρ := ρ) (place' := fun i => some (i * sz, sz)) (fun i x hx => hx) hl hv hzv hf
        obtain ⟨g1, g2, g3⟩ := row_new h (fresh_spec c5) (us := us'.toArray) e (by simpa using hr)
        refine ⟨.slice (some ⟨w.heap.size, 0, none⟩) n n, _, _, ?_, .sl _ _ _ _ _ _ g3 (Nat.le_refl _), g1, g2⟩
        have e1 : ¬ (n * sz > 2 ^ 24) := by omega
        have hfl' : Instr.fill (fun i => some (i * sz, sz)) ((Array.range (n * sz)).map fun i => vz.cells[i % sz]!) vs.toList = some us'.toArray := by
          rw [← hfl]
        by_cases h0 : n * sz = 0
        · have hfl0 : Instr.fill (fun i => some (i * sz, sz)) #[] vs.toList = some us'.toArray := by
            rw [← hfl', h0, emptyRange]
          simp only [Instr.buildSlice, Sem.run_bind, run_underlying hd, Result.andThen_ok, hrs, h0, if_neg (by decide : ¬ (0 > 2 ^ 24)), if_true, Sem.run_pure, emptyRange, hfl0, newRow, run_newObj_alloc]
        · simp only [Instr.buildSlice, Sem.run_bind, run_underlying hd, Result.andThen_ok, hrs, if_neg e1, if_neg h0, hrz, Sem.run_pure, hzs, hfl', newRow, run_newObj_alloc]
      · cases hk
    · cases hk
  · cases hk

/-! ## append -/
theorem growBy_le (n : Nat) : ∀ (r c : Nat), Builtin.growBy n r c ≤ max c (n + (n + 768) / 4)
  | 0, c => by simp only [Builtin.growBy]; omega
  | r + 1, c => by
    simp only [Builtin.growBy]
    split
    · omega
    · have := growBy_le n r (c + (c + 768) / 4)
      omega
theorem nextcap_le {n c : Nat} (h : c < n) : Builtin.nextslicecap n c ≤ 2 * n + 1000 := by
  unfold Builtin.nextslicecap
  split
  · omega
  · split
    · omega
    · have := growBy_le n 4 c
      omega

/-- how many cells an element of a slice or string has -/
def esz (x : KV) (sz : Nat) : Nat := match x with | .str _ => 1 | _ => sz

theorem kelems_sound (h : HR ρ w0 hp w) {sz : Nat} {x : KV} {vx : Value} {xs : List KV} {n : Nat} (hx : VR ρ x vx) (hn : klen x = some n) (hk : kelems hp sz x = some xs) :
    (Builtin.lenOf vx).run P w = .ok n w ∧ xs.length = n * esz x sz ∧ ∀ k, k ≤ n → ∃ us : Array Value, (Builtin.firstCells sz k vx).run P w = .ok us w ∧ VRs ρ (xs.take (k * esz x sz)) us.toList := by
  cases x with
  | nilsl =>
    simp only [klen, Option.some.injEq] at hn
    subst hn
    simp only [kelems, Option.some.injEq] at hk; subst hk
    cases hx
    refine ⟨rfl, by simp [esz], fun k hk => ⟨#[], rfl, ?_⟩⟩
    simp only [List.take_nil]
    exact VRs.nil
  | slz =>
    simp only [klen, Option.some.injEq] at hn
    subst hn
    simp only [kelems, Option.some.injEq] at hk; subst hk
    cases hx
    refine ⟨rfl, by simp [esz], fun k hk => ⟨#[], ?_, ?_⟩⟩
    · obtain rfl : k = 0 := by omega
      simp [Builtin.firstCells, loadCells, loadCellsFrom]
    simp only [List.take_nil]
    exact VRs.nil
  | str s =>
    simp only [klen, Option.some.injEq] at hn
    subst hn
    simp only [kelems, Option.some.injEq] at hk; subst hk
    cases hx with | str _ vs hvs =>
    have hsz : vs.size = s.length := by rw [← hvs]; simp
    refine ⟨by simp [Builtin.lenOf, hsz], by simp [esz], fun k hk => ⟨(vs.extract 0 k).data.map fun b => .int .u8 b.toNat, rfl, ?_⟩⟩
    simp only [esz, Nat.mul_one]
    have e : ((vs.extract 0 k).data.map fun b => (Value.int .u8 b.toNat)).toList = (s.take k).map fun b => .int .u8 b.toNat := by
      rw [← hvs]
      simp [ByteArray.data_extract]
    rw [e, ← List.map_take]
    refine ⟨by simp, fun i a b h1 h2 => ?_⟩
    rw [List.getElem?_map] at h1 h2
    cases hg : (s.take k)[i]? with
    | none => rw [hg] at h1; cases h1
    | some c =>
      rw [hg] at h1 h2
      simp only [Option.map_some, Option.some.injEq] at h1 h2
      subst h1; subst h2
      exact .int _ _
  | sl b off len cap =>
    simp only [klen, Option.some.injEq] at hn
    subst hn
    simp only [kelems] at hk
    split at hk
    · rename_i cs ho
      obtain ⟨hc, hk⟩ := bifS hk
      cases hk
      have hle := bleT hc
      cases hx with | sl _ _ _ _ B m hB hlc =>
      refine ⟨rfl, by simp [esz]; omega, fun k hk => ?_⟩
      have hmul : k * sz ≤ len * sz := Nat.mul_le_mul_right _ hk
      obtain ⟨us, h1, h2⟩ := cells_of (P := P) h hB ho (off := off) (n := k * sz) (by omega)
      refine ⟨us.toArray, h1, ?_⟩
      simp only [esz]
      rw [List.take_take, Nat.min_eq_left hmul]
      simpa using h2
    · cases hk
  | slo b off len z kc =>
    simp only [klen, Option.some.injEq] at hn
    subst hn
    simp only [kelems] at hk
    split at hk
    · rename_i cs ho
      obtain ⟨hc, hk⟩ := bifS hk
      cases hk
      have hle := bleT hc
      cases hx with | slo _ _ _ _ _ B m c hB hlc0 hlc1 hcm =>
      refine ⟨rfl, by simp [esz]; omega, fun k hk => ?_⟩
      have hmul : k * sz ≤ len * sz := Nat.mul_le_mul_right _ hk
      obtain ⟨us, h1, h2⟩ := cells_of (P := P) h hB ho (off := off) (n := k * sz) (by omega)
      refine ⟨us.toArray, h1, ?_⟩
      simp only [esz]
      rw [List.take_take, Nat.min_eq_left hmul]
      simpa using h2
    · cases hk
  | _ => simp [klen] at hn

theorem T.set_set {α : Type} (t : T α) (i : Nat) (a b : α) (j : Nat) : ((t.set i a).set i b).get j = (t.set i b).get j := by
  rw [T.get_set, T.get_set, T.get_set]
  split <;> rfl

end Go.KX
