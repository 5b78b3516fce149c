/-
  slices.SortFunc as a call that is handed a row.
-/
import Derived.Test.YtcdofkflbnpjjaaAE26
import Derived.Shelf.SlSortCmp.NoneTotal
set_option linter.unusedVariables false
set_option maxRecDepth 100000
namespace Go.AE
open Go.Proofs (CmpLays ltOf sortWorldK)
open Go.Sort (SWO pdq PermIn SortedIn HoldsK flatK putRowK)
variable {P : Program} {β : Type} [Inhabited β]

def oneK : Kd → Bool
  | .bool => true
  | .int _ => true
  | .str => true
  | .slice _ => true
  | _ => false
theorem oneK_one {w : World} {al : Nat → Prop} {k : Kd} {v : Value} {x : C} (hk : oneK k = true) (h : RepC P w al k v x) : v.oneCell' = true :=
  h.one (by rintro rfl; simp [oneK] at hk) ⟨by rintro t rfl; simp [oneK] at hk, by rintro t rfl; simp [oneK] at hk⟩

theorem callsM_sort {ρ : Go.Shelf.Ren} (L : Go.Proofs.SlLaysF0.n6 P ρ) {E : TyI} (hE : tyI P (ρ.t 24) = some E)
    (aE : ∀ w, (isAgg (ρ.t 24)).run P w = .ok true w) (zE : ∀ w, (Go.sizeOf (ρ.t 24)).run P w = .ok E.kinds.length w) (hbytes : 0 < E.bytes) (hks : ∀ j, j < E.kinds.length → oneK (E.kinds.getD j .other) = true)
    {g : FuncId} (hent : ∀ args w, (callFunc g args).run P w = .ok (.enter g args) w) (e : β → List C) (he : ∀ x, (e x).length = E.kinds.length) (cmp : β → β → Int) (l : List β) (hO : SWO (ltOf (cmpI cmp l)))
    (hraw : ∀ x ∈ l, ∀ y ∈ l, RawCmp P g E.kinds (e x) (e y) (cmp x y)) :
    CallsM P (ρ.f 6) [.ref (.own 0 E.kinds 0 l.length), .ref (.fnv g [])] [.row (ρ.t 24) (l.map e)] [] [.row (ρ.t 24) ((srt cmp l).map e)] := by
  refine ⟨fun args w => L.f6.enters rfl args w, Nat.le_refl _, ?_⟩
  intro w al σ vs hal hB hinj hvl hvs
  match vs, hvl with
  | [v0, v1], _ =>
    have hv0 := hvs 0 (by simp)
    have hv1 := hvs 1 (by simp)
    simp only [List.getD_cons_zero, List.getD_cons_succ, ArgM] at hv0 hv1
    have hr : RowRel P w (fun b => b < w.heap.size) al (σ 0) (ρ.t 24) (l.map e) := hB 0
    have ev1 : v1 = .func (.func g) #[] #[] := by
      cases hv1 with
      | fnv f caps vs hl h =>
        have : vs = [] := List.eq_nil_of_length_eq_zero (by simpa using hl)
        subst this; rfl
    subst ev1
    by_cases hl : l = []
    · subst hl
      obtain ⟨p, cap, ev0⟩ : ∃ p cap, v0 = .slice p 0 cap := by
        rcases own_at hv0 hr with ⟨_, h⟩ | ⟨b, cap, n, t', _, _, h⟩
        · exact ⟨_, _, h⟩
        · exact ⟨_, _, h⟩
      subst ev0
      refine Calls.mono (Go.Proofs.AnyF.slices_SortFunc_none L p cap _ w) ?_
      rintro ex w' ⟨rfl, rfl⟩
      have hs : srt cmp [] = [] := List.eq_nil_of_length_eq_zero (srt_length cmp [] hO)
      rw [hs]
      exact ⟨_, rfl, resM_row hal hB hinj (BelowX.refl _ _ _) rfl hr⟩
    · have hn : 0 < l.length := List.length_pos_iff.2 hl
      obtain ⟨E', hE', hby, hr'⟩ := hr
      rw [hE] at hE'
      cases hE'
      rcases hr' with ⟨_, h⟩ | ⟨b, cap, cur, tg, hs, hbB, hh, hlc, hcm, hsz, hel, hrep⟩
      · exact absurd (by simpa using h) hl
      · simp only [List.length_map] at hs hlc hel hrep
        rcases own_at hv0 (hB 0) with ⟨h0, _⟩ | ⟨b', cap', n', t', hs', hle, ev0⟩
        · omega
        · rw [hs] at hs'
          cases hs'
          subst ev0
          have hrep' : ∀ i, i < l.length → ∀ j, j < E.kinds.length → RepC P w al (E.kinds.getD j .other) (cur.getD (i * E.kinds.length + j) undef) (cg (e (gt l i)) j) := by
            intro i hi j hj
            have h := hrep i hi j hj
            have e1 : eg (l.map e) i = e (gt l i) := by
              simp [eg, gt, List.getD_eq_getElem?_getD, hi]
            rwa [e1] at h
          have hcl : ∀ i, cl l.length i < l.length := fun i => by unfold cl; split <;> omega
          have h1 : ∀ x, ∀ v ∈ rawOf cur E.kinds.length l.length x, v.oneCell' = true := by
            intro x v hv
            simp only [rawOf, List.mem_map, List.mem_range] at hv
            obtain ⟨j, hj, rfl⟩ := hv
            exact oneK_one (hks j hj) (hrep' _ (hcl x) j hj)
          have hH : HoldsK (rawOf cur E.kinds.length l.length) E.kinds.length w b 0 (Array.range l.length) := by
            intro j hj
            simp only [Go.Sort.size_flatK, Array.size_range] at hj
            have hk : 0 < E.kinds.length := by
              rcases Nat.eq_zero_or_pos E.kinds.length with h | h
              · rw [h] at hj; simp at hj
              · exact h
            have hjk : j / E.kinds.length < l.length := (Nat.div_lt_iff_lt_mul hk).2 hj
            have hjm : j % E.kinds.length < E.kinds.length := Nat.mod_lt _ hk
            have hjs : j < cur.size := by
              rw [hsz]; exact Nat.lt_of_lt_of_le hj (Nat.mul_le_mul_right _ hlc)
            have e1 : (flatK (rawOf cur E.kinds.length l.length) E.kinds.length (Array.range l.length))[j]! = cur[j] := by
              rw [Go.Sort.get_flatK _ _ _ _ (by simpa using hj)]
              have e2 : (Array.range l.length)[j / E.kinds.length]! = j / E.kinds.length := by
                rw [getElem!_pos _ _ (by simpa using hjk)]; simp
              rw [e2, getElem!_pos _ _ (by simpa [rawOf] using hjm)]
              simp only [rawOf, List.getElem_map, List.getElem_range, cl, hjk, if_true]
              rw [Nat.div_add_mod' j E.kinds.length]
              simp [Array.getD_eq_getD_getElem?, hjs]
            refine ⟨?_, ?_⟩
            · rw [e1]; simp [World.cell?, hh, hjs]
            · simp [World.frozen?, hh]
          have hmax : l.length < 4611686018427387904 := by
            have h3 := Int.mul_le_mul_of_nonneg_left (show (1 : Int) ≤ E.bytes by omega) (Int.natCast_nonneg l.length)
            rw [List.length_map] at hby
            omega
          have hS := Go.Proofs.AnyQ.slices_SortFunc_eq L E.kinds.length aE zE (rawOf cur E.kinds.length l.length) (fun x => by simp [rawOf]) h1 (cmpI cmp l) hO g #[] b 0 cap (Array.range l.length) w hent
            (cmpLays_of e he cmp l hl hraw hal (by rw [hs]; exact .inl rfl) cur hrep') hH hbB (by simpa using hmax)
          have hS' : Calls P (ρ.f 6) #[.slice (some ⟨b, 0, none⟩) l.length cap, .func (.func g) #[] #[]] w fun e w' => e = .returned (.tuple #[]) ∧ ∃ m os, w' = sortWorldK (rawOf cur E.kinds.length l.length) E.kinds.length w b 0 m (srtI cmp l) os := by
            unfold srtI
            simp only [Array.size_range] at hS ⊢
            exact hS
          refine Calls.mono hS' ?_
          rintro ex w' ⟨rfl, m, os, rfl⟩
          exact ⟨_, rfl, resM_sort hE e he cmp l hO hal hB hinj hs hh hlc hcm hsz hby hrep' m os⟩
end Go.AE
