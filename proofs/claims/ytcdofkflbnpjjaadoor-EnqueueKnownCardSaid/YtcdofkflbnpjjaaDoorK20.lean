/-
  Ranges over functions; code; the executor is sound.
-/
import Derived.Test.YtcdofkflbnpjjaaDoorK19
set_option linter.unusedVariables false
set_option linter.unusedSimpArgs false
set_option maxRecDepth 20000
namespace Go.KX
open Go.RowKit (Below)
variable {E : Env} {ρ : Ren} {w0 w : World} {hp : T KO}

theorem setAll_TR {n : Nat} : ∀ {ps : List Nat} {as : List KV} {vs : List Value} {tm : T KV} {tms : Array Value}, ps.length = as.length → VRs ρ as vs → TR ρ n tm tms → TR ρ n (setAll n ps as tm) ((ps.zip vs).foldl (fun (t : Array Value) (p : Nat × Value) => t.setIfInBounds p.1 p.2) tms)
  | [], [], [], tm, tms, _, _, h => h
  | p :: ps, a :: as, v :: vs, tm, tms, hl, hv, h => by
    simp only [setAll, List.zip_cons_cons, List.foldl_cons]
    refine setAll_TR (by simpa using hl) hv.tail ⟨by simp [h.1], fun t => ?_⟩
    cases hb : Nat.blt p n with
    | true =>
      have hlt : p < tms.size := by rw [h.1]; exact bleT hb
      simp only [cond_true, T.get_set, getD_set hlt]
      by_cases e : t = p
      · rw [if_pos e, if_pos e]; exact hv.head
      · rw [if_neg e, if_neg e]; exact h.2 t
    | false =>
      have hge : tms.size ≤ p := by
        rw [h.1]
        rcases Nat.lt_or_ge p n with h1 | h1
        · have : Nat.blt p n = true := Nat.ble_eq_true_of_le h1
          rw [this] at hb; cases hb
        · exact h1
      simp only [cond_false]
      rw [Array.setIfInBounds_eq_of_size_le hge]
      exact h.2 t
  | [], _ :: _, _, _, _, hl, _, _ => by simp at hl
  | _ :: _, [], _, _, _, hl, _, _ => by simp at hl
  | [], [], _ :: _, _, _, _, hv, _ => by have := hv.1; simp at this
  | _ :: _, _ :: _, [], _, _, _, hv, _ => by have := hv.1; simp at this

theorem loop_obj (h : HR ρ w0 hp w) {l L m : Nat} {st : LoopState} {tm : T KV} {n : Nat} {ps : List Nat} {a b : Code} {d : Nat} (hl : ρ l = some (L, m)) (ho : hp.get l = some (.loop st tm n ps a b d)) :
    ∃ f tms D m', w.heap[L]? = some (.loop { state := st, pending := none, fn := f, tmps := tms, params := ps.toArray, assign := a, body := b, defers := D }) ∧ ρ d = some (D, m') ∧ TR ρ n tm tms := by
  obtain ⟨obj, h1, f, tms, D, m', rfl, h2, h3⟩ := h.get hl ho
  exact ⟨f, tms, D, m', h1, h2, h3⟩

theorem round_sound {ih : Run} (hih : Sound E ih) {l : Nat} {args : List KV} {hp : T KO} {nx : Nat} {rs : List Res} (hk : body E ih (.round l args hp nx) = some rs) : TaskOk E (.round l args hp nx) rs := by
  simp only [body] at hk
  split at hk
  · rename_i tm n ps assign b d ho
    obtain ⟨hlen, hk⟩ := bifS hk
    have hlen := beqT hlen
    intro ρ w0 F N L m vs w hL hF hv hh
    obtain ⟨f, tms, D, m', hobj, hD, ht⟩ := loop_obj hh hL ho
    have hsz : vs.toArray.size = ps.toArray.size := by simp [← hv.1, hlen]
    have hy := run_yield (P := E.P) (args := vs.toArray) hobj (by simpa using hsz)
    refine ⟨f, _, assign, b, hy, ?_⟩
    have hz : ((ps.toArray.zip vs.toArray).foldl (fun (tmps : Array Value) (p : Tmp × Value) => tmps.setIfInBounds p.1 p.2) tms) = ((ps.zip vs).foldl (fun (t : Array Value) (p : Nat × Value) => t.setIfInBounds p.1 p.2) tms) := by
      rw [← Array.foldl_toList]
      simp
    have htr : TR ρ n (setAll n ps args tm) ((ps.toArray.zip vs.toArray).foldl (fun (tmps : Array Value) (p : Tmp × Value) => tmps.setIfInBounds p.1 p.2) tms) := by
      rw [hz]; exact setAll_TR hlen hv ht
    have hFr : F.inRound L = Fence.wide.inRound L := by
      rcases hF with rfl | ⟨L', rfl⟩ <;> rfl
    split at hk
    · rename_i rs1 hk1
      refine roundIn_of_wpIn (hF.fn f) ?_
      rw [hFr]
      refine hih _ _ hk1 ρ w0 (Fence.wide.inRound L) N { tmps := _, defers := [] } w ⟨L, m, hL, rfl⟩ ⟨htr, trivial, hh⟩ _ (fun r hr ρ1 a1 w1 he1 h1 => ?_)
      obtain ⟨bs, hbs, hmem⟩ := bindL_some hk r hr
      unfold kround at hbs
      split at hbs
      · rename_i tm1 n1 ps1 a1' b1 d1 hex hdf hget
        have hL1 := he1 _ _ hL
        obtain ⟨f1, tms1, D1, m1, hobj1, hD1, ht1⟩ := loop_obj h1.2.2 hL1 hget
        rw [hex]
        have hdf1 : a1.defers = [] := by
          have := h1.2.1
          rw [hdf] at this
          cases hds : a1.defers with
          | nil => rfl
          | cons x xs => rw [hds] at this; exact this.elim
        split at hbs
        · rename_i rs2 hk2
          refine ⟨_, run_beginRound hobj1 rfl, ?_⟩
          have hh2 : HR ρ1 w0 (r.s.hp.set l (.loop .busy tm1 n1 ps1 a1' b1 d1)) (w1.putObj L (.loop { state := .busy, pending := none, fn := f1, tmps := tms1, params := ps1.toArray, assign := a1', body := b1, defers := D1 })) := h1.2.2.putObj hL1 (by rw [hget]; simp) ⟨f1, tms1, D1, m1, rfl, hD1, ht1⟩
          refine hih _ _ hk2 ρ1 w0 (Fence.wide.inRound L) N a1 _ ⟨L, m, hL1, rfl⟩ ⟨h1.1, h1.2.1, hh2⟩ _ (fun r2 hr2 ρ2 a2 w2 he2 h2 => ?_)
          obtain ⟨cs, hcs, hmem2⟩ := bindL_some hbs r2 hr2
          unfold kroundEnd at hcs
          split at hcs
          · rename_i st2 tm2 n2 ps2 a2' b2 d2 hex2 hdf2 hget2
            cases hcs
            have hL2 := he2 _ _ hL1
            obtain ⟨f2, tms2, D2, m2, hobj2, hD2, ht2⟩ := loop_obj h2.2.2 hL2 hget2
            rw [hex2]
            refine ⟨_, _, run_endRound none hobj2, _, hmem _ (hmem2 _ (List.mem_singleton.2 rfl)), ρ2, .bool true, rfl, he1.trans he2, .bool true, ?_⟩
            exact h2.2.2.putObj hL2 (by rw [hget2]; simp) ⟨f2, tms2, D2, m2, rfl, hD2, ht2⟩
          · cases hcs
        · cases hbs
      · cases hbs
    · cases hk
  · cases hk
end Go.KX
