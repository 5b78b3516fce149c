/-
  The executor's operations that leave the blocks alone.
-/
import Derived.Test.YtcdofkflbnpjjaaDoorK4
set_option linter.unusedVariables false
set_option linter.unusedSimpArgs false
namespace Go.KX
open Go.RowKit (Below)
variable {P : Program} {F : List TypeId} {ρ : Ren} {w0 w : World} {hp : T KO}

theorem kbin_eq (hF : ∀ t ∈ F, flatOk P t = true) (h : HR ρ w0 hp w) {op : BinOp} {t : TypeId} {x y r : KV} {vx vy : Value} (hx : VR ρ x vx) (hy : VR ρ y vy) (ox oy : Operand)
    (hxi : ∀ k n, x ≠ .int k n) (hxs : ∀ s, x ≠ .str s)
    (hk : (match op with | .eql => (kequal P F hp t x y).map kb | .neq => (kequal P F hp t x y).map fun b => kb (!b) | _ => none) = some r) :
    ∃ u, (do eqGuard op t ox oy vx vy; binOp op t vx vy : Sem Value).run P w = .ok u w ∧ VR ρ r u := by
  have key : ∀ b, kequal P F hp t x y = some b → (op = .eql ∨ op = .neq) → (eqGuard op t ox oy vx vy).run P w = .ok () w := by
    intro b hb hop
    by_cases hagg : ∃ xs ys, x = .agg xs ∧ y = .agg ys
    · obtain ⟨xs, ys, rfl, rfl⟩ := hagg
      obtain ⟨us, rfl, _⟩ := hx.agg_inv
      obtain ⟨vs, rfl, _⟩ := hy.agg_inv
      unfold kequal at hb
      split at hb <;> first | (exfalso; revert hb; simp [keq1]; done) | skip
      rename_i fs hd
      obtain ⟨hc, hb⟩ := bifS hb
      exact run_eqGuard_agg w op t ox oy _ _ (flat_struct hd (hF t (by simpa using hc))).2.1
    · cases hx <;> first
        | (rcases hop with rfl | rfl <;> rfl)
        | (cases hy <;> first | (rcases hop with rfl | rfl <;> rfl) | (exfalso; exact hagg ⟨_, _, rfl, rfl⟩))
  have bin1 : binOp .eql t vx vy = (do pure (.bool (← Op.equal t vx vy))) := by
    cases hx <;> first | rfl | (exfalso; exact hxi _ _ rfl) | (exfalso; exact hxs _ rfl)
  have bin2 : binOp .neq t vx vy = (do pure (.bool (!(← Op.equal t vx vy)))) := by
    cases hx <;> first | rfl | (exfalso; exact hxi _ _ rfl) | (exfalso; exact hxs _ rfl)
  split at hk
  · cases hb : kequal P F hp t x y with
    | none => rw [hb] at hk; cases hk
    | some b =>
      rw [hb] at hk; simp only [Option.map_some, Option.some.injEq] at hk; subst hk
      exact ⟨.bool b, by simp only [Sem.run_bind, key b hb (.inl rfl), Result.andThen_ok, bin1, kequal_sound hF h hb hx hy, Sem.run_pure], .bool b⟩
  · cases hb : kequal P F hp t x y with
    | none => rw [hb] at hk; cases hk
    | some b =>
      rw [hb] at hk; simp only [Option.map_some, Option.some.injEq] at hk; subst hk
      exact ⟨.bool (!b), by simp only [Sem.run_bind, key b hb (.inr rfl), Result.andThen_ok, bin2, kequal_sound hF h hb hx hy, Sem.run_pure], .bool _⟩
  · cases hk

theorem kbin_sound (hF : ∀ t ∈ F, flatOk P t = true) (h : HR ρ w0 hp w) {op : BinOp} {t : TypeId} {x y r : KV} {vx vy : Value} (hx : VR ρ x vx) (hy : VR ρ y vy) (ox oy : Operand) (hk : kbin P F hp op t x y = some r) :
    ∃ u, (do eqGuard op t ox oy vx vy; binOp op t vx vy : Sem Value).run P w = .ok u w ∧ VR ρ r u := by
  unfold kbin at hk
  split at hk
  · rename_i k a j b
    cases hx; cases hy
    have hg : (eqGuard op t ox oy (.int k a) (.int j b)).run P w = .ok () w := by unfold eqGuard; cases op <;> rfl
    simp only [Sem.run_bind, hg, Result.andThen_ok]
    split at hk
    · exact kshift_sound t (.inl rfl) hk
    · exact kshift_sound t (.inr rfl) hk
    · obtain ⟨hj, hk'⟩ := bifS hk
      clear hk
      obtain rfl : k = j := by simpa using hj
      exact kintBin_sound t hk'
  · rename_i a b
    cases hx with | str _ va ha => cases hy with | str _ vb hb =>
    have hg : (eqGuard op t ox oy (.string va) (.string vb)).run P w = .ok () w := by unfold eqGuard; cases op <;> rfl
    simp only [Sem.run_bind, hg, Result.andThen_ok]
    exact kstrBin_sound t ha hb hk
  · rename_i h1 h2
    by_cases hi : ∃ k n, x = .int k n
    · obtain ⟨k, n, rfl⟩ := hi
      exfalso
      have hq : ∀ b, kequal P F hp t (.int k n) y = some b → False := by
        intro b hb
        unfold kequal at hb
        split at hb <;> first | cases hb | (revert hb; unfold keq1; split <;> simp_all)
      split at hk
      · cases hb : kequal P F hp t (.int k n) y with
        | none => rw [hb] at hk; cases hk
        | some b => exact hq b hb
      · cases hb : kequal P F hp t (.int k n) y with
        | none => rw [hb] at hk; cases hk
        | some b => exact hq b hb
      · cases hk
    · by_cases hs : ∃ s, x = .str s
      · obtain ⟨s, rfl⟩ := hs
        exfalso
        have hq : ∀ b, kequal P F hp t (.str s) y = some b → False := by
          intro b hb
          unfold kequal at hb
          split at hb <;> first | cases hb | (revert hb; unfold keq1; split <;> simp_all)
        split at hk
        · cases hb : kequal P F hp t (.str s) y with
          | none => rw [hb] at hk; cases hk
          | some b => exact hq b hb
        · cases hb : kequal P F hp t (.str s) y with
          | none => rw [hb] at hk; cases hk
          | some b => exact hq b hb
        · cases hk
      · exact kbin_eq hF h hx hy ox oy (fun k n e => hi ⟨k, n, e⟩) (fun s e => hs ⟨s, e⟩) hk

theorem kun_sound {op : UnOp} {x r : KV} {vx : Value} (hx : VR ρ x vx) (hk : kun op x = some r) : ∃ u, (Op.unary op vx).run P w = .ok u w ∧ VR ρ r u := by
  unfold kun at hk
  split at hk
  · cases hx; cases hk; exact ⟨_, rfl, .bool _⟩
  · cases hx; cases hk; exact ⟨_, rfl, .int _ _⟩
  · rename_i k n
    cases hx
    simp only [kintBin, Option.some.injEq] at hk; subst hk
    exact ⟨_, rfl, .int _ _⟩
  · cases hk

/-! ## Cells -/
theorem lget_eq {α : Type} : ∀ (l : List α) (i : Nat), lget l i = l[i]?
  | [], i => by simp [lget]
  | a :: l, 0 => rfl
  | a :: l, i + 1 => by simp only [lget, List.getElem?_cons_succ]; exact lget_eq l i

theorem tagg_spec {t : TypeId} {b : Bool} (h : tagg P t = some b) : (isAgg t).run P w = .ok b w := by
  unfold tagg at h
  split at h
  · rename_i fs hd; cases h; simp only [isAgg, Sem.run_bind, run_underlying hd, Result.andThen_ok]; rfl
  · rename_i n e hd; cases h; simp only [isAgg, Sem.run_bind, run_underlying hd, Result.andThen_ok]; rfl
  · rename_i d h1 h2 hd
    cases h
    simp only [isAgg, Sem.run_bind, run_underlying hd, Result.andThen_ok]
    cases d <;> first | rfl | (exfalso; exact h1 _ rfl) | (exfalso; exact h2 _ _ rfl)
  · cases h

theorem tsz_spec {t : TypeId} {n : Nat} (h : tsz P t = some n) : ∃ i, P.info? t = some i ∧ i.size = n ∧ (sizeOf t).run P w = .ok n w := by
  unfold tsz at h
  cases hi : P.info? t with
  | none => simp [hi] at h
  | some i =>
    simp only [hi, Option.map_some, Option.some.injEq] at h
    exact ⟨i, rfl, h, by simp [sizeOf, typeInfo, hi, h, Result.andThen]⟩

theorem cells_of (h : HR ρ w0 hp w) {b B m : Nat} {cs : List KV} (hb : ρ b = some (B, m)) (ho : hp.get b = some (.row cs)) {off n : Nat} (hn : off + n ≤ cs.length) :
    ∃ us : List Value, (loadCells ⟨B, off, none⟩ n).run P w = .ok us.toArray w ∧ VRs ρ ((cs.drop off).take n) us := by
  obtain ⟨c, t, hh, hm, hle, hv⟩ := row_obj h hb ho
  refine ⟨((c.toList.take cs.length).drop off).take n, ?_, (hv.drop off).take n⟩
  have hl : (((c.toList.take cs.length).drop off).take n).length = n := by simp; omega
  have := run_loadCells_list (P := P) w ⟨B, off, none⟩ (((c.toList.take cs.length).drop off).take n) (fun j v hj => by
    rw [Addr.add_lit, cell_of_row w B _ c t (0, 0) hh]
    rw [List.getElem?_take] at hj
    split at hj
    · rw [List.getElem?_drop, List.getElem?_take] at hj
      split at hj
      · rw [← Array.getElem?_toList]; exact hj
      · cases hj
    · cases hj)
  rw [hl] at this
  exact this

theorem load1 (h : HR ρ w0 hp w) {b B m : Nat} {cs : List KV} (hb : ρ b = some (B, m)) (ho : hp.get b = some (.row cs)) {off : Nat} {x : KV} (hx : cs[off]? = some x) :
    ∃ u, (load ⟨B, off, none⟩).run P w = .ok u w ∧ VR ρ x u := by
  obtain ⟨c, t, hh, hm, hle, hv⟩ := row_obj h hb ho
  obtain ⟨u, hu, hxu⟩ := hv.get hx
  have hlt : off < cs.length := (List.getElem?_eq_some_iff.1 hx).1
  rw [List.getElem?_take, if_pos hlt, Array.getElem?_toList] at hu
  have hc : w.cell? ⟨B, off, none⟩ = some u := by rw [cell_of_row w B _ c t (0, 0) hh]; exact hu
  exact ⟨u, by simp [load, Sem.run, hc], hxu⟩

theorem kload_sound (h : HR ρ w0 hp w) {t : TypeId} {x r : KV} {vx : Value} (hx : VR ρ x vx) (hk : kload P t hp x = some r) : ∃ u, (Instr.loadAt t vx).run P w = .ok u w ∧ VR ρ r u := by
  unfold kload at hk
  split at hk
  · rename_i b off
    cases hx with | ptr _ _ B m hB =>
    split at hk
    · rename_i cs ho
      split at hk
      · rename_i n ha hn
        obtain ⟨hle, hk⟩ := bifS hk
        cases hk
        obtain ⟨i, _, _, hs⟩ := tsz_spec (w := w) hn
        obtain ⟨us, hl, hv⟩ := cells_of (P := P) h hB ho (bleT hle)
        exact ⟨.agg us.toArray, by simp only [Instr.loadAt, Instr.sureAddr, loadVar, Sem.run_bind, Sem.run_pure, Result.andThen_ok, tagg_spec ha, if_true, hs, hl], VR.agg' hv⟩
      · rename_i n ha hn
        rw [lget_eq] at hk
        obtain ⟨u, hl, hv⟩ := load1 (P := P) h hB ho hk
        exact ⟨u, by simp only [Instr.loadAt, Instr.sureAddr, loadVar, Sem.run_bind, Sem.run_pure, Result.andThen_ok, tagg_spec ha, Bool.false_eq_true, if_false, hl], hv⟩
      · cases hk
    · cases hk
  · cases hk

theorem kpart_sound {t : TypeId} {cs : List KV} {us : List Value} {off : Nat} {r : KV} (hv : VRs ρ cs us) (hk : kpart P t cs off = some r) : ∃ u, (part t us.toArray off).run P w = .ok u w ∧ VR ρ r u := by
  unfold kpart at hk
  split at hk
  · rename_i n ha hn
    obtain ⟨hle, hk⟩ := bifS hk
    cases hk
    obtain ⟨i, _, _, hs⟩ := tsz_spec (w := w) hn
    refine ⟨.agg ((us.drop off).take n).toArray, ?_, VR.agg' ((hv.drop off).take n)⟩
    simp only [part, Sem.run_bind, tagg_spec ha, Result.andThen_ok, if_true, hs, Sem.run_pure]
    congr 2
    apply Array.ext'
    simp [List.take_drop]
  · rename_i n ha hn
    rw [lget_eq] at hk
    obtain ⟨u, hu, hxu⟩ := hv.get hk
    refine ⟨u, ?_, hxu⟩
    have hu' : us.toArray[off]? = some u := by simpa using hu
    simp only [part, Sem.run_bind, tagg_spec ha, Result.andThen_ok, Bool.false_eq_true, if_false, hu', Sem.run_pure]
  · cases hk

theorem fieldOf_spec {t : TypeId} {f : Nat} {fd : Field} (h : fieldOf P t f = some fd) : ∃ fs, P.underlying t = some (.struct fs) ∧ fs[f]? = some fd := by
  unfold fieldOf at h
  split at h
  · rename_i fs hd
    rw [lget_eq, Array.getElem?_toList] at h
    exact ⟨fs, hd, h⟩
  · cases h

theorem kfield_sound {t : TypeId} {f : Nat} {fd : Field} {cs : List KV} {vx : Value} {r : KV} (hf : fieldOf P t f = some fd) (hx : VR ρ (.agg cs) vx) (hk : kpart P fd.type cs fd.offset = some r) : ∃ u, (Instr.field t vx f).run P w = .ok u w ∧ VR ρ r u := by
  obtain ⟨fs, hd, hfs⟩ := fieldOf_spec hf
  obtain ⟨us, rfl, hv⟩ := hx.agg_inv
  obtain ⟨u, hu, hr⟩ := kpart_sound (P := P) (w := w) hv hk
  exact ⟨u, by simp [Instr.field, run_underlying hd, hfs, asAgg, hu, Result.andThen], hr⟩

theorem kfieldAddr_sound {t : TypeId} {f : Nat} {fd : Field} {b off : Nat} {vx : Value} (hf : fieldOf P t f = some fd) (hp1 : posz P fd.type = true) (hx : VR ρ (.ptr b off) vx) : ∃ u, (Instr.fieldAt t vx f).run P w = .ok u w ∧ VR ρ (.ptr b (off + fd.offset)) u := by
  obtain ⟨fs, hd, hfs⟩ := fieldOf_spec hf
  obtain ⟨n, hs⟩ := posz_spec (w := w) hp1
  cases hx with | ptr _ _ B m hB =>
  refine ⟨.pointer (some ⟨B, off + fd.offset, none⟩), ?_, .ptr _ _ B m hB⟩
  simp [Instr.fieldAt, run_underlying hd, hfs, Instr.sureAddr, fieldPlace, hs, Addr.add_lit, Result.andThen]

/-! ## Building -/
theorem put_len {cs : List KV} {off : Nat} {xs : List KV} (h : off + xs.length ≤ cs.length) : (put cs off xs).length = cs.length := by
  simp [put]; omega
def putV (cs : List Value) (off : Nat) (xs : List Value) : List Value := cs.take off ++ (xs ++ cs.drop (off + xs.length))
theorem put_VRs {cs : List KV} {us : List Value} {off : Nat} {xs : List KV} {vs : List Value} (h : VRs ρ cs us) (hx : VRs ρ xs vs) : VRs ρ (put cs off xs) (putV us off vs) := by
  unfold put putV
  rw [← hx.1]
  exact (h.take off).append (hx.append (h.drop _))

theorem foldl_set : ∀ (vs : List Value) (off k : Nat) (us : List Value), off + k + vs.length ≤ us.length →
    ((vs.zipIdx k).foldl (fun (cs : Array Value) (p : Value × Nat) => cs.setIfInBounds (off + p.2) p.1) us.toArray) = (us.take (off + k) ++ (vs ++ us.drop (off + k + vs.length))).toArray
  | [], off, k, us, h => by simp
  | v :: vs, off, k, us, h => by
    simp only [List.zipIdx_cons, List.foldl_cons, List.setIfInBounds_toArray]
    rw [foldl_set vs off (k + 1) (us.set (off + k) v) (by simp at h ⊢; omega)]
    congr 1
    have h1 : off + k < us.length := by simp at h; omega
    have e1 : (us.set (off + k) v).take (off + (k + 1)) = us.take (off + k) ++ [v] := by
      rw [show off + (k + 1) = (off + k) + 1 by omega, List.take_succ_eq_append_getElem (by simpa using h1)]
      rw [List.take_set_of_le (Nat.le_refl _), List.getElem_set_self]
    have e2 : (us.set (off + k) v).drop (off + (k + 1) + vs.length) = us.drop (off + k + (v :: vs).length) := by
      rw [List.drop_set_of_lt (by omega)]
      congr 1
      simp; omega
    rw [e1, e2]
    simp

theorem kfill_sound {place : Nat → Option (Nat × Nat)} {place' : Nat → Option (Nat × Nat)} (hpl : ∀ i x, place i = some x → place' i = some x) : ∀ {ps : List (Nat × KV)} {vs : List (Nat × Value)} {cs : List KV} {us : List Value} {r : List KV},
    ps.length = vs.length → (∀ (i : Nat) (p : Nat × KV) (v : Nat × Value), ps[i]? = some p → vs[i]? = some v → p.1 = v.1 ∧ VR ρ p.2 v.2) → VRs ρ cs us → kfill place cs ps = some r → ∃ us' : List Value, Instr.fill place' us.toArray vs = some us'.toArray ∧ VRs ρ r us'
  | [], [], cs, us, r, hl, hv, hc, h => by
    simp only [kfill, Option.some.injEq] at h; subst h
    exact ⟨us, rfl, hc⟩
  | (i, x) :: ps, (j, v) :: vs, cs, us, r, hl, hv, hc, h => by
    obtain ⟨h1, h2⟩ := hv 0 (i, x) (j, v) rfl rfl
    simp only at h1 h2
    subst h1
    simp only [kfill] at h
    split at h
    · rename_i off sz hplc
      obtain ⟨hb, h⟩ := bifS h
      simp only [Bool.and_eq_true] at hb
      have hb1 := beqT hb.1
      have hb2 := bleT hb.2
      have hcx := h2.cells
      have hlen : v.cells.size = sz := by rw [← hb1, hcx.1]; simp
      have hul := hc.1
      obtain ⟨us', hf, hr⟩ := kfill_sound hpl (ps := ps) (vs := vs) (us := putV us off v.cells.toList) (by simpa using hl) (fun k p q hp hq => hv (k + 1) p q hp hq) (put_VRs hc hcx) h
      refine ⟨us', ?_, hr⟩
      rw [Instr.fill]
      simp only [hpl i _ hplc]
      have hcond : (v.cells.size ≠ sz || off + v.cells.size > us.toArray.size) = false := by
        simp [hlen]; omega
      simp only [hcond, Bool.false_eq_true, if_false]
      rw [← Array.foldl_toList]
      have := foldl_set v.cells.toList off 0 us (by simp [hlen]; omega)
      simp only [Nat.add_zero] at this
      have e : (Array.toList v.cells.zipIdx) = v.cells.toList.zipIdx := by simp
      rw [e, this]
      exact hf
    · cases h
  | [], _ :: _, cs, us, r, hl, hv, hc, h => by simp at hl
  | _ :: _, [], cs, us, r, hl, hv, hc, h => by simp at hl

theorem tzero_spec {t : TypeId} {z : KV} (h : tzero P t = some z) : ∃ v, (zeroValue t).run P w = .ok v w ∧ VR ρ z v := by
  unfold tzero at h
  split at h
  · rename_i i hi
    split at h
    · rename_i v hv
      exact ⟨v, by simp [zeroValue, typeInfo, hi, hv, Result.andThen], kc_sound h⟩
    · cases h
  · cases h

theorem parts_sound {v : Operand → Option KV} {e : Operand → Value} : ∀ {ps : List (Nat × Operand)} {xs : List (Nat × KV)}, (∀ p ∈ ps, ∀ k, v p.2 = some k → VR ρ k (e p.2)) → parts v ps = some xs →
    xs.length = (ps.map fun p => (p.1, e p.2)).length ∧ ∀ (i : Nat) (p : Nat × KV) (q : Nat × Value), xs[i]? = some p → (ps.map fun p => (p.1, e p.2))[i]? = some q → p.1 = q.1 ∧ VR ρ p.2 q.2
  | [], xs, hf, h => by simp only [parts, omap, Option.some.injEq] at h; subst h; exact ⟨rfl, fun i p q hp => by simp at hp⟩
  | a :: l, xs, hf, h => by
    simp only [parts, omap] at h
    split at h
    · rename_i b hb
      split at h
      · rename_i bs hbs
        simp only [Option.some.injEq] at h; subst h
        split at hb
        · rename_i x hx
          simp only [Option.some.injEq] at hb; subst hb
          obtain ⟨h1, h2⟩ := parts_sound (ps := l) (fun p hp => hf p (by simp [hp])) hbs
          refine ⟨by simp [h1], fun i p q hp hq => ?_⟩
          cases i with
          | zero =>
            simp at hp hq
            subst hp; subst hq
            exact ⟨rfl, hf a (by simp) x hx⟩
          | succ i => exact h2 i p q (by simpa using hp) (by simpa using hq)
        · cases hb
      · cases h
    · cases h
end Go.KX
