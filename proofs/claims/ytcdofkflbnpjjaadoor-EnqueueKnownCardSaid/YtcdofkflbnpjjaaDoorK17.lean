/-
  Regions that draw their order: every order comes to what the executor has explored.
-/
import Derived.Test.YtcdofkflbnpjjaaDoorK16
set_option linter.unusedVariables false
set_option linter.unusedSimpArgs false
set_option maxRecDepth 20000
namespace Go.KX
open Go.RowKit (Below)
variable {E : Env} {ρ : Ren} {w0 w : World} {hp : T KO}

mutual
theorem KV.eqb_refl : ∀ a : KV, KV.eqb a a = true
  | .bool a => by simp [KV.eqb]
  | .int j a => by simp [KV.eqb]
  | .str a => by simp [KV.eqb]
  | .nilp => rfl
  | .ptr a i => by simp [KV.eqb]
  | .nilsl => rfl
  | .sl a i l c => by simp [KV.eqb]
  | .slo a i l c k => by simp [KV.eqb]
  | .slz => rfl
  | .nilmap => rfl
  | .map a => by simp [KV.eqb]
  | .nilf => rfl
  | .fn f xs ys => by simp [KV.eqb, KV.eqs_refl xs, KV.eqs_refl ys]
  | .yld a => by simp [KV.eqb]
  | .agg xs => by simp [KV.eqb, KV.eqs_refl xs]
  | .tup xs => by simp [KV.eqb, KV.eqs_refl xs]
theorem KV.eqs_refl : ∀ a : List KV, KV.eqs a a = true
  | [] => rfl
  | x :: xs => by simp [KV.eqs, KV.eqb_refl x, KV.eqs_refl xs]
end

/-! ## What may be put off -/
def Preds (ops : Array Oper) (A : Nat → Prop) (i : Nat) : Prop := ∀ o, ops[i]? = some o → ∀ e ∈ o.after, Region.binds .any e = true → A e.on

theorem hasPred_iff {o : Oper} {i : Nat} : hasPred o i = true ↔ ∃ e ∈ o.after, e.on = i ∧ Region.binds .any e = true := by
  unfold hasPred
  rw [Array.any_eq_true']
  constructor
  · rintro ⟨e, he, h⟩
    simp only [Bool.and_eq_true] at h
    exact ⟨e, he, beqT h.1, h.2⟩
  · rintro ⟨e, he, rfl, h⟩
    exact ⟨e, he, by simp [h]⟩

theorem ready_iff {ops : Array Oper} {L : Array Bool} {i : Nat} : i ∈ ready ops L ↔ i < ops.size ∧ L.getD i true = false ∧ Preds ops (fun p => L.getD p false = true) i := by
  unfold ready Region.ready
  rw [List.mem_filter, List.mem_range]
  constructor
  · rintro ⟨hi, h⟩
    have ho : ops[i]? = some ops[i] := Array.getElem?_eq_getElem hi
    rw [ho] at h
    simp only [Option.map_some, Option.getD_some, Bool.and_eq_true, Bool.not_eq_true'] at h
    refine ⟨hi, h.1, fun o ho' e he hb => ?_⟩
    rw [ho] at ho'; cases ho'
    have := (Array.all_eq_true'.1 h.2) e he
    rw [hb] at this
    simpa using this
  · rintro ⟨hi, h1, h2⟩
    have ho : ops[i]? = some ops[i] := Array.getElem?_eq_getElem hi
    refine ⟨hi, ?_⟩
    rw [ho]
    simp only [Option.map_some, Option.getD_some, Bool.and_eq_true, Bool.not_eq_true']
    refine ⟨h1, Array.all_eq_true'.2 fun e he => ?_⟩
    cases hb : Region.binds .any e with
    | false => rfl
    | true => have := h2 _ ho e he hb; simpa using this

structure PO (ops : Array Oper) (i : Nat) (o : Oper) (d : Nat) : Prop where
  op : ops[i]? = some o
  dst : o.dst = some d
  quiet : kquiet o = true
  own : d ∉ tmpsOf ops o
  other : ∀ j oj, ops[j]? = some oj → j ≠ i → oj.dst ≠ some d ∧ (d ∈ tmpsOf ops oj → hasPred oj i = true)

theorem putOff_spec {ops : Array Oper} {i : Nat} (h : putOff ops i = true) : ∃ o d, PO ops i o d := by
  unfold putOff at h
  split at h
  · rename_i o ho
    split at h
    · rename_i d hd
      simp only [Bool.and_eq_true, Bool.not_eq_true'] at h
      obtain ⟨h1, h2, h3⟩ := h
      refine ⟨o, d, ho, hd, h1, ?_, fun j oj hj hne => ?_⟩
      · intro hm
        have : (tmpsOf ops o).contains d = true := by simpa using hm
        rw [this] at h2; cases h2
      · have hmem : (oj, j) ∈ ops.toList.zipIdx := by
          rw [List.mem_zipIdx_iff_getElem?, Array.getElem?_toList]
          exact hj
        have := List.all_eq_true.1 h3 _ hmem
        simp only [Bool.or_eq_true, Bool.and_eq_true, Bool.not_eq_true'] at this
        rcases this with h | ⟨ha, hb⟩
        · exact absurd (beqT h) hne
        · refine ⟨fun e => by rw [e] at ha; simp at ha, fun hm => ?_⟩
          rcases hb with hb | hb
          · have : (tmpsOf ops oj).contains d = true := by simpa using hm
            rw [this] at hb; cases hb
          · exact hb
    · cases h
  · cases h

theorem getD_setB {L : Array Bool} {i j : Nat} {b : Bool} (hi : i < L.size) : (L.setIfInBounds i true).getD j b = if j = i then true else L.getD j b := by
  simp only [Array.getD_eq_getD_getElem?, Array.getElem?_setIfInBounds]
  by_cases e : i = j
  · subst e; simp [hi]
  · rw [if_neg e, if_neg (Ne.symm e)]

theorem getD_tf {L : Array Bool} {i : Nat} (hi : i < L.size) : L.getD i true = L.getD i false := by
  simp [Array.getD_eq_getD_getElem?, hi]
theorem getD_f_lt {L : Array Bool} {i : Nat} (h : L.getD i false = true) : i < L.size := by
  rcases Nat.lt_or_ge i L.size with h1 | h1
  · exact h1
  · simp [Array.getD_eq_getD_getElem?, Array.getElem?_eq_none h1] at h

/-- the program stands at L; the executor has put forward D -/
structure Inv (E : Env) (n base : Nat) (ops : Array Oper) (ρ : Ren) (w0 : World) (En L : Array Bool) (D : List Nat) (s : KS) (a : Act) (w : World) : Prop where
  sizeE : En.size = ops.size
  sizeL : L.size = ops.size
  eq : ∀ i, i < ops.size → (En.getD i true = true ↔ (L.getD i true = true ∨ i ∈ D))
  dis : ∀ i ∈ D, i < ops.size ∧ L.getD i true = false ∧ putOff ops i = true
  nodup : D.Nodup
  ord : ∀ D1 i D2, D = D1 ++ i :: D2 → Preds ops (fun p => L.getD p false = true ∨ p ∈ D1) i
  closed : ∀ i, i < ops.size → En.getD i true = true → Preds ops (fun p => En.getD p false = true) i
  sx : SX (fun t => ∃ i ∈ D, ∃ o, ops[i]? = some o ∧ o.dst = some t) ρ n w0 s a w
  again : ∀ i ∈ D, again1 E base ops i s = true
  dn : ∀ i ∈ D, ∀ o, ops[i]? = some o → dstOk n o.dst = true

theorem kval_quiet {ih : Run} {self : Nat} {o : Oper} {s : KS} (hq : kquiet o = true) : kval E ih self o s = (kop E.P E.F self s.hp (kopd s) o).map fun r => [(r.1, { s with hp := r.2 })] := by
  obtain ⟨dst, op, type, pos, after, guard⟩ := o
  rw [kval_eq]
  unfold kvalS
  cases op <;> simp only [kquiet, Bool.false_eq_true] at hq <;> try rfl
  rename_i c
  obtain ⟨callee, args, argTypes⟩ := c
  cases callee with
  | builtin b => rfl
  | _ => simp at hq

theorem kwanted_put {ops : Array Oper} {s : KS} {o : Oper} {d : Nat} {v : KV} (hd : d ∉ tmpsOf ops o) : kwanted ops (s.putD (some d) v) o = kwanted ops s o := by
  unfold kwanted
  cases hg : o.guard with
  | none => rfl
  | some g =>
    obtain ⟨j, want⟩ := g
    simp only
    cases hb : (ops[j]?).bind (·.dst) with
    | none => rfl
    | some t =>
      have htm : t ∈ tmpsOf ops o := by
        unfold tmpsOf
        rw [hg]
        simp only [hb]
        exact List.mem_append.2 (.inr (by simp))
      have : ¬ t = d := fun e => hd (e ▸ htm)
      simp only [KS.putD, T.get_set, if_neg this]

theorem kop_put {P : Program} {F : List TypeId} {ops : Array Oper} {s : KS} {o : Oper} {d self : Nat} {v : KV} (hd : d ∉ tmpsOf ops o) : kop P F self hp (kopd (s.putD (some d) v)) o = kop P F self hp (kopd s) o := by
  refine kop_congr fun x hx => ?_
  cases x with
  | tmp t =>
    have : ¬ t = d := fun e => hd (e ▸ opd_tmpsOf hx rfl)
    simp only [kopd, KS.putD, T.get_set, if_neg this]
  | _ => rfl

theorem again_put {base : Nat} {ops : Array Oper} {j : Nat} {s : KS} {d : Nat} {v : KV} (hj : ∀ oj, ops[j]? = some oj → oj.dst ≠ some d ∧ d ∉ tmpsOf ops oj) (h : again1 E base ops j s = true) : again1 E base ops j (s.putD (some d) v) = true := by
  rw [again1_eq] at h ⊢
  unfold again1S at h ⊢
  split at h
  · rename_i o ho
    obtain ⟨h1, h2⟩ := hj o ho
    split at h
    · rename_i dj hdj
      have hne : ¬ dj = d := fun e => h1 (by rw [hdj, e])
      have hg : (s.putD (some d) v).tm.get dj = s.tm.get dj := by simp only [KS.putD, T.get_set, if_neg hne]
      rw [hg, kwanted_put h2, show (s.putD (some d) v).hp = s.hp from rfl, kop_put h2]
      exact h
    · cases h
  · cases h

/-- the executor puts an operation forward -/
theorem Inv.eager {n base : Nat} {ops : Array Oper} {En L : Array Bool} {D : List Nat} {s s1 : KS} {a : Act} {ih : Run} {i : Nat} (h : Inv E n base ops ρ w0 En L D s a w) (hi : i ∈ ready ops En) (hq : putOff ops i = true) (hk : kstep E ih n base ops i s = some [s1]) :
    Inv E n base ops ρ w0 (En.setIfInBounds i true) L (D ++ [i]) s1 a w := by
  obtain ⟨hlt, hEi, hpr⟩ := ready_iff.1 hi
  obtain ⟨o, d, po⟩ := putOff_spec hq
  have hsE : i < En.size := by rw [h.sizeE]; exact hlt
  have hLi : L.getD i true = false := by
    cases hb : L.getD i true with
    | false => rfl
    | true => have := (h.eq i hlt).2 (.inl hb); rw [hEi] at this; cases this
  have hiD : i ∉ D := fun hm => by have := (h.eq i hlt).2 (.inr hm); rw [hEi] at this; cases this
  -- what the step does
  obtain ⟨v, hs1, hdn, hag⟩ : ∃ v, s1 = s.putD (some d) v ∧ dstOk n o.dst = true ∧ again1 E base ops i (s.putD (some d) v) = true := by
    unfold kstep at hk
    rw [po.op] at hk
    simp only at hk
    obtain ⟨hdn, hk⟩ := bifS hk
    cases hw : kwanted ops s o with
    | false =>
      rw [hw] at hk
      simp only [cond_false, Option.some.injEq, List.cons.injEq, and_true] at hk
      refine ⟨.tup [], by rw [← hk, po.dst], hdn, ?_⟩
      rw [again1_eq]
      unfold again1S
      rw [po.op]
      simp only [po.dst]
      have hg : (s.putD (some d) (.tup [])).tm.get d = some (.tup []) := by simp only [KS.putD, T.get_set, if_true]
      rw [hg, kwanted_put po.own, hw]
      simp only [cond_false]
      exact KV.eqb_refl _
    | true =>
      rw [hw, kval_quiet po.quiet] at hk
      simp only [cond_true] at hk
      cases hop : kop E.P E.F (base + i) s.hp (kopd s) o with
      | none => rw [hop] at hk; cases hk
      | some r =>
        obtain ⟨v, hp'⟩ := r
        rw [hop] at hk
        simp only [Option.map_some, List.map_cons, List.map_nil, Option.some.injEq, List.cons.injEq, and_true] at hk
        have hh := kquiet_hp po.quiet hop
        subst hh
        refine ⟨v, by rw [← hk, po.dst], hdn, ?_⟩
        rw [again1_eq]
        unfold again1S
        rw [po.op]
        simp only [po.dst]
        have hg : (s.putD (some d) v).tm.get d = some v := by simp only [KS.putD, T.get_set, if_true]
        rw [hg, kwanted_put po.own, hw, show (s.putD (some d) v).hp = s.hp from rfl, kop_put po.own, hop]
        simp only [cond_true]
        exact KV.eqb_refl _
  subst hs1
  refine ⟨by simp [h.sizeE], h.sizeL, fun j hj => ?_, fun j hj => ?_, ?_, fun D1 j D2 he => ?_, fun j hj hEj => ?_, ?_, fun j hj => ?_, fun j hj oj hoj => ?_⟩
  · rw [getD_setB hsE]
    by_cases e : j = i
    · subst e; simp
    · rw [if_neg e, h.eq j hj]
      simp [e]
  · rcases List.mem_append.1 hj with hj | hj
    · exact h.dis j hj
    · rw [List.mem_singleton.1 hj]; exact ⟨hlt, hLi, hq⟩
  · refine List.nodup_append.2 ⟨h.nodup, by simp, fun x hx y hy e => ?_⟩
    rw [List.mem_singleton.1 hy] at e
    exact hiD (e ▸ hx)
  · rcases List.eq_nil_or_concat D2 with rfl | ⟨D2', z, rfl⟩
    · have : D = D1 ∧ i = j := by
        have := List.append_inj' he (by simp)
        simpa using this
      obtain ⟨rfl, rfl⟩ := this
      intro o' ho' e hee hb
      have hE : En.getD e.on false = true := hpr o' ho' e hee hb
      have hlt' := getD_f_lt hE
      rw [h.sizeE] at hlt'
      rw [← getD_tf (by rw [h.sizeE]; exact hlt')] at hE
      rcases (h.eq e.on hlt').1 hE with h1 | h1
      · left; rw [← getD_tf (by rw [h.sizeL]; exact hlt')]; exact h1
      · exact .inr h1
    · have : D = D1 ++ j :: D2' := by
        rw [List.concat_eq_append, ← List.cons_append, ← List.append_assoc] at he
        exact (List.append_inj' he (by simp)).1
      exact h.ord D1 j D2' this
  · rw [getD_setB hsE] at hEj
    intro o' ho' e hee hb
    have key : En.getD e.on false = true → (En.setIfInBounds i true).getD e.on false = true := by
      intro hh
      rw [getD_setB hsE]
      split <;> first | rfl | exact hh
    by_cases e2 : j = i
    · subst e2; exact key (hpr o' ho' e hee hb)
    · rw [if_neg e2] at hEj
      exact key (h.closed j hj hEj o' ho' e hee hb)
  · refine ⟨⟨h.sx.1.1, fun t ht => ?_⟩, by rw [putD_df]; exact h.sx.2.1, by rw [putD_hp]; exact h.sx.2.2⟩
    have h1 : ¬ t = d := fun e => ht ⟨i, List.mem_append.2 (.inr (List.mem_singleton.2 rfl)), o, po.op, by rw [e]; exact po.dst⟩
    have h2 : ¬ ∃ i ∈ D, ∃ o, ops[i]? = some o ∧ o.dst = some t := fun ⟨j, hj, oj, h3, h4⟩ => ht ⟨j, List.mem_append.2 (.inl hj), oj, h3, h4⟩
    simp only [KS.putD, T.get_set, if_neg h1]
    exact h.sx.1.2 t h2
  · rcases List.mem_append.1 hj with hj | hj
    · refine again_put (fun oj hoj => ?_) (h.again j hj)
      have hne : j ≠ i := fun e => hiD (e ▸ hj)
      obtain ⟨p1, p2⟩ := po.other j oj hoj hne
      refine ⟨p1, fun hm => ?_⟩
      obtain ⟨e, he, hei, hb⟩ := hasPred_iff.1 (p2 hm)
      have hjl := (h.dis j hj).1
      have : En.getD e.on false = true := h.closed j hjl ((h.eq j hjl).2 (.inr hj)) oj hoj e he hb
      rw [hei, ← getD_tf hsE, hEi] at this
      cases this
    · rw [List.mem_singleton.1 hj]; exact hag
  · rcases List.mem_append.1 hj with hj | hj
    · exact h.dn j hj oj hoj
    · rw [List.mem_singleton.1 hj, po.op] at hoj
      cases hoj
      exact hdn

theorem Inv.eagers {n base : Nat} {ops : Array Oper} {ih : Run} {L : Array Bool} {a : Act} : ∀ {f : Nat} {En En' : Array Bool} {D : List Nat} {s s' : KS}, keager E ih n base ops (putOff ops) f En s = some (En', s') → Inv E n base ops ρ w0 En L D s a w →
    ∃ D', Inv E n base ops ρ w0 En' L D' s' a w ∧ (ready ops En').filter (putOff ops) = []
  | 0, En, En', D, s, s', hk, h => by
    simp only [keager] at hk
    split at hk
    · rename_i hr; cases hk; exact ⟨D, h, hr⟩
    · cases hk
  | f + 1, En, En', D, s, s', hk, h => by
    simp only [keager] at hk
    split at hk
    · rename_i hr; cases hk; exact ⟨D, h, hr⟩
    · rename_i i is hr
      split at hk
      · rename_i s1 hs1
        have hm : i ∈ (ready ops En).filter (putOff ops) := by rw [hr]; exact List.mem_cons_self
        obtain ⟨m1, m2⟩ := List.mem_filter.1 hm
        exact Inv.eagers hk (h.eager m1 m2 hs1)
      · cases hk
end Go.KX
