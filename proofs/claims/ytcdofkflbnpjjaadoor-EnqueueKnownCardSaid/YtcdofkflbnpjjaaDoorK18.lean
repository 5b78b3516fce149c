/-
  Regions that draw their order: the program's steps.
-/
import Derived.Test.YtcdofkflbnpjjaaDoorK17
set_option linter.unusedVariables false
set_option linter.unusedSimpArgs false
set_option maxRecDepth 20000
namespace Go.KX
open Go.RowKit (Below)
variable {E : Env} {ρ : Ren} {w0 w : World} {hp : T KO}

/-- what is ready looks at nothing that is put off -/
theorem Inv.clean {n base : Nat} {ops : Array Oper} {En L : Array Bool} {D : List Nat} {s : KS} {a : Act} {i : Nat} (h : Inv E n base ops ρ w0 En L D s a w) (hi : i ∈ ready ops L) : ∀ o, ops[i]? = some o → ∀ t ∈ tmpsOf ops o, ¬ ∃ i ∈ D, ∃ o, ops[i]? = some o ∧ o.dst = some t := by
  rintro o ho t ht ⟨j, hj, oj, hoj, hdj⟩
  obtain ⟨hlt, hLi, hpr⟩ := ready_iff.1 hi
  obtain ⟨o', d, po⟩ := putOff_spec (h.dis j hj).2.2
  have e1 : o' = oj := by have := po.op; rw [hoj] at this; exact (Option.some.inj this).symm
  subst e1
  have e2 : d = t := by have := po.dst; rw [hdj] at this; exact (Option.some.inj this).symm
  subst e2
  by_cases e : i = j
  · subst e
    rw [hoj] at ho; cases ho
    exact po.own ht
  · obtain ⟨e', he, hei, hb⟩ := hasPred_iff.1 ((po.other i o ho e).2 ht)
    have : L.getD e'.on false = true := hpr o ho e' he hb
    rw [hei] at this
    have h2 := (h.dis j hj).2.1
    rw [getD_tf (by rw [h.sizeL]; exact (h.dis j hj).1), this] at h2
    cases h2

theorem preds_mono {ops : Array Oper} {A B : Nat → Prop} (h : ∀ p, A p → B p) {i : Nat} (hp : Preds ops A i) : Preds ops B i := fun o ho e he hb => h _ (hp o ho e he hb)

/-- the program carries out what had been put off -/
theorem Inv.late (hE : EnvOk E) {n base : Nat} {ops : Array Oper} {En L : Array Bool} {D : List Nat} {s : KS} {a : Act} {i : Nat} (h : Inv E n base ops ρ w0 En L D s a w) (hi : i ∈ ready ops L) (hD : i ∈ D) {F : Fence} {N : Nat} (hF : FenceW F) {K : Act → World → Prop} {Q : Exit → Act → World → Prop}
    (hK : ∀ ρ' a' w' D', Ext ρ ρ' → Inv E n base ops ρ' w0 En (L.setIfInBounds i true) D' s a' w' → K a' w') : wpOpIn F N E.P ops Q i K a w := by
  have hclean := h.clean hi
  obtain ⟨hlt, hLi, hpr⟩ := ready_iff.1 hi
  have hsL : i < L.size := by rw [h.sizeL]; exact hlt
  obtain ⟨o, d, po⟩ := putOff_spec (h.dis i hD).2.2
  have hag := h.again i hD
  have hdn := h.dn i hD o po.op
  rw [po.dst] at hdn
  obtain ⟨X, Y, hXY⟩ := List.append_of_mem hD
  have hnd := h.nodup
  rw [hXY] at hnd
  obtain ⟨n1, n2, n3⟩ := List.nodup_append.1 hnd
  obtain ⟨n4, n5⟩ := List.nodup_cons.1 n2
  have hnX : i ∉ X ++ Y := by
    intro hm
    rcases List.mem_append.1 hm with hm | hm
    · exact n3 i hm i List.mem_cons_self rfl
    · exact n4 hm
  have hnd' : (X ++ Y).Nodup := List.nodup_append.2 ⟨n1, n5, fun x hx y hy => n3 x hx y (List.mem_cons_of_mem _ hy)⟩
  -- the state behind it
  have key : ∀ (ρ' : Ren) (u : Value) (w' : World), Ext ρ ρ' → VR ρ' ((s.tm.get d).getD (.tup [])) u → HR ρ' w0 s.hp w' → K (a.put (some d) u) w' := by
    intro ρ' u w' he hv hh
    refine hK ρ' _ w' (X ++ Y) he ⟨h.sizeE, by simp [h.sizeL], fun j hj => ?_, fun j hj => ?_, hnd', fun D1 j D2 hsplit => ?_, h.closed, ?_, fun j hj => ?_, fun j hj => ?_⟩
    · rw [h.eq j hj, getD_setB hsL, hXY]
      by_cases e : j = i
      · subst e; simp
      · rw [if_neg e]
        simp [e]
    · have hjD : j ∈ D := by rw [hXY]; rcases List.mem_append.1 hj with h1 | h1 <;> simp [h1]
      have hne : ¬ j = i := fun e => hnX (e ▸ hj)
      obtain ⟨p1, p2, p3⟩ := h.dis j hjD
      exact ⟨p1, by rw [getD_setB hsL, if_neg hne]; exact p2, p3⟩
    · have fwd : ∀ p, (L.getD p false = true) → (L.setIfInBounds i true).getD p false = true := by
        intro p hp
        rw [getD_setB hsL]
        split <;> first | rfl | exact hp
      have self : (L.setIfInBounds i true).getD i false = true := by rw [getD_setB hsL, if_pos rfl]
      rcases List.append_eq_append_iff.1 hsplit with ⟨Z, h1, h2⟩ | ⟨Z, h1, h2⟩
      · -- D1 = X ++ Z, Y = Z ++ j :: D2
        subst h1
        refine preds_mono ?_ (h.ord (X ++ i :: Z) j D2 (by rw [hXY, h2]; simp))
        rintro p (hp | hp)
        · exact .inl (fwd p hp)
        · rcases List.mem_append.1 hp with hp | hp
          · exact .inr (List.mem_append.2 (.inl hp))
          · rcases List.mem_cons.1 hp with rfl | hp
            · exact .inl self
            · exact .inr (List.mem_append.2 (.inr hp))
      · -- X = D1 ++ Z, j :: D2 = Z ++ Y
        subst h1
        cases Z with
        | nil =>
          have h2' : Y = j :: D2 := by simpa using h2.symm
          refine preds_mono ?_ (h.ord (D1 ++ [i]) j D2 (by rw [hXY, h2']; simp))
          rintro p (hp | hp)
          · exact .inl (fwd p hp)
          · rcases List.mem_append.1 hp with hp | hp
            · exact .inr hp
            · rw [List.mem_singleton.1 hp]; exact .inl self
        | cons z Z =>
          simp only [List.cons_append, List.cons.injEq] at h2
          obtain ⟨rfl, h2⟩ := h2
          refine preds_mono ?_ (h.ord D1 j (Z ++ i :: Y) (by rw [hXY]; simp))
          rintro p (hp | hp)
          · exact .inl (fwd p hp)
          · exact .inr hp
    · have hsz : d < a.tmps.size := by rw [h.sx.1.1]; exact bleT hdn
      refine ⟨⟨by simp [Act.put, h.sx.1.1], fun t ht => ?_⟩, by rw [put_defers]; exact h.sx.2.1.mono he, hh⟩
      simp only [Act.put]
      rw [getD_set hsz]
      by_cases e : t = d
      · rw [if_pos e, e]; exact hv
      · rw [if_neg e]
        refine (h.sx.1.2 t ?_).mono he
        rintro ⟨j, hj, oj, hoj, hdj⟩
        refine ht ⟨j, ?_, oj, hoj, hdj⟩
        rw [hXY] at hj
        rcases List.mem_append.1 hj with h1 | h1
        · exact List.mem_append.2 (.inl h1)
        · rcases List.mem_cons.1 h1 with rfl | h1
          · exfalso
            rw [po.op] at hoj; cases hoj
            rw [po.dst] at hdj
            exact e (Option.some.inj hdj).symm
          · exact List.mem_append.2 (.inr h1)
    · exact h.again j (by rw [hXY]; rcases List.mem_append.1 hj with h1 | h1 <;> simp [h1])
    · exact h.dn j (by rw [hXY]; rcases List.mem_append.1 hj with h1 | h1 <;> simp [h1])
  -- its step
  unfold wpOpIn
  rw [po.op]
  simp only
  rw [← wanted_eq h.sx (hclean o po.op)]
  rw [again1_eq] at hag
  unfold again1S at hag
  rw [po.op] at hag
  simp only [po.dst] at hag
  split at hag
  · rename_i u hu
    cases hw : kwanted ops s o with
    | false =>
      rw [hw] at hag
      simp only [cond_false] at hag
      simp only [Bool.false_eq_true, if_false]
      have := KV.eqb_eq hag
      subst this
      refine ⟨fun f _ => hF.fn f, ?_⟩
      rw [po.dst]
      exact key ρ undef w (.refl _) (by rw [hu]; exact VR.undef) h.sx.2.2
    | true =>
      rw [hw] at hag
      simp only [cond_true] at hag
      simp only [if_true]
      cases hop : kop E.P E.F (base + i) s.hp (kopd s) o with
      | none => rw [hop] at hag; cases hag
      | some r =>
        obtain ⟨v, hp'⟩ := r
        rw [hop] at hag
        have := KV.eqb_eq hag
        subst this
        have hh := kquiet_hp po.quiet hop
        subst hh
        refine upon_end hF (kop_noDefer hop) (kop_sound hE.flat h.sx.2.2 (fun x hx k hk => h.sx.opd (fun t ht => hclean o po.op t (opd_tmpsOf hx ht)) hk) hop) (fun ρ' u' w' h1 h2 h3 => ?_)
        rw [po.dst]
        exact key ρ' u' w' h1 (by rw [hu]; exact h2) h3
  · cases hag

/-- the program carries out what may not be put off -/
theorem Inv.step (hE : EnvOk E) {ih : Run} (hih : Sound E ih) {n base : Nat} {ops : Array Oper} {En L : Array Bool} {D : List Nat} {s : KS} {ss : List KS} {a : Act} {i : Nat} (h : Inv E n base ops ρ w0 En L D s a w) (hi : i ∈ ready ops L) (hD : i ∉ D) (hk : kstep E ih n base ops i s = some ss)
    (hag : ∀ s' ∈ ss, kagain E base ops (putOff ops) En (ops.getD i default) s' = true) {F : Fence} {N : Nat} (hF : FenceW F) {K : Act → World → Prop} {Q : Exit → Act → World → Prop}
    (hK : ∀ s' ∈ ss, ∀ ρ' a' w', Ext ρ ρ' → Inv E n base ops ρ' w0 (En.setIfInBounds i true) (L.setIfInBounds i true) D s' a' w' → K a' w') : wpOpIn F N E.P ops Q i K a w := by
  obtain ⟨hlt, hLi, hpr⟩ := ready_iff.1 hi
  have hsL : i < L.size := by rw [h.sizeL]; exact hlt
  have hsE : i < En.size := by rw [h.sizeE]; exact hlt
  refine kstep_x hE hih hk h.sx (fun o ho t ht => h.clean hi o ho t ht) hF (fun s' hs' ρ' a' w' k1 k2 _ => ?_)
  have fL : ∀ p, L.getD p false = true → (L.setIfInBounds i true).getD p false = true := by
    intro p hp
    rw [getD_setB hsL]
    split <;> first | rfl | exact hp
  have fE : ∀ p, En.getD p false = true → (En.setIfInBounds i true).getD p false = true := by
    intro p hp
    rw [getD_setB hsE]
    split <;> first | rfl | exact hp
  have LE : ∀ p, L.getD p false = true → En.getD p false = true := by
    intro p hp
    have hl := getD_f_lt hp
    rw [h.sizeL] at hl
    rw [← getD_tf (by rw [h.sizeE]; exact hl)]
    exact (h.eq p hl).2 (.inl (by rw [getD_tf (by rw [h.sizeL]; exact hl)]; exact hp))
  refine hK s' hs' ρ' a' w' k1 ⟨by simp [h.sizeE], by simp [h.sizeL], fun j hj => ?_, fun j hj => ?_, h.nodup, fun D1 j D2 he => ?_, fun j hj hEj => ?_, k2, fun j hj => ?_, h.dn⟩
  · rw [getD_setB hsE, getD_setB hsL]
    by_cases e : j = i
    · rw [if_pos e, if_pos e]; simp
    · rw [if_neg e, if_neg e]; exact h.eq j hj
  · obtain ⟨p1, p2, p3⟩ := h.dis j hj
    have hne : ¬ j = i := fun e => hD (e ▸ hj)
    exact ⟨p1, by rw [getD_setB hsL, if_neg hne]; exact p2, p3⟩
  · refine preds_mono ?_ (h.ord D1 j D2 he)
    rintro p (hp | hp)
    · exact .inl (fL p hp)
    · exact .inr hp
  · rw [getD_setB hsE] at hEj
    by_cases e : j = i
    · subst e; exact preds_mono (fun p hp => fE p (LE p hp)) hpr
    · rw [if_neg e] at hEj
      exact preds_mono fE (h.closed j hj hEj)
  · obtain ⟨p1, p2, p3⟩ := h.dis j hj
    have hka := hag s' hs'
    unfold kagain at hka
    have := List.all_eq_true.1 hka j (List.mem_range.2 p1)
    have hEj : En.getD j true = true := (h.eq j p1).2 (.inr hj)
    rw [hEj, p3] at this
    simp only [Bool.and_self, Bool.not_true, Bool.false_or, Bool.or_eq_true] at this
    rcases this with hpd | hok
    · exfalso
      have ho : ops[i]? = some ops[i] := Array.getElem?_eq_getElem hlt
      have hg : ops.getD i default = ops[i] := by simp [Array.getD_eq_getD_getElem?, hlt]
      rw [hg] at hpd
      obtain ⟨e, he, hei, hb⟩ := hasPred_iff.1 hpd
      have : L.getD e.on false = true := hpr _ ho e he hb
      rw [hei, ← getD_tf (by rw [h.sizeL]; exact p1), p2] at this
      cases this
    · exact hok

theorem keager_done {ih : Run} {n base : Nat} {ops : Array Oper} {q : Nat → Bool} {f : Nat} {En : Array Bool} {s : KS} (h : (ready ops En).filter q = []) : keager E ih n base ops q f En s = some (En, s) := by
  cases f <;> simp only [keager, h]

theorem kexpl_sound (hE : EnvOk E) {ih : Run} (hih : Sound E ih) {n base : Nat} {ops : Array Oper} {F : Fence} {N : Nat} (hF : FenceW F) {Q : Exit → Act → World → Prop} : ∀ (g : Nat) {f : Nat} {En L : Array Bool} {D : List Nat} {s : KS} {ss : List KS} {ρ : Ren} {a : Act} {w : World} {U : List Nat},
    kexpl E ih n base ops (putOff ops) f En s = some ss → Inv E n base ops ρ w0 En L D s a w → U.length ≤ g → (∀ i, i < ops.size → L.getD i true = false → i ∈ U) →
    (∀ s' ∈ ss, ∀ ρ' a' w', Ext ρ ρ' → SR ρ' n w0 s' a' w' → Q .normal a' w') → wpAnyIn F N E.P .any ops Q g L a w := by
  intro g
  induction g with
  | zero =>
    intro f En L D s ss ρ a w U hk h hU hUn hQ
    have hall : ∀ i, i < ops.size → L.getD i true = true := by
      intro i hi
      cases hb : L.getD i true with
      | true => rfl
      | false =>
        have := hUn i hi hb
        have : 0 < U.length := List.length_pos_of_mem this
        omega
    have hrL : ready ops L = [] := by
      rcases hr : ready ops L with _ | ⟨x, xs⟩
      · rfl
      · exfalso
        have hm : x ∈ ready ops L := by rw [hr]; exact List.mem_cons_self
        obtain ⟨h1, h2, _⟩ := ready_iff.1 hm
        rw [hall x h1] at h2; cases h2
    refine ⟨hrL, ?_⟩
    cases f with
    | zero => simp [kexpl] at hk
    | succ f =>
      simp only [kexpl] at hk
      split at hk
      · cases hk
      · rename_i En' s' hke
        obtain ⟨D', h', hsat⟩ := Inv.eagers hke h
        have hD' : D' = [] := by
          rcases D' with _ | ⟨x, xs⟩
          · rfl
          · exfalso
            obtain ⟨p1, p2, _⟩ := h'.dis x List.mem_cons_self
            rw [hall x p1] at p2; cases p2
        subst hD'
        have hrE : ready ops En' = [] := by
          rcases hr : ready ops En' with _ | ⟨x, xs⟩
          · rfl
          · exfalso
            have hm : x ∈ ready ops En' := by rw [hr]; exact List.mem_cons_self
            obtain ⟨h1, h2, _⟩ := ready_iff.1 hm
            have := (h'.eq x h1).2 (.inl (hall x h1))
            rw [h2] at this; cases this
        rw [hrE] at hk
        simp only [Option.some.injEq] at hk; subst hk
        exact hQ s' (List.mem_singleton.2 rfl) ρ a w (.refl _) (h'.sx.to (fun t ⟨i, hi, _⟩ => by simp at hi))
  | succ g ihg =>
    intro f En L D s ss ρ a w U hk h hU hUn hQ
    cases f with
    | zero => simp [kexpl] at hk
    | succ f =>
      simp only [kexpl] at hk
      split at hk
      · cases hk
      · rename_i En' s' hke
        obtain ⟨D', h', hsat⟩ := Inv.eagers hke h
        -- the same, from where all that may be put off has been put forward
        have hk' : kexpl E ih n base ops (putOff ops) (f + 1) En' s' = some ss := by
          simp only [kexpl, keager_done hsat]
          exact hk
        have rm : ∀ i, i < ops.size → L.getD i true = false → (U.erase i).length ≤ g ∧ ∀ j, j < ops.size → (L.setIfInBounds i true).getD j true = false → j ∈ U.erase i := by
          intro i hi hLi
          have hm := hUn i hi hLi
          have hsL : i < L.size := by rw [h.sizeL]; exact hi
          refine ⟨by rw [List.length_erase_of_mem hm]; omega, fun j hj hLj => ?_⟩
          rw [getD_setB hsL] at hLj
          by_cases e : j = i
          · rw [if_pos e] at hLj; cases hLj
          · rw [if_neg e] at hLj
            exact (List.mem_erase_of_ne e).2 (hUn j hj hLj)
        refine ⟨fun hrL => ?_, fun i hi => ?_⟩
        · -- the program has come to the end
          have hD' : D' = [] := by
            rcases hD0 : D' with _ | ⟨x, xs⟩
            · rfl
            · exfalso
              subst hD0
              have hx := h'.dis x List.mem_cons_self
              have hp := h'.ord [] x xs rfl
              have : x ∈ ready ops L := ready_iff.2 ⟨hx.1, hx.2.1, preds_mono (fun p hp => hp.resolve_right (by simp)) hp⟩
              have this' : x ∈ Region.ready .any ops L := this
              rw [hrL] at this'
              cases this'
          subst hD'
          have hrE : ready ops En' = [] := by
            rcases hr : ready ops En' with _ | ⟨x, xs⟩
            · rfl
            · exfalso
              have hm : x ∈ ready ops En' := by rw [hr]; exact List.mem_cons_self
              obtain ⟨h1, h2, h3⟩ := ready_iff.1 hm
              have hLx : L.getD x true = false := by
                cases hb : L.getD x true with
                | false => rfl
                | true => have := (h'.eq x h1).2 (.inl hb); rw [h2] at this; cases this
              have : x ∈ ready ops L := ready_iff.2 ⟨h1, hLx, preds_mono (fun p hp => by
                have hl := getD_f_lt hp
                rw [h'.sizeE] at hl
                rw [← getD_tf (by rw [h'.sizeL]; exact hl)]
                exact ((h'.eq p hl).1 (by rw [getD_tf (by rw [h'.sizeE]; exact hl)]; exact hp)).resolve_right (by simp)) h3⟩
              have this' : x ∈ Region.ready .any ops L := this
              rw [hrL] at this'
              cases this'
          rw [hrE] at hk
          simp only [Option.some.injEq] at hk; subst hk
          exact hQ s' (List.mem_singleton.2 rfl) ρ a w (.refl _) (h'.sx.to (fun t ⟨i, hi, _⟩ => by simp at hi))
        · obtain ⟨hlt, hLi, hpr⟩ := ready_iff.1 hi
          obtain ⟨r1, r2⟩ := rm i hlt hLi
          by_cases hD : i ∈ D'
          · exact h'.late hE hi hD hF (fun ρ' a' w' D2 k1 k2 => ihg hk' k2 r1 r2 (fun s2 hs2 ρ2 a2 w2 j1 j2 => hQ s2 hs2 ρ2 a2 w2 (k1.trans j1) j2))
          · have hEi : En'.getD i true = false := by
              cases hb : En'.getD i true with
              | false => rfl
              | true =>
                rcases (h'.eq i hlt).1 hb with h1 | h1
                · rw [hLi] at h1; cases h1
                · exact absurd h1 hD
            have hiE : i ∈ ready ops En' := ready_iff.2 ⟨hlt, hEi, preds_mono (fun p hp => by
              have hl := getD_f_lt hp
              rw [h'.sizeL] at hl
              rw [← getD_tf (by rw [h'.sizeE]; exact hl)]
              exact (h'.eq p hl).2 (.inl (by rw [getD_tf (by rw [h'.sizeL]; exact hl)]; exact hp))) hpr⟩
            split at hk
            · rename_i hr; rw [hr] at hiE; cases hiE
            · rename_i hr
              cases hb : bindL (kbr E ih n base ops (putOff ops) (kexpl E ih n base ops (putOff ops) f) En' s') (ready ops En') with
              | none => rw [hb] at hk; cases hk
              | some all =>
                rw [hb] at hk
                simp only [Option.map_some, Option.some.injEq] at hk; subst hk
                obtain ⟨bs, hbs, hmem⟩ := bindL_some hb i hiE
                unfold kbr at hbs
                split at hbs
                · rename_i ss1 hs1
                  obtain ⟨hag, hbs⟩ := bifS hbs
                  refine h'.step hE hih hi hD hs1 (fun s2 hs2 => List.all_eq_true.1 hag s2 hs2) hF (fun s2 hs2 ρ' a' w' k1 k2 => ?_)
                  obtain ⟨cs, hcs, hmem2⟩ := bindL_some hbs s2 hs2
                  exact ihg hcs k2 r1 r2 (fun s3 hs3 ρ3 a3 w3 j1 j2 => hQ s3 (merge_mem (hmem _ (hmem2 _ hs3))) ρ3 a3 w3 (k1.trans j1) j2)
                · cases hbs

theorem kregion_sound (hE : EnvOk E) {ih : Run} (hih : Sound E ih) {n id : Nat} {ops : Array Oper} {draw : Bool} {s : KS} {ss : List KS} {a : Act} (hk : kregion E ih n ops draw s = some ss) (h : SR ρ n w0 s a w) {F : Fence} {N : Nat} (hF : FenceW F) {Q : Exit → Act → World → Prop}
    (hQ : ∀ s' ∈ ss, ∀ ρ' a' w', Ext ρ ρ' → SR ρ' n w0 s' a' w' → Q .normal a' w') : (Code.region id ops draw).wpIn F N E.P Q a w := by
  unfold kregion at hk
  cases draw with
  | false =>
    simp only [Bool.false_eq_true, if_false] at hk
    exact wpIn_region (kops_sound (s := { s with nx := s.nx + ops.size }) hE hih hF hk h hQ)
  | true =>
    simp only [if_true] at hk
    refine wpIn_region_any hE.mixed ?_
    have hd : SR ρ n w0 { s with nx := s.nx + ops.size } a w.drew := ⟨h.1, h.2.1, h.2.2.drew⟩
    have hf : ∀ i, i < ops.size → (Array.replicate ops.size false).getD i true = false := by
      intro i hi
      simp [Array.getD_eq_getD_getElem?, hi]
    refine kexpl_sound (w0 := w0) (ρ := ρ) (U := List.range ops.size) (D := []) hE hih hF ops.size hk ⟨by simp, by simp, fun i hi => by simp, fun i hi => by simp at hi, by simp, fun D1 i D2 he => by simp at he, fun i hi hE => ?_, SX.of hd _, fun i hi => by simp at hi, fun i hi => by simp at hi⟩ (by simp) (fun i hi _ => List.mem_range.2 hi) hQ
    rw [hf i hi] at hE; cases hE
end Go.KX
