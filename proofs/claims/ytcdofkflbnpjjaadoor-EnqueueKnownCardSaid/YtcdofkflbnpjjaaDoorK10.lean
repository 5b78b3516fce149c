/-
  The executor's operations: append, copy, clear.
-/
import Derived.Test.YtcdofkflbnpjjaaDoorK9
set_option linter.unusedVariables false
set_option linter.unusedSimpArgs false
set_option maxRecDepth 20000
namespace Go.KX
open Go.RowKit (Below)
variable {P : Program} {F : List TypeId} {ρ : Ren} {w0 w : World} {hp : T KO}

theorem notInt_spec {u : TypeId} (h : notInt P u = true) : (∃ e, P.underlying u = some (.slice e)) ∨ P.underlying u = some .string := by
  unfold notInt at h
  split at h
  · rename_i e hd; exact .inl ⟨e, hd⟩
  · rename_i hd; exact .inr hd
  · cases h

/-- append, nothing added or room enough -/
theorem run_append_in {t u e ty : TypeId} {i : TypeInfo} (ht : P.underlying t = some (.slice e)) (hu : notInt P u = true) (hi : P.info? e = some i) {base : Option Addr} {sLen sCap n : Nat} {x : Value} {new : Array Value} {w' : World} (hn : (Builtin.lenOf x).run P w = .ok n w) (hroom : sLen + n ≤ sCap)
    (hf : (Builtin.firstCells i.size n x).run P w = .ok new w) (hst : ∀ a, base = some a → (storeCells (a.add (sLen * i.size)) new.toList).run P w = .ok () w') (hnb : base = none → w' = w) :
    (Builtin.append_ #[t, u] ty #[.slice base sLen sCap, x]).run P w = .ok (.slice base (sLen + n) sCap) w' := by
  have hsz : (sizeOf e).run P w = .ok i.size w := by simp [sizeOf, typeInfo, hi, Result.andThen]
  rcases notInt_spec hu with ⟨e', hd⟩ | hd <;> cases base with
  | none =>
    obtain rfl := hnb rfl
    simp only [Builtin.append_, List.getElem?_toArray, List.getElem?_cons_zero, List.getElem?_cons_succ, Sem.run_bind, run_underlying ht, run_underlying hd, Result.andThen_ok, hsz, Sem.run_pure, Bool.false_eq_true, if_false, hn, if_pos hroom, Bool.not_false, if_true, hf]
  | some a =>
    simp only [Builtin.append_, List.getElem?_toArray, List.getElem?_cons_zero, List.getElem?_cons_succ, Sem.run_bind, run_underlying ht, run_underlying hd, Result.andThen_ok, hsz, Sem.run_pure, Bool.false_eq_true, if_false, hn, if_pos hroom, Bool.not_false, if_true, hf, hst a rfl]

/-- append: a new row -/
theorem run_append_out {t u e ty : TypeId} {i : TypeInfo} (ht : P.underlying t = some (.slice e)) (hu : notInt P u = true) (hi : P.info? e = some i) {base : Option Addr} {sLen sCap n : Nat} {x : Value} {old new : Array Value} {z : Value}
    (hn : (Builtin.lenOf x).run P w = .ok n w) (hroom : ¬ sLen + n ≤ sCap) (hb : 1 ≤ i.bytes) (hcap : (2 * (sLen + n) + 1000) * i.bytes ≤ 140737488355328)
    (ho : (Builtin.firstCells i.size sLen (.slice base sLen sCap)).run P w.drew = .ok old w.drew) (hf : (Builtin.firstCells i.size n x).run P w.drew = .ok new w.drew) (hz : (zeroValue e).run P w.drew = .ok z w.drew) :
    ∃ cap, sLen + n ≤ cap ∧ (Builtin.append_ #[t, u] ty #[.slice base sLen sCap, x]).run P w = .ok (.slice (some ⟨w.heap.size, 0, none⟩) (sLen + n) cap) (w.drew.alloc (.cells (old ++ new ++ Builtin.zeroCells z.cells (cap - (sLen + n))) e)) := by
  have hnc := nextcap_le (n := sLen + n) (c := sCap) (by omega)
  have h1 : ¬ (Builtin.nextslicecap (sLen + n) sCap * i.bytes > 2 ^ 48) := by
    have := Nat.mul_le_mul_right i.bytes hnc
    omega
  have hneed : sLen + n ≤ 140737488355328 := by
    have := Nat.le_mul_of_pos_right (2 * (sLen + n) + 1000) hb
    omega
  have h2 : ¬ (((sLen + n : Nat) : Int) > IntKind.i64.max ∧ i.bytes = 0) := by omega
  have hch : (choose (.appendCap (sLen + n) sCap e)).run P w = .ok ((Question.appendCap (sLen + n) sCap e).cut (w.tape w.drawn (.appendCap (sLen + n) sCap e))) w.drew := by
    rw [run_choose_drew]; rfl
  refine ⟨(Question.appendCap (sLen + n) sCap e).cut (w.tape w.drawn (.appendCap (sLen + n) sCap e)), by simp [Question.cut], ?_⟩
  generalize hcap' : (Question.appendCap (sLen + n) sCap e).cut (w.tape w.drawn (.appendCap (sLen + n) sCap e)) = cap at *
  have har : ∀ b, (askRoom b).run P w.drew = .ok () w.drew := by
    intro b
    unfold askRoom
    split <;> simp [mark, Sem.run]
  have hti : (typeInfo e).run P w = .ok i w := by simp [typeInfo, hi, Result.andThen]
  have hti' : (typeInfo e).run P w.drew = .ok i w.drew := by simp [typeInfo, hi, Result.andThen]
  have hsz : (sizeOf e).run P w = .ok i.size w := by simp [sizeOf, typeInfo, hi, Result.andThen]
  rcases notInt_spec hu with ⟨e', hd⟩ | hd <;> simp only [Builtin.append_, List.getElem?_toArray, List.getElem?_cons_zero, List.getElem?_cons_succ, Sem.run_bind, run_underlying ht, run_underlying hd, Result.andThen_ok, hsz, Sem.run_pure, Bool.false_eq_true, if_false, hn, if_neg hroom, hti, false_or, if_neg h2, if_neg h1, hch, hti', har, ho, hf, hz, newRow, run_newObj_alloc, Bool.not_false, if_true, World.size_drew]

theorem zeroCells_len (z : Array Value) (n : Nat) : (Builtin.zeroCells z n).size = n * z.size := by simp [Builtin.zeroCells]

theorem kappend_sound (h : HR ρ w0 hp w) {self : Nat} {t u ty : TypeId} {s x r : KV} {vs vx : Value} {hp' : T KO} (hs : VR ρ s vs) (hx : VR ρ x vx) (hk : kappend P self hp t u s x = some (r, hp')) :
    ∃ v w' ρ', (Builtin.append_ #[t, u] ty #[vs, vx]).run P w = .ok v w' ∧ VR ρ' r v ∧ HR ρ' w0 hp' w' ∧ Ext ρ ρ' := by
  unfold kappend at hk
  split at hk
  · rename_i e hd
    split at hk
    · rename_i sz by_ sl n old new z hsz hby hsl hxl hold hnew hz
      have hc := (bifS hk).1
      replace hk := (bifS hk).2
      simp only [Bool.and_eq_true] at hc
      obtain ⟨hu, c2, c3, c4, c5, c6⟩ := hc
      simp only [hsz, Option.getD_some] at hold hnew
      obtain ⟨i, hi, hisz, hrs⟩ := tsz_spec (w := w) hsz
      have hby' : i.bytes = by_ := by unfold tby at hby; rw [hi] at hby; simpa using hby
      subst hisz
      subst hby'
      obtain ⟨hlx, hlxs, hfx⟩ := kelems_sound (P := P) h hx hxl hnew
      have one1 : 1 ≤ i.size := bleT c2
      cases h0 : Nat.beq n 0 with
      | true =>
        rw [h0] at hk
        simp only [cond_true, Option.some.injEq, Prod.mk.injEq] at hk
        obtain ⟨rfl, rfl⟩ := hk
        obtain rfl := beqT h0
        obtain ⟨us, hf0, hv0⟩ := hfx 0 (Nat.le_refl _)
        have hus : us.toList = [] := by
          have := hv0.1
          simp only [Nat.zero_mul, List.take_zero, List.length_nil] at this
          exact List.eq_nil_of_length_eq_zero this.symm
        have hst : ∀ a : Addr, (storeCells a us.toList).run P w = .ok () w := by intro a; rw [hus]; rfl
        cases hs with
        | nilsl =>
          have := run_append_in (w := w) (w' := w) (ty := ty) hd hu hi (base := none) (sLen := 0) (sCap := 0) hlx (Nat.le_refl _) hf0 (fun a ha => by cases ha) (fun _ => rfl)
          exact ⟨_, w, ρ, this, .nilsl, h, .refl _⟩
        | sl b off len cap B m hB hlc =>
          simp only [klen, Option.some.injEq] at hsl; subst hsl
          have := run_append_in (w := w) (w' := w) (ty := ty) hd hu hi (base := some ⟨B, off, none⟩) (sLen := len) (sCap := cap) hlx (by omega) hf0 (fun a ha => hst _) (fun e => by cases e)
          exact ⟨_, w, ρ, this, .sl _ _ _ _ B m hB hlc, h, .refl _⟩
        | slo b off len z' kc B m c hB hlc hkc hcm =>
          simp only [klen, Option.some.injEq] at hsl; subst hsl
          have := run_append_in (w := w) (w' := w) (ty := ty) hd hu hi (base := some ⟨B, off, none⟩) (sLen := len) (sCap := c) hlx (by omega) hf0 (fun a ha => hst _) (fun e => by cases e)
          exact ⟨_, w, ρ, this, .slo _ _ _ _ _ B m c hB hlc hkc hcm, h, .refl _⟩
        | _ => cases c5
      | false =>
        rw [h0] at hk
        simp only [cond_false] at hk
        have hc2 := (bifS hk).1
        replace hk := (bifS hk).2
        simp only [Bool.and_eq_true] at hc2
        have hcap := bleT hc2.1
        have hfr := fresh_spec hc2.2
        have hn0 : n ≠ 0 := fun e => by subst e; cases h0
        -- in the world behind the draw
        have hdr := h.drew
        obtain ⟨hls, hlss, hfs⟩ := kelems_sound (P := P) hdr hs hsl hold
        obtain ⟨_, _, hfx'⟩ := kelems_sound (P := P) hdr hx hxl hnew
        obtain ⟨vz, hrz, hvz⟩ := tzero_spec (P := P) (ρ := ρ) (w := w.drew) hz
        have hzs : vz.cells.size = i.size := by
          have := hvz.cells.1
          rw [beqT c4] at this; simpa using this.symm
        obtain ⟨nus, hfn', hvn'⟩ := hfx' n (Nat.le_refl _)
        rw [← hlxs, List.take_length] at hvn'
        obtain ⟨nus0, hfn, hvn⟩ := hfx n (Nat.le_refl _)
        rw [← hlxs, List.take_length] at hvn
        have hnewl : new.length = n * i.size := by
          rw [hlxs]
          cases x with
          | str s => simp only [esz]; rw [beqT c6]
          | _ => rfl
        -- a new row
        have out : ∀ (base : Option Addr) (sCap : Nat), vs = .slice base sl sCap → ¬ sl + n ≤ sCap → ∀ (olds : List KV), (∃ us : Array Value, (Builtin.firstCells i.size sl vs).run P w.drew = .ok us w.drew ∧ VRs ρ olds us.toList) → olds.length = sl * i.size →
            ∃ v w' ρ', (Builtin.append_ #[t, u] ty #[vs, vx]).run P w = .ok v w' ∧ VR ρ' (.slo self 0 (sl + n) i.size (sl + n)) v ∧ HR ρ' w0 (hp.set self (.row (olds ++ new))) w' ∧ Ext ρ ρ' := by
          intro base sCap hvs hno olds ⟨us, ho, hvo⟩ hol
          subst hvs
          obtain ⟨cap, hcl, hrun⟩ := run_append_out (w := w) (ty := ty) hd hu hi (base := base) (sLen := sl) (sCap := sCap) hlx hno (bleT c3) hcap ho hfn' hrz
          have hsize : (us ++ nus ++ Builtin.zeroCells vz.cells (cap - (sl + n))).size = cap * i.size := by
            have e1 : us.size = sl * i.size := by have := hvo.1; rw [hol] at this; simpa using this.symm
            have e2 : nus.size = n * i.size := by have := hvn'.1; rw [hnewl] at this; simpa using this.symm
            simp only [Array.size_append, zeroCells_len, e1, e2, hzs]
            rw [← Nat.add_mul, ← Nat.add_mul]
            congr 1; omega
          have hlen : (olds ++ new).length = (sl + n) * i.size := by rw [List.length_append, hol, hnewl, Nat.add_mul]
          have hle : (olds ++ new).length ≤ (us ++ nus ++ Builtin.zeroCells vz.cells (cap - (sl + n))).size := by rw [hsize, hlen]; exact Nat.mul_le_mul_right _ hcl
          have htk : (us ++ nus ++ Builtin.zeroCells vz.cells (cap - (sl + n))).toList.take (olds ++ new).length = us.toList ++ nus.toList := by
            have : (olds ++ new).length = (us.toList ++ nus.toList).length := (hvo.append hvn').1
            rw [this]
            simp only [Array.toList_append]
            rw [List.take_left']
            rfl
          obtain ⟨g1, g2, g3⟩ := row_new' hdr hfr e hle (by rw [htk]; exact hvo.append hvn')
          refine ⟨_, _, _, hrun, .slo _ _ _ _ _ _ _ _ g3 (Nat.le_refl _) hcl ?_, g1, g2⟩
          rw [hsize]; omega
        cases hs with
        | nilsl =>
          simp only [klen, Option.some.injEq] at hsl; subst hsl
          simp only [Option.some.injEq, Prod.mk.injEq] at hk
          obtain ⟨rfl, rfl⟩ := hk
          obtain ⟨v, w', ρ', r1, r2, r3, r4⟩ := out none 0 rfl (by omega) [] ⟨#[], rfl, VRs.nil⟩ (by simp)
          refine ⟨v, w', ρ', r1, ?_, ?_, r4⟩
          · simpa using r2
          · simpa using r3
        | sl b off len cap B m hB hlc =>
          simp only [klen, Option.some.injEq] at hsl; subst hsl
          cases hr : Nat.ble (len + n) cap with
          | true =>
            simp only [hr, cond_true] at hk
            split at hk
            · rename_i hp1 hp1e
              simp only [Option.some.injEq, Prod.mk.injEq] at hk
              obtain ⟨rfl, rfl⟩ := hk
              obtain ⟨w', s1, s2⟩ := kput_sound (P := P) h hB hvn hp1e
              have := run_append_in (w := w) (w' := w') (ty := ty) hd hu hi (base := some ⟨B, off, none⟩) (sLen := len) (sCap := cap) hlx (bleT hr) hfn (fun a ha => by cases ha; rw [Addr.add_lit]; exact s1) (fun e => by cases e)
              exact ⟨_, w', ρ, this, .sl _ _ _ _ B m hB (bleT hr), s2, .refl _⟩
            · cases hk
          | false =>
            simp only [hr, cond_false, Option.some.injEq, Prod.mk.injEq] at hk
            obtain ⟨rfl, rfl⟩ := hk
            obtain ⟨us, o1, o2⟩ := hfs len (Nat.le_refl _)
            simp only [esz] at o2 hlss
            rw [← hlss, List.take_length] at o2
            refine out _ cap rfl (fun hle => ?_) old ⟨us, o1, o2⟩ hlss
            rw [Nat.ble_eq_true_of_le hle] at hr; cases hr
        | slo b off len z' kc B m c hB hlc hkc hcm =>
          simp only [klen, Option.some.injEq] at hsl; subst hsl
          cases hr : Nat.ble (len + n) kc with
          | true =>
            simp only [hr, cond_true] at hk
            have hzz := (bifS hk).1
            replace hk := (bifS hk).2
            have hzz := beqT hzz
            subst hzz
            cases hp1e : kput hp b (off + len * i.size) new with
            | none => rw [hp1e] at hk; cases hk
            | some hp1 =>
              rw [hp1e] at hk
              simp only [Option.some.injEq, Prod.mk.injEq] at hk
              obtain ⟨rfl, rfl⟩ := hk
              obtain ⟨w', s1, s2⟩ := kput_sound (P := P) h hB hvn hp1e
              have := run_append_in (w := w) (w' := w') (ty := ty) hd hu hi (base := some ⟨B, off, none⟩) (sLen := len) (sCap := c) hlx (Nat.le_trans (bleT hr) hkc) hfn (fun a ha => by cases ha; rw [Addr.add_lit]; exact s1) (fun e => by cases e)
              exact ⟨_, w', ρ, this, .slo _ _ _ _ _ B m c hB (bleT hr) hkc hcm, s2, .refl _⟩
          | false =>
          simp only [hr, cond_false] at hk
          have hc3 := (bifS hk).1
          replace hk := (bifS hk).2
          simp only [Option.some.injEq, Prod.mk.injEq] at hk
          obtain ⟨rfl, rfl⟩ := hk
          simp only [Bool.and_eq_true] at hc3
          have hoff := beqT hc3.1
          have hzz := beqT hc3.2.1
          subst hoff
          subst hzz
          have hlive : ∃ cs, hp.get b = some (.row cs) := by
            simp only [kelems] at hold
            split at hold
            · rename_i cs ho; exact ⟨cs, ho⟩
            · cases hold
          obtain ⟨cs, hcs⟩ := hlive
          have hne : b ≠ self := fun e => by subst e; rw [hfr] at hcs; cases hcs
          obtain ⟨us, o1, o2⟩ := hfs len (Nat.le_refl _)
          simp only [esz] at o2 hlss
          rw [← hlss, List.take_length] at o2
          by_cases hroom : len + n ≤ c
          · -- in place
            obtain ⟨cc, tt, hh, hm, hcl, hcv⟩ := row_obj h hB hcs
            have hvl := hvn.1
            have hmul : (len + n) * i.size ≤ c * i.size := Nat.mul_le_mul_right _ hroom
            have hb2 : 0 + len * i.size + nus0.toList.length ≤ cc.size := by
              rw [← hvl, hnewl, hm, Nat.zero_add, ← Nat.add_mul]; omega
            have hone : ∀ v ∈ nus0.toList, v.oneCell' = true := by
              exact hvn.one hc3.2.2
            have hrun := run_storeCells_at (P := P) B (0 + len * i.size) tt nus0.toList 0 cc w hh (by simpa using hb2) hone
            have happ := run_append_in (w := w) (ty := ty) hd hu hi (base := some ⟨B, 0, none⟩) (sLen := len) (sCap := c) hlx hroom hfn (fun a ha => by cases ha; rw [Addr.add_lit]; exact hrun) (fun e => by cases e)
            simp only [Nat.add_zero, Nat.zero_add] at happ hb2
            have hb3 := hb2
            simp only [Array.length_toList] at hb3
            have hcl2 : (cc.toList.take (len * i.size) ++ nus0.toList ++ cc.toList.drop (len * i.size + nus0.toList.length)).length = cc.size := by simp; omega
            have T1 := h.turn hB (by rw [hcs]; simp) (o := .row []) (obj := .cells (cc.toList.take (len * i.size) ++ nus0.toList ++ cc.toList.drop (len * i.size + nus0.toList.length)).toArray tt (0, 0)) ⟨_, tt, rfl, by simp; omega, by simp, by simp [VRs.nil]⟩ (setRow_os _ _ _) (setRow_tape _ _ _) (setRow_output _ _ _) (setRow_size w B _) (setRow_heap w B cc _ tt (0, 0) hh) (fun k hk => setRow_other w B k _ hk)
            have hold2 : old = (cs.drop 0).take (len * i.size) := by
              simp only [kelems, hcs] at hold
              obtain ⟨_, hold⟩ := bifS hold
              cases hold; rfl
            have hovr : VRs ρ old (cc.toList.take (len * i.size)) := by
              rw [hold2, List.drop_zero]
              have := hcv.take (len * i.size)
              rw [List.take_take] at this
              have hle2 : len * i.size ≤ cs.length := by
                simp only [kelems, hcs] at hold
                obtain ⟨hq, _⟩ := bifS hold
                have := bleT hq; omega
              rw [Nat.min_eq_left hle2] at this
              exact this
            have hexu : Ext ρ (ρ.upd self (B, m)) := Ren.ext_upd (h.none hfr)
            obtain ⟨T2, T3⟩ := T1.rename hB (by rw [T.get_set, if_pos rfl]; simp) (b' := self) (by rw [T.get_set, if_neg (Ne.symm hne)]; exact hfr) (o := .row (old ++ new)) (setRow_heap w B cc _ tt (0, 0) hh) (by
              refine ⟨_, tt, rfl, by simp; omega, ?_, ?_⟩
              · rw [List.length_append, hlss, hnewl, ← Nat.add_mul]; omega
              · have e1 : (old ++ new).length = (cc.toList.take (len * i.size) ++ nus0.toList).length := (hovr.append hvn).1
                rw [e1]
                simp only [List.toList_toArray]
                rw [List.take_left' rfl]
                exact (hovr.append hvn).mono hexu)
            refine ⟨_, _, _, happ, .slo _ _ _ _ _ B m c (Ren.upd_same _ _) (Nat.le_refl _) hroom (by omega), T2.congr (fun j => ?_), T3⟩
            simp only [T.get_set]
            by_cases e1 : j = self
            · simp [e1]
            · by_cases e2 : j = b <;> simp [e1, e2]
          · -- a new row
            obtain ⟨v, w', ρ', r1, r2, r3, r4⟩ := out _ c rfl hroom old ⟨us, o1, o2⟩ hlss
            refine ⟨v, w', ρ', r1, r2, (r3.kill (r4 _ _ hB)).congr (fun j => ?_), r4⟩
            simp only [T.get_set]
            by_cases e1 : j = self
            · have hne2 : ¬ self = b := Ne.symm hne
              rw [if_pos e1, e1, if_neg hne2, if_pos rfl]
            · by_cases e2 : j = b <;> simp [e1, e2, hne]
        | _ => cases c5
    · cases hk
  · cases hk
end Go.KX
