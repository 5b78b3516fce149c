/-
  The executor's operations: ranges; all operations together.
-/
import Derived.Test.YtcdofkflbnpjjaaDoorK11
set_option linter.unusedVariables false
set_option linter.unusedSimpArgs false
set_option maxRecDepth 20000
namespace Go.KX
open Go.RowKit (Below)
variable {P : Program} {F : List TypeId} {ρ : Ren} {w0 w : World} {hp : T KO}

theorem chk_spec {α : Type} {b : Bool} {x : Option α} {y : α} (h : chk b x = some y) : b = true ∧ x = some y := bifS h

theorem krange_sound (h : HR ρ w0 hp w) {self : Nat} {t : TypeId} {x r : KV} {vx : Value} {hp' : T KO} (hx : VR ρ x vx) (hk : krange P self hp t x = some (r, hp')) : ∃ u w' ρ', (Instr.range t vx).run P w = .ok u w' ∧ VR ρ' r u ∧ HR ρ' w0 hp' w' ∧ Ext ρ ρ' := by
  unfold krange at hk
  split at hk
  · rename_i kt e hd
    obtain ⟨hf, hk⟩ := chk_spec hk
    cases hk; cases hx
    obtain ⟨g1, g2⟩ := h.new (b := self) (m := 0) (fresh_spec hf) (o := .mit none 0 [] 0) (obj := .mapIter none 0 #[] 0) ⟨none, rfl, rfl⟩
    exact ⟨_, _, _, by simp only [Instr.range, Sem.run_bind, run_underlying hd, Result.andThen_ok, Sem.run_pure, run_newObj_alloc], .ptr _ _ _ _ (Ren.upd_same _ _), g1, g2⟩
  · rename_i kt e b hd
    split at hk
    · rename_i es c ho
      obtain ⟨hf, hk⟩ := chk_spec hk
      cases hk
      cases hx with | map _ B m hB =>
      obtain ⟨ents, hh, hER⟩ := map_obj h hB ho
      have hg := MapKept.run_getObj_map (P := P) hh
      obtain ⟨g1, g2⟩ := h.new (b := self) (m := 0) (fresh_spec hf) (o := .mit (some b) c [] c) (obj := .mapIter (some B) c #[] c) ⟨some B, rfl, B, m, Ren.ext_upd (h.none (fresh_spec hf)) _ _ hB, rfl⟩
      exact ⟨_, _, _, by simp only [Instr.range, Sem.run_bind, run_underlying hd, Result.andThen_ok, Sem.run_pure, run_newObj_alloc, hg], .ptr _ _ _ _ (Ren.upd_same _ _), g1, g2⟩
    · cases hk
  · rename_i s hd
    obtain ⟨hf, hk⟩ := chk_spec hk
    cases hk
    cases hx with | str _ vs hvs =>
    obtain ⟨g1, g2⟩ := h.new (b := self) (m := 0) (fresh_spec hf) (o := .sit s 0) (obj := .stringIter vs 0) ⟨vs, rfl, hvs⟩
    exact ⟨_, _, _, by simp only [Instr.range, Sem.run_bind, run_underlying hd, Result.andThen_ok, Sem.run_pure, run_newObj_alloc], .ptr _ _ _ _ (Ren.upd_same _ _), g1, g2⟩
  · cases hk

def isC : Obj → Bool | .cells .. => true | _ => false
theorem run_getObj {r : Nat} {o : Obj} (ho : w.heap[r]? = some o) (hc : isC o = false) : (getObj r).run P w = .ok o w := by
  cases o <;> first | (simp [isC] at hc; done) | (simp [getObj, Sem.run, ho])
theorem run_setObj {r : Nat} {o o' : Obj} (ho : w.heap[r]? = some o) (hc : isC o = false) : (setObj r o').run P w = .ok () (w.putObj r o') := by
  cases o <;> first | (simp [isC] at hc; done) | (simp [setObj, Sem.run, ho, World.putObj])

theorem knextS_sound (h : HR ρ w0 hp w) {ty : TypeId} {x r : KV} {vx : Value} {hp' : T KO} (hx : VR ρ x vx) (hk : knextS hp x = some (r, hp')) : ∃ u w', (Instr.next vx true ty).run P w = .ok u w' ∧ VR ρ r u ∧ HR ρ w0 hp' w' := by
  unfold knextS at hk
  split at hk
  · rename_i b
    split at hk
    · rename_i s pos ho
      cases hx with | ptr _ _ B m hB =>
      obtain ⟨obj, hh, vb, rfl, hvb⟩ := h.get hB ho
      have hg := run_getObj (P := P) hh rfl
      have hsz : vb.size = s.length := by rw [← hvb]; simp
      rw [lget_eq] at hk
      cases hc : s[pos]? with
      | none =>
        rw [hc] at hk; cases hk
        have : ¬ pos < vb.size := by rw [hsz]; exact Nat.not_lt.2 (List.getElem?_eq_none_iff.1 hc)
        exact ⟨_, w, by simp only [Instr.next, Sem.run_bind, hg, Result.andThen_ok, if_neg this, Sem.run_pure], VR.tup' (.cons (.bool _) .nil), h⟩
      | some c =>
        rw [hc] at hk
        obtain ⟨hlt, hk⟩ := bifS hk
        cases hk
        have hpos : pos < vb.size := by rw [hsz]; exact (List.getElem?_eq_some_iff.1 hc).1
        have h128 : c.toNat < 128 := bleT hlt
        have hget : vb.get! pos = c := by
          have e2 : vb.data.toList[pos]? = some c := by rw [hvb]; exact hc
          rw [Array.getElem?_toList] at e2
          obtain ⟨vd⟩ := vb
          show vd[pos]! = c
          rw [getElem!_def, e2]
        have hdec : Utf8.decode vb pos = (c.toNat, 1) := by
          unfold Utf8.decode
          simp only [Nat.add_zero, hget]
          rw [if_pos h128]
        have hs := run_setObj (P := P) (o' := .stringIter vb (pos + 1)) hh rfl
        refine ⟨.tuple #[.bool true, goInt pos, .int .i32 c.toNat], _, by simp only [Instr.next, Sem.run_bind, hg, Result.andThen_ok, if_pos hpos, hdec, hs, Sem.run_pure], VR.tup' (.cons (.bool _) (.cons (.int _ _) (.cons (.int _ _) .nil))), h.putObj hB (by rw [ho]; simp) ⟨vb, rfl, hvb⟩⟩
    · cases hk
  · cases hk

theorem map_filter {es : List KE} {l : List MapEntry} (h : ER ρ es l) (p : Nat → Bool) : ER ρ (es.filter fun e => p e.born) (l.filter fun x => p x.born) := by
  induction es generalizing l with
  | nil =>
    cases l with
    | nil => exact .nil
    | cons => have := h.1; simp at this
  | cons e es ih =>
    cases l with
    | nil => have := h.1; simp at this
    | cons x l =>
      have hb := h.head.2.2
      rw [List.filter_cons, List.filter_cons, hb]
      split
      · exact .cons h.head (ih h.tail)
      · exact ih h.tail

theorem map_all {es : List KE} {l : List MapEntry} (h : ER ρ es l) (p : Nat → Bool) : (l.all fun x => p x.born) = es.all fun e => p e.born := by
  induction es generalizing l with
  | nil =>
    cases l with
    | nil => rfl
    | cons => have := h.1; simp at this
  | cons e es ih =>
    cases l with
    | nil => have := h.1; simp at this
    | cons x l => simp only [List.all_cons, h.head.2.2, ih h.tail]

theorem knext_sound (h : HR ρ w0 hp w) {ty : TypeId} {x : KV} {vx : Value} {rs : List (KV × T KO)} (hx : VR ρ x vx) (hk : knext hp x = some rs) : ∃ r ∈ rs, ∃ u w', (Instr.next vx false ty).run P w = .ok u w' ∧ VR ρ r.1 u ∧ HR ρ w0 r.2 w' := by
  unfold knext at hk
  split at hk
  · rename_i b
    cases hx with | ptr _ _ B m hB =>
    split at hk
    · rename_i since seen stepped ho
      cases hk
      obtain ⟨obj, hh, r0, rfl, hr0⟩ := h.get hB ho
      simp only at hr0
      subst hr0
      have hg := run_getObj (P := P) hh rfl
      exact ⟨_, List.mem_singleton.2 rfl, _, w, by simp only [Instr.next, Sem.run_bind, hg, Result.andThen_ok, Sem.run_pure], VR.tup' (.cons (.bool _) .nil), h⟩
    · rename_i mm since seen last ho
      split at hk
      · rename_i es clock hom
        obtain ⟨obj, hh, r0, rfl, B', m', hB', rfl⟩ := h.get hB ho
        obtain ⟨ents, hhm, hER⟩ := map_obj h hB' hom
        have hg := run_getObj (P := P) hh rfl
        have hgm := run_getObj (P := P) hhm rfl
        cases hcc : (!seen.isEmpty && (!es.isEmpty && es.all fun e => Nat.ble last e.born)) with
        | true => rw [hcc] at hk; cases hk
        | false =>
          rw [hcc] at hk
          simp only [cond_false, Option.some.injEq] at hk
          subst hk
          have hck : (!seen.toArray.isEmpty && !ents.isEmpty && ents.all fun x => decide (x.born ≥ last)) = false := by
            have e1 : ents.isEmpty = es.isEmpty := by
              have := hER.1
              rw [← Array.isEmpty_toList]
              cases es <;> cases hl : ents.toList <;> simp_all
            have e2 : (ents.all fun x => decide (x.born ≥ last)) = es.all fun e => Nat.ble last e.born := by
              rw [← Array.all_toList]
              have := map_all hER (fun n => Nat.ble last n)
              rw [← this]
              congr 1
              funext x
              rw [Bool.eq_iff_iff]
              simp [Nat.ble_eq]
            rw [e1, e2]
            simpa [Bool.and_assoc] using hcc
          -- the ways on
          have hleft := map_filter hER (fun n => !seen.contains n)
          generalize hL : (es.filter fun e => !seen.contains e.born) = left at *
          generalize hL' : (ents.filter fun e => !seen.toArray.contains e.born) = left' at *
          have hER2 : ER ρ left left'.toList := by
            rw [← hL']
            have e : (ents.filter fun e => !seen.toArray.contains e.born).toList = ents.toList.filter fun x => !seen.contains x.born := by
              rw [Array.toList_filter]
              simp
            rw [e]; exact hleft
          have hold : (left'.filter fun e => decide (e.born < since)).isEmpty = (left.filter fun e => Nat.blt e.born since).isEmpty := by
            have h1 := (map_filter hER2 (fun n => Nat.blt n since)).1
            have e : (left'.filter fun e => decide (e.born < since)).toList = left'.toList.filter fun x => Nat.blt x.born since := by
              rw [Array.toList_filter]
              congr 1
              funext x
              rw [Bool.eq_iff_iff]
              simp [Nat.blt, Nat.ble_eq, Nat.lt_iff_add_one_le]
            rw [← Array.isEmpty_toList, e]
            cases hA : left.filter (fun e => Nat.blt e.born since) <;> cases hB2 : left'.toList.filter (fun x => Nat.blt x.born since) <;> simp_all
          -- what the program may take
          generalize hO : (left'.filter fun e => decide (e.born < since)) = old at *
          generalize hN : (left'.filter fun e => decide (e.born ≥ since)) = new
          generalize hC : ((if old.isEmpty = true then #[none] else #[]) ++ (old ++ new).map some : Array (Option MapEntry)) = cands
          have hpos : 0 < cands.size := by
            rw [← hC]
            cases ho2 : old.isEmpty with
            | true => simp; omega
            | false =>
              have : 0 < old.size := by
                rcases Nat.eq_zero_or_pos old.size with h0 | h0
                · have := Array.eq_empty_of_size_eq_zero h0
                  subst this; simp at ho2
                · exact h0
              simp; omega
          have hch : ∃ i w1, (choose (.mapNext cands.size)).run P w = .ok i w1 ∧ i < cands.size ∧ HR ρ w0 hp w1 ∧ w1.heap = w.heap := by
            by_cases h1 : cands.size ≤ 1
            · exact ⟨0, w, by simp [run_choose_drew, Question.forced, h1], hpos, h, rfl⟩
            · exact ⟨_, w.drew, by rw [run_choose_drew]; simp only [Question.forced, h1, decide_false, Bool.false_eq_true, if_false]; rfl, by simp only [Question.cut]; exact Nat.mod_lt _ hpos, h.drew, rfl⟩
          obtain ⟨i, w1, hrun, hi, hHR1, hheap⟩ := hch
          have hci : cands[i]? = some cands[i] := Array.getElem?_eq_getElem hi
          have hmem : cands[i] ∈ cands := Array.getElem_mem hi
          generalize cands[i] = c at hci hmem
          have hcase : (c = none ∧ old.isEmpty = true) ∨ ∃ e, e ∈ left' ∧ c = some e := by
            rw [← hC] at hmem
            rcases Array.mem_append.1 hmem with hm | hm
            · left
              cases ho2 : old.isEmpty with
              | true => rw [ho2] at hm; simp at hm; exact ⟨hm, rfl⟩
              | false => rw [ho2] at hm; simp at hm
            · right
              obtain ⟨e, he, rfl⟩ := Array.mem_map.1 hm
              refine ⟨e, ?_, rfl⟩
              rcases Array.mem_append.1 he with he | he
              · rw [← hO] at he; exact (Array.mem_filter.1 he).1
              · rw [← hN] at he; exact (Array.mem_filter.1 he).1
          rcases hcase with ⟨rfl, hoe⟩ | ⟨e, he, rfl⟩
          · refine ⟨(.tup [.bool false], hp), ?_, .tuple #[.bool false], w1, ?_, VR.tup' (.cons (.bool _) .nil), hHR1⟩
            · refine List.mem_append.2 (.inl ?_)
              rw [← hold, hoe]
              exact List.mem_singleton.2 rfl
            · simp only [Instr.next, Sem.run_bind, hg, hgm, Result.andThen_ok, hck, Bool.false_eq_true, if_false, hL', hO, hN, hC, hrun, hci, Sem.run_pure]
          · obtain ⟨j, hj⟩ := List.getElem?_of_mem (Array.mem_toList_iff.2 he)
            have hjl : j < left.length := by rw [hER2.1]; exact (List.getElem?_eq_some_iff.1 hj).1
            obtain ⟨f1, f2, f3⟩ := hER2.2 j left[j] e (List.getElem?_eq_getElem hjl) hj
            have hh1 : w1.heap[B]? = some (.mapIter (some B') since seen.toArray last) := by rw [hheap]; exact hh
            have hs := run_setObj (P := P) (o' := .mapIter (some B') since (seen.toArray.push e.born) clock) hh1 rfl
            refine ⟨(.tup [.bool true, left[j].key, left[j].val], hp.set b (.mit (some mm) since (seen ++ [left[j].born]) clock)), ?_, .tuple #[.bool true, e.key, e.val], w1.putObj B (.mapIter (some B') since (seen.toArray.push e.born) clock), ?_, VR.tup' (.cons (.bool _) (.cons f1 (.cons f2 .nil))), hHR1.putObj hB (by rw [ho]; simp) ⟨some B', ?_, B', m', hB', rfl⟩⟩
            · exact List.mem_append.2 (.inr (List.mem_map.2 ⟨left[j], List.getElem_mem hjl, rfl⟩))
            · simp only [Instr.next, Sem.run_bind, hg, hgm, Result.andThen_ok, hck, Bool.false_eq_true, if_false, hL', hO, hN, hC, hrun, hci, hs, Sem.run_pure]
            · rw [f3]; simp
      · cases hk
    · cases hk
  · cases hk

theorem kentry_sound (h : HR ρ w0 hp w) {x r : KV} {vx : Value} (hx : VR ρ x vx) (hk : kentry hp x = some r) : ∃ u, (Instr.entry vx).run P w = .ok u w ∧ VR ρ r u := by
  unfold kentry at hk
  split at hk
  · rename_i b
    cases hx with | ptr _ _ B m hB =>
    split at hk
    · rename_i mm since seen stepped ho
      split at hk
      · rename_i es clock hom
        have hcl := (bifS hk).1
        replace hk := (bifS hk).2
        obtain rfl := beqT hcl
        obtain ⟨obj, hh, r0, rfl, B', m', hB', rfl⟩ := h.get hB ho
        obtain ⟨ents, hhm, hER⟩ := map_obj h hB' hom
        have hg := run_getObj (P := P) hh rfl
        have hgm := run_getObj (P := P) hhm rfl
        split at hk
        · rename_i stamp hst
          split at hk
          · rename_i e he
            cases hk
            have hfind : ∃ x, ents.find? (fun x => x.born == stamp) = some x ∧ VR ρ e.key x.key ∧ VR ρ e.val x.val := by
              have : ∀ {es : List KE} {l : List MapEntry}, ER ρ es l → (es.find? fun e => Nat.beq e.born stamp) = some e → ∃ x, l.find? (fun x => x.born == stamp) = some x ∧ VR ρ e.key x.key ∧ VR ρ e.val x.val := by
                intro es
                induction es with
                | nil => intro l _ hf; simp at hf
                | cons a es ih =>
                  intro l hl hf
                  cases l with
                  | nil => have := hl.1; simp at this
                  | cons x l =>
                    have hb := hl.head.2.2
                    rw [List.find?_cons] at hf ⊢
                    have heq : (x.born == stamp) = Nat.beq a.born stamp := by
                      rw [hb]
                      by_cases e2 : a.born = stamp
                      · subst e2; simp
                      · rw [beqF e2]; simpa using e2
                    rw [heq]
                    cases hbs : Nat.beq a.born stamp with
                    | true => rw [hbs] at hf; simp only [Option.some.injEq] at hf; subst hf; exact ⟨x, rfl, hl.head.1, hl.head.2.1⟩
                    | false => rw [hbs] at hf; exact ih hl.tail hf
              obtain ⟨x, hx, h1, h2⟩ := this hER he
              exact ⟨x, by rw [← Array.find?_toList]; exact hx, h1, h2⟩
            obtain ⟨x, hfx, h1, h2⟩ := hfind
            have hback : (seen.toArray).back? = some stamp := by
              simp [Array.back?, List.getLast?_eq_getElem?] at hst ⊢
              exact hst
            refine ⟨.tuple #[x.key, x.val], ?_, VR.tup' (.cons h1 (.cons h2 .nil))⟩
            simp only [Instr.entry, Sem.run_bind, hg, hgm, Result.andThen_ok, hback, bne_self_eq_false, Bool.false_eq_true, if_false, hfx, Sem.run_pure]
          · cases hk
        · cases hk
      · cases hk
    · cases hk
  · cases hk
end Go.KX
