/-
  Append within a row: a part of it, moved over another.
-/
import Derived.Test.YtcdofkflbnpjjaaAE9
set_option linter.unusedVariables false
namespace Go.AE
open Go.RowKit (Below)
variable {P : Program} {w0 : Base} {w : World} {N : Nat} {σ : Nat → RefI} {s : S} {tms : Array Value} {ρ : Operand → Value} {al : Nat → Prop}

theorem eg_take {es : List (List C)} {n i : Nat} (h : i < n) : eg (es.take n) i = eg es i := by
  simp [eg, List.getD_eq_getElem?_getD, List.getElem?_take, h]
theorem eg_drop {es : List (List C)} {n i : Nat} : eg (es.drop n) i = eg es (n + i) := by
  simp [eg, List.getD_eq_getElem?_getD, List.getElem?_drop]
theorem eg_app_l {es fs : List (List C)} {i : Nat} (h : i < es.length) : eg (es ++ fs) i = eg es i := by
  simp only [eg, List.getD_eq_getElem?_getD, List.getElem?_append_left h]
theorem eg_app_r {es fs : List (List C)} {i : Nat} (h : es.length ≤ i) : eg (es ++ fs) i = eg fs (i - es.length) := by
  simp only [eg, List.getD_eq_getElem?_getD, List.getElem?_append_right h]

theorem append_over_sound {t e : TypeId} {E : TyI} {y : A} {vx vy : Value} {es new : List (List C)} {id kid len : Nat} {ks : List Kd} (h : RelL P w0 N σ s tms w) (hs : slE P t = some (e, E)) (hsrc : srcRows e s.hp y = some new) (hd : isDead (s.hp kid) = true) (hpl : plainKs E.kinds = true)
    (hb : s.hp id = .row e es) (hfit : len + new.length ≤ es.length) (hx : ARel P w (Al w0 w σ s.hp) σ vx (.own id ks 0 len)) (hy : ARel P w (Al w0 w σ s.hp) σ vy y) (ty : TypeId) :
    ∃ v w', (Builtin.append_ #[t, t] ty #[vx, vy]).run P w = .ok v w' ∧ ∃ σ', RelL P w0 N σ' ⟨s.tm, upd s.hp id (.row e (es.take len ++ new ++ es.drop (len + new.length)))⟩ tms w' ∧
      ARel P w' (Al w0 w' σ' (upd s.hp id (.row e (es.take len ++ new ++ es.drop (len + new.length))))) σ' v (.own id ks 0 (len + new.length)) := by
  obtain ⟨hu, hE⟩ := slE_spec hs
  obtain ⟨S⟩ := tyI_spec hE
  obtain ⟨m⟩ := src_sound h hE hsrc hy
  have hone := m.one (plainKs_spec (ks := E.kinds) hpl)
  have hlv : live s.hp id = true := by unfold live; simp [hb]
  obtain ⟨t', es', hb', hle, ⟨E', hE', hks⟩, hbd, hv⟩ := own_spec h hlv hx
  have heq : t' = e ∧ es' = es := by rcases hb' with hb' | hb' <;> rw [hb] at hb' <;> simp at hb'; exact ⟨hb'.1.symm, hb'.2.symm⟩
  obtain ⟨rfl, rfl⟩ := heq
  rw [hE] at hE'; simp only [Option.some.injEq] at hE'; subst hE'; subst hks
  have hσd := isDead_spec hd
  have hB0 : RowRel P w w0.wr (Al w0 w σ s.hp) (σ id) t' es' := by have := h.blks id; rw [hb] at this; exact this
  have hlen' : (es'.take len ++ new ++ es'.drop (len + new.length)).length = es'.length := by simp; omega
  have hz : new = [] → es'.take len ++ new ++ es'.drop (len + new.length) = es' := by rintro rfl; simp
  rcases hv with ⟨rfl, rfl, _, rfl, hrown⟩ | ⟨_, ho, _⟩ | ⟨b, cap, c, hg, rfl, hc0, hlc⟩
  · have h0 : new = [] := List.eq_nil_of_length_eq_zero (by simp only [List.length_nil] at hfit; omega)
    subst h0
    have hrel : RelL P w0 N σ ⟨s.tm, upd s.hp id (.row t' (List.take 0 [] ++ [] ++ List.drop (0 + ([] : List (List C)).length) []))⟩ tms w := by
      have e : upd s.hp id (.row t' (List.take 0 [] ++ [] ++ List.drop (0 + ([] : List (List C)).length) [])) = s.hp := by
        funext k; simp only [upd]; split
        · rename_i e; rw [e, hb]; simp
        · rfl
      rw [e]; exact h
    refine ⟨.slice none 0 0, w, ?_, σ, hrel, .ownNil _ _ _ t' hrown rfl⟩
    rw [m.eq]
    exact run_append_zero hs ty none m.a 0 0 m.c (Nat.le_refl _)
  · exact absurd rfl ho
  · have hcc := hc0 rfl
    subst hcc
    try obtain rfl := row_flat hB0 hg
    obtain ⟨_, _, _, hBb, cur, tg, hh, hsz, hec, hcm, _, hel, hcell⟩ := row_cell hB0 hg
    simp only [Nat.zero_mul] at hx ⊢
    by_cases h0 : new = []
    · have hrel : RelL P w0 N σ ⟨s.tm, upd s.hp id (.row t' es')⟩ tms w := by
        have e : upd s.hp id (.row t' es') = s.hp := by
          funext k; simp only [upd]; split
          · rename_i e; rw [e, hb]
          · rfl
        rw [e]; exact h
      rw [hz h0]
      subst h0
      refine ⟨.slice (some ⟨b, 0, none⟩) len c, w, ?_, σ, hrel, ?_⟩
      · rw [m.eq]; exact run_append_zero hs ty (some ⟨b, 0, none⟩) m.a len c m.c (by omega)
      · exact .own0 _ _ _ b c es'.length t' hg (by omega)
    · rcases m.mem with h1 | ⟨b2, o, ha, hbb, hcell2⟩
      · exact absurd h1 h0
      · have hroom : len + new.length ≤ c := by omega
        have hfit2 : len * E.kinds.length + m.news.length ≤ cur.size := by
          rw [m.len, hsz, ← Nat.add_mul]; exact Nat.mul_le_mul_right _ hroom
        have hrun := run_append_roomT (P := P) w t ty t' tg S.i hu S.info b len c cur hh ⟨b2, o, none⟩ new.length m.c m.news (by rw [S.size]; exact m.len) (fun j v hj => by rw [Addr.add_lit]; exact hcell2 j v hj) hone hroom (by rw [S.size]; exact hfit2)
        refine ⟨_, _, by rw [m.eq, ha]; exact hrun, σ, ?_, ?_⟩
        · have hbel : BelowX w0.n w0.mu w (w.setRow b (cur.toList.take (len * S.i.size) ++ m.news ++ cur.toList.drop (len * S.i.size + m.news.length)).toArray) :=
            ⟨by simp, by simp, by simp, by simp, fun k hk hn => setRow_other w b k _ (by
              rcases hBb with hBb | hBb
              · omega
              · intro e; exact hn (e ▸ hBb))⟩
          refine h.write (b := b) (by simp [hg, blockOf]) (by simp [hb, isFrz]) _ (by simp) (by simp) (by simp) (by simp) (fun c hc => setRow_other w b c _ hc) (fun hal hheap => ?_)
          show RowRel P _ _ _ (σ id) t' _
          rw [hg, ← hlen']
          have hcl : cur.toList.length = cur.size := Array.length_toList
          have hle3 : es'.length * E.kinds.length ≤ cur.size := by rw [hsz]; exact Nat.mul_le_mul_right _ hec
          have hle4 : len * E.kinds.length + m.news.length ≤ es'.length * E.kinds.length := by rw [m.len, ← Nat.add_mul]; exact Nat.mul_le_mul_right _ hfit
          have htk : (cur.toList.take (len * E.kinds.length)).length = (es'.take len).length * E.kinds.length := by
            rw [List.length_take, List.length_take, Nat.min_eq_left (by omega), Nat.min_eq_left (by omega)]
          have hdl : (es'.drop (len + new.length)).length * E.kinds.length = es'.length * E.kinds.length - (len * E.kinds.length + m.news.length) := by
            rw [List.length_drop, Nat.sub_mul, Nat.add_mul, m.len]
          have hcd : ∀ k, (cur.toList.drop (len * E.kinds.length + m.news.length)).getD k undef = cur.getD (len * E.kinds.length + m.news.length + k) undef := by
            intro k; simp [List.getD_eq_getElem?_getD, List.getElem?_drop, Array.getD_eq_getD_getElem?]
          refine rowRel_mk (cells := (cur.toList.take (len * E.kinds.length) ++ m.news) ++ (cur.toList.drop (len * E.kinds.length + m.news.length)).take ((es'.drop (len + new.length)).length * E.kinds.length)) (rest := (cur.toList.drop (len * E.kinds.length + m.news.length)).drop ((es'.drop (len + new.length)).length * E.kinds.length))
            hE (by rw [hlen']; obtain ⟨E2, hE2, hby2, _⟩ := hB0; rw [hE] at hE2; simp only [Option.some.injEq] at hE2; subst hE2; exact hby2) hBb (setRow_heap w b cur _ _ _ hh) ?_ ?_ ?_ (by rw [hlen']; exact hec) hcm ?_ ?_
          · simp only [S.size]
            rw [List.append_assoc _ (List.take _ _), List.take_append_drop]
          · have hA : (cur.toList.drop (len * E.kinds.length + m.news.length)).length = cur.size - (len * E.kinds.length + m.news.length) := by rw [List.length_drop, hcl]
            have hB : ((cur.toList.drop (len * E.kinds.length + m.news.length)).take ((es'.drop (len + new.length)).length * E.kinds.length)).length = es'.length * E.kinds.length - (len * E.kinds.length + m.news.length) := by
              rw [List.length_take, hA, hdl]; omega
            rw [List.length_append, List.length_append, hB, hlen', List.length_take, hcl, Nat.min_eq_left (by omega)]
            omega
          · simp only [List.size_toArray, List.length_append, List.length_take, List.length_drop, Array.length_toList, S.size]; omega
          · intro i hi
            rw [hlen'] at hi
            by_cases h1 : i < len
            · rw [eg_app_l (by simp; omega), eg_app_l (by simp; omega), eg_take h1]; exact hel i hi
            · by_cases h2 : i < len + new.length
              · rw [eg_app_l (by simp; omega), eg_app_r (by simp; omega)]
                exact m.el _ (by simp; omega)
              · rw [eg_app_r (by simp; omega), eg_drop]
                exact hel _ (by simp; omega)
          · refine append_rep rfl (by rw [List.length_append, List.length_append, htk, m.len, Nat.add_mul]) (by rw [List.length_take, List.length_drop (l := cur.toList), hcl, hdl]; omega) (append_rep rfl htk m.len (fun i hi j hj => ?_) (fun i hi j hj => (m.rep i hi j hj).mono hheap hal)) (fun i hi j hj => ?_)
            · have hi' : i < len := by rw [List.length_take] at hi; omega
              rw [eg_take hi']
              have hlt : i * E.kinds.length + j < len * E.kinds.length := by
                calc i * E.kinds.length + j < i * E.kinds.length + E.kinds.length := by omega
                  _ = (i + 1) * E.kinds.length := by rw [Nat.add_mul]; omega
                  _ ≤ len * E.kinds.length := Nat.mul_le_mul_right _ (by omega)
              have := ((hcell i (by omega) j hj).2.2).mono hheap hal
              rw [getD_take_lt _ _ _ _ hlt]
              have e1 : cur.toList.getD (i * E.kinds.length + j) undef = cur.getD (i * E.kinds.length + j) undef := by simp [Array.getD_eq_getD_getElem?, List.getD_eq_getElem?_getD]
              rw [e1]; exact this
            · have hi' : len + new.length + i < es'.length := by rw [List.length_drop] at hi; omega
              rw [eg_drop]
              have hlt : i * E.kinds.length + j < (es'.drop (len + new.length)).length * E.kinds.length := by
                calc i * E.kinds.length + j < i * E.kinds.length + E.kinds.length := by omega
                  _ = (i + 1) * E.kinds.length := by rw [Nat.add_mul]; omega
                  _ ≤ _ := Nat.mul_le_mul_right _ (by omega)
              have := ((hcell _ hi' j hj).2.2).mono hheap hal
              rw [getD_take_lt _ _ _ _ hlt, hcd]
              show RepC P _ _ _ _ _
              have e2 : len * E.kinds.length + m.news.length + (i * E.kinds.length + j) = (len + new.length + i) * E.kinds.length + j := by
                rw [m.len, Nat.add_mul, Nat.add_mul]; omega
              rw [e2]; exact this
        · exact .own0 _ _ _ b c es'.length t' hg (by omega)
theorem cell_lt {n sz i j : Nat} (hi : i < n) (hj : j < sz) : i * sz + j < n * sz := by
  calc i * sz + j < i * sz + sz := by omega
    _ = (i + 1) * sz := by rw [Nat.add_mul]; omega
    _ ≤ n * sz := Nat.mul_le_mul_right _ hi


/-- an array's address -/
theorem elt_row {id sz : Nat} {ks : List Kd} {v : Value} {t' : TypeId} {es : List (List C)} (h : RelL P w0 N σ s tms w) (hb : s.hp id = .row t' es ∨ s.hp id = .frz t' es) (hx : ARel P w (Al w0 w σ s.hp) σ v (.elt id sz ks 0 0)) :
    ∃ E b cap cur tg, tyI P t' = some E ∧ (es.length : Int) * E.bytes ≤ 140737488355328 ∧ v = .pointer (some ⟨b, 0, none⟩) ∧ σ id = .row b cap t' E.kinds es.length ∧ w0.wr b ∧ w.heap[b]? = some (.cells cur tg (0, 0)) ∧ cur.size = cap * E.kinds.length ∧ es.length ≤ cap ∧ cap ≤ maxLen ∧
      (∀ i, i < es.length → (eg es i).length = E.kinds.length) ∧
      (∀ i, i < es.length → ∀ j, j < E.kinds.length → i * E.kinds.length + j < cur.size ∧ w.cell? ⟨b, i * E.kinds.length + j, none⟩ = some (cur.getD (i * E.kinds.length + j) undef) ∧ RepC P w (Al w0 w σ s.hp) (E.kinds.getD j .other) (cur.getD (i * E.kinds.length + j) undef) (cg (eg es i) j)) := by
  have hB : RowRel P w w0.wr (Al w0 w σ s.hp) (σ id) t' es := by
    have := h.blks id
    rcases hb with hb | hb <;> rw [hb] at this <;> exact this
  cases hx with
  | eltGone _ _ _ _ _ _ hg =>
    obtain ⟨E, _, _, hB⟩ := hB
    rcases hB with ⟨hB, _⟩ | ⟨_, _, _, _, hB, _⟩ <;> rw [hB] at hg <;> cases hg
  | elt _ ks0 _ _ _ b cap n t'' hg hin hks =>
    try obtain rfl := row_flat hB hg
    obtain ⟨rfl, rfl, ⟨E, hE, hk0⟩, hwr, cur, tg, hh, hsz, hec, hcm, _, hel, hcell⟩ := row_cell hB hg
    obtain ⟨E2, hE2, hby, _⟩ := hB
    rw [hE] at hE2; simp only [Option.some.injEq] at hE2; subst hE2
    subst hk0
    exact ⟨E, b, cap, cur, tg, hE, hby, by simp, hg, hwr, hh, hsz, hec, hcm, hel, hcell⟩


theorem loadArr_sound {t : TypeId} {a : A} {v : Value} {p : Prop} {z : A} (h : RelL P w0 N σ s tms w) (hf : loadArr P t s.hp a = some (p, z)) (hp : p) (hx : ARel P w (Al w0 w σ s.hp) σ v a) :
    ∃ ad u, v = .pointer (some ad) ∧ (Instr.loadAt t v).run P w = .ok u w ∧ ARel P w (Al w0 w σ s.hp) σ u z := by
  have key : ∀ n e E id sz ks es, arrI P t = some (n, e, E) → a = .elt id sz ks 0 0 → (s.hp id = .row e es ∨ s.hp id = .frz e es) → es.length = n → z = .c (.arr t) (.slice es) → ∃ ad u, v = .pointer (some ad) ∧ (Instr.loadAt t v).run P w = .ok u w ∧ ARel P w (Al w0 w σ s.hp) σ u z := by
    rintro n e E id sz ks es hA rfl hb hn rfl
    obtain ⟨i, z, hi, hu, hE, hsize, hpos, hby, hz, hfit⟩ := arrI_spec hA
    obtain ⟨E', b, cap, cur, tg, hE', _, hv, hg, _, hh, hsz, hec, hcm, hel, hcell⟩ := elt_row h hb hx
    rw [hE] at hE'; simp only [Option.some.injEq] at hE'; subst hE'
    have hks := kinds_pos hE
    have hl := run_loadCells (P := P) w ⟨b, 0, none⟩ (n * E.kinds.length) (fun k => cur.getD k undef) (fun k hk => by
      obtain ⟨h1, h2, h3⟩ := div_lt' hk
      have := (hcell (k / E.kinds.length) (by omega) (k % E.kinds.length) h2).2.1
      rw [h3] at this
      rw [Addr.add_lit, Nat.zero_add]; exact this)
    have hr : (Instr.loadAt t v).run P w = .ok (.agg ((List.range (n * E.kinds.length)).map fun k => cur.getD k undef).toArray) w := by
      rw [hv]
      simp only [Instr.loadAt, Instr.sureAddr, loadVar, Sem.run_bind, Sem.run_pure, Result.andThen_ok, run_isAgg hu, isAggD]
      simp [sizeOf, run_typeInfo w hi, hsize, hl]
    refine ⟨_, _, hv, hr, ?_⟩
    refine .c _ _ _ (.arr t (.slice es) _ n e E hA hn (by simp) (fun i hi => hel i (by omega)) (fun i hi j hj => ?_))
    have hlt := cell_lt hi hj
    have e1 : ((List.range (n * E.kinds.length)).map fun k => cur.getD k undef).getD (i * E.kinds.length + j) undef = cur.getD (i * E.kinds.length + j) undef := by
      simp [List.getD_eq_getElem?_getD, hlt]
    rw [e1]
    exact (hcell i (by omega) j hj).2.2
  unfold loadArr at hf
  split at hf
  · rename_i n e E id sz ks hA
    split at hf
    · rename_i t' es hb
      split at hf
      · rename_i he
        simp only [beq_iff_eq] at he; subst he
        simp only [Option.some.injEq, Prod.mk.injEq] at hf
        obtain ⟨rfl, rfl⟩ := hf
        exact key n t' E id sz ks es hA rfl (.inl hb) hp rfl
      · cases hf
    · rename_i t' es hb
      split at hf
      · rename_i he
        simp only [beq_iff_eq] at he; subst he
        simp only [Option.some.injEq, Prod.mk.injEq] at hf
        obtain ⟨rfl, rfl⟩ := hf
        exact key n t' E id sz ks es hA rfl (.inr hb) hp rfl
      · cases hf
    · cases hf
  · cases hf
end Go.AE
