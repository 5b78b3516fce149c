/-
  Calls that are handed blocks of the caller's own: at the caller.
-/
import Derived.Test.YtcdofkflbnpjjaaAE23
set_option linter.unusedVariables false
namespace Go.AE
open Go.RowKit (Below)
variable {P : Program} {w0 : Base} {w : World} {N : Nat} {σ : Nat → RefI} {s : S} {tms : Array Value} {ρ : Operand → Value} {al : Nat → Prop} {Γ : List Fn}

theorem rowsHp_lt {bs : List Blk} {j : Nat} : rowsHp bs j = bs.getD j .dead := rfl
theorem getD_mem {l : List Nat} {j : Nat} (h : j < l.length) : l.getD j 0 ∈ l := by
  have : l.getD j 0 = l[j] := by simp [List.getD_eq_getElem?_getD, h]
  rw [this]; exact List.getElem_mem h
theorem mem_getD {l : List Nat} {i : Nat} (h : i ∈ l) : ∃ j, j < l.length ∧ l.getD j 0 = i := by
  obtain ⟨j, hj, rfl⟩ := List.getElem_of_mem h
  exact ⟨j, hj, by simp [List.getD_eq_getElem?_getD, hj]⟩
theorem nodup_getD {l : List Nat} (h : l.Nodup) {i j : Nat} (hi : i < l.length) (hj : j < l.length) (e : l.getD i 0 = l.getD j 0) : i = j := by
  have e1 : l.getD i 0 = l[i] := by simp [List.getD_eq_getElem?_getD, hi]
  have e2 : l.getD j 0 = l[j] := by simp [List.getD_eq_getElem?_getD, hj]
  rw [e1, e2] at e
  exact (List.getElem_inj h).1 e

theorem BRel.block_own {B : Nat → Prop} {b : Nat} {k : Nat} {K : Blk} {id : Nat} (h : BRel P w B al σ id K) (hok : okB k K = true) : ¬ isFrz K := by
  cases K <;> simp [okB] at hok <;> simp [isFrz]

theorem frz_renB {m : Nat → Nat} {K : Blk} : isFrz (renB m K) ↔ isFrz K := by cases K <;> simp [renB, isFrz]

/-- a block under other numbers, at the caller -/
theorem BRel.ren {w' : World} {B B' : Nat → Prop} {al al' : Nat → Prop} {σr σ' : Nat → RefI} {m : Nat → Nat} {j id : Nat} {K : Blk} (h : BRel P w' B al σr j K) (hB : ∀ b, B b → B' b) (ha : ∀ b, al b → al' b) (hid : σ' id = σr j)
    (hs : ∀ i, σr i ≠ .dead → σ' (m i) = σr i) : BRel P w' B' al' σ' id (renB m K) := by
  cases K with
  | dead => exact hid.trans h
  | gone => exact hid.trans h
  | box cells =>
    obtain ⟨b, vs, t, hr, hb, hh, hl, hc⟩ := h
    refine ⟨b, vs, t, hid.trans hr, hB b hb, hh, by rw [renMs_length]; exact hl, fun i hi => ?_⟩
    rw [renMs_length] at hi
    rw [renMs_getD]
    exact renM_rel ((hc i hi).mono (fun _ _ => rfl) ha (fun _ _ => .inl rfl)) hs
  | row t es =>
    simp only [renB, BRel] at h ⊢
    rw [hid]
    exact RowRel.weaken h hB (.inl ha)
  | frz t es =>
    simp only [renB, BRel] at h ⊢
    rw [hid]
    exact RowRel.weaken h hB (.inl ha)
  | mp kk vp mm =>
    obtain ⟨b, es, clock, hr, hb, hh, hk, hm⟩ := h
    exact ⟨b, es, clock, hid.trans hr, hB b hb, hh, hk, hm.mono (fun _ _ => rfl) ha⟩
  | it kk vp cur left =>
    obtain ⟨r, b, es, clock, since, seen, c0, hr, hb, hb2, hh, hh2, hk, ⟨L, hL, hm⟩, hc⟩ := h
    exact ⟨r, b, es, clock, since, seen, c0, hid.trans hr, hB r hb, hB b hb2, hh, hh2, hk, ⟨L, hL, hm.mono (fun _ _ => rfl) ha⟩, hc.mono (fun _ _ => rfl) ha⟩

/-- the same, at the callee -/
theorem BRel.unren {B B' : Nat → Prop} {al al' : Nat → Prop} {σ0 : Nat → RefI} {m : Nat → Nat} {k j id : Nat} {K : Blk} (h : BRel P w B al σ id (renB m K)) (hok : okB k K = true) (hB : ∀ b, blockOf (σ id) b → B b → B' b) (ha : ∀ b, al b → al' b) (hid : σ0 j = σ id)
    (hs : ∀ i, i < k → σ0 i = σ (m i)) : BRel P w B' al' σ0 j K := by
  cases K with
  | box cells =>
    obtain ⟨b, vs, t, hr, hb, hh, hl, hc⟩ := h
    rw [renMs_length] at hl
    refine ⟨b, vs, t, hid.trans hr, hB b (by rw [hr]; rfl) hb, hh, hl, fun i hi => ?_⟩
    have := hc i (by rw [renMs_length]; exact hi)
    rw [renMs_getD] at this
    exact (renM_inv this hs _ rfl (okMs_getD (by simpa [okB] using hok) i)).mono (fun _ _ => rfl) ha (fun _ _ => .inl rfl)
  | row t es =>
    simp only [renB, BRel] at h ⊢
    rw [hid]
    obtain ⟨E, hE, hby, h⟩ := h
    refine ⟨E, hE, hby, h.imp (fun x => x) ?_⟩
    rintro ⟨b, cap, cur, tg, e, hb, hh, h1, h2, h3, h4, h5⟩
    exact ⟨b, cap, cur, tg, e, hB b (by rw [e]; exact .inl rfl) hb, hh, h1, h2, h3, h4, fun i hi j hj => (h5 i hi j hj).mono (fun _ _ => rfl) ha⟩
  | mp kk vp mm =>
    obtain ⟨b, es, clock, hr, hb, hh, hk, hm⟩ := h
    exact ⟨b, es, clock, hid.trans hr, hB b (by rw [hr]; rfl) hb, hh, hk, hm.mono (fun _ _ => rfl) ha⟩
  | _ => simp [okB] at hok

theorem callM_sound {f : FuncId} {as : List Arg} {hs hs' : List Blk} {res : List A} {acts : List A} {ids keys : List Nat} {vs : List Value} (h00 : tyI P 0 = none) (C0 : CallsM P f as hs res hs') (h : RelL P w0 N σ s tms w)
    (hbl : blksAt s.hp (mL ids) hs.length ids hs) (hm : matchArg s.hp (mL ids) hs.length as acts) (hdj : disj ids (datIds as acts) = true) (hnd : nodupL (ids ++ keys) = true) (hkd : allDead s.hp keys = true) (hkl : keys.length + hs.length = hs'.length)
    (hvl : vs.length = acts.length) (hvs : ∀ i, i < acts.length → ARel P w (Al w0 w σ s.hp) σ (vs.getD i undef) (acts.getD i .unk)) :
    Calls P f vs.toArray w (fun e w' => ∃ v, e = .returned v ∧ ∃ σ', RelL P w0 N σ' ⟨s.tm, putAll (ids ++ keys) (hs'.map (renB (mL (ids ++ keys)))) (freezeAll s.hp (datIds as acts))⟩ tms w' ∧
      ARel P w' (Al w0 w' σ' (putAll (ids ++ keys) (hs'.map (renB (mL (ids ++ keys)))) (freezeAll s.hp (datIds as acts)))) σ' v (unTup (renMs (mL (ids ++ keys)) res))) := by
  obtain ⟨hil, hbs⟩ := blksAt_spec hbl
  obtain ⟨hal, hma⟩ := matchArg_spec hm
  have hnd0 := nodupL_iff hnd
  have hndi : ids.Nodup := (List.nodup_append.1 hnd0).1
  have hdj' := disj_iff hdj
  have hkd' := allDead_iff hkd
  have hrows := datIds_mem hm
  obtain ⟨hal1, hal2⟩ := al_freeze h (datIds as acts) hrows
  obtain ⟨hpF, hpFe⟩ : ∃ hpF, hpF = freezeAll s.hp (datIds as acts) := ⟨_, rfl⟩
  rw [← hpFe] at hal1 hal2 ⊢
  have hz : RelL P w0 N σ ⟨s.tm, hpF⟩ tms w := by rw [hpFe]; exact h.freezeAll _
  have hpF0 : ∀ id, id ∉ datIds as acts → hpF id = s.hp id := by
    intro id hid
    rw [hpFe, freezeAll_at]
    rw [if_neg hid]
  obtain ⟨σ0, hσ0⟩ : ∃ σ0 : Nat → RefI, σ0 = fun j => if j < hs.length then σ (ids.getD j 0) else .dead := ⟨_, rfl⟩
  have hσ0i : ∀ j, j < hs.length → σ0 j = σ (ids.getD j 0) := fun j hj => by rw [hσ0]; simp only []; rw [if_pos hj]
  have hσ0o : ∀ j, hs.length ≤ j → σ0 j = .dead := fun j hj => by rw [hσ0]; simp only []; rw [if_neg (by omega)]
  have hblk0 : ∀ j b, blockOf (σ0 j) b → j < hs.length ∧ blockOf (σ (ids.getD j 0)) b := by
    intro j b hb
    by_cases hj : j < hs.length
    · rw [hσ0i j hj] at hb; exact ⟨hj, hb⟩
    · rw [hσ0o j (by omega)] at hb; simp [blockOf] at hb
  have hidF : ∀ j, j < hs.length → hpF (ids.getD j 0) = renB (mL ids) (hs.getD j .dead) := by
    intro j hj
    rw [hpF0 _ (fun hin => hdj' _ hin (getD_mem (by omega))), (hbs j hj).1]
  have hnf : ∀ j, j < hs.length → ¬ isFrz (hpF (ids.getD j 0)) := by
    intro j hj
    rw [hidF j hj, frz_renB]
    have := (hbs j hj).2
    cases hk : hs.getD j .dead <;> rw [hk] at this <;> simp [okB] at this <;> simp [isFrz]
  have hlt : ∀ b, Al w0 w σ hpF b → b < w.heap.size ∧ ∀ j, ¬ blockOf (σ0 j) b := by
    intro b hb
    refine ⟨hb.1, fun j hj => ?_⟩
    obtain ⟨h1, h2⟩ := hblk0 j b hj
    exact hnf j h1 (hb.2.1 _ h2)
  have hargs : ∀ i, i < as.length → ArgM P w (Al w0 w σ hpF) σ0 (as.getD i (.ref .unk)) (vs.getD i undef) := by
    intro i hi
    have h1 := hma i hi
    have h2 := hvs i (by omega)
    cases hg : as.getD i (.ref .unk) with
    | dat p c =>
      rw [hg] at h1
      exact fitArg_sound h00 h hal1 h1.1 h2 (fun id hid b hb => hal2 id (h1.2 id hid) b hb)
    | ref a0 =>
      rw [hg] at h1
      rw [h1.1] at h2
      exact (renM_inv h2 (k := hs.length) (m := mL ids) (fun j hj => hσ0i j hj) a0 rfl h1.2).mono (fun _ _ => rfl) hal1 (fun _ _ => .inl rfl)
  have hB0 : ∀ j, BRel P w (fun b => b < w.heap.size) (Al w0 w σ hpF) σ0 j (rowsHp hs j) := by
    intro j
    by_cases hj : j < hs.length
    · have := hz.blks (ids.getD j 0)
      dsimp only at this
      rw [hidF j hj] at this
      exact this.unren (hbs j hj).2 (fun b hb _ => (block_lt_of_bref (hz.blks _) hb).1) (fun _ hb => hb) (hσ0i j hj) (fun i hi => hσ0i i hi)
    · have e : rowsHp hs j = .dead := by simp [rowsHp, List.getD_eq_getElem?_getD, List.getElem?_eq_none (show hs.length ≤ j by omega)]
      rw [e]; exact hσ0o j (by omega)
  have hinj0 : ∀ i j b, blockOf (σ0 i) b → blockOf (σ0 j) b → i = j := by
    intro i j b hi hj
    obtain ⟨h1, h2⟩ := hblk0 i b hi
    obtain ⟨h3, h4⟩ := hblk0 j b hj
    exact nodup_getD hndi (by omega) (by omega) (h.inj _ _ b h2 h4)
  refine (C0.calls w (Al w0 w σ hpF) σ0 vs hlt hB0 hinj0 (by omega) hargs).mono ?_
  rintro e w' ⟨v, rfl, hbel, σr, hBr, hinjr, hold, hv⟩
  refine ⟨v, rfl, ?_⟩
  -- the blocks, numbered at the caller
  obtain ⟨L, hL⟩ : ∃ L, L = ids ++ keys := ⟨_, rfl⟩
  rw [← hL] at hnd0 ⊢
  have hLl : L.length = hs'.length := by rw [hL, List.length_append]; omega
  have hLi : ∀ j, j < hs.length → L.getD j 0 = ids.getD j 0 := by
    intro j hj
    rw [hL, List.getD_eq_getElem?_getD, List.getElem?_append_left (by omega), ← List.getD_eq_getElem?_getD]
  have hLk : ∀ j, hs.length ≤ j → j < hs'.length → L.getD j 0 ∈ keys := by
    intro j h1 h2
    rw [hL, List.getD_eq_getElem?_getD, List.getElem?_append_right (by omega), ← List.getD_eq_getElem?_getD]
    exact getD_mem (by omega)
  have hkdat : ∀ k, k ∈ keys → hpF k = .dead := by
    intro k hk
    have hd := hkd' k hk
    rw [hpF0 k (fun hin => ?_)]
    · exact hd
    · obtain ⟨t, es, hr⟩ := hrows k hin
      rcases hr with hr | hr <;> rw [hd] at hr <;> cases hr
  have hkσ : ∀ k, k ∈ keys → σ k = .dead := fun k hk => bref_dead (hz.blks k) (hkdat k hk)
  obtain ⟨σ', hσ'⟩ : ∃ σ' : Nat → RefI, σ' = fun id => if id ∈ L then σr (L.idxOf id) else σ id := ⟨_, rfl⟩
  have hσn : ∀ j, j < hs'.length → σ' (L.getD j 0) = σr j := by
    intro j hj
    rw [hσ']; simp only []
    have hm : L.getD j 0 ∈ L := getD_mem (by omega)
    rw [if_pos hm]
    congr 1
    have e : L.getD j 0 = L[j] := by simp [List.getD_eq_getElem?_getD, show j < L.length by omega]
    rw [e]
    exact List.Nodup.idxOf_getElem hnd0 j (by omega)
  have hσo : ∀ id, id ∉ L → σ' id = σ id := by
    intro id hid; rw [hσ']; simp only []; rw [if_neg hid]
  obtain ⟨hpO, hpOe⟩ : ∃ hpO, hpO = putAll L (hs'.map (renB (mL L))) hpF := ⟨_, rfl⟩
  rw [← hpOe]
  have hpn : ∀ j, j < hs'.length → hpO (L.getD j 0) = renB (mL L) (rowsHp hs' j) := by
    intro j hj
    rw [hpOe, putAll_in hnd0 (by rw [List.length_map]; exact hLl) (by omega)]
    simp [rowsHp, List.getD_eq_getElem?_getD, hj]
  have hpo : ∀ id, id ∉ L → hpO id = hpF id := fun id hid => by rw [hpOe, putAll_out hid]
  have hrdead : ∀ j, hs'.length ≤ j → σr j = .dead := by
    intro j hj
    have := hBr j
    have e : rowsHp hs' j = .dead := by simp [rowsHp, List.getD_eq_getElem?_getD, List.getElem?_eq_none hj]
    rw [e] at this; exact this
  have hren : ∀ j, σr j ≠ .dead → σ' (mL L j) = σr j := by
    intro j hj
    have hlt' : j < hs'.length := by
      rcases Nat.lt_or_ge j hs'.length with h' | h'
      · exact h'
      · exact absurd (hrdead j h') hj
    exact hσn j hlt'
  have hmu : ∀ b, muOf σ0 b → ∃ j, j < hs.length ∧ blockOf (σ (ids.getD j 0)) b := by
    rintro b ⟨j, hj⟩
    obtain ⟨h1, h2⟩ := hblk0 j b hj
    exact ⟨j, h1, h2⟩
  have hmual : ∀ b, Al w0 w σ hpF b → ¬ muOf σ0 b := by
    intro b hb hmb
    obtain ⟨j, h1, h2⟩ := hmu b hmb
    exact hnf j h1 (hb.2.1 _ h2)
  have hnsz : w0.n ≤ w.heap.size := h.below.size
  have hwr : ∀ b, Base.wr ⟨w, Al w0 w σ hpF, muOf σ0, σ0⟩ b → w0.wr b := by
    intro b hb
    rcases hb with hb | hb
    · exact .inl (Nat.le_trans hnsz hb)
    · obtain ⟨j, h1, h2⟩ := hmu b hb
      exact (block_lt_of_bref (hz.blks _) h2).2
  have hmem : ∀ id, id ∈ L → ∃ j, j < hs'.length ∧ L.getD j 0 = id := by
    intro id hid
    obtain ⟨j, hj, e⟩ := mem_getD hid
    exact ⟨j, by omega, e⟩
  -- a block of an old number that the call was not handed
  have hother : ∀ id b, id ∉ L → blockOf (σ id) b → b < w.heap.size ∧ ¬ muOf σ0 b := by
    intro id b hid hb
    refine ⟨(block_lt_of_bref (hz.blks id) hb).1, fun hmb => ?_⟩
    obtain ⟨j, h1, h2⟩ := hmu b hmb
    have := h.inj _ _ b hb h2
    subst this
    exact hid (by rw [← hLi j h1]; exact getD_mem (by omega))
  have hal : ∀ b, Al w0 w σ hpF b → Al w0 w' σ' hpO b := by
    intro b hb
    refine ⟨Nat.lt_of_lt_of_le hb.1 hbel.size, fun id hid => ?_, hb.2.2⟩
    by_cases hn : id ∈ L
    · obtain ⟨j, hj, rfl⟩ := hmem id hn
      rw [hσn j hj] at hid
      exfalso
      rcases (block_lt_of_bref (hBr j) hid).2 with h1 | h1
      · have := hb.1
        have : w.heap.size ≤ b := h1
        omega
      · exact hmual b hb h1
    · rw [hσo id hn] at hid
      rw [hpo id hn]; exact hb.2.1 id hid
  have halR : ∀ b, Al ⟨w, Al w0 w σ hpF, muOf σ0, σ0⟩ w' σr (rowsHp hs') b → Al w0 w' σ' hpO b := by
    intro b hb
    refine ⟨hb.1, fun id hid => ?_, ?_⟩
    · by_cases hn : id ∈ L
      · obtain ⟨j, hj, rfl⟩ := hmem id hn
        rw [hσn j hj] at hid
        rw [hpn j hj, frz_renB]
        exact hb.2.1 j hid
      · rw [hσo id hn] at hid
        rw [hpo id hn]
        obtain ⟨o1, o2⟩ := hother id b hn hid
        rcases hb.2.2 with h3 | h3
        · rcases h3 with h3 | h3
          · have : w.heap.size ≤ b := h3
            omega
          · exact absurd h3 o2
        · exact h3.2.1 id hid
    · rcases hb.2.2 with h3 | h3
      · exact .inl (hwr b h3)
      · exact h3.2.2
  have hbelow : BelowX w0.n w0.mu w0.world w' := by
    refine h.below.trans ⟨hbel.os, hbel.tape, hbel.output, hbel.size, fun k hk hnm => hbel.block k (by omega) (fun hmb => ?_)⟩
    obtain ⟨j, h1, h2⟩ := hmu k hmb
    rcases (block_lt_of_bref (hz.blks _) h2).2 with h3 | h3
    · omega
    · exact hnm h3
  refine ⟨σ', hz.change hbelow hal (fun b hb => hbel.block b hb.1 (hmual b hb)) ?_ ?_ ?_, ?_⟩
  · intro id hid
    by_cases hn : id ∈ L
    · obtain ⟨j, hj, rfl⟩ := hmem id hn
      by_cases hjo : j < hs.length
      · rw [hσn j hj]
        rw [hLi j hjo] at hid ⊢
        rw [← hσ0i j hjo] at hid ⊢
        exact hold j hid
      · exact absurd (hkσ _ (hLk j (by omega) hj)) hid
    · exact .inl (hσo id hn)
  · intro id
    by_cases hn : id ∈ L
    · obtain ⟨j, hj, rfl⟩ := hmem id hn
      refine .inr ?_
      rw [hpn j hj]
      exact (hBr j).ren hwr halR (hσn j hj) hren
    · exact .inl ⟨hσo id hn, hpo id hn, fun b hb => hbel.block b (hother id b hn hb).1 (hother id b hn hb).2⟩
  · intro i j b hi hj
    by_cases hn : i ∈ L <;> by_cases hm' : j ∈ L
    · obtain ⟨i', hi', rfl⟩ := hmem i hn
      obtain ⟨j', hj', rfl⟩ := hmem j hm'
      rw [hσn i' hi'] at hi
      rw [hσn j' hj'] at hj
      rw [hinjr _ _ _ hi hj]
    · obtain ⟨i', hi', rfl⟩ := hmem i hn
      rw [hσn i' hi'] at hi
      rw [hσo j hm'] at hj
      obtain ⟨o1, o2⟩ := hother j b hm' hj
      rcases (block_lt_of_bref (hBr i') hi).2 with h1 | h1
      · have : w.heap.size ≤ b := h1
        omega
      · exact absurd h1 o2
    · obtain ⟨j', hj', rfl⟩ := hmem j hm'
      rw [hσn j' hj'] at hj
      rw [hσo i hn] at hi
      obtain ⟨o1, o2⟩ := hother i b hn hi
      rcases (block_lt_of_bref (hBr j') hj).2 with h1 | h1
      · have : w.heap.size ≤ b := h1
        omega
      · exact absurd h1 o2
    · rw [hσo i hn] at hi
      rw [hσo j hm'] at hj
      exact hz.inj i j b hi hj
  · exact renM_unTup (hv.mono (fun _ _ => rfl) halR (fun _ _ => .inl rfl)) hren
end Go.AE
