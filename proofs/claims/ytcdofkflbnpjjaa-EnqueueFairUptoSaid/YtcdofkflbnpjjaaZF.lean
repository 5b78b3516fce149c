/-
  ch. 37: plain laws. EnqueueFair.
-/
import Derived.Test.YtcdofkflbnpjjaaY
set_option maxHeartbeats 8000000
set_option linter.unusedVariables false
set_option linter.unusedSimpArgs false
set_option maxRecDepth 100000
namespace Go.Proofs.Ytcdofkflbnpjjaa
open Go.AE

theorem mem_rm {l : List TRequest} {k : Nat} {q : TRequest} (hk : k < l.length) (h : q ∈ l) (hj : q.Job ≠ (gt l k).Job) : q ∈ rm l k := by
  have h' : q ∈ l.take k ++ l.drop k := by rw [List.take_append_drop]; exact h
  rw [rm, List.mem_append]
  rcases List.mem_append.1 h' with h1 | h1
  · exact .inl h1
  · rw [List.drop_eq_getElem_cons hk] at h1
    rcases List.mem_cons.1 h1 with rfl | h1
    · exact absurd (by rw [gt_lt hk]) hj
    · exact .inr h1

theorem sweep_held : ∀ (l H W : List TRequest) (J : List Int) (q : TRequest), q ∈ H → q ∈ (sweep l H W J).1
  | [], H, W, J, q, h => h
  | x :: l, H, W, J, q, h => by
    simp only [sweep]
    split
    · exact sweep_held l H (W ++ [x]) J q h
    · exact sweep_held l (H ++ [x]) W _ q (List.mem_append_left _ h)

/-- the first one waits on -/
theorem sweep_head : ∀ (l H W : List TRequest) (J : List Int) (w : TRequest), (sweep l H (w :: W) J).2.1.head? = some w ∧
    ∀ q ∈ (sweep l H (w :: W) J).1, conf w.Wants q.Wants = true → q ∈ H
  | [], H, W, J, w => ⟨rfl, fun q h _ => h⟩
  | x :: l, H, W, J, w => by
    simp only [sweep]
    split
    · exact sweep_head l H (W ++ [x]) J w
    · rename_i hc
      rw [Bool.not_eq_true, Bool.or_eq_false_iff] at hc
      have h1 := sweep_head l (H ++ [x]) W (J ++ [x.Job]) w
      refine ⟨h1.1, fun q hq hcf => ?_⟩
      have h2 := h1.2 q hq hcf
      rcases List.mem_append.1 h2 with h2 | h2
      · exact h2
      · rw [List.mem_singleton] at h2
        subst h2
        have h3 := hc.2
        rw [blk, List.any_eq_false] at h3
        exact absurd (by rw [conf_symm]; exact hcf) (h3 w (.head _))

theorem ix_gt {l : List TRequest} {j : Int} {k : Nat} (h : ix l j = some k) : (gt l k).Job = j := by
  have := List.find?_some h
  simpa using this
theorem ix_some {l : List TRequest} {j : Int} (h : jobs l j = true) : ∃ k, ix l j = some k := by
  have h1 := ixI_ge l j
  rw [h] at h1
  cases e : ix l j with
  | none => rw [ixI, e] at h1; simp at h1
  | some k => exact ⟨k, rfl⟩

theorem nodup_inj {l : List TRequest} (h : (l.map (·.Job)).Nodup) {a b : TRequest} (ha : a ∈ l) (hb : b ∈ l) (e : a.Job = b.Job) : a = b := by
  obtain ⟨i, hi, rfl⟩ := List.mem_iff_getElem.1 ha
  obtain ⟨k, hk, rfl⟩ := List.mem_iff_getElem.1 hb
  rw [List.Nodup, List.pairwise_map, List.pairwise_iff_getElem] at h
  rcases Nat.lt_trichotomy i k with h1 | h1 | h1
  · exact absurd e (h i k hi hk h1)
  · subst h1; rfl
  · exact absurd e.symm (h k i hk hi h1)

/-- what holds while the granted ones of a table are released: R says which of them are not yet -/
structure Inn (t u : TTable) (R : TRequest → Prop) : Prop where
  vp : VP u
  rg : rng u
  tb : tb 40 u
  rem : ∀ q, R q → q ∈ u.Held
  w0 : ∀ w, t.Waiting.head? = some w → w ∈ u.Held ∨ (u.Waiting.head? = some w ∧ ∀ q ∈ u.Held, conf w.Wants q.Wants = true → R q)

theorem VP.ndH {t : TTable} (h : VP t) : (t.Held.map (·.Job)).Nodup := by
  have := h.nd; rw [List.map_append, List.nodup_append] at this; exact this.1

/-- a release of one of them -/
theorem Inn.step {t u : TTable} {R R' : TRequest → Prop} (h : Inn t u R) {x : TRequest} (hx : R x) (hR : ∀ q, R q → q = x ∨ R' q) (hR' : ∀ q, R' q → R q ∧ q ≠ x)
    (hw : ∀ w, t.Waiting.head? = some w → w.Job ≠ x.Job) :
    (relM u x.Job).2.2 = 0 ∧ Inn t (relM u x.Job).1 R' ∧ (relM u x.Job).1.Held.length + (relM u x.Job).1.Waiting.length + 1 = u.Held.length + u.Waiting.length := by
  have hxm := h.rem x hx
  obtain ⟨k, e⟩ := ix_some (jobs_mem.2 (List.mem_map_of_mem (f := (·.Job)) hxm))
  have hk := ix_lt e
  have hg := ix_gt e
  have h0 : (relM u x.Job).2.2 = 0 := by
    unfold relM; rw [if_neg (by rw [h.vp.vld]; simp), e]
  have hu : (relM u x.Job).1 = ⟨(sweep u.Waiting (rm u.Held k) [] []).1, (sweep u.Waiting (rm u.Held k) [] []).2.1⟩ := by
    unfold relM; rw [if_neg (by rw [h.vp.vld]; simp), e]
  have hxk : gt u.Held k = x := nodup_inj h.vp.ndH (by rw [gt_lt hk]; exact List.getElem_mem hk) hxm hg
  have hin : ∀ q ∈ u.Held, q ≠ x → q ∈ rm u.Held k := fun q hq hne => mem_rm hk hq (fun e2 => hne (nodup_inj h.vp.ndH hq hxm (by rw [e2, hg])))
  refine ⟨h0, ⟨relM_VP h.vp _ h0, fun q hq => h.rg q (relM_mem h0 hq), (relM_tb h.tb _ h0).1, fun q hq => ?_, fun w hw0 => ?_⟩, ?_⟩
  · rw [hu]
    exact sweep_held _ _ _ _ q (hin q (h.rem q (hR' q hq).1) (hR' q hq).2)
  · rw [hu]
    rcases h.w0 w hw0 with h1 | ⟨h1, h2⟩
    · left
      exact sweep_held _ _ _ _ w (hin w h1 (fun e2 => hw w hw0 (by rw [e2])))
    · cases hW : u.Waiting with
      | nil => rw [hW] at h1; cases h1
      | cons y ys =>
        rw [hW] at h1
        obtain rfl : y = w := by simpa using h1
        simp only [sweep]
        split
        · right
          have h3 := sweep_head ys (rm u.Held k) [] [] y
          refine ⟨h3.1, fun q hq hc => ?_⟩
          have h4 := h3.2 q hq hc
          have h5 := h2 q (rm_mem h4) hc
          rcases hR q h5 with rfl | h6
          · exfalso
            have h7 : ((rm u.Held k).map (·.Job)).Nodup ∧ True := ⟨h.vp.ndH.sublist ((rm_sub u.Held k).map _), trivial⟩
            have h8 := h.vp.ndH
            have h9 : u.Held = u.Held.take k ++ gt u.Held k :: u.Held.drop (k + 1) := by
              rw [gt_lt hk, ← List.drop_eq_getElem_cons hk, List.take_append_drop]
            rw [h9, List.map_append, List.map_cons] at h8
            have h10 := (List.perm_middle (a := (gt u.Held k).Job) (l₁ := (u.Held.take k).map (·.Job)) (l₂ := (u.Held.drop (k + 1)).map (·.Job))).nodup_iff.1 h8
            rw [List.nodup_cons, hxk, ← List.map_append] at h10
            exact h10.1 (List.mem_map_of_mem (f := (·.Job)) h4)
          · exact h6
        · left
          exact sweep_held _ _ _ _ y (by simp)
  · rw [hu]
    have := (sweep_len u.Waiting (rm u.Held k) [] []).1
    have h2 := rm_len hk
    simp only [List.length_nil] at this
    dsimp only
    omega

theorem len_range : ∀ (m : Nat) (l : List Int), l.Nodup → (∀ x ∈ l, 0 ≤ x ∧ x < (m : Int)) → l.length ≤ m
  | 0, l, _, h => by
    cases l with
    | nil => simp
    | cons x l => have := h x (.head _); omega
  | m + 1, l, hn, h => by
    have h1 := len_range m (l.erase (m : Int)) (hn.erase _) (fun x hx => by
      rw [hn.mem_erase_iff] at hx
      have := h x hx.2
      omega)
    by_cases hm : (m : Int) ∈ l
    · rw [List.length_erase_of_mem hm] at h1; omega
    · rw [List.erase_of_not_mem hm] at h1; omega

theorem total12 {t : TTable} (h : VP t) (hr : rng t) : t.Held.length + t.Waiting.length ≤ 12 := by
  have h1 := len_range 12 _ h.nd (fun j hj => by
    obtain ⟨q, hq, rfl⟩ := List.mem_map.1 hj
    have := hr q (List.mem_append.1 hq)
    omega)
  simpa using h1

theorem held_pos {t : TTable} (h : VP t) (hp : 0 < t.Held.length + t.Waiting.length) : 0 < t.Held.length := by
  rcases Nat.eq_zero_or_pos t.Held.length with h0 | h0
  · exfalso
    have h1 := h.st 0 (by omega)
    rw [List.length_eq_zero_iff] at h0
    rw [h0] at h1
    simp [blk] at h1
  · exact h0

/-- which of the granted ones are not yet released after k releases -/
def left_ (t : TTable) (back : Bool) (k : Nat) (q : TRequest) : Prop := ∃ i, i < t.Held.length ∧ q = gt t.Held i ∧ (if back = true then i + k < t.Held.length else k ≤ i)

theorem fair_inner (n : Nat) (hn : N0 ≤ n) (back : Bool) (t : TTable) (round first : Int) (h : VP t) (hr : rng t) (ht : tb 40 t) :
    ∃ u : TTable, loopF (fun (x : (List TRequest) × (List TRequest) × Int) => law37_EnqueueFair_b6 n back round t.Held first x.1 x.2.1 x.2.2) n (t.Held, t.Waiting, 0) = some (.inr (u.Held, u.Waiting)) ∧
      Inn t u (fun _ => False) ∧ u.Held.length + u.Waiting.length + t.Held.length = t.Held.length + t.Waiting.length := by
  have hn' := hn
  unfold N0 at hn'
  have hlen := ht.1
  obtain ⟨y, h1, h2⟩ := loopF_inv (body := fun (x : (List TRequest) × (List TRequest) × Int) => law37_EnqueueFair_b6 n back round t.Held first x.1 x.2.1 x.2.2)
    (fun x => ∃ (k : Nat) (u : TTable), x = (u.Held, u.Waiting, (k : Int)) ∧ Inn t u (left_ t back k) ∧ k ≤ t.Held.length ∧ u.Held.length + u.Waiting.length + k = t.Held.length + t.Waiting.length)
    (fun x => t.Held.length + 1 - x.2.2.toNat)
    (fun y => ∃ u : TTable, y = .inr (u.Held, u.Waiting) ∧ Inn t u (fun _ => False) ∧ u.Held.length + u.Waiting.length + t.Held.length = t.Held.length + t.Waiting.length)
    (by
      rintro _ ⟨k, u, rfl, hi, hk, hl⟩
      simp only
      by_cases hc : k < t.Held.length
      · left
        have hd1 : decide ((k : Int) < ((t.Held.length : Nat) : Int)) = true := by simp; omega
        have key : ∀ i : Nat, i < t.Held.length → (i = if back = true then t.Held.length - 1 - k else k) →
            ∃ x', law37_EnqueueFair_k8 n back u.Held u.Waiting round t.Held first (k : Int) (i : Int) = some (.inl x') ∧
              (∃ (k : Nat) (u : TTable), x' = (u.Held, u.Waiting, (k : Int)) ∧ Inn t u (left_ t back k) ∧ k ≤ t.Held.length ∧ u.Held.length + u.Waiting.length + k = t.Held.length + t.Waiting.length) ∧
              t.Held.length + 1 - x'.2.2.toNat < t.Held.length + 1 - ((k : Int)).toNat := by
          intro i hi1 hi2
          have hinj : ∀ a b, a < t.Held.length → b < t.Held.length → gt t.Held a = gt t.Held b → a = b := by
            intro a b ha hb e
            have h3 := h.ndH
            rw [List.Nodup, List.pairwise_map, List.pairwise_iff_getElem] at h3
            rw [gt_lt ha, gt_lt hb] at e
            rcases Nat.lt_trichotomy a b with h4 | h4 | h4
            · exact absurd (by rw [e]) (h3 a b ha hb h4)
            · exact h4
            · exact absurd (by rw [e]) (h3 b a hb ha h4)
          have hst := hi.step (x := gt t.Held i) (R' := left_ t back (k + 1)) ⟨i, hi1, rfl, by cases back <;> simp at hi2 ⊢ <;> omega⟩
            (by
              rintro q ⟨a, ha, rfl, hb⟩
              by_cases e : a = i
              · left; rw [e]
              · right; refine ⟨a, ha, rfl, ?_⟩
                cases back <;> simp at hi2 hb ⊢ <;> omega)
            (by
              rintro q ⟨a, ha, rfl, hb⟩
              refine ⟨⟨a, ha, rfl, by cases back <;> simp at hb ⊢ <;> omega⟩, fun e => ?_⟩
              have := hinj a i ha hi1 e
              cases back <;> simp at hi2 hb <;> omega)
            (by
              intro w hw e
              have hwm : w ∈ t.Waiting := List.mem_of_mem_head? (by rw [hw]; rfl)
              have h3 := nd_held h hwm
              rw [jobs_false] at h3
              refine h3 (List.mem_map.2 ⟨gt t.Held i, by rw [gt_lt hi1]; exact List.getElem_mem hi1, e.symm⟩))
          obtain ⟨a1, a2, a3⟩ := hst
          have hg : (0 ≤ (i : Int) ∧ (i : Int) < (t.Held.length : Int)) ∧ i < t.Held.length := by omega
          have e2 : ((relM u (gt t.Held i).Job).2.2 != 0) = false := by rw [a1]; rfl
          refine ⟨((relM u (gt t.Held i).Job).1.Held, (relM u (gt t.Held i).Job).1.Waiting, ((k + 1 : Nat) : Int)), ?_, ⟨k + 1, _, rfl, a2, by omega, by omega⟩, by simp only; omega⟩
          simp only [law37_EnqueueFair_k8, Int.toNat_natCast]
          rw [gd_pos _ hg, show (⟨u.Held, u.Waiting⟩ : TTable) = u from rfl, Release_eq n u _ (tb_mono hi.tb (by omega)) hn]
          simp only [Option.bind_some, e2, cond_false, law37_EnqueueFair_k7, succ_w (show k < 4194304 by omega)]
        simp only [law37_EnqueueFair_b6, hd1, cond_true]
        cases back with
        | true =>
          have e3 : IntKind.wrap .i64 ((IntKind.wrap .i64 (((t.Held.length : Nat) : Int) - 1)) - (k : Int)) = ((t.Held.length - 1 - k : Nat) : Int) := by
            rw [w64_id (n := ((t.Held.length : Nat) : Int) - 1) (by omega) (by omega), w64_id (by omega) (by omega)]; omega
          simp only [cond_true, e3]
          exact key (t.Held.length - 1 - k) (by omega) (by simp)
        | false =>
          simp only [cond_false]
          exact key k hc (by simp)
      · right
        have hd1 : decide ((k : Int) < ((t.Held.length : Nat) : Int)) = false := by simp; omega
        refine ⟨.inr (u.Held, u.Waiting), by simp only [law37_EnqueueFair_b6, hd1, cond_false], u, rfl, ?_, by omega⟩
        have hno : ∀ q, ¬ left_ t back k q := by
          rintro q ⟨a, ha, _, hb⟩
          cases back <;> simp at hb <;> omega
        exact ⟨hi.vp, hi.rg, hi.tb, fun q hq => hq.elim, fun w hw => (hi.w0 w hw).imp id fun h3 => ⟨h3.1, fun q hq hc => hno q (h3.2 q hq hc)⟩⟩)
    n (t.Held, t.Waiting, 0) ⟨0, t, rfl, ⟨h, hr, ht, by
      rintro q ⟨a, ha, rfl, _⟩; rw [gt_lt ha]; exact List.getElem_mem ha, fun w hw => .inr ⟨hw, fun q hq hc => by
      obtain ⟨i, hi, rfl⟩ := List.mem_iff_getElem.1 hq
      exact ⟨i, hi, by rw [gt_lt hi], by cases back <;> simp; exact hi⟩⟩⟩, by omega, by omega⟩ (by simp only; omega)
  obtain ⟨u, rfl, h3, h4⟩ := h2
  exact ⟨u, h1, h3, h4⟩

/-- the first one that waited is granted -/
theorem Inn.granted {t u : TTable} (h : Inn t u (fun _ => False)) {w : TRequest} (hw : t.Waiting.head? = some w) : w ∈ u.Held := by
  rcases h.w0 w hw with h1 | ⟨h1, h2⟩
  · exact h1
  · exfalso
    cases hW : u.Waiting with
    | nil => rw [hW] at h1; cases h1
    | cons y ys =>
      have hs := h.vp.st 0 (by rw [hW]; simp)
      rw [hW] at h1
      obtain rfl : y = w := by simpa using h1
      have e1 : gt u.Waiting 0 = y := by rw [hW]; rfl
      rw [e1, List.take_zero, show blk y.Wants [] = false from rfl, Bool.or_false, blk, List.any_eq_true] at hs
      obtain ⟨q, hq, hc⟩ := hs
      exact h2 q hq hc

theorem Fair_true (n : Nat) (hn : N0 ≤ n) (l : List TAct) (back : Bool) (hw : ∀ a ∈ l, a.Wants.length ≤ B0) (hj : ∀ a ∈ l, 0 ≤ a.Job ∧ a.Job < 256) : law37_EnqueueFair n l back = some true := by
  have hn' := hn
  unfold N0 at hn'
  obtain ⟨t, ok, hp, ht, hv, hr⟩ := play_eq n hn l hw hj
  simp only [law37_EnqueueFair, hp, works_true n hn, Option.bind_some, Bool.not_true, cond_false]
  cases ok with
  | false => rfl
  | true =>
    simp only [Bool.not_true, cond_false]
    obtain ⟨y, h1, h2⟩ := loopF_inv (body := fun (x : (List TRequest) × (List TRequest) × Int) => law37_EnqueueFair_b2 n back x.1 x.2.1 x.2.2)
      (fun x => ∃ (k : Nat) (t : TTable), x = (t.Held, t.Waiting, (k : Int)) ∧ VP t ∧ rng t ∧ tb 40 t ∧ k ≤ 13 ∧ t.Held.length + t.Waiting.length ≤ 12 - k)
      (fun x => 14 - x.2.2.toNat)
      (fun y => y = (.inr ([], []) : Bool ⊕ (List TRequest × List TRequest)))
      (by
        rintro _ ⟨k, t, rfl, hv, hr, ht, hk, hl⟩
        simp only
        have hlen := ht.1
        have e0 : IntKind.wrap .i64 ((t.Held.length : Int) + (t.Waiting.length : Int)) = (t.Held.length : Int) + (t.Waiting.length : Int) := w64_id (by omega) (by omega)
        by_cases hc : 0 < t.Held.length + t.Waiting.length
        · left
          have hpos := held_pos hv hc
          have hd : (if (decide ((k : Int) < 13)) = true then (decide ((IntKind.wrap .i64 ((t.Held.length : Int) + (t.Waiting.length : Int))) > 0)) else false) = true := by
            rw [ite_ff, e0, Bool.and_eq_true, decide_eq_true_eq, decide_eq_true_eq]; omega
          have hz : (((t.Held.length : Nat) : Int) == 0) = false := by
            rw [beq_eq_false_iff_ne]; omega
          have main : ∀ first : Int, (∀ w, t.Waiting.head? = some w → first = w.Job) → (t.Waiting = [] → first < 0) →
              ∃ x', law37_EnqueueFair_k4 n back t.Held t.Waiting (k : Int) first = some (.inl x') ∧
                (∃ (k : Nat) (t : TTable), x' = (t.Held, t.Waiting, (k : Int)) ∧ VP t ∧ rng t ∧ tb 40 t ∧ k ≤ 13 ∧ t.Held.length + t.Waiting.length ≤ 12 - k) ∧
                14 - x'.2.2.toNat < 14 - ((k : Int)).toNat := by
            intro first hf1 hf2
            obtain ⟨u, hu, hi, hlu⟩ := fair_inner n hn back t (k : Int) first hv hr ht
            refine ⟨(u.Held, u.Waiting, ((k + 1 : Nat) : Int)), ?_, ⟨k + 1, u, rfl, hi.vp, hi.rg, hi.tb, by omega, by omega⟩, by simp only; omega⟩
            unfold law37_EnqueueFair_k4
            refine (congrArg (fun o => Option.bind o _) hu).trans ?_
            have hh := Holds_eq n u first (tb_small hi.tb (by omega)) hn
            rw [hi.vp.vld, Bool.true_and] at hh
            simp only [Option.bind_some, law37_EnqueueFair_k5]
            rw [gd_pos _ (fun _ => by rw [hh]; rfl), hh]
            have hfin : (if (decide (first ≥ 0)) = true then (!((some (jobs u.Held first)).getD default)) else false) = false := by
              cases hW : t.Waiting with
              | nil =>
                have := hf2 hW
                have e : decide (first ≥ 0) = false := by simp; omega
                rw [e]; rfl
              | cons w ws =>
                have hm := hi.granted (w := w) (by rw [hW]; rfl)
                have e2 := hf1 w (by rw [hW]; rfl)
                have e3 : jobs u.Held first = true := by rw [e2]; exact jobs_mem.2 (List.mem_map_of_mem (f := (·.Job)) hm)
                rw [e3]; simp
            rw [hfin]
            simp only [cond_false, law37_EnqueueFair_k3, succ_w (show k < 4194304 by omega)]
          simp only [law37_EnqueueFair_b2, hd, cond_true, hz, cond_false]
          rw [gd_pos _ (by omega)]
          cases hW : t.Waiting with
          | nil =>
            have hd2 : decide ((([] : List TRequest).length : Int) > 0) = false := by simp
            simp only [hd2, cond_false]
            rw [← hW]
            exact main (-1) (by rw [hW]; simp) (by omega)
          | cons w ws =>
            have hd2 : decide (((w :: ws).length : Int) > 0) = true := by
              simp only [List.length_cons, decide_eq_true_eq]; omega
            simp only [hd2, cond_true]
            rw [gd_pos _ (by simp only [List.length_cons]; omega), ← hW]
            exact main _ (by rw [hW]; intro x hx; obtain rfl : w = x := by simpa using hx
                             rfl) (by rw [hW]; simp)
        · right
          have hd : (if (decide ((k : Int) < 13)) = true then (decide ((IntKind.wrap .i64 ((t.Held.length : Int) + (t.Waiting.length : Int))) > 0)) else false) = false := by
            rw [ite_ff, e0, Bool.and_eq_false_iff, decide_eq_false_iff_not, decide_eq_false_iff_not]; omega
          have hH : t.Held = [] := List.length_eq_zero_iff.1 (by omega)
          have hW : t.Waiting = [] := List.length_eq_zero_iff.1 (by omega)
          exact ⟨.inr (t.Held, t.Waiting), by simp only [law37_EnqueueFair_b2, hd, cond_false], by rw [hH, hW]⟩)
      n (t.Held, t.Waiting, 0) ⟨0, t, rfl, hv, hr, ht, by omega, total12 hv hr⟩ (by simp only; omega)
    subst h2
    refine (congrArg (fun o => Option.bind o _) h1).trans ?_
    simp only [Option.bind_some, law37_EnqueueFair_k1]
    rfl

theorem p_law37_EnqueueFair (n : Nat) (hn : N0 ≤ n) (x0 : List TAct) (x1 : Bool) (hc : ∀ i, i < 2 → CanL Try.prog (([(false, [.slice 45]), (false, [.bool])] : List (Bool × List Kd)).getD i (false, [])).2 (([[.slice (List.map e_TAct x0)], [.bool x1]] : List (List C)).getD i []))
    (hb : cbss [[.slice (List.map e_TAct x0)], [.bool x1]] ≤ 2097152) : law37_EnqueueFair n x0 x1 = some true :=
  Fair_true n hn x0 x1 (acts_wants hb) (acts_jobs (hc 0 (by decide)))
end Go.Proofs.Ytcdofkflbnpjjaa
