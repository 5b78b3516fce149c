/-
  ch. 37: plain laws. No program in sight: what the small functions compute.
-/
import Derived.Test.YtcdofkflbnpjjaaDoorF
import Derived.Test.YtcdofkflbnpjjaaDoorAE21
import Derived.Sort.Walk0
import Derived.Test.YtcdofkflbnpjjaaDoorT
set_option linter.unusedSimpArgs false
set_option linter.unusedVariables false
set_option maxHeartbeats 8000000
set_option linter.unusedVariables false
set_option linter.unusedSimpArgs false
set_option maxRecDepth 100000
namespace Go.Proofs.YtcdofkflbnpjjaaDoor
open Go.AE

def N0 : Nat := 4194304
def B0 : Nat := 2097152

theorem succ_w {k : Nat} (h : k < 4194304) : IntKind.wrap .i64 ((k : Int) + 1) = ((k + 1 : Nat) : Int) := by
  rw [w64_id (by omega) (by omega)]; rfl
theorem bif_ite {α : Type} (b : Bool) (x y : α) : (bif b then x else y) = if b = true then x else y := by cases b <;> rfl
theorem ite_ff (p q : Bool) : (if p = true then q else false) = (p && q) := by cases p <;> simp
theorem ite_tt (p q : Bool) : (if p = true then true else q) = (p || q) := by cases p <;> simp

/-! ## Loops -/
/-- a loop over 0 … L-1 with a state, ended early where P holds -/
theorem loop_scanS {σ X Y : Type} {body : X → Option (X ⊕ Y)} (L : Nat) (x : Nat → σ → X) (P : Nat → Bool) (g : σ → Nat → σ) (yt : Nat → Y) (yf : σ → Y) (I : Nat → σ → Prop) {n : Nat}
    (hb : ∀ k, k < L → ∀ s, I k s → body (x k s) = some (if P k = true then .inr (yt k) else .inl (x (k + 1) (g s k))))
    (hI : ∀ k, k < L → ∀ s, I k s → P k = false → I (k + 1) (g s k))
    (he : ∀ s, I L s → body (x L s) = some (.inr (yf s))) :
    ∀ (j k : Nat) (s : σ), L - k = j → k ≤ L → I k s → j < n → ∃ s', (((List.range' k (L - k)).find? P) = none → I L s') ∧
      loopF body n (x k s) = some (match (List.range' k (L - k)).find? P with | some i => yt i | none => yf s') := by
  intro j
  induction j generalizing n with
  | zero =>
    intro k s hj hk hi hn
    obtain ⟨n, rfl⟩ : ∃ q, n = q + 1 := ⟨n - 1, by omega⟩
    have e : k = L := by omega
    subst e
    refine ⟨s, fun _ => hi, ?_⟩
    rw [loopF_done (he s hi)]; simp
  | succ j ih =>
    intro k s hj hk hi hn
    obtain ⟨n, rfl⟩ : ∃ q, n = q + 1 := ⟨n - 1, by omega⟩
    have hlt : k < L := by omega
    have e : L - k = (L - (k + 1)) + 1 := by omega
    rw [e, List.range'_succ, List.find?_cons]
    have h1 := hb k hlt s hi
    cases hp : P k with
    | true =>
      rw [hp] at h1
      refine ⟨s, by simp, ?_⟩
      rw [loopF_done h1]
    | false =>
      rw [hp] at h1
      rw [loopF_step h1]
      exact ih (k + 1) (g s k) (by omega) (by omega) (hI k hlt s hi hp) (by omega)

theorem loop_scan {Y : Type} {body : Int → Option (Int ⊕ Y)} (L : Nat) (P : Nat → Bool) (yt : Nat → Y) (yf : Y) {n : Nat}
    (hb : ∀ k, k < L → body (k : Int) = some (if P k = true then .inr (yt k) else .inl ((k + 1 : Nat) : Int)))
    (he : body (L : Int) = some (.inr yf)) (hn : L < n) : loopF body n 0 = some (match (List.range L).find? P with | some i => yt i | none => yf) := by
  obtain ⟨s, -, h⟩ := loop_scanS (σ := Unit) (body := body) L (fun k _ => (k : Int)) P (fun _ _ => ()) yt (fun _ => yf) (fun _ _ => True) (n := n)
    (fun k hk s _ => hb k hk) (fun _ _ _ _ _ => trivial) (fun _ _ => he) L 0 () (by omega) (by omega) trivial hn
  rw [List.range_eq_range']
  simpa using h

theorem range_none (L : Nat) (P : Nat → Bool) : ((List.range L).find? P = none) ↔ ∀ k, k < L → P k = false := by
  rw [List.find?_eq_none]; simp

theorem find_any {L : Nat} {P : Nat → Bool} {Y : Type} (yt yf : Y) : (match (List.range L).find? P with | some _ => yt | none => yf) = if (List.range L).any P = true then yt else yf := by
  cases h : (List.range L).find? P with
  | none =>
    have : (List.range L).any P = false := by rw [List.any_eq_false]; rw [List.find?_eq_none] at h; exact h
    rw [this]; rfl
  | some i =>
    have : (List.range L).any P = true := by
      rw [List.any_eq_true]; exact ⟨i, List.mem_of_find?_eq_some h, List.find?_some h⟩
    rw [this]; rfl

theorem loop_acc {α S : Type} [Inhabited α] {Y : Type} {body : S × Int → Option ((S × Int) ⊕ Y)} (l : List α) (g : S → α → S) (yf : S → Y) (s0 : S) (I : Nat → S → Prop) {n : Nat} (h0 : I 0 s0)
    (hb : ∀ k, (hk : k < l.length) → ∀ s, I k s → body (s, (k : Int)) = some (.inl (g s l[k], ((k + 1 : Nat) : Int))))
    (hI : ∀ k, (hk : k < l.length) → ∀ s, I k s → I (k + 1) (g s l[k]))
    (he : ∀ s, I l.length s → body (s, (l.length : Int)) = some (.inr (yf s))) (hn : l.length < n) : loopF body n (s0, 0) = some (yf (l.foldl g s0)) := by
  have h := loop_list (σ := S) (body := body) l (fun k s => (s, (k : Int))) (fun s a => .inl (g s a)) yf I (s := s0) h0 (fun k hk s hi => hb k hk s hi)
    (fun k hk s hi s' e => by cases e; exact hI k hk s hi) he hn
  have e : ∀ (l : List α) (s : S), runL (fun s a => (.inl (g s a) : S ⊕ Y)) yf l s = yf (l.foldl g s) := by
    intro l
    induction l with
    | nil => intro s; rfl
    | cons a l ih => intro s; simp only [runL, List.foldl_cons]; exact ih _
  rw [e] at h
  exact h

end Go.Proofs.YtcdofkflbnpjjaaDoor

/-
  ch. 37: plain laws. The normal form of a list of wants.
-/
set_option maxHeartbeats 8000000
set_option linter.unusedVariables false
set_option linter.unusedSimpArgs false
set_option maxRecDepth 100000
namespace Go.Proofs.YtcdofkflbnpjjaaDoor
open Go.AE

theorem bl_irrefl (x : List UInt8) : Op.bytesLess x x = false := by
  rw [Go.Proofs.bytesLess_eq]; simp [List.lt_irrefl]
theorem bl_trans {x y z : List UInt8} (h1 : Op.bytesLess x y = true) (h2 : Op.bytesLess y z = true) : Op.bytesLess x z = true := by
  rw [Go.Proofs.bytesLess_eq, decide_eq_true_eq] at *
  exact List.lt_trans h1 h2
theorem bl_total (x y : List UInt8) : Op.bytesLess x y = true ∨ x = y ∨ Op.bytesLess y x = true := by
  simp only [Go.Proofs.bytesLess_eq, decide_eq_true_eq]
  rcases Std.lt_trichotomy x y with h | h | h
  · exact .inl h
  · exact .inr (.inl h)
  · exact .inr (.inr h)
theorem bl_ne {x y : List UInt8} (h : Op.bytesLess x y = true) : x ≠ y := by
  rintro rfl; rw [bl_irrefl] at h; cases h
theorem bl_asymm {x y : List UInt8} (h : Op.bytesLess x y = true) : Op.bytesLess y x = false := by
  cases h2 : Op.bytesLess y x with
  | false => rfl
  | true => have := bl_trans h h2; rw [bl_irrefl] at this; cases this

abbrev wlt (a b : TWant) : Prop := Op.bytesLess a.Name b.Name = true

/-- r is the normal form of l -/
def isNF (l r : List TWant) : Prop := r.Pairwise wlt ∧ ∀ v, v ∈ r ↔ (∃ x ∈ l, x.Name = v.Name) ∧ v.Exclusive = l.any (fun x => x.Name == v.Name && x.Exclusive)

/-- two ascending lists of the same members are one -/
theorem asc_ext : ∀ {a b : List TWant}, a.Pairwise wlt → b.Pairwise wlt → (∀ v, v ∈ a ↔ v ∈ b) → a = b
  | [], [], _, _, _ => rfl
  | [], y :: b, _, _, h => absurd ((h y).2 List.mem_cons_self) (by simp)
  | x :: a, [], _, _, h => absurd ((h x).1 List.mem_cons_self) (by simp)
  | x :: a, y :: b, ha, hb, h => by
    have ha' := List.pairwise_cons.1 ha
    have hb' := List.pairwise_cons.1 hb
    have hxy : x = y := by
      rcases List.mem_cons.1 ((h x).1 List.mem_cons_self) with e | hx
      · exact e
      · rcases List.mem_cons.1 ((h y).2 List.mem_cons_self) with e | hy
        · exact e.symm
        · have h1 := hb'.1 x hx
          have h2 := ha'.1 y hy
          exact absurd h2 (by rw [wlt, bl_asymm h1]; simp)
    subst hxy
    congr 1
    refine asc_ext ha'.2 hb'.2 fun v => ?_
    constructor
    · intro hv
      rcases List.mem_cons.1 ((h v).1 (List.mem_cons_of_mem _ hv)) with e | hv'
      · subst e; have := ha'.1 v hv; rw [wlt, bl_irrefl] at this; cases this
      · exact hv'
    · intro hv
      rcases List.mem_cons.1 ((h v).2 (List.mem_cons_of_mem _ hv)) with e | hv'
      · subst e; have := hb'.1 v hv; rw [wlt, bl_irrefl] at this; cases this
      · exact hv'
theorem isNF_uniq {l a b : List TWant} (ha : isNF l a) (hb : isNF l b) : a = b := asc_ext ha.1 hb.1 fun v => by rw [ha.2 v, hb.2 v]

/-- the insertion of the reference -/
def insr (w : List UInt8) (e : Bool) : List TWant → List TWant
  | [] => [⟨w, e⟩]
  | x :: l => if Op.bytesLess x.Name w = true then x :: insr w e l else ⟨w, if x.Name = w then e || x.Exclusive else e⟩ :: (x :: l).filter (fun y => y.Name != w)
def nf (l : List TWant) : List TWant := l.foldl (fun r w => insr w.Name w.Exclusive r) []

theorem insr_len (w : List UInt8) (e : Bool) : ∀ l : List TWant, (insr w e l).length ≤ l.length + 1
  | [] => by simp [insr]
  | x :: l => by
    simp only [insr]
    split
    · have := insr_len w e l; simp only [List.length_cons]; omega
    · simp only [List.length_cons]
      have := List.length_filter_le (fun y : TWant => y.Name != w) (x :: l)
      simp only [List.length_cons] at this; omega
theorem nf_len_from : ∀ (l r : List TWant), (l.foldl (fun r w => insr w.Name w.Exclusive r) r).length ≤ r.length + l.length
  | [], r => by simp
  | w :: l, r => by
    rw [List.foldl_cons]
    have h1 := nf_len_from l (insr w.Name w.Exclusive r)
    have h2 := insr_len w.Name w.Exclusive r
    simp only [List.length_cons]; omega
theorem nf_len (l : List TWant) : (nf l).length ≤ l.length := by
  have h := nf_len_from l []
  rw [List.length_nil, Nat.zero_add] at h
  exact h

theorem insr_mem (w : List UInt8) (e : Bool) : ∀ {l : List TWant}, l.Pairwise wlt → ∀ v, v ∈ insr w e l ↔ (v.Name ≠ w ∧ v ∈ l) ∨ (v.Name = w ∧ v.Exclusive = (e || l.any (fun x => x.Name == w && x.Exclusive)))
  | [], _, v => by
    simp only [insr, List.mem_singleton, List.not_mem_nil, and_false, false_or, List.any_nil, Bool.or_false]
    constructor
    · rintro rfl; exact ⟨rfl, rfl⟩
    · rintro ⟨rfl, rfl⟩; rfl
  | x :: l, h, v => by
    have h' := List.pairwise_cons.1 h
    simp only [insr]
    split
    · rename_i hlt
      have hne : x.Name ≠ w := bl_ne hlt
      rw [List.mem_cons, insr_mem w e h'.2 v, List.any_cons, List.mem_cons]
      have e1 : (x.Name == w) = false := by simpa using hne
      rw [e1, Bool.false_and, Bool.false_or]
      constructor
      · rintro (rfl | ⟨h1, h2⟩ | h1)
        · exact .inl ⟨hne, .inl rfl⟩
        · exact .inl ⟨h1, .inr h2⟩
        · exact .inr h1
      · rintro (⟨h1, rfl | h2⟩ | h1)
        · exact .inl rfl
        · exact .inr (.inl ⟨h1, h2⟩)
        · exact .inr (.inr h1)
    · rename_i hnl
      have hgt : ∀ y ∈ l, y.Name ≠ w := by
        intro y hy e
        have := h'.1 y hy
        rw [wlt, e] at this
        exact hnl this
      have ha : l.any (fun y => y.Name == w && y.Exclusive) = false := by
        rw [List.any_eq_false]
        intro y hy
        simp [hgt y hy]
      rw [List.any_cons, ha, Bool.or_false, List.mem_cons, List.mem_filter]
      by_cases hx : x.Name = w
      · have e1 : (x.Name == w) = true := by simpa using hx
        rw [if_pos hx, e1, Bool.true_and]
        constructor
        · rintro (rfl | ⟨h1, h2⟩)
          · exact .inr ⟨rfl, rfl⟩
          · exact .inl ⟨by simpa using h2, h1⟩
        · rintro (⟨h1, h2⟩ | ⟨h1, h2⟩)
          · exact .inr ⟨h2, by simpa using h1⟩
          · left; cases v; simp only at h1 h2; subst h1; subst h2; rfl
      · have e1 : (x.Name == w) = false := by simpa using hx
        rw [if_neg hx, e1, Bool.false_and, Bool.or_false]
        constructor
        · rintro (rfl | ⟨h1, h2⟩)
          · exact .inr ⟨rfl, rfl⟩
          · exact .inl ⟨by simpa using h2, h1⟩
        · rintro (⟨h1, h2⟩ | ⟨h1, h2⟩)
          · exact .inr ⟨h2, by simpa using h1⟩
          · left; cases v; simp only at h1 h2; subst h1; subst h2; rfl

theorem insr_asc (w : List UInt8) (e : Bool) : ∀ {l : List TWant}, l.Pairwise wlt → (insr w e l).Pairwise wlt
  | [], _ => by simp [insr]
  | x :: l, h => by
    have h' := List.pairwise_cons.1 h
    have ih := insr_asc w e h'.2
    simp only [insr]
    split
    · rename_i hlt
      refine List.pairwise_cons.2 ⟨fun v hv => ?_, ih⟩
      rcases (insr_mem w e h'.2 v).1 hv with ⟨_, h1⟩ | ⟨h1, _⟩
      · exact h'.1 v h1
      · rw [wlt, h1]; exact hlt
    · rename_i hnl
      refine List.pairwise_cons.2 ⟨fun v hv => ?_, h.filter _⟩
      rw [List.mem_filter] at hv
      have hne : v.Name ≠ w := by simpa using hv.2
      have hxw : x.Name = w ∨ Op.bytesLess w x.Name = true := by
        rcases bl_total x.Name w with h1 | h1 | h1
        · exact absurd h1 hnl
        · exact .inl h1
        · exact .inr h1
      rcases List.mem_cons.1 hv.1 with rfl | hm
      · rcases hxw with h1 | h1
        · exact absurd h1 hne
        · exact h1
      · have := h'.1 v hm
        rcases hxw with h1 | h1
        · rw [wlt, ← h1]; exact this
        · exact bl_trans h1 this

theorem isNF_nil : isNF [] [] := ⟨List.Pairwise.nil, by simp⟩
theorem isNF_snoc {l r : List TWant} (h : isNF l r) (w : TWant) : isNF (l ++ [w]) (insr w.Name w.Exclusive r) := by
  refine ⟨insr_asc _ _ h.1, fun v => ?_⟩
  rw [insr_mem _ _ h.1 v, List.any_append]
  simp only [List.any_cons, List.any_nil, Bool.or_false, List.mem_append, List.mem_singleton]
  have key : r.any (fun x => x.Name == w.Name && x.Exclusive) = l.any (fun x => x.Name == w.Name && x.Exclusive) := by
    rw [Bool.eq_iff_iff, List.any_eq_true, List.any_eq_true]
    simp only [Bool.and_eq_true, beq_iff_eq]
    constructor
    · rintro ⟨x, hx, h1, h2⟩
      have := ((h.2 x).1 hx).2
      rw [h2] at this
      obtain ⟨y, hy, h3⟩ := List.any_eq_true.1 this.symm
      simp only [Bool.and_eq_true, beq_iff_eq] at h3
      exact ⟨y, hy, h3.1.trans h1, h3.2⟩
    · rintro ⟨y, hy, h1, h2⟩
      refine ⟨⟨w.Name, true⟩, (h.2 _).2 ⟨⟨y, hy, h1⟩, ?_⟩, rfl, rfl⟩
      exact (List.any_eq_true.2 ⟨y, hy, by simp [h1, h2]⟩).symm
  rw [key]
  by_cases hv : v.Name = w.Name
  · have e1 : (w.Name == v.Name) = true := by simp [hv]
    simp only [hv, ne_eq, not_true_eq_false, false_and, true_and, false_or, beq_self_eq_true, Bool.true_and]
    rw [Bool.or_comm w.Exclusive]
    constructor
    · intro h1; exact ⟨⟨w, .inr rfl, rfl⟩, h1⟩
    · exact fun h1 => h1.2
  · have e1 : (w.Name == v.Name) = false := by simpa using fun e => hv e.symm
    simp only [hv, ne_eq, not_false_eq_true, true_and, false_and, or_false, e1, Bool.false_and, Bool.or_false]
    rw [h.2 v]
    constructor
    · rintro ⟨⟨x, hx, h1⟩, h2⟩; exact ⟨⟨x, .inl hx, h1⟩, h2⟩
    · rintro ⟨⟨x, hx | rfl, h1⟩, h2⟩
      · exact ⟨⟨x, hx, h1⟩, h2⟩
      · exact absurd h1.symm hv

theorem nf_isNF (l : List TWant) : isNF l (nf l) := by
  have key : ∀ (l p r : List TWant), isNF p r → isNF (p ++ l) (l.foldl (fun r w => insr w.Name w.Exclusive r) r) := by
    intro l
    induction l with
    | nil => intro p r h; simpa using h
    | cons w l ih =>
      intro p r h
      have := ih (p ++ [w]) _ (isNF_snoc h w)
      simpa using this
  exact key l [] [] isNF_nil

/-! ## The program's way: a map of the names -/
def nmap (l : List TWant) : List (List UInt8 × Bool) := l.foldl (fun m w => tset w.Name (if ((tget w.Name m).getD default) = true then true else w.Exclusive) m) []

theorem tset_keys {K V : Type} [BEq K] [LawfulBEq K] (k : K) (v : V) : ∀ m : List (K × V), (tset k v m).map (·.1) = if k ∈ m.map (·.1) then m.map (·.1) else m.map (·.1) ++ [k]
  | [] => by simp [tset]
  | (a, b) :: m => by
    simp only [tset]
    by_cases h : k = a
    · subst h; simp
    · have h1 : (k == a) = false := by simpa using h
      have ih := tset_keys k v m
      simp only [h1, Bool.false_eq_true, if_false, List.map_cons, ih, List.mem_cons, h, false_or]
      split <;> simp
theorem tget_mem {K V : Type} [BEq K] [LawfulBEq K] {k : K} {v : V} : ∀ {m : List (K × V)}, (m.map (·.1)).Nodup → ((k, v) ∈ m ↔ tget k m = some v)
  | [], _ => by simp [tget]
  | (a, b) :: m, h => by
    simp only [List.map_cons, List.nodup_cons] at h
    have ih := tget_mem (k := k) (v := v) h.2
    simp only [tget, List.mem_cons, Prod.mk.injEq]
    by_cases hk : k = a
    · subst hk
      simp only [beq_self_eq_true, if_true, Option.some.injEq, true_and]
      constructor
      · rintro (rfl | h1)
        · rfl
        · exact absurd (List.mem_map_of_mem (f := (·.1)) h1) h.1
      · rintro rfl; exact .inl rfl
    · have h1 : (k == a) = false := by simpa using hk
      simp [h1, hk, ih]

structure MapOf (l : List TWant) (m : List (List UInt8 × Bool)) : Prop where
  nd : (m.map (·.1)).Nodup
  at_ : ∀ s, tget s m = if l.any (fun x => x.Name == s) = true then some (l.any (fun x => x.Name == s && x.Exclusive)) else none

theorem mapOf_snoc {l : List TWant} {m : List (List UInt8 × Bool)} (h : MapOf l m) (w : TWant) : MapOf (l ++ [w]) (tset w.Name (if ((tget w.Name m).getD default) = true then true else w.Exclusive) m) := by
  constructor
  · rw [tset_keys]
    split
    · exact h.nd
    · rename_i hn
      rw [List.nodup_append]
      refine ⟨h.nd, by simp, ?_⟩
      intro a ha b hb
      simp only [List.mem_singleton] at hb
      subst hb
      rintro rfl; exact hn ha
  · intro s
    rw [tget_tset, List.any_append, List.any_append, h.at_ s, h.at_ w.Name]
    simp only [List.any_cons, List.any_nil, Bool.or_false]
    by_cases hs : s = w.Name
    · subst hs
      simp only [beq_self_eq_true, if_true, Bool.or_true, Bool.true_and, Option.some.injEq]
      by_cases h1 : l.any (fun x => x.Name == w.Name) = true
      · simp only [h1, if_true, Option.getD_some, ite_tt']
      · have h2 : l.any (fun x => x.Name == w.Name && x.Exclusive) = false := by
          rw [Bool.not_eq_true, List.any_eq_false] at h1
          rw [List.any_eq_false]
          intro x hx
          have := h1 x hx
          simp only [Bool.not_eq_true] at this
          simp [this]
        simp [h1, h2]
    · have e1 : (s == w.Name) = false := by simpa using hs
      have e2 : (w.Name == s) = false := by simpa using fun e => hs e.symm
      simp only [e1, e2, Bool.false_eq_true, if_false, Bool.or_false, Bool.false_and]
where ite_tt' : ∀ {p q : Bool}, (if p = true then true else q) = (p || q) := by intro p q; cases p <;> simp

theorem nmap_of (l : List TWant) : MapOf l (nmap l) := by
  have key : ∀ (l p : List TWant) (m : List (List UInt8 × Bool)), MapOf p m → MapOf (p ++ l) (l.foldl (fun m w => tset w.Name (if ((tget w.Name m).getD default) = true then true else w.Exclusive) m) m) := by
    intro l
    induction l with
    | nil => intro p m h; simpa using h
    | cons w l ih =>
      intro p m h
      have := ih (p ++ [w]) _ (mapOf_snoc h w)
      simpa using this
  exact key l [] [] ⟨by simp, by simp [tget]⟩

theorem tset_len {K V : Type} [BEq K] (k : K) (v : V) : ∀ m : List (K × V), (tset k v m).length ≤ m.length + 1
  | [] => by simp [tset]
  | (a, b) :: m => by
    simp only [tset]
    split
    · simp
    · have := tset_len k v m; simp only [List.length_cons]; omega
theorem nmap_len (l : List TWant) : (nmap l).length ≤ l.length := by
  have key : ∀ (l : List TWant) (m : List (List UInt8 × Bool)), (l.foldl (fun m w => tset w.Name (if ((tget w.Name m).getD default) = true then true else w.Exclusive) m) m).length ≤ m.length + l.length := by
    intro l
    induction l with
    | nil => intro m; simp
    | cons w l ih =>
      intro m
      rw [List.foldl_cons]
      have h1 := ih (tset w.Name (if ((tget w.Name m).getD default) = true then true else w.Exclusive) m)
      have h2 := tset_len w.Name (if ((tget w.Name m).getD default) = true then true else w.Exclusive) m
      simp only [List.length_cons]; omega
  have h := key l []
  rw [List.length_nil, Nat.zero_add] at h
  exact h

/-- any order of the map's entries, sorted by name, is the normal form -/
theorem sorted_isNF {l : List TWant} {m q : List (List UInt8 × Bool)} (hm : MapOf l m) (hq : q.Perm m) {r : List TWant} (hr : r.Perm (q.map fun e => (⟨e.1, e.2⟩ : TWant)))
    (hs : r.Pairwise fun x y => Op.bytesLess y.Name x.Name = false) : isNF l r := by
  have hnd : (r.map (·.Name)).Nodup := by
    have e1 : (r.map (·.Name)).Perm (m.map (·.1)) := by
      refine (hr.map _).trans ?_
      rw [List.map_map]
      exact hq.map _
    exact e1.nodup_iff.2 hm.nd
  constructor
  · have h2 : r.Pairwise fun x y => x.Name ≠ y.Name := by
      rw [List.Nodup, List.pairwise_map] at hnd; exact hnd
    refine (hs.and h2).imp fun {a b} h => ?_
    rcases bl_total a.Name b.Name with h1 | h1 | h1
    · exact h1
    · exact absurd h1 h.2
    · rw [h.1] at h1; cases h1
  · intro v
    rw [hr.mem_iff, List.mem_map]
    have : (∃ a ∈ q, (⟨a.1, a.2⟩ : TWant) = v) ↔ (v.Name, v.Exclusive) ∈ m := by
      rw [← hq.mem_iff]
      constructor
      · rintro ⟨⟨a, b⟩, h1, rfl⟩; exact h1
      · intro h1; exact ⟨_, h1, rfl⟩
    rw [this, tget_mem hm.nd, hm.at_]
    by_cases h1 : l.any (fun x => x.Name == v.Name) = true
    · rw [if_pos h1, Option.some.injEq]
      have h2 : ∃ x ∈ l, x.Name = v.Name := by simpa using h1
      exact ⟨fun h => ⟨h2, h.symm⟩, fun h => h.2.symm⟩
    · rw [if_neg h1]
      have h2 : ¬ ∃ x ∈ l, x.Name = v.Name := by simpa using h1
      exact ⟨fun h => (nomatch h), fun h => absurd h.1 h2⟩
end Go.Proofs.YtcdofkflbnpjjaaDoor

/-
  ch. 37: plain laws. Both normalizations give the normal form.
-/
set_option maxHeartbeats 8000000
set_option linter.unusedVariables false
set_option linter.unusedSimpArgs false
set_option maxRecDepth 100000
namespace Go.Proofs.YtcdofkflbnpjjaaDoor
open Go.AE Go.Sort

theorem cmpS_neg (x y : List UInt8) : cmpS x y < 0 ↔ Op.bytesLess x y = true := by
  unfold cmpS
  by_cases h : Op.bytesLess x y = true
  · simp [h]
  · by_cases h2 : x = y
    · subst h2; simp [bl_irrefl]
    · simp [h, h2]
theorem swo_cmpS : SWO (Go.Proofs.ltOf fun (x y : TWant) => cmpS x.Name y.Name) := by
  have e : ∀ x y : TWant, Go.Proofs.ltOf (fun (x y : TWant) => cmpS x.Name y.Name) x y = Op.bytesLess x.Name y.Name := by
    intro x y
    rw [Go.Proofs.ltOf, Bool.eq_iff_iff, decide_eq_true_eq]; exact cmpS_neg _ _
  constructor
  · intro x; rw [e]; exact bl_irrefl _
  · intro x y z; rw [e, e, e]; exact bl_trans
  · intro x y z; rw [e, e, e]
    intro h1 h2
    cases h3 : Op.bytesLess x.Name z.Name with
    | false => rfl
    | true =>
      rcases bl_total y.Name x.Name with h | h | h
      · rw [bl_trans h h3] at h2; cases h2
      · rw [h, h3] at h2; cases h2
      · rw [h] at h1; cases h1

theorem norm_loopE (n : Nat) : ∀ (q : List (List UInt8 × Bool)) (out : List TWant) (m : Nat), q.length < m → out.length + q.length ≤ 2147483648 →
    loopE (fun (x : List TWant) oo => enqueue_normalize_b3 n x oo) m out q = some (out ++ q.map fun e => (⟨e.1, e.2⟩ : TWant))
  | [], out, m, hm, _ => by
    obtain ⟨m, rfl⟩ : ∃ k, m = k + 1 := ⟨m - 1, by simp at hm; omega⟩
    simp [loopE, enqueue_normalize_b3]
  | e :: q, out, m, hm, hl => by
    obtain ⟨m, rfl⟩ : ∃ k, m = k + 1 := ⟨m - 1, by simp at hm; omega⟩
    simp only [List.length_cons] at hm hl
    have ih := norm_loopE n q (out ++ [(⟨e.1, e.2⟩ : TWant)]) m (by omega) (by simp; omega)
    have hb : enqueue_normalize_b3 n out (some e) = some (.inl (out ++ [(⟨e.1, e.2⟩ : TWant)])) := by
      simp only [enqueue_normalize_b3]
      rw [gd_pos _ (by omega)]
    simp only [loopE, hb]
    rw [ih]; simp

theorem normalize_eq (n : Nat) (l : List TWant) (hl : l.length ≤ B0) (hn : N0 ≤ n) : enqueue_normalize n l = some (nf l) := by
  unfold N0 at hn; unfold B0 at hl
  have h1 := loop_list (body := fun (x : (List (List UInt8 × Bool)) × Int) => enqueue_normalize_b4 n l (l.length : Int) x.1 x.2) l (fun k s => (s, (k : Int)))
    (fun m (w : TWant) => .inl (tset w.Name (if ((tget w.Name m).getD default) = true then true else w.Exclusive) m)) (fun s => s) (fun _ _ => True) (s := []) trivial
    (fun k hk s _ => by
      have hd : decide ((k : Int) < (l.length : Int)) = true := by simp; omega
      simp only [enqueue_normalize_b4, hd, cond_true, Int.toNat_natCast, succ_w (show k < 4194304 by omega)]
      rw [gd_pos _ (by omega), gt_lt hk])
    (fun _ _ _ _ _ _ => trivial) (fun s _ => by simp [enqueue_normalize_b4]) (n := n) (by omega)
  have e : ∀ (l : List TWant) (s : List (List UInt8 × Bool)), runL (fun m (w : TWant) => (.inl (tset w.Name (if ((tget w.Name m).getD default) = true then true else w.Exclusive) m) : List (List UInt8 × Bool) ⊕ List (List UInt8 × Bool))) (fun s => s) l s = l.foldl (fun m w => tset w.Name (if ((tget w.Name m).getD default) = true then true else w.Exclusive) m) s := by
    intro l
    induction l with
    | nil => intro s; rfl
    | cons a l ih => intro s; simp only [runL, List.foldl_cons]; exact ih _
  rw [e] at h1
  have hml := nmap_len l
  have h2 : enqueue_normalize_k1 n (nmap l) = some (nf l) := by
    rw [enqueue_normalize_k1]
    refine allP_eq fun q hq => ?_
    have hql : q.length ≤ l.length := by rw [hq.length_eq]; exact hml
    rw [norm_loopE n q [] n (by omega) (by simp; omega), Option.bind_some, List.nil_append]
    obtain ⟨r, hr1, hr2, hr3⟩ := sortG_eq (f := fun x y => enqueue_normalize_1 n x y) (c := fun (x y : TWant) => cmpS x.Name y.Name) (l := q.map fun e => (⟨e.1, e.2⟩ : TWant)) (fun _ _ _ _ => rfl) swo_cmpS
    rw [enqueue_normalize_k2, slices_SortFunc_f39_c40, hr1, Option.bind_some]
    have hlen : (q.map fun e => (⟨e.1, e.2⟩ : TWant)).length = r.length := hr2.length_eq.symm
    rw [hlen, List.take_length]
    congr 1
    refine isNF_uniq (sorted_isNF (nmap_of l) hq hr2 ?_) (nf_isNF l)
    refine hr3.imp fun {a b} h => ?_
    rw [cmpS_neg] at h
    simpa using h
  rw [enqueue_normalize]
  exact (congrArg (fun o => Option.bind o _) h1).trans h2

/-! ## The reference's insertion -/
def stepW (w : TWant) (s : Bool × List TWant × Bool) (x : TWant) : Bool × List TWant × Bool :=
  let s1 : Bool × List TWant × Bool := if (!s.2.2 && !Op.bytesLess x.Name w.Name) = true then
    ((if (x.Name == w.Name) = true then (s.1 || x.Exclusive) else s.1), s.2.1 ++ [⟨w.Name, (if (x.Name == w.Name) = true then (s.1 || x.Exclusive) else s.1)⟩], true) else s
  if (x.Name != w.Name) = true then (s1.1, s1.2.1 ++ [x], s1.2.2) else s1
def finW (w : TWant) (s : Bool × List TWant × Bool) : List TWant := if s.2.2 = true then s.2.1 else s.2.1 ++ [⟨w.Name, s.1⟩]

theorem stepW_done (w : TWant) : ∀ (l : List TWant) (e : Bool) (out : List TWant), l.foldl (stepW w) (e, out, true) = (e, out ++ l.filter (fun y => y.Name != w.Name), true)
  | [], e, out => by simp
  | x :: l, e, out => by
    rw [List.foldl_cons]
    have h1 : stepW w (e, out, true) x = (e, (if (x.Name != w.Name) = true then out ++ [x] else out), true) := by
      simp only [stepW, Bool.not_true, Bool.false_and, Bool.false_eq_true, if_false]
      split <;> rfl
    rw [h1, stepW_done w l, List.filter_cons]
    by_cases hx : (x.Name != w.Name) = true
    · rw [if_pos hx, if_pos hx]; simp
    · rw [if_neg hx, if_neg hx]

theorem stepW_eq (w : TWant) : ∀ (l : List TWant) (e : Bool) (out : List TWant), finW w (l.foldl (stepW w) (e, out, false)) = out ++ insr w.Name e l
  | [], e, out => by simp [finW, insr]
  | x :: l, e, out => by
    rw [List.foldl_cons]
    by_cases hlt : Op.bytesLess x.Name w.Name = true
    · have hne : (x.Name != w.Name) = true := by simpa using bl_ne hlt
      have h1 : stepW w (e, out, false) x = (e, out ++ [x], false) := by
        simp only [stepW, hlt, Bool.not_true, Bool.and_false, Bool.false_eq_true, if_false, hne, if_true]
      rw [h1, stepW_eq w l]
      simp only [insr, hlt, if_true]; simp
    · have hlt' : Op.bytesLess x.Name w.Name = false := by simpa using hlt
      by_cases hx : x.Name = w.Name
      · have h1 : stepW w (e, out, false) x = ((e || x.Exclusive), out ++ [⟨w.Name, e || x.Exclusive⟩], true) := by
          simp [stepW, hx, bl_irrefl]
        rw [h1, stepW_done]
        simp [finW, insr, hx, bl_irrefl]
      · have hne : (x.Name != w.Name) = true := by simpa using hx
        have hne2 : (x.Name == w.Name) = false := by simpa using hx
        have h1 : stepW w (e, out, false) x = (e, out ++ [⟨w.Name, e⟩] ++ [x], true) := by
          simp only [stepW, hlt', Bool.not_false, Bool.and_true, if_true, hne, hne2, Bool.false_eq_true, if_false]
        rw [h1, stepW_done]
        simp only [finW, if_true, insr, hlt', Bool.false_eq_true, if_false, hx]
        simp [hx]

theorem with_eq (n : Nat) (l : List TWant) (w : TWant) (hl : l.length ≤ B0) (hn : N0 ≤ n) : ref37_with n l w = some (insr w.Name w.Exclusive l) := by
  unfold N0 at hn; unfold B0 at hl
  have h1 := loop_list (body := fun (x : Bool × (List TWant) × Bool × Int) => ref37_with_b3 n l w x.1 x.2.1 x.2.2.1 x.2.2.2) l (fun k (s : Bool × List TWant × Bool) => (s.1, s.2.1, s.2.2, (k : Int)))
    (fun s x => .inl (stepW w s x)) (fun s => s) (fun k s => s.2.1.length ≤ 2 * k) (s := (w.Exclusive, [], false)) (by simp)
    (fun k hk s hi => by
      obtain ⟨e, out, done⟩ := s
      simp only at hi
      have hd : decide ((k : Int) < (l.length : Int)) = true := by simp; omega
      simp only [ref37_with_b3, hd, cond_true, Int.toNat_natCast, ite_ff, ite_tt, bif_ite, gt_lt hk]
      rw [gd_pos _ (by intro _; omega)]
      have g1 : (0 : Int) ≤ (k : Int) ∧ (k : Int) < (l.length : Int) := by omega
      have g2 : out.length + 1 ≤ 2147483648 := by omega
      have g3 : out.length + 1 + 1 ≤ 2147483648 := by omega
      by_cases hc : (!done && !Op.bytesLess l[k].Name w.Name) = true
      · simp only [hc, if_true, stepW]
        by_cases hx : (l[k].Name == w.Name) = true
        · have hx2 : (l[k].Name != w.Name) = false := by simpa using hx
          simp [ref37_with_k6, ref37_with_k5, ref37_with_k4, gd, hx, hx2, g1, g2, g3, Int.toNat_natCast, gt_lt hk, succ_w (show k < 4194304 by omega), ite_tt, bif_ite]
        · have hx1 : (l[k].Name == w.Name) = false := by simpa using hx
          have hx2 : (l[k].Name != w.Name) = true := by simpa using hx
          simp [ref37_with_k6, ref37_with_k5, ref37_with_k4, gd, hx1, hx2, g1, g2, g3, Int.toNat_natCast, gt_lt hk, succ_w (show k < 4194304 by omega), ite_tt, bif_ite]
      · simp only [hc, if_false, stepW]
        by_cases hx : (l[k].Name != w.Name) = true
        · simp [ref37_with_k6, ref37_with_k5, ref37_with_k4, gd, hx, g1, g2, g3, Int.toNat_natCast, gt_lt hk, succ_w (show k < 4194304 by omega), ite_tt, bif_ite]
        · have hx1 : (l[k].Name != w.Name) = false := by simpa using hx
          simp [ref37_with_k6, ref37_with_k5, ref37_with_k4, gd, hx1, g1, g2, g3, Int.toNat_natCast, gt_lt hk, succ_w (show k < 4194304 by omega), ite_tt, bif_ite])
    (fun k hk s hi s' hs => by
      cases hs
      simp only [stepW]
      repeat' split
      all_goals first | omega | (simp only [List.length_append, List.length_cons, List.length_nil]; omega))
    (fun s _ => by simp [ref37_with_b3]) (n := n) (by omega)
  have e : ∀ (l : List TWant) (s : Bool × List TWant × Bool), runL (fun s x => (.inl (stepW w s x) : (Bool × List TWant × Bool) ⊕ (Bool × List TWant × Bool))) (fun s => s) l s = l.foldl (stepW w) s := by
    intro l
    induction l with
    | nil => intro s; rfl
    | cons a l ih => intro s; simp only [runL, List.foldl_cons]; exact ih _
  rw [e] at h1
  have h2 := stepW_eq w l w.Exclusive []
  have hlen : (l.foldl (stepW w) (w.Exclusive, [], false)).2.1.length ≤ 2 * l.length := by
    have : ∀ (l : List TWant) (s : Bool × List TWant × Bool), (l.foldl (stepW w) s).2.1.length ≤ s.2.1.length + 2 * l.length := by
      intro l
      induction l with
      | nil => intro s; simp
      | cons a l ih =>
        intro s
        rw [List.foldl_cons]
        have h3 := ih (stepW w s a)
        have h4 : (stepW w s a).2.1.length ≤ s.2.1.length + 2 := by
          simp only [stepW]
          repeat' split
          all_goals first | omega | (simp only [List.length_append, List.length_cons, List.length_nil]; omega)
        simp only [List.length_cons]; omega
    simpa using this l (w.Exclusive, [], false)
  rw [ref37_with]
  refine (congrArg (fun o => Option.bind o _) h1).trans ?_
  rw [Option.bind_some]
  generalize l.foldl (stepW w) (w.Exclusive, [], false) = s at h2 hlen
  obtain ⟨e, out, done⟩ := s
  simp only at hlen ⊢
  rw [List.nil_append] at h2
  rw [← h2]
  cases done
  · simp only [ref37_with_k1, finW, Bool.not_false, cond_true, Bool.false_eq_true, if_false]
    rw [gd_pos _ (by omega)]; rfl
  · rfl

end Go.Proofs.YtcdofkflbnpjjaaDoor

/-
  ch. 37: plain laws. The wants of a job, of the program and of the specification.
-/
set_option maxHeartbeats 8000000
set_option linter.unusedVariables false
set_option linter.unusedSimpArgs false
set_option maxRecDepth 100000
namespace Go.Proofs.YtcdofkflbnpjjaaDoor
open Go.AE

/-! ## One DD -/
def named (d : TDD) : Bool := (d.Dsn != []) && !d.Dummy && (d.Sysout == []) && !d.HasData
def dsp (d : TDD) : Int := if d.Disp == 0 then 1 else d.Disp
def endD (d : TDD) : Int := if dsp d == 1 then 2 else 1
def nrmD (d : TDD) : Int := if d.Normal == 0 then endD d else d.Normal
def abD (d : TDD) : Int := if d.Abend == 0 then (if nrmD d == 5 then endD d else nrmD d) else d.Abend
def updE (e : Int) : Bool := (e == 2) || (e == 3) || (e == 4)
def dig (b : UInt8) : Bool := decide (48 ≤ b.toNat) && decide (b.toNat ≤ 57)
def genB (s : List UInt8) : Bool := decide (10 ≤ s.length) && ((s.drop (s.length - 9)).take 2 == [46, 71]) && (s.drop (s.length - 3) == [86, 48, 48]) && ((s.drop (s.length - 7)).take 4).all dig
def excl (d : TDD) : Bool := updE (nrmD d) || updE (abD d) || (d.HasGen && decide (d.Gen > 0)) || (d.Disp != 3)
def items (d : TDD) : List TWant := if named d = true then ⟨d.Dsn, excl d⟩ :: (if genB d.Dsn = true then [⟨d.Dsn.take (d.Dsn.length - 9), excl d⟩] else []) else []
theorem items_len (d : TDD) : (items d).length ≤ 2 := by
  unfold items
  split
  · split <;> simp
  · simp

theorem default_eq (n : Nat) (d : TDD) (h : d.Instream.length ≤ 2147483648) : ∃ r, flow_Default n d = some r ∧ r.Normal = nrmD d ∧ r.Abend = abD d := by
  have k4 : ∀ a b c, ∃ r, flow_Default_k4 n d a b c = some r ∧ r.Normal = b ∧ r.Abend = c := fun a b c => ⟨_, by rw [flow_Default_k4, gd_pos _ h], rfl, rfl⟩
  have k3 : ∀ a b e, ∃ r, flow_Default_k3 n d a b e = some r ∧ r.Normal = b ∧ r.Abend = (if d.Abend == 0 then (if b == 5 then e else b) else d.Abend) := by
    intro a b e
    rw [flow_Default_k3]
    cases h1 : d.Abend == 0
    · simpa using k4 a b d.Abend
    · cases h2 : b == 5
      · simpa using k4 a b b
      · simpa using k4 a b e
  have k2 : ∀ a e, ∃ r, flow_Default_k2 n d a e = some r ∧ r.Normal = (if d.Normal == 0 then e else d.Normal) ∧ r.Abend = (if d.Abend == 0 then (if (if d.Normal == 0 then e else d.Normal) == 5 then e else (if d.Normal == 0 then e else d.Normal)) else d.Abend) := by
    intro a e
    rw [flow_Default_k2]
    cases h1 : d.Normal == 0
    · simpa [h1] using k3 a d.Normal e
    · simpa [h1] using k3 a e e
  have k1 : ∀ a, ∃ r, flow_Default_k1 n d a = some r ∧ r.Normal = (if d.Normal == 0 then (if a == 1 then 2 else 1) else d.Normal) ∧ r.Abend = (if d.Abend == 0 then (if (if d.Normal == 0 then (if a == 1 then 2 else 1) else d.Normal) == 5 then (if a == 1 then 2 else 1) else (if d.Normal == 0 then (if a == 1 then 2 else 1) else d.Normal)) else d.Abend) := by
    intro a
    rw [flow_Default_k1]
    cases h1 : a == 1
    · simpa [h1] using k2 a 1
    · simpa [h1] using k2 a 2
  have := k1 (dsp d)
  rw [flow_Default]
  have e : (bif d.Disp == 0 then flow_Default_k1 n d 1 else flow_Default_k1 n d d.Disp) = flow_Default_k1 n d (dsp d) := by
    unfold dsp; cases d.Disp == 0 <;> rfl
  rw [e]
  exact this

theorem updates_eq (n : Nat) (e : Int) : enqueue_updates n e = some (updE e) := by
  unfold enqueue_updates updE
  cases h2 : e == 2 <;> cases h3 : e == 3 <;> cases h4 : e == 4 <;> simp [enqueue_updates_k1]
theorem changes_eq (n : Nat) (e : Int) : ref37_changes n e = some (updE e) := by
  unfold ref37_changes updE
  rw [ite_tt, ite_tt]
theorem exclusive_eq (n : Nat) (d : TDD) : flow_Exclusive n d = some (named d && d.Disp != 3) := by
  unfold flow_Exclusive flow_named
  simp only [Option.bind_some, ite_ff, named, Bool.and_assoc]
theorem named_eq (n : Nat) (d : TDD) : ref36_Named n d = some (named d) := by
  unfold ref36_Named
  simp only [ite_ff, named, Bool.and_assoc]
theorem disp_eq (n : Nat) (d : TDD) : ref36_Dispositions n d.Disp d.Normal d.Abend = some (dsp d, nrmD d, abD d) := by
  have k4 : ∀ a b c e, ref36_Dispositions_k4 n a b c e = some (a, b, if c == 0 then e else c) := by
    intro a b c e
    rw [ref36_Dispositions_k4]
    cases c == 0 <;> rfl
  have k3 : ∀ a b c e, b ≠ 0 → ref36_Dispositions_k3 n a b c e = some (a, b, if c == 0 then (if b == 5 then e else b) else c) := by
    intro a b c e hb
    rw [ref36_Dispositions_k3, k4, k4, show (b != 5) = !(b == 5) from rfl]
    have hb' : (b == 0) = false := by simpa using hb
    cases h1 : c == 0 <;> cases h2 : b == 5 <;> simp [hb']
  have k2 : ∀ a b c e, e ≠ 0 → ref36_Dispositions_k2 n a b c e = some (a, (if b == 0 then e else b), if c == 0 then (if (if b == 0 then e else b) == 5 then e else (if b == 0 then e else b)) else c) := by
    intro a b c e he
    rw [ref36_Dispositions_k2]
    cases h1 : b == 0
    · simp only [cond_false, Bool.false_eq_true, if_false]; rw [k3 _ _ _ _ (by simpa using h1)]
    · simp only [cond_true, if_true]; rw [k3 _ _ _ _ he]
  have k1 : ∀ a b c, ref36_Dispositions_k1 n a b c = some (a, (if b == 0 then (if a == 1 then 2 else 1) else b), if c == 0 then (if (if b == 0 then (if a == 1 then 2 else 1) else b) == 5 then (if a == 1 then 2 else 1) else (if b == 0 then (if a == 1 then 2 else 1) else b)) else c) := by
    intro a b c
    rw [ref36_Dispositions_k1]
    cases h1 : a == 1
    · simp only [cond_false, Bool.false_eq_true, if_false]; rw [k2 _ _ _ _ (by decide)]
    · simp only [cond_true, if_true]; rw [k2 _ _ _ _ (by decide)]
  have e : ref36_Dispositions n d.Disp d.Normal d.Abend = ref36_Dispositions_k1 n (dsp d) d.Normal d.Abend := by
    unfold ref36_Dispositions dsp; cases d.Disp == 0 <;> rfl
  rw [e, k1]
  rfl
theorem rexclusive_eq (n : Nat) (d : TDD) : ref36_Exclusive n d = some (named d && d.Disp != 3) := by
  unfold ref36_Exclusive
  rw [disp_eq, named_eq]
  simp only [Option.bind_some, ite_ff, Option.some.injEq]
  congr 1
  unfold dsp
  cases h : d.Disp == 0
  · simp
  · have : d.Disp = 0 := by simpa using h
    rw [this]; rfl

/-! ## Names of generations -/
theorem dig_contains (b : UInt8) : ([48, 49, 50, 51, 52, 53, 54, 55, 56, 57] : List UInt8).contains b = dig b := by
  have h : ∀ k : Fin 256, ([48, 49, 50, 51, 52, 53, 54, 55, 56, 57] : List UInt8).contains (UInt8.ofNat k.val) = dig (UInt8.ofNat k.val) := by decide
  have := h ⟨b.toNat, b.toNat_lt⟩
  simpa using this
theorem dropWhile_nil {p : UInt8 → Bool} : ∀ {l : List UInt8}, l.dropWhile p = [] ↔ ∀ x ∈ l, p x = true
  | [] => by simp
  | x :: l => by
    rw [List.dropWhile_cons]
    cases h : p x with
    | true => simp [dropWhile_nil (l := l), h]
    | false => simp [h]
theorem dropWhile_head {p : UInt8 → Bool} : ∀ {l : List UInt8} {x : UInt8} {t : List UInt8}, l.dropWhile p = x :: t → p x = false
  | [], x, t, h => by simp at h
  | y :: l, x, t, h => by
    rw [List.dropWhile_cons] at h
    cases hy : p y with
    | true => rw [hy] at h; exact dropWhile_head (by simpa using h)
    | false =>
      rw [hy] at h
      simp only [Bool.false_eq_true, if_false, List.cons.injEq] at h
      rw [← h.1]; exact hy
theorem trimS_nil (l cs : List UInt8) : Go.Lib.trimS l cs = [] ↔ l.all (cs.contains ·) = true := by
  have hr : Go.Lib.trimRightS l cs = [] ↔ l.all (cs.contains ·) = true := by
    unfold Go.Lib.trimRightS
    rw [List.reverse_eq_nil_iff, dropWhile_nil, List.all_eq_true]
    simp
  rw [← hr]
  unfold Go.Lib.trimS Go.Lib.trimLeftS
  rw [dropWhile_nil]
  constructor
  · intro h
    unfold Go.Lib.trimRightS at h ⊢
    rw [List.reverse_eq_nil_iff]
    cases hd : List.dropWhile (fun x => cs.contains x) l.reverse with
    | nil => rfl
    | cons x t =>
      exfalso
      have h1 := h x (by rw [hd]; simp)
      have h2 := dropWhile_head hd
      rw [h1] at h2; cases h2
  · intro h x hx
    rw [h] at hx; cases hx

theorem generation_eq (n : Nat) (s : List UInt8) (hs : s.length ≤ 1099511627776) : enqueue_generation n s = some (if genB s = true then (s.take (s.length - 9), true) else ([], false)) := by
  have w1 : IntKind.wrap .i64 ((s.length : Int) - 9) = (s.length : Int) - 9 := w64_id (by omega) (by omega)
  have w2 : IntKind.wrap .i64 ((s.length : Int) - 9 + 2) = (s.length : Int) - 7 := by rw [w64_id (by omega) (by omega)]; omega
  have w3 : IntKind.wrap .i64 ((s.length : Int) - 9 + 6) = (s.length : Int) - 3 := by rw [w64_id (by omega) (by omega)]; omega
  unfold enqueue_generation
  simp only [w1, w2, w3]
  by_cases h : s.length < 10
  · have hd : decide ((s.length : Int) - 9 < 1) = true := decide_eq_true (by omega)
    have hg : genB s = false := by simp [genB]; omega
    simp only [hd, hg, Bool.not_true, Bool.false_eq_true, if_true, if_false, cond_true]
    rw [gd_pos _ (by simp)]
  · have hd : decide ((s.length : Int) - 9 < 1) = false := decide_eq_false (by omega)
    have t9 : ((s.length : Int) - 9).toNat = s.length - 9 := by omega
    have t7 : ((s.length : Int) - 7).toNat = s.length - 7 := by omega
    have t3 : ((s.length : Int) - 3).toNat = s.length - 3 := by omega
    have a1 : List.drop (s.length - 9) (List.take (s.length - 7) s) = (s.drop (s.length - 9)).take 2 := by
      rw [List.drop_take]; congr 1; omega
    have a2 : List.drop (s.length - 7) (List.take (s.length - 3) s) = (s.drop (s.length - 7)).take 4 := by
      rw [List.drop_take]; congr 1; omega
    have hT : ∀ l : List UInt8, strings_Trim n l [48, 49, 50, 51, 52, 53, 54, 55, 56, 57] = some (Go.Lib.trimS l [48, 49, 50, 51, 52, 53, 54, 55, 56, 57]) := fun l => by
      rw [strings_Trim, gd_pos _ (by decide)]
    have hall : ∀ l : List UInt8, (Go.Lib.trimS l [48, 49, 50, 51, 52, 53, 54, 55, 56, 57] != []) = !l.all dig := by
      intro l
      have h1 := trimS_nil l [48, 49, 50, 51, 52, 53, 54, 55, 56, 57]
      have h2 : (l.all fun x => ([48, 49, 50, 51, 52, 53, 54, 55, 56, 57] : List UInt8).contains x) = l.all dig := by
        congr 1; funext b; exact dig_contains b
      rw [h2] at h1
      cases h3 : l.all dig with
      | true => simpa using h1.2 h3
      | false =>
        have : ¬ Go.Lib.trimS l [48, 49, 50, 51, 52, 53, 54, 55, 56, 57] = [] := fun e => by rw [h1.1 e] at h3; cases h3
        simpa using this
    simp only [hd, t9, t7, t3, a1, a2, hT, Option.isSome_some, Option.getD_some, hall, Bool.false_eq_true, if_false, ite_tt]
    rw [gd_pos _ ⟨fun _ => by omega, fun _ => by omega, fun _ => by omega, fun _ => trivial⟩]
    have hg : genB s = !((((s.drop (s.length - 9)).take 2 != [46, 71]) || (s.drop (s.length - 3) != [86, 48, 48])) || !((s.drop (s.length - 7)).take 4).all dig) := by
      have : decide (10 ≤ s.length) = true := decide_eq_true (by omega)
      simp only [genB, this, Bool.true_and, bne, Bool.not_or, Bool.not_not]
    rw [hg]
    cases (((s.drop (s.length - 9)).take 2 != [46, 71]) || (s.drop (s.length - 3) != [86, 48, 48])) || !((s.drop (s.length - 7)).take 4).all dig with
    | true => rfl
    | false =>
      simp only [cond_false, Bool.not_false, if_true]
      rw [gd_pos _ (by omega)]

theorem gen_loop (n : Nat) (s : List UInt8) (m : Nat) (hm : m + 7 = s.length) (hs : s.length ≤ 1099511627776) : ∀ (j i fuel : Nat), i + j = 4 → j < fuel →
    loopF (fun (x : Int) => ref37_generation_b2 n s ((s.length : Int) - 9) x) fuel ((m + i : Nat) : Int) = some (if ((s.drop (m + i)).take j).all dig = true then .inr () else .inl false)
  | 0, i, fuel, hi, hf => by
    obtain ⟨fuel, rfl⟩ : ∃ q, fuel = q + 1 := ⟨fuel - 1, by omega⟩
    have w : IntKind.wrap .i64 ((s.length : Int) - 9 + 6) = (s.length : Int) - 3 := by rw [w64_id (by omega) (by omega)]; omega
    have hd : decide (((m + i : Nat) : Int) < (s.length : Int) - 3) = false := decide_eq_false (by omega)
    rw [loopF_done (y := .inr ()) (by simp only [ref37_generation_b2, w, hd, cond_false])]
    simp
  | j + 1, i, fuel, hi, hf => by
    obtain ⟨fuel, rfl⟩ : ∃ q, fuel = q + 1 := ⟨fuel - 1, by omega⟩
    have w : IntKind.wrap .i64 ((s.length : Int) - 9 + 6) = (s.length : Int) - 3 := by rw [w64_id (by omega) (by omega)]; omega
    have hd : decide (((m + i : Nat) : Int) < (s.length : Int) - 3) = true := decide_eq_true (by omega)
    have hlt : m + i < s.length := by omega
    have ih := gen_loop n s m hm hs j (i + 1) fuel (by omega) (by omega)
    have hget : s.getD (m + i) 0 = s[m + i] := by simp [List.getD_eq_getElem?_getD, hlt]
    have w2 : IntKind.wrap .i64 (((m + i : Nat) : Int) + 1) = ((m + (i + 1) : Nat) : Int) := by rw [w64_id (by omega) (by omega)]; omega
    have hb : ref37_generation_b2 n s ((s.length : Int) - 9) ((m + i : Nat) : Int) = some (if dig s[m + i] = true then .inl ((m + (i + 1) : Nat) : Int) else .inr (.inl false)) := by
      simp only [ref37_generation_b2, w, hd, cond_true, Int.toNat_natCast, hget, w2, ite_tt]
      rw [gd_pos _ ⟨by omega, fun _ => by omega⟩]
      have e : (decide (((s[m + i].toNat : Nat) : Int) < 48) || decide (((s[m + i].toNat : Nat) : Int) > 57)) = !dig s[m + i] := by
        unfold dig
        rw [Bool.not_and]
        congr 1
        · rw [← decide_not]; congr 1; simp only [eq_iff_iff]; omega
        · rw [← decide_not]; congr 1; simp only [eq_iff_iff]; omega
      rw [e]
      cases dig s[m + i] <;> rfl
    rw [List.drop_eq_getElem_cons hlt, List.take_succ_cons, List.all_cons]
    cases hdg : dig s[m + i] with
    | true =>
      rw [hdg] at hb
      rw [loopF_step hb, ih]
      simp [Nat.add_assoc]
    | false =>
      rw [hdg] at hb
      rw [loopF_done hb]
      simp

theorem rgeneration_eq (n : Nat) (s : List UInt8) (hs : s.length ≤ 1099511627776) (hn : N0 ≤ n) : ref37_generation n s = some (genB s) := by
  unfold N0 at hn
  have w1 : IntKind.wrap .i64 ((s.length : Int) - 9) = (s.length : Int) - 9 := w64_id (by omega) (by omega)
  have w2 : IntKind.wrap .i64 ((s.length : Int) - 9 + 2) = (s.length : Int) - 7 := by rw [w64_id (by omega) (by omega)]; omega
  have w3 : IntKind.wrap .i64 ((s.length : Int) - 9 + 6) = (s.length : Int) - 3 := by rw [w64_id (by omega) (by omega)]; omega
  unfold ref37_generation
  simp only [w1, w2, w3]
  by_cases h : s.length < 10
  · have hd : decide ((s.length : Int) - 9 < 1) = true := decide_eq_true (by omega)
    have hg : genB s = false := by simp [genB]; omega
    simp only [hd, hg, Bool.not_true, Bool.false_eq_true, if_true, if_false, cond_true]
    rw [gd_pos _ (by simp)]
  · have hd : decide ((s.length : Int) - 9 < 1) = false := decide_eq_false (by omega)
    have t9 : ((s.length : Int) - 9).toNat = s.length - 9 := by omega
    have t7 : ((s.length : Int) - 7).toNat = s.length - 7 := by omega
    have t3 : ((s.length : Int) - 3).toNat = s.length - 3 := by omega
    have a1 : List.drop (s.length - 9) (List.take (s.length - 7) s) = (s.drop (s.length - 9)).take 2 := by
      rw [List.drop_take]; congr 1; omega
    simp only [hd, t9, t7, t3, a1, Bool.false_eq_true, if_false, ite_tt]
    rw [gd_pos _ ⟨fun _ => by omega, fun _ => by omega⟩]
    have hl := gen_loop n s (s.length - 7) (by omega) hs 4 0 n rfl (by omega)
    have e7 : (((s.length - 7 + 0 : Nat)) : Int) = (s.length : Int) - 7 := by omega
    rw [e7, Nat.add_zero] at hl
    have hg : genB s = (!(((s.drop (s.length - 9)).take 2 != [46, 71]) || (s.drop (s.length - 3) != [86, 48, 48])) && ((s.drop (s.length - 7)).take 4).all dig) := by
      have : decide (10 ≤ s.length) = true := decide_eq_true (by omega)
      simp only [genB, this, Bool.true_and, bne, Bool.not_or, Bool.not_not]
    rw [hg]
    cases ((s.drop (s.length - 9)).take 2 != [46, 71]) || (s.drop (s.length - 3) != [86, 48, 48]) with
    | true => rfl
    | false =>
      simp only [cond_false, Bool.not_false, Bool.true_and]
      refine (congrArg (fun o => Option.bind o _) hl).trans ?_
      cases ((s.drop (s.length - 7)).take 4).all dig <;> rfl
end Go.Proofs.YtcdofkflbnpjjaaDoor

/-
  ch. 37: plain laws. EnqueueWants: both lists are the normal form of the same list of wants.
-/
set_option maxHeartbeats 8000000
set_option linter.unusedVariables false
set_option linter.unusedSimpArgs false
set_option maxRecDepth 100000
namespace Go.Proofs.YtcdofkflbnpjjaaDoor
open Go.AE

theorem works_N0 : law37_works N0 = some true := by decide +kernel

def okD (d : TDD) : Prop := d.Dsn.length ≤ 2097152 ∧ d.Instream.length ≤ 2097152
theorem dd_bound {a b : List UInt8} {p : Int} {l : List TCond} {steps : List TJobStep} (hb : cbss [[.str a, .str b, .int p, .slice (List.map e_TCond l), .slice (List.map e_TJobStep steps)]] ≤ 2097152) : ∀ st ∈ steps, ∀ d ∈ st.DDs, okD d := by
  intro st hst d hd
  have h1 := cb_le (c := .slice (List.map e_TJobStep steps)) (xs := [.str a, .str b, .int p, .slice (List.map e_TCond l), .slice (List.map e_TJobStep steps)]) (by simp)
  have h2 := cbs_le (x := [.str a, .str b, .int p, .slice (List.map e_TCond l), .slice (List.map e_TJobStep steps)]) (xss := [[.str a, .str b, .int p, .slice (List.map e_TCond l), .slice (List.map e_TJobStep steps)]]) (by simp)
  have h3 := cbs_le (x := e_TJobStep st) (xss := List.map e_TJobStep steps) (List.mem_map_of_mem hst)
  have h4 := cb_le (c := .slice (List.map e_TDD st.DDs)) (xs := e_TJobStep st) (by simp [e_TJobStep])
  have h5 := cbs_le (x := e_TDD d) (xss := List.map e_TDD st.DDs) (List.mem_map_of_mem hd)
  have h6 := cb_le (c := .str d.Dsn) (xs := e_TDD d) (by simp [e_TDD])
  have h7 := cb_le (c := .slice (List.map e_Str d.Instream)) (xs := e_TDD d) (by simp [e_TDD])
  have h1' : cb (.slice (List.map e_TJobStep steps)) = cbss (List.map e_TJobStep steps) + (List.map e_TJobStep steps).length + 1 := rfl
  have h4' : cb (.slice (List.map e_TDD st.DDs)) = cbss (List.map e_TDD st.DDs) + (List.map e_TDD st.DDs).length + 1 := rfl
  have h6' : cb (.str d.Dsn) = d.Dsn.length + 1 := rfl
  have h7' : cb (.slice (List.map e_Str d.Instream)) = cbss (List.map e_Str d.Instream) + (List.map e_Str d.Instream).length + 1 := rfl
  rw [List.length_map] at h7'
  unfold okD
  omega

/-! ## The program -/
theorem inner_eq (n : Nat) (j : TJob) (v17 v18 : Int) (dds : List TDD) (l0 : List TWant) (hb : ∀ d ∈ dds, okD d) (hl : dds.length ≤ 20) (h0 : l0.length ≤ 1000) (hn : N0 ≤ n) :
    loopF (fun (x : (List TWant) × Int) => enqueue_Wants_b4 n j v17 v18 dds (dds.length : Int) x.1 x.2) n (l0, 0) = some (dds.foldl (fun l d => l ++ items d) l0) := by
  unfold N0 at hn
  refine loop_acc dds (fun l d => l ++ items d) (fun s => s) l0 (fun k s => s.length ≤ 1000 + 2 * k) (by omega) ?_ ?_ ?_ (by omega)
  · intro k hk s hi
    have hd : decide ((k : Int) < (dds.length : Int)) = true := decide_eq_true (by omega)
    obtain ⟨hb1, hb2⟩ := hb dds[k] (List.getElem_mem hk)
    have es : (if (if (if (dds[k].Dsn == []) = true then true else dds[k].Dummy) = true then true else (dds[k].Sysout != [])) = true then true else dds[k].HasData) = !named dds[k] := by
      simp only [ite_tt, named, bne, Bool.not_and, Bool.not_not]
    simp only [enqueue_Wants_b4, hd, cond_true, Int.toNat_natCast]
    rw [gd_pos _ (by omega)]
    simp only [gt_lt hk]
    rw [es]
    cases hnm : named dds[k] with
    | false => simp [items, hnm, enqueue_Wants_k5, succ_w (show k < 4194304 by omega)]
    | true =>
      obtain ⟨r, hr, hrn, hra⟩ := default_eq n dds[k] (by omega)
      simp only [Bool.not_true, cond_false, hr, Option.bind_some, updates_eq, hrn, hra, exclusive_eq, hnm, Option.isSome_some, Option.getD_some, ite_tt, ite_ff, Bool.true_and]
      rw [gd_pos _ (fun _ => trivial), gd_pos _ (fun _ => trivial), gd_pos _ (by omega), generation_eq n _ (by omega)]
      simp only [Option.bind_some]
      have hx : (updE (nrmD dds[k]) || updE (abD dds[k]) || (dds[k].HasGen && decide (dds[k].Gen > 0)) || (dds[k].Disp != 3)) = excl dds[k] := rfl
      rw [hx]
      cases hg : genB dds[k].Dsn with
      | false => simp [items, hnm, hg, enqueue_Wants_k5, succ_w (show k < 4194304 by omega)]
      | true =>
        simp only [if_true, cond_true]
        rw [gd_pos _ (by omega)]
        simp [items, hnm, hg, enqueue_Wants_k5, succ_w (show k < 4194304 by omega)]
  · intro k hk s hi
    have := items_len dds[k]
    rw [List.length_append]; omega
  · intro s hi
    simp [enqueue_Wants_b4]

def link : TWant := ⟨[83, 89, 83, 49, 46, 76, 73, 78, 75, 76, 73, 66], false⟩
def stepI (l : List TWant) (st : TJobStep) : List TWant := st.DDs.foldl (fun l d => l ++ items d) l
theorem stepI_len (dds : List TDD) : ∀ l : List TWant, (dds.foldl (fun l d => l ++ items d) l).length ≤ l.length + 2 * dds.length := by
  induction dds with
  | nil => intro l; simp
  | cons d dds ih =>
    intro l
    rw [List.foldl_cons]
    have h1 := ih (l ++ items d)
    have := items_len d
    rw [List.length_append] at h1
    simp only [List.length_cons]; omega

theorem wants_eq (n : Nat) (j : TJob) (hb : ∀ st ∈ j.Steps, ∀ d ∈ st.DDs, okD d) (hs : j.Steps.length ≤ 10) (hd : ∀ st ∈ j.Steps, st.DDs.length ≤ 20) (hn : N0 ≤ n) : enqueue_Wants n j = some (nf (j.Steps.foldl stepI [link])) := by
  have hn' := hn
  unfold N0 at hn'
  have h1 : loopF (fun (x : (List TWant) × Int) => enqueue_Wants_b2 n j (j.Steps.length : Int) x.1 x.2) n ([link], 0) = some (j.Steps.foldl stepI [link]) := by
    refine loop_acc j.Steps stepI (fun s => s) [link] (fun k s => s.length ≤ 1 + 40 * k) (by simp) ?_ ?_ ?_ (by omega)
    · intro k hk s hi
      have hdd : decide ((k : Int) < (j.Steps.length : Int)) = true := decide_eq_true (by omega)
      have hm := List.getElem_mem hk
      simp only [enqueue_Wants_b2, hdd, cond_true, Int.toNat_natCast]
      rw [gd_pos _ (by omega)]
      simp only [gt_lt hk]
      refine (congrArg (fun o => Option.bind o _) (inner_eq n j (j.Steps.length : Int) (k : Int) j.Steps[k].DDs s (hb _ hm) (hd _ hm) (by omega) hn)).trans ?_
      simp only [Option.bind_some, enqueue_Wants_k3, succ_w (show k < 4194304 by omega)]
      rfl
    · intro k hk s hi
      have := stepI_len j.Steps[k].DDs s
      have := hd _ (List.getElem_mem hk)
      show (j.Steps[k].DDs.foldl (fun l d => l ++ items d) s).length ≤ _
      omega
    · intro s hi
      simp [enqueue_Wants_b2]
  have hlen : (j.Steps.foldl stepI [link]).length ≤ 1 + 40 * j.Steps.length := by
    have : ∀ (l : List TJobStep) (s : List TWant), (∀ st ∈ l, st.DDs.length ≤ 20) → (l.foldl stepI s).length ≤ s.length + 40 * l.length := by
      intro l
      induction l with
      | nil => intro s _; simp
      | cons st l ih =>
        intro s h
        rw [List.foldl_cons]
        have h1 := ih (stepI s st) (fun x hx => h x (by simp [hx]))
        have h2 := stepI_len st.DDs s
        have h3 := h st (by simp)
        have h4 : (stepI s st).length ≤ s.length + 40 := by
          show (st.DDs.foldl (fun l d => l ++ items d) s).length ≤ _
          omega
        simp only [List.length_cons]; omega
    have := this j.Steps [link] hd
    simpa using this
  rw [enqueue_Wants]
  refine (congrArg (fun o => Option.bind o _) h1).trans ?_
  rw [Option.bind_some, enqueue_Wants_k1, normalize_eq n _ (by unfold B0; omega) hn]
  rfl

/-! ## The specification -/
def insW (r : List TWant) (w : TWant) : List TWant := insr w.Name w.Exclusive r
theorem rinner_eq (n : Nat) (j : TJob) (s : Nat) (hs : s < j.Steps.length) (l0 : List TWant) (hb : ∀ d ∈ j.Steps[s].DDs, okD d) (hl : j.Steps[s].DDs.length ≤ 20) (h0 : l0.length ≤ 1000) (hn : N0 ≤ n) :
    loopF (fun (x : (List TWant) × Int) => ref37_Wants_b4 n j (s : Int) x.1 x.2) n (l0, 0) = some (j.Steps[s].DDs.foldl (fun l d => (items d).foldl insW l) l0) := by
  have hn' := hn
  unfold N0 at hn'
  refine loop_acc j.Steps[s].DDs (fun l d => (items d).foldl insW l) (fun s => s) l0 (fun k s => s.length ≤ 1000 + 2 * k) (by omega) ?_ ?_ ?_ (by omega)
  · intro k hk l hi
    have hd : decide ((k : Int) < (j.Steps[s].DDs.length : Int)) = true := decide_eq_true (by omega)
    obtain ⟨hb1, hb2⟩ := hb j.Steps[s].DDs[k] (List.getElem_mem hk)
    have hw : ∀ (l : List TWant) (w : TWant), l.length ≤ 2000 → ref37_with n l w = some (insW l w) := fun l w hl => with_eq n l w (by unfold B0; omega) hn
    simp only [ref37_Wants_b4, Int.toNat_natCast, gt_lt hs, hd, cond_true]
    rw [gd_pos _ (by omega), gd_pos _ (by omega)]
    simp only [gt_lt hk, named_eq, Option.bind_some]
    cases hnm : named j.Steps[s].DDs[k] with
    | false => simp [items, hnm, ref37_Wants_k5, succ_w (show k < 4194304 by omega)]
    | true =>
      simp only [Bool.not_true, cond_false, disp_eq, rexclusive_eq, hnm, Option.bind_some, changes_eq, Option.isSome_some, Option.getD_some, ite_tt, ite_ff, Bool.true_and]
      rw [gd_pos _ ⟨fun _ => trivial, fun _ => trivial⟩]
      have hx : ((j.Steps[s].DDs[k].Disp != 3) || updE (nrmD j.Steps[s].DDs[k]) || updE (abD j.Steps[s].DDs[k]) || (j.Steps[s].DDs[k].HasGen && decide (j.Steps[s].DDs[k].Gen > 0))) = excl j.Steps[s].DDs[k] := by
        unfold excl
        generalize (j.Steps[s].DDs[k].Disp != 3) = a
        generalize updE (nrmD j.Steps[s].DDs[k]) = b
        generalize updE (abD j.Steps[s].DDs[k]) = c
        generalize (j.Steps[s].DDs[k].HasGen && decide (j.Steps[s].DDs[k].Gen > 0)) = d
        revert a b c d; decide
      rw [hx, hw _ _ (by omega), Option.bind_some, rgeneration_eq n _ (by omega) hn, Option.bind_some]
      cases hg : genB j.Steps[s].DDs[k].Dsn with
      | false => simp [items, hnm, hg, ref37_Wants_k5, succ_w (show k < 4194304 by omega)]
      | true =>
        have h10 : 10 ≤ j.Steps[s].DDs[k].Dsn.length := by
          simp only [genB, Bool.and_eq_true, decide_eq_true_eq] at hg
          exact hg.1.1.1
        have w1 : IntKind.wrap .i64 ((j.Steps[s].DDs[k].Dsn.length : Int) - 9) = (j.Steps[s].DDs[k].Dsn.length : Int) - 9 := w64_id (by omega) (by omega)
        have t9 : ((j.Steps[s].DDs[k].Dsn.length : Int) - 9).toNat = j.Steps[s].DDs[k].Dsn.length - 9 := by omega
        simp only [cond_true, w1, t9]
        have hil := insr_len j.Steps[s].DDs[k].Dsn (excl j.Steps[s].DDs[k]) l
        rw [gd_pos _ (by omega), hw _ _ (by show (insr j.Steps[s].DDs[k].Dsn (excl j.Steps[s].DDs[k]) l).length ≤ 2000; omega)]
        simp [items, hnm, hg, ref37_Wants_k5, succ_w (show k < 4194304 by omega)]
  · intro k hk l hi
    have h2 := items_len j.Steps[s].DDs[k]
    have : ∀ (ws l : List TWant), (ws.foldl insW l).length ≤ l.length + ws.length := fun ws l => nf_len_from ws l
    have := this (items j.Steps[s].DDs[k]) l
    omega
  · intro l hi
    simp only [ref37_Wants_b4, Int.toNat_natCast, gt_lt hs]
    rw [gd_pos _ (by omega)]
    simp

def stepR (l : List TWant) (st : TJobStep) : List TWant := st.DDs.foldl (fun l d => (items d).foldl insW l) l
theorem stepR_len (dds : List TDD) : ∀ l : List TWant, (dds.foldl (fun l d => (items d).foldl insW l) l).length ≤ l.length + 2 * dds.length := by
  induction dds with
  | nil => intro l; simp
  | cons d dds ih =>
    intro l
    rw [List.foldl_cons]
    have h1 := ih ((items d).foldl insW l)
    have h2 := items_len d
    have h3 : ((items d).foldl insW l).length ≤ l.length + (items d).length := nf_len_from (items d) l
    simp only [List.length_cons]; omega
theorem rwants_eq (n : Nat) (j : TJob) (hb : ∀ st ∈ j.Steps, ∀ d ∈ st.DDs, okD d) (hs : j.Steps.length ≤ 10) (hd : ∀ st ∈ j.Steps, st.DDs.length ≤ 20) (hn : N0 ≤ n) : ref37_Wants n j = some (j.Steps.foldl stepR [link]) := by
  have hn' := hn
  unfold N0 at hn'
  have h1 : loopF (fun (x : (List TWant) × Int) => ref37_Wants_b2 n j x.1 x.2) n ([link], 0) = some (j.Steps.foldl stepR [link]) := by
    refine loop_acc j.Steps stepR (fun s => s) [link] (fun k s => s.length ≤ 1 + 40 * k) (by simp) ?_ ?_ ?_ (by omega)
    · intro k hk s hi
      have hdd : decide ((k : Int) < (j.Steps.length : Int)) = true := decide_eq_true (by omega)
      have hm := List.getElem_mem hk
      simp only [ref37_Wants_b2, hdd, cond_true]
      refine (congrArg (fun o => Option.bind o _) (rinner_eq n j k hk s (hb _ hm) (hd _ hm) (by omega) hn)).trans ?_
      simp only [Option.bind_some, ref37_Wants_k3, succ_w (show k < 4194304 by omega)]
      rfl
    · intro k hk s hi
      have := stepR_len j.Steps[k].DDs s
      have := hd _ (List.getElem_mem hk)
      show (j.Steps[k].DDs.foldl (fun l d => (items d).foldl insW l) s).length ≤ _
      omega
    · intro s hi
      simp [ref37_Wants_b2]
  rw [ref37_Wants]
  refine (congrArg (fun o => Option.bind o _) h1).trans ?_
  rw [Option.bind_some, ref37_Wants_k1]

/-! ## The same -/
theorem nf_app (a b : List TWant) : nf (a ++ b) = b.foldl insW (nf a) := by
  unfold nf; rw [List.foldl_append]; rfl
theorem steps_same : ∀ (l : List TJobStep) (a : List TWant), nf (l.foldl stepI a) = l.foldl stepR (nf a) := by
  have one : ∀ (dds : List TDD) (a : List TWant), nf (dds.foldl (fun l d => l ++ items d) a) = dds.foldl (fun l d => (items d).foldl insW l) (nf a) := by
    intro dds
    induction dds with
    | nil => intro a; rfl
    | cons d dds ih => intro a; rw [List.foldl_cons, List.foldl_cons, ih, nf_app]
  intro l
  induction l with
  | nil => intro a; rfl
  | cons st l ih =>
    intro a
    rw [List.foldl_cons, List.foldl_cons, ih]
    congr 1
    exact one st.DDs a

theorem same_refl (n : Nat) (a : List TWant) (ha : a.length ≤ B0) (hn : N0 ≤ n) : law37_sameWants n a a = some true := by
  unfold N0 at hn; unfold B0 at ha
  have hne : ((a.length : Int) != (a.length : Int)) = false := by simp
  have h := loop_scan (body := fun (x : Int) => law37_sameWants_b2 n a a x) a.length (fun _ => false) (fun _ => (.inl false : Bool ⊕ Unit)) (.inr ()) (n := n)
    (fun k hk => by
      have hd : decide ((k : Int) < (a.length : Int)) = true := decide_eq_true (by omega)
      simp only [law37_sameWants_b2, hd, cond_true, Int.toNat_natCast, succ_w (show k < 4194304 by omega)]
      rw [gd_pos _ ⟨by omega, by omega, fun _ => by omega, fun _ => by omega⟩]
      simp)
    (by simp [law37_sameWants_b2]) (by omega)
  have hf : (List.range a.length).find? (fun _ => false) = none := by simp
  rw [hf] at h
  rw [law37_sameWants, hne]
  simp only [cond_false]
  refine (congrArg (fun o => Option.bind o _) h).trans ?_
  rfl

theorem p_law37_EnqueueWants (n : Nat) (hn : N0 ≤ n) (h0 : n = N0) (x0 : TJob) (hb : cbss [[.str x0.Name, .str x0.Class, .int x0.Prty, .slice (List.map e_TCond x0.Conds), .slice (List.map e_TJobStep x0.Steps)]] ≤ 2097152) : law37_EnqueueWants n x0 = some true := by
  have hB := dd_bound hb
  have hn' := hn
  unfold N0 at hn'
  have hw : law37_works n = some true := by rw [h0]; exact works_N0
  simp only [law37_EnqueueWants, hw, Option.bind_some, Bool.not_true, cond_false]
  by_cases hs : x0.Steps.length > 10
  · have : decide ((x0.Steps.length : Int) > 10) = true := decide_eq_true (by omega)
    rw [this]; rfl
  · have hd0 : decide ((x0.Steps.length : Int) > 10) = false := decide_eq_false (by omega)
    rw [hd0]
    simp only [cond_false]
    have h := loop_any (body := fun (x : Int) => law37_EnqueueWants_b2 n x0 x) x0.Steps (fun st => decide ((st.DDs.length : Int) > 20)) (.inl true : Bool ⊕ Unit) (.inr ()) (n := n)
      (fun k hk => by
        have hd : decide ((k : Int) < (x0.Steps.length : Int)) = true := decide_eq_true (by omega)
        simp only [law37_EnqueueWants_b2, hd, cond_true, Int.toNat_natCast, succ_w (show k < 4194304 by omega)]
        rw [gd_pos _ (by omega)]
        simp only [gt_lt hk]
        cases decide ((x0.Steps[k].DDs.length : Int) > 20) <;> rfl)
      (by simp [law37_EnqueueWants_b2]) (by omega)
    refine (congrArg (fun o => Option.bind o _) h).trans ?_
    cases ha : x0.Steps.any (fun st => decide ((st.DDs.length : Int) > 20)) with
    | true => rfl
    | false =>
      have hd : ∀ st ∈ x0.Steps, st.DDs.length ≤ 20 := by
        intro st hst
        rw [List.any_eq_false] at ha
        have := ha st hst
        simp only [decide_eq_true_eq] at this
        omega
      simp only [Bool.false_eq_true, if_false, Option.bind_some, law37_EnqueueWants_k1]
      rw [wants_eq n x0 hB (by omega) hd hn, rwants_eq n x0 hB (by omega) hd hn, steps_same]
      have e : nf [link] = [link] := by decide
      rw [e]
      simp only [Option.bind_some]
      rw [same_refl n _ ?_ hn]
      · rfl
      · have : ∀ (l : List TJobStep) (s : List TWant), (∀ st ∈ l, st.DDs.length ≤ 20) → (l.foldl stepR s).length ≤ s.length + 40 * l.length := by
          intro l
          induction l with
          | nil => intro s _; simp
          | cons st l ih =>
            intro s h
            rw [List.foldl_cons]
            have h1 := ih (stepR s st) (fun x hx => h x (by simp [hx]))
            have h2 := stepR_len st.DDs s
            have h3 := h st (by simp)
            have h4 : (stepR s st).length ≤ s.length + 40 := by
              show (st.DDs.foldl (fun l d => (items d).foldl insW l) s).length ≤ _
              omega
            simp only [List.length_cons]; omega
        have := this x0.Steps [link] hd
        simp only [List.length_cons, List.length_nil] at this
        unfold B0; omega
end Go.Proofs.YtcdofkflbnpjjaaDoor
