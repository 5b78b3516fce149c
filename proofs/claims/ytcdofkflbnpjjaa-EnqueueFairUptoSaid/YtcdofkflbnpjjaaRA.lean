/-
  ch. 37: plain laws. The normal form of a list of wants.
-/
import Derived.Test.YtcdofkflbnpjjaaT
import Derived.Test.YtcdofkflbnpjjaaAE21
import Derived.Sort.Walk0
set_option maxHeartbeats 8000000
set_option linter.unusedVariables false
set_option linter.unusedSimpArgs false
set_option maxRecDepth 100000
namespace Go.Proofs.Ytcdofkflbnpjjaa
open Go.AE

theorem bl_irrefl (x : List UInt8) : Op.bytesLess x x = false := by
  rw [Go.Proofs.bytesLess_eq]; simp [List.lt_irrefl]
theorem bl_trans {x y z : List UInt8} (h1 : Op.bytesLess x y = true) (h2 : Op.bytesLess y z = true) : Op.bytesLess x z = true := by
  rw [Go.Proofs.bytesLess_eq, decide_eq_true_eq] at *
  exact List.lt_trans h1 h2
theorem bl_total (x y : List UInt8) : Op.bytesLess x y = true ∨ x = y ∨ Op.bytesLess y x = true := by
  simp only [Go.Proofs.bytesLess_eq, decide_eq_true_eq]
  rcases Std.lt_trichotomy x y with h | h | h
  · exact .inl h
  · exact .inr (.inl h)
  · exact .inr (.inr h)
theorem bl_ne {x y : List UInt8} (h : Op.bytesLess x y = true) : x ≠ y := by
  rintro rfl; rw [bl_irrefl] at h; cases h
theorem bl_asymm {x y : List UInt8} (h : Op.bytesLess x y = true) : Op.bytesLess y x = false := by
  cases h2 : Op.bytesLess y x with
  | false => rfl
  | true => have := bl_trans h h2; rw [bl_irrefl] at this; cases this

abbrev wlt (a b : TWant) : Prop := Op.bytesLess a.Name b.Name = true

/-- r is the normal form of l -/
def isNF (l r : List TWant) : Prop := r.Pairwise wlt ∧ ∀ v, v ∈ r ↔ (∃ x ∈ l, x.Name = v.Name) ∧ v.Exclusive = l.any (fun x => x.Name == v.Name && x.Exclusive)

/-- two ascending lists of the same members are one -/
theorem asc_ext : ∀ {a b : List TWant}, a.Pairwise wlt → b.Pairwise wlt → (∀ v, v ∈ a ↔ v ∈ b) → a = b
  | [], [], _, _, _ => rfl
  | [], y :: b, _, _, h => absurd ((h y).2 List.mem_cons_self) (by simp)
  | x :: a, [], _, _, h => absurd ((h x).1 List.mem_cons_self) (by simp)
  | x :: a, y :: b, ha, hb, h => by
    have ha' := List.pairwise_cons.1 ha
    have hb' := List.pairwise_cons.1 hb
    have hxy : x = y := by
      rcases List.mem_cons.1 ((h x).1 List.mem_cons_self) with e | hx
      · exact e
      · rcases List.mem_cons.1 ((h y).2 List.mem_cons_self) with e | hy
        · exact e.symm
        · have h1 := hb'.1 x hx
          have h2 := ha'.1 y hy
          exact absurd h2 (by rw [wlt, bl_asymm h1]; simp)
    subst hxy
    congr 1
    refine asc_ext ha'.2 hb'.2 fun v => ?_
    constructor
    · intro hv
      rcases List.mem_cons.1 ((h v).1 (List.mem_cons_of_mem _ hv)) with e | hv'
      · subst e; have := ha'.1 v hv; rw [wlt, bl_irrefl] at this; cases this
      · exact hv'
    · intro hv
      rcases List.mem_cons.1 ((h v).2 (List.mem_cons_of_mem _ hv)) with e | hv'
      · subst e; have := hb'.1 v hv; rw [wlt, bl_irrefl] at this; cases this
      · exact hv'
theorem isNF_uniq {l a b : List TWant} (ha : isNF l a) (hb : isNF l b) : a = b := asc_ext ha.1 hb.1 fun v => by rw [ha.2 v, hb.2 v]

/-- the insertion of the reference -/
def insr (w : List UInt8) (e : Bool) : List TWant → List TWant
  | [] => [⟨w, e⟩]
  | x :: l => if Op.bytesLess x.Name w = true then x :: insr w e l else ⟨w, if x.Name = w then e || x.Exclusive else e⟩ :: (x :: l).filter (fun y => y.Name != w)
def nf (l : List TWant) : List TWant := l.foldl (fun r w => insr w.Name w.Exclusive r) []

theorem insr_len (w : List UInt8) (e : Bool) : ∀ l : List TWant, (insr w e l).length ≤ l.length + 1
  | [] => by simp [insr]
  | x :: l => by
    simp only [insr]
    split
    · have := insr_len w e l; simp only [List.length_cons]; omega
    · simp only [List.length_cons]
      have := List.length_filter_le (fun y : TWant => y.Name != w) (x :: l)
      simp only [List.length_cons] at this; omega
theorem nf_len_from : ∀ (l r : List TWant), (l.foldl (fun r w => insr w.Name w.Exclusive r) r).length ≤ r.length + l.length
  | [], r => by simp
  | w :: l, r => by
    rw [List.foldl_cons]
    have h1 := nf_len_from l (insr w.Name w.Exclusive r)
    have h2 := insr_len w.Name w.Exclusive r
    simp only [List.length_cons]; omega
theorem nf_len (l : List TWant) : (nf l).length ≤ l.length := by
  have h := nf_len_from l []
  rw [List.length_nil, Nat.zero_add] at h
  exact h

theorem insr_mem (w : List UInt8) (e : Bool) : ∀ {l : List TWant}, l.Pairwise wlt → ∀ v, v ∈ insr w e l ↔ (v.Name ≠ w ∧ v ∈ l) ∨ (v.Name = w ∧ v.Exclusive = (e || l.any (fun x => x.Name == w && x.Exclusive)))
  | [], _, v => by
    simp only [insr, List.mem_singleton, List.not_mem_nil, and_false, false_or, List.any_nil, Bool.or_false]
    constructor
    · rintro rfl; exact ⟨rfl, rfl⟩
    · rintro ⟨rfl, rfl⟩; rfl
  | x :: l, h, v => by
    have h' := List.pairwise_cons.1 h
    simp only [insr]
    split
    · rename_i hlt
      have hne : x.Name ≠ w := bl_ne hlt
      rw [List.mem_cons, insr_mem w e h'.2 v, List.any_cons, List.mem_cons]
      have e1 : (x.Name == w) = false := by simpa using hne
      rw [e1, Bool.false_and, Bool.false_or]
      constructor
      · rintro (rfl | ⟨h1, h2⟩ | h1)
        · exact .inl ⟨hne, .inl rfl⟩
        · exact .inl ⟨h1, .inr h2⟩
        · exact .inr h1
      · rintro (⟨h1, rfl | h2⟩ | h1)
        · exact .inl rfl
        · exact .inr (.inl ⟨h1, h2⟩)
        · exact .inr (.inr h1)
    · rename_i hnl
      have hgt : ∀ y ∈ l, y.Name ≠ w := by
        intro y hy e
        have := h'.1 y hy
        rw [wlt, e] at this
        exact hnl this
      have ha : l.any (fun y => y.Name == w && y.Exclusive) = false := by
        rw [List.any_eq_false]
        intro y hy
        simp [hgt y hy]
      rw [List.any_cons, ha, Bool.or_false, List.mem_cons, List.mem_filter]
      by_cases hx : x.Name = w
      · have e1 : (x.Name == w) = true := by simpa using hx
        rw [if_pos hx, e1, Bool.true_and]
        constructor
        · rintro (rfl | ⟨h1, h2⟩)
          · exact .inr ⟨rfl, rfl⟩
          · exact .inl ⟨by simpa using h2, h1⟩
        · rintro (⟨h1, h2⟩ | ⟨h1, h2⟩)
          · exact .inr ⟨h2, by simpa using h1⟩
          · left; cases v; simp only at h1 h2; subst h1; subst h2; rfl
      · have e1 : (x.Name == w) = false := by simpa using hx
        rw [if_neg hx, e1, Bool.false_and, Bool.or_false]
        constructor
        · rintro (rfl | ⟨h1, h2⟩)
          · exact .inr ⟨rfl, rfl⟩
          · exact .inl ⟨by simpa using h2, h1⟩
        · rintro (⟨h1, h2⟩ | ⟨h1, h2⟩)
          · exact .inr ⟨h2, by simpa using h1⟩
          · left; cases v; simp only at h1 h2; subst h1; subst h2; rfl

theorem insr_asc (w : List UInt8) (e : Bool) : ∀ {l : List TWant}, l.Pairwise wlt → (insr w e l).Pairwise wlt
  | [], _ => by simp [insr]
  | x :: l, h => by
    have h' := List.pairwise_cons.1 h
    have ih := insr_asc w e h'.2
    simp only [insr]
    split
    · rename_i hlt
      refine List.pairwise_cons.2 ⟨fun v hv => ?_, ih⟩
      rcases (insr_mem w e h'.2 v).1 hv with ⟨_, h1⟩ | ⟨h1, _⟩
      · exact h'.1 v h1
      · rw [wlt, h1]; exact hlt
    · rename_i hnl
      refine List.pairwise_cons.2 ⟨fun v hv => ?_, h.filter _⟩
      rw [List.mem_filter] at hv
      have hne : v.Name ≠ w := by simpa using hv.2
      have hxw : x.Name = w ∨ Op.bytesLess w x.Name = true := by
        rcases bl_total x.Name w with h1 | h1 | h1
        · exact absurd h1 hnl
        · exact .inl h1
        · exact .inr h1
      rcases List.mem_cons.1 hv.1 with rfl | hm
      · rcases hxw with h1 | h1
        · exact absurd h1 hne
        · exact h1
      · have := h'.1 v hm
        rcases hxw with h1 | h1
        · rw [wlt, ← h1]; exact this
        · exact bl_trans h1 this

theorem isNF_nil : isNF [] [] := ⟨List.Pairwise.nil, by simp⟩
theorem isNF_snoc {l r : List TWant} (h : isNF l r) (w : TWant) : isNF (l ++ [w]) (insr w.Name w.Exclusive r) := by
  refine ⟨insr_asc _ _ h.1, fun v => ?_⟩
  rw [insr_mem _ _ h.1 v, List.any_append]
  simp only [List.any_cons, List.any_nil, Bool.or_false, List.mem_append, List.mem_singleton]
  have key : r.any (fun x => x.Name == w.Name && x.Exclusive) = l.any (fun x => x.Name == w.Name && x.Exclusive) := by
    rw [Bool.eq_iff_iff, List.any_eq_true, List.any_eq_true]
    simp only [Bool.and_eq_true, beq_iff_eq]
    constructor
    · rintro ⟨x, hx, h1, h2⟩
      have := ((h.2 x).1 hx).2
      rw [h2] at this
      obtain ⟨y, hy, h3⟩ := List.any_eq_true.1 this.symm
      simp only [Bool.and_eq_true, beq_iff_eq] at h3
      exact ⟨y, hy, h3.1.trans h1, h3.2⟩
    · rintro ⟨y, hy, h1, h2⟩
      refine ⟨⟨w.Name, true⟩, (h.2 _).2 ⟨⟨y, hy, h1⟩, ?_⟩, rfl, rfl⟩
      exact (List.any_eq_true.2 ⟨y, hy, by simp [h1, h2]⟩).symm
  rw [key]
  by_cases hv : v.Name = w.Name
  · have e1 : (w.Name == v.Name) = true := by simp [hv]
    simp only [hv, ne_eq, not_true_eq_false, false_and, true_and, false_or, beq_self_eq_true, Bool.true_and]
    rw [Bool.or_comm w.Exclusive]
    constructor
    · intro h1; exact ⟨⟨w, .inr rfl, rfl⟩, h1⟩
    · exact fun h1 => h1.2
  · have e1 : (w.Name == v.Name) = false := by simpa using fun e => hv e.symm
    simp only [hv, ne_eq, not_false_eq_true, true_and, false_and, or_false, e1, Bool.false_and, Bool.or_false]
    rw [h.2 v]
    constructor
    · rintro ⟨⟨x, hx, h1⟩, h2⟩; exact ⟨⟨x, .inl hx, h1⟩, h2⟩
    · rintro ⟨⟨x, hx | rfl, h1⟩, h2⟩
      · exact ⟨⟨x, hx, h1⟩, h2⟩
      · exact absurd h1.symm hv

theorem nf_isNF (l : List TWant) : isNF l (nf l) := by
  have key : ∀ (l p r : List TWant), isNF p r → isNF (p ++ l) (l.foldl (fun r w => insr w.Name w.Exclusive r) r) := by
    intro l
    induction l with
    | nil => intro p r h; simpa using h
    | cons w l ih =>
      intro p r h
      have := ih (p ++ [w]) _ (isNF_snoc h w)
      simpa using this
  exact key l [] [] isNF_nil

/-! ## The program's way: a map of the names -/
def nmap (l : List TWant) : List (List UInt8 × Bool) := l.foldl (fun m w => tset w.Name (if ((tget w.Name m).getD default) = true then true else w.Exclusive) m) []

theorem tset_keys {K V : Type} [BEq K] [LawfulBEq K] (k : K) (v : V) : ∀ m : List (K × V), (tset k v m).map (·.1) = if k ∈ m.map (·.1) then m.map (·.1) else m.map (·.1) ++ [k]
  | [] => by simp [tset]
  | (a, b) :: m => by
    simp only [tset]
    by_cases h : k = a
    · subst h; simp
    · have h1 : (k == a) = false := by simpa using h
      have ih := tset_keys k v m
      simp only [h1, Bool.false_eq_true, if_false, List.map_cons, ih, List.mem_cons, h, false_or]
      split <;> simp
theorem tget_mem {K V : Type} [BEq K] [LawfulBEq K] {k : K} {v : V} : ∀ {m : List (K × V)}, (m.map (·.1)).Nodup → ((k, v) ∈ m ↔ tget k m = some v)
  | [], _ => by simp [tget]
  | (a, b) :: m, h => by
    simp only [List.map_cons, List.nodup_cons] at h
    have ih := tget_mem (k := k) (v := v) h.2
    simp only [tget, List.mem_cons, Prod.mk.injEq]
    by_cases hk : k = a
    · subst hk
      simp only [beq_self_eq_true, if_true, Option.some.injEq, true_and]
      constructor
      · rintro (rfl | h1)
        · rfl
        · exact absurd (List.mem_map_of_mem (f := (·.1)) h1) h.1
      · rintro rfl; exact .inl rfl
    · have h1 : (k == a) = false := by simpa using hk
      simp [h1, hk, ih]

structure MapOf (l : List TWant) (m : List (List UInt8 × Bool)) : Prop where
  nd : (m.map (·.1)).Nodup
  at_ : ∀ s, tget s m = if l.any (fun x => x.Name == s) = true then some (l.any (fun x => x.Name == s && x.Exclusive)) else none

theorem mapOf_snoc {l : List TWant} {m : List (List UInt8 × Bool)} (h : MapOf l m) (w : TWant) : MapOf (l ++ [w]) (tset w.Name (if ((tget w.Name m).getD default) = true then true else w.Exclusive) m) := by
  constructor
  · rw [tset_keys]
    split
    · exact h.nd
    · rename_i hn
      rw [List.nodup_append]
      refine ⟨h.nd, by simp, ?_⟩
      intro a ha b hb
      simp only [List.mem_singleton] at hb
      subst hb
      rintro rfl; exact hn ha
  · intro s
    rw [tget_tset, List.any_append, List.any_append, h.at_ s, h.at_ w.Name]
    simp only [List.any_cons, List.any_nil, Bool.or_false]
    by_cases hs : s = w.Name
    · subst hs
      simp only [beq_self_eq_true, if_true, Bool.or_true, Bool.true_and, Option.some.injEq]
      by_cases h1 : l.any (fun x => x.Name == w.Name) = true
      · simp only [h1, if_true, Option.getD_some, ite_tt']
      · have h2 : l.any (fun x => x.Name == w.Name && x.Exclusive) = false := by
          rw [Bool.not_eq_true, List.any_eq_false] at h1
          rw [List.any_eq_false]
          intro x hx
          have := h1 x hx
          simp only [Bool.not_eq_true] at this
          simp [this]
        simp [h1, h2]
    · have e1 : (s == w.Name) = false := by simpa using hs
      have e2 : (w.Name == s) = false := by simpa using fun e => hs e.symm
      simp only [e1, e2, Bool.false_eq_true, if_false, Bool.or_false, Bool.false_and]
where ite_tt' : ∀ {p q : Bool}, (if p = true then true else q) = (p || q) := by intro p q; cases p <;> simp

theorem nmap_of (l : List TWant) : MapOf l (nmap l) := by
  have key : ∀ (l p : List TWant) (m : List (List UInt8 × Bool)), MapOf p m → MapOf (p ++ l) (l.foldl (fun m w => tset w.Name (if ((tget w.Name m).getD default) = true then true else w.Exclusive) m) m) := by
    intro l
    induction l with
    | nil => intro p m h; simpa using h
    | cons w l ih =>
      intro p m h
      have := ih (p ++ [w]) _ (mapOf_snoc h w)
      simpa using this
  exact key l [] [] ⟨by simp, by simp [tget]⟩

theorem tset_len {K V : Type} [BEq K] (k : K) (v : V) : ∀ m : List (K × V), (tset k v m).length ≤ m.length + 1
  | [] => by simp [tset]
  | (a, b) :: m => by
    simp only [tset]
    split
    · simp
    · have := tset_len k v m; simp only [List.length_cons]; omega
theorem nmap_len (l : List TWant) : (nmap l).length ≤ l.length := by
  have key : ∀ (l : List TWant) (m : List (List UInt8 × Bool)), (l.foldl (fun m w => tset w.Name (if ((tget w.Name m).getD default) = true then true else w.Exclusive) m) m).length ≤ m.length + l.length := by
    intro l
    induction l with
    | nil => intro m; simp
    | cons w l ih =>
      intro m
      rw [List.foldl_cons]
      have h1 := ih (tset w.Name (if ((tget w.Name m).getD default) = true then true else w.Exclusive) m)
      have h2 := tset_len w.Name (if ((tget w.Name m).getD default) = true then true else w.Exclusive) m
      simp only [List.length_cons]; omega
  have h := key l []
  rw [List.length_nil, Nat.zero_add] at h
  exact h

/-- any order of the map's entries, sorted by name, is the normal form -/
theorem sorted_isNF {l : List TWant} {m q : List (List UInt8 × Bool)} (hm : MapOf l m) (hq : q.Perm m) {r : List TWant} (hr : r.Perm (q.map fun e => (⟨e.1, e.2⟩ : TWant)))
    (hs : r.Pairwise fun x y => Op.bytesLess y.Name x.Name = false) : isNF l r := by
  have hnd : (r.map (·.Name)).Nodup := by
    have e1 : (r.map (·.Name)).Perm (m.map (·.1)) := by
      refine (hr.map _).trans ?_
      rw [List.map_map]
      exact hq.map _
    exact e1.nodup_iff.2 hm.nd
  constructor
  · have h2 : r.Pairwise fun x y => x.Name ≠ y.Name := by
      rw [List.Nodup, List.pairwise_map] at hnd; exact hnd
    refine (hs.and h2).imp fun {a b} h => ?_
    rcases bl_total a.Name b.Name with h1 | h1 | h1
    · exact h1
    · exact absurd h1 h.2
    · rw [h.1] at h1; cases h1
  · intro v
    rw [hr.mem_iff, List.mem_map]
    have : (∃ a ∈ q, (⟨a.1, a.2⟩ : TWant) = v) ↔ (v.Name, v.Exclusive) ∈ m := by
      rw [← hq.mem_iff]
      constructor
      · rintro ⟨⟨a, b⟩, h1, rfl⟩; exact h1
      · intro h1; exact ⟨_, h1, rfl⟩
    rw [this, tget_mem hm.nd, hm.at_]
    by_cases h1 : l.any (fun x => x.Name == v.Name) = true
    · rw [if_pos h1, Option.some.injEq]
      have h2 : ∃ x ∈ l, x.Name = v.Name := by simpa using h1
      exact ⟨fun h => ⟨h2, h.symm⟩, fun h => h.2.symm⟩
    · rw [if_neg h1]
      have h2 : ¬ ∃ x ∈ l, x.Name = v.Name := by simpa using h1
      exact ⟨fun h => (nomatch h), fun h => absurd h.1 h2⟩
end Go.Proofs.Ytcdofkflbnpjjaa
