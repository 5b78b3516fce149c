/-
  Calls that are handed blocks of the caller's own: what they do to them.
-/
import Derived.Test.YtcdofkflbnpjjaaAE22
set_option linter.unusedVariables false
namespace Go.AE
open Go.RowKit (Below)
variable {P : Program} {w0 : Base} {w : World} {N : Nat} {σ : Nat → RefI} {s : S} {tms : Array Value} {ρ : Operand → Value} {al : Nat → Prop} {Γ : List Fn}

/-! ## Values under other numbers -/
mutual
def renM (m : Nat → Nat) : A → A
  | .own id ks off len => .own (m id) ks off len
  | .box id off => .box (m id) off
  | .elt id sz ks i off => .elt (m id) sz ks i off
  | .mref id => .mref (m id)
  | .agg xs => .agg (renMs m xs)
  | .fnv f xs => .fnv f (renMs m xs)
  | .c k x => .c k x
  | .nilsl => .nilsl
  | .pp ks cells off => .pp ks cells off
  | _ => .unk
def renMs (m : Nat → Nat) : List A → List A
  | [] => []
  | a :: as => renM m a :: renMs m as
end
mutual
def okM (k : Nat) : A → Bool
  | .own id _ _ _ => decide (id < k)
  | .box id _ => decide (id < k)
  | .elt id _ _ _ _ => decide (id < k)
  | .mref id => decide (id < k)
  | .agg xs => okMs k xs
  | .fnv _ xs => okMs k xs
  | .c _ _ => true
  | .nilsl => true
  | .pp _ _ _ => true
  | .unk => true
  | _ => false
def okMs (k : Nat) : List A → Bool
  | [] => true
  | a :: as => okM k a && okMs k as
end
def renB (m : Nat → Nat) : Blk → Blk
  | .box cells => .box (renMs m cells)
  | b => b
def okB (k : Nat) : Blk → Bool
  | .box cells => okMs k cells
  | .row _ _ => true
  | .mp _ _ _ => true
  | _ => false

theorem renMs_length (m : Nat → Nat) (as : List A) : (renMs m as).length = as.length := by
  induction as with
  | nil => rfl
  | cons a as ih => simp [renMs, ih]
theorem renMs_getD (m : Nat → Nat) (as : List A) (i : Nat) : (renMs m as).getD i .unk = renM m (as.getD i .unk) := by
  induction as generalizing i with
  | nil => simp [renMs, renM]
  | cons a as ih =>
    cases i with
    | zero => simp [renMs]
    | succ i => simpa [renMs] using ih i
theorem okMs_getD {k : Nat} {as : List A} (h : okMs k as = true) (i : Nat) : okM k (as.getD i .unk) = true := by
  induction as generalizing i with
  | nil => simp [okM]
  | cons a as ih =>
    simp only [okMs, Bool.and_eq_true] at h
    cases i with
    | zero => simpa using h.1
    | succ i => simpa using ih h.2 i

/-- from the callee's numbers to the caller's -/
theorem renM_rel {σr σ' : Nat → RefI} {m : Nat → Nat} {v : Value} {a : A} (h : ARel P w al σr v a) (hs : ∀ j, σr j ≠ .dead → σ' (m j) = σr j) : ARel P w al σ' v (renM m a) := by
  induction h with
  | unk v => exact .unk v
  | c k v x h => exact .c k v x h
  | nilsl => exact .nilsl
  | agg vs xs hl h ih =>
    simp only [renM]
    refine .agg vs _ (by rw [renMs_length]; exact hl) (fun i hi => ?_)
    rw [renMs_length] at hi
    rw [renMs_getD]; exact ih i hi
  | tup vs xs hl h ih => exact .unk _
  | ownGone v id ks off len h => exact .ownGone v _ ks off len (by rw [hs id (by simp [h]), h])
  | eltGone v id sz ks i off h => exact .eltGone v _ sz ks i off (by rw [hs id (by simp [h]), h])
  | ownNil id ks off t h ho => exact .ownNil _ ks off t (by rw [hs id (by simp [h]), h]) ho
  | own0 id ks len b cap n t h hl => exact .own0 _ ks len b cap n t (by rw [hs id (by simp [h]), h]) hl
  | ownOff id ks off len b cap n cap' t h ho hl hc => exact .ownOff _ ks off len b cap n cap' t (by rw [hs id (by simp [h]), h]) ho hl hc
  | ownOff0 a id ks off b cap n cap' t h ho hl => exact .ownOff0 a _ ks off b cap n cap' t (by rw [hs id (by simp [h]), h]) ho hl
  | box id off b h => exact .box _ off b (by rw [hs id (by simp [h]), h])
  | elt id ks0 ks i off b cap n t h hi hk => exact .elt _ ks0 ks i off b cap n t (by rw [hs id (by simp [h]), h]) hi hk
  | pp ks cells off b o hal f hcell hrep => exact .pp ks cells off b o hal f hcell hrep
  | fnv f caps vs hl h ih =>
    simp only [renM]
    refine .fnv f _ vs (by rw [renMs_length]; exact hl) (fun i hi => ?_)
    rw [renMs_length] at hi
    rw [renMs_getD]; exact ih i hi
  | mref id b h => exact .mref _ b (by rw [hs id (by simp [h]), h])
  | mrefGone v id h => exact .mrefGone _ _ (by rw [hs id (by simp [h]), h])
  | itr id r b h => exact .itr _ r b (by rw [hs id (by simp [h]), h])
  | whenT v a h ih => exact .unk _
  | whenF a => exact .unk _

theorem renM_unTup {σr σ' : Nat → RefI} {m : Nat → Nat} {v : Value} {as : List A} (h : ARel P w al σr v (unTup as)) (hs : ∀ j, σr j ≠ .dead → σ' (m j) = σr j) : ARel P w al σ' v (unTup (renMs m as)) := by
  have tup : ∀ as : List A, ARel P w al σr v (.tup as) → ARel P w al σ' v (.tup (renMs m as)) := by
    intro as h
    cases h with
    | tup vs _ hl hh =>
      refine .tup vs _ (by rw [renMs_length]; exact hl) (fun i hi => ?_)
      rw [renMs_length] at hi
      rw [renMs_getD]; exact renM_rel (hh i hi) hs
  cases as with
  | nil => exact tup [] h
  | cons a as =>
    cases as with
    | nil => exact renM_rel h hs
    | cons b as => exact tup (a :: b :: as) h

/-- from the caller's numbers to the callee's -/
theorem renM_inv {σ0 : Nat → RefI} {m : Nat → Nat} {k : Nat} {v : Value} {b : A} (h : ARel P w al σ v b) (hs : ∀ j, j < k → σ0 j = σ (m j)) : ∀ a, b = renM m a → okM k a = true → ARel P w al σ0 v a := by
  induction h with
  | unk v => intro a e ho; cases a <;> simp [renM] at e <;> first | exact .unk _ | simp [okM] at ho
  | c k v x h => intro a e ho; cases a <;> simp [renM] at e; obtain ⟨rfl, rfl⟩ := e; exact .c _ v _ h
  | nilsl => intro a e ho; cases a <;> simp [renM] at e; exact .nilsl
  | agg vs xs hl h ih =>
    intro a e ho
    cases a <;> simp [renM] at e
    subst e
    rw [renMs_length] at hl
    refine .agg vs _ hl (fun i hi => ?_)
    exact ih i (by rw [renMs_length]; exact hi) _ (renMs_getD _ _ _) (okMs_getD (by simpa [okM] using ho) i)
  | tup vs xs hl h ih => intro a e ho; cases a <;> simp [renM] at e
  | ownGone v id ks off len h =>
    intro a e ho
    cases a <;> simp [renM] at e
    obtain ⟨rfl, rfl, rfl, rfl⟩ := e
    exact .ownGone v _ _ _ _ (by rw [hs _ (by simpa [okM] using ho)]; exact h)
  | eltGone v id sz ks i off h =>
    intro a e ho
    cases a <;> simp [renM] at e
    obtain ⟨rfl, rfl, rfl, rfl, rfl⟩ := e
    exact .eltGone v _ _ _ _ _ (by rw [hs _ (by simpa [okM] using ho)]; exact h)
  | ownNil id ks off t h h0 =>
    intro a e ho
    cases a <;> simp [renM] at e
    obtain ⟨rfl, rfl, rfl, rfl⟩ := e
    exact .ownNil _ _ _ t (by rw [hs _ (by simpa [okM] using ho)]; exact h) h0
  | own0 id ks len b cap n t h hl =>
    intro a e ho
    cases a <;> simp [renM] at e
    obtain ⟨rfl, rfl, rfl, rfl⟩ := e
    exact .own0 _ _ _ b cap n t (by rw [hs _ (by simpa [okM] using ho)]; exact h) hl
  | ownOff id ks off len b cap n cap' t h h0 hl hc =>
    intro a e ho
    cases a <;> simp [renM] at e
    obtain ⟨rfl, rfl, rfl, rfl⟩ := e
    exact .ownOff _ _ _ _ b cap n cap' t (by rw [hs _ (by simpa [okM] using ho)]; exact h) h0 hl hc
  | ownOff0 ad id ks off b cap n cap' t h h0 hl =>
    intro a e ho
    cases a <;> simp [renM] at e
    obtain ⟨rfl, rfl, rfl, rfl⟩ := e
    exact .ownOff0 ad _ _ _ b cap n cap' t (by rw [hs _ (by simpa [okM] using ho)]; exact h) h0 hl
  | box id off b h =>
    intro a e ho
    cases a <;> simp [renM] at e
    obtain ⟨rfl, rfl⟩ := e
    exact .box _ _ b (by rw [hs _ (by simpa [okM] using ho)]; exact h)
  | elt id ks0 ks i off b cap n t h hi hk =>
    intro a e ho
    cases a <;> simp [renM] at e
    obtain ⟨rfl, e2, rfl, rfl, rfl⟩ := e
    subst e2
    exact .elt _ ks0 _ _ _ b cap n t (by rw [hs _ (by simpa [okM] using ho)]; exact h) hi hk
  | pp ks cells off b o hal f hcell hrep =>
    intro a e ho
    cases a <;> simp [renM] at e
    obtain ⟨rfl, rfl, rfl⟩ := e
    exact .pp _ _ _ b o hal f hcell hrep
  | fnv f caps vs hl h ih =>
    intro a e ho
    cases a <;> simp [renM] at e
    obtain ⟨rfl, e⟩ := e
    subst e
    rw [renMs_length] at hl
    refine .fnv f _ vs hl (fun i hi => ?_)
    exact ih i (by rw [renMs_length]; exact hi) _ (renMs_getD _ _ _) (okMs_getD (by simpa [okM] using ho) i)
  | mref id b h =>
    intro a e ho
    cases a <;> simp [renM] at e
    subst e
    exact .mref _ b (by rw [hs _ (by simpa [okM] using ho)]; exact h)
  | mrefGone v id h =>
    intro a e ho
    cases a <;> simp [renM] at e
    subst e
    exact .mrefGone _ _ (by rw [hs _ (by simpa [okM] using ho)]; exact h)
  | itr id r b h =>
    intro a e ho
    cases a <;> simp [renM] at e
    subst e
    exact .itr _ r b (by rw [hs _ (by simpa [okM] using ho)]; exact h)
  | whenT v a h ih => intro a e ho; cases a <;> simp [renM] at e
  | whenF a => intro a e ho; cases a <;> simp [renM] at e

/-! ## The contract of a call -/
inductive Arg where
  | dat (p : Bool × List Kd) (c : List C)
  | ref (a : A)

def ArgM (P : Program) (w : World) (al : Nat → Prop) (σ : Nat → RefI) : Arg → Value → Prop
  | .dat p c, v => ArgRel P w al p v c
  | .ref a, v => ARel P w al σ v a

def muOf (σ : Nat → RefI) (b : Nat) : Prop := ∃ j, blockOf (σ j) b

structure ResM (P : Program) (w : World) (al : Nat → Prop) (σ : Nat → RefI) (w' : World) (v : Value) (res : List A) (hs' : List Blk) : Prop where
  below : BelowX w.heap.size (muOf σ) w w'
  rel : ∃ σ' : Nat → RefI, (∀ j, BRel P w' (Base.wr ⟨w, al, muOf σ, σ⟩) (Al ⟨w, al, muOf σ, σ⟩ w' σ' (rowsHp hs')) σ' j (rowsHp hs' j)) ∧
    (∀ i j b, blockOf (σ' i) b → blockOf (σ' j) b → i = j) ∧
    (∀ j, σ j ≠ .dead → σ' j = σ j ∨ (σ' j = .gone ∧ rowRef (σ j))) ∧
    ARel P w' (Al ⟨w, al, muOf σ, σ⟩ w' σ' (rowsHp hs')) σ' v (unTup res)

/-- a call: under these arguments, with these blocks, it comes to these results, and the blocks are then so -/
structure CallsM (P : Program) (f : FuncId) (as : List Arg) (hs : List Blk) (res : List A) (hs' : List Blk) : Prop where
  enter : ∀ args w, (callFunc f args).run P w = .ok (.enter f args) w
  le : hs.length ≤ hs'.length
  calls : ∀ (w : World) (al : Nat → Prop) (σ : Nat → RefI) (vs : List Value), (∀ b, al b → b < w.heap.size ∧ ∀ j, ¬ blockOf (σ j) b) →
    (∀ j, BRel P w (fun b => b < w.heap.size) al σ j (rowsHp hs j)) → (∀ i j b, blockOf (σ i) b → blockOf (σ j) b → i = j) →
    vs.length = as.length → (∀ i, i < as.length → ArgM P w al σ (as.getD i (.ref .unk)) (vs.getD i undef)) →
    Calls P f vs.toArray w (fun e w' => ∃ v, e = .returned v ∧ ResM P w al σ w' v res hs')

/-! ## At the caller -/
def mL (ids : List Nat) (j : Nat) : Nat := ids.getD j 0
def keysL (d : Nat) : Nat → Nat → List Nat
  | _, 0 => []
  | j, n + 1 => key d j :: keysL d (j + 1) n
def putAll : List Nat → List Blk → (Nat → Blk) → (Nat → Blk)
  | i :: is, b :: bs, hp => putAll is bs (upd hp i b)
  | _, _, hp => hp
def matchArg (hp : Nat → Blk) (m : Nat → Nat) (k : Nat) : List Arg → List A → Prop
  | [], [] => True
  | .dat p c :: gs, a :: as => fitArg hp p a = some c ∧ matchArg hp m k gs as
  | .ref a0 :: gs, a :: as => a = renM m a0 ∧ okM k a0 = true ∧ matchArg hp m k gs as
  | _, _ => False
def datIds : List Arg → List A → List Nat
  | .dat _ _ :: gs, a :: as => (cellsA a).flatMap frozenIds ++ datIds gs as
  | _ :: gs, _ :: as => datIds gs as
  | _, _ => []
def blksAt (hp : Nat → Blk) (m : Nat → Nat) (k : Nat) : List Nat → List Blk → Prop
  | [], [] => True
  | i :: is, b :: bs => hp i = renB m b ∧ okB k b = true ∧ blksAt hp m k is bs
  | _, _ => False
def allDead (hp : Nat → Blk) : List Nat → Bool
  | [] => true
  | i :: is => isDead (hp i) && allDead hp is
def disj (ids : List Nat) : List Nat → Bool
  | [] => true
  | i :: is => notIn i ids && disj ids is
def nodupL : List Nat → Bool
  | [] => true
  | i :: is => notIn i is && nodupL is

theorem notIn_iff {id : Nat} : ∀ {l : List Nat}, notIn id l = true ↔ id ∉ l
  | [] => by simp [notIn]
  | x :: xs => by
    simp only [notIn, Bool.and_eq_true, Bool.not_eq_true', beq_eq_false_iff_ne, notIn_iff, List.mem_cons, not_or]
    exact ⟨fun h => ⟨fun e => h.1 e.symm, h.2⟩, fun h => ⟨fun e => h.1 e.symm, h.2⟩⟩
theorem nodupL_iff : ∀ {l : List Nat}, nodupL l = true → l.Nodup
  | [], _ => .nil
  | x :: xs, h => by
    simp only [nodupL, Bool.and_eq_true, notIn_iff] at h
    exact List.nodup_cons.2 ⟨h.1, nodupL_iff h.2⟩
theorem disj_iff {ids : List Nat} : ∀ {l : List Nat}, disj ids l = true → ∀ i ∈ l, i ∉ ids
  | [], _, i, hi => by simp at hi
  | x :: xs, h, i, hi => by
    simp only [disj, Bool.and_eq_true, notIn_iff] at h
    rcases List.mem_cons.1 hi with rfl | hi
    · exact h.1
    · exact disj_iff h.2 i hi
theorem allDead_iff {hp : Nat → Blk} : ∀ {l : List Nat}, allDead hp l = true → ∀ i ∈ l, hp i = .dead
  | [], _, i, hi => by simp at hi
  | x :: xs, h, i, hi => by
    simp only [allDead, Bool.and_eq_true] at h
    rcases List.mem_cons.1 hi with rfl | hi
    · exact isDead_spec h.1
    · exact allDead_iff h.2 i hi
theorem blksAt_spec {hp : Nat → Blk} {m : Nat → Nat} {k : Nat} : ∀ {is : List Nat} {bs : List Blk}, blksAt hp m k is bs → is.length = bs.length ∧ ∀ j, j < bs.length → hp (is.getD j 0) = renB m (bs.getD j .dead) ∧ okB k (bs.getD j .dead) = true
  | [], [], _ => ⟨rfl, fun j hj => by simp at hj⟩
  | [], _ :: _, h => h.elim
  | _ :: _, [], h => h.elim
  | i :: is, b :: bs, h => by
    obtain ⟨h1, h2, h3⟩ := h
    obtain ⟨l, hr⟩ := blksAt_spec h3
    refine ⟨by simp [l], fun j hj => ?_⟩
    cases j with
    | zero => exact ⟨by simpa using h1, by simpa using h2⟩
    | succ j => simpa using hr j (by simpa using hj)
theorem matchArg_spec {hp : Nat → Blk} {m : Nat → Nat} {k : Nat} : ∀ {gs : List Arg} {as : List A}, matchArg hp m k gs as → as.length = gs.length ∧ ∀ i, i < gs.length → match gs.getD i (.ref .unk) with
    | .dat p c => fitArg hp p (as.getD i .unk) = some c ∧ ∀ id, id ∈ (cellsA (as.getD i .unk)).flatMap frozenIds → id ∈ datIds gs as
    | .ref a0 => as.getD i .unk = renM m a0 ∧ okM k a0 = true
  | [], [], _ => ⟨rfl, fun i hi => by simp at hi⟩
  | [], _ :: _, h => by simp [matchArg] at h
  | g :: _, [], h => by cases g <;> simp [matchArg] at h
  | .dat p c :: gs, a :: as, h => by
    simp only [matchArg] at h
    obtain ⟨l, hr⟩ := matchArg_spec h.2
    refine ⟨by simp [l], fun i hi => ?_⟩
    cases i with
    | zero => exact ⟨h.1, fun id hid => List.mem_append.2 (.inl (by simpa using hid))⟩
    | succ i =>
      have := hr i (by simpa using hi)
      simp only [List.getD_cons_succ] at this ⊢
      split
      · rename_i p' c' e
        rw [e] at this
        exact ⟨this.1, fun id hid => List.mem_append.2 (.inr (this.2 id hid))⟩
      · rename_i a0 e
        rw [e] at this; exact this
  | .ref a0 :: gs, a :: as, h => by
    simp only [matchArg] at h
    obtain ⟨l, hr⟩ := matchArg_spec h.2.2
    refine ⟨by simp [l], fun i hi => ?_⟩
    cases i with
    | zero => exact ⟨h.1, h.2.1⟩
    | succ i => simpa [datIds] using hr i (by simpa using hi)
theorem datIds_mem {hp : Nat → Blk} {m : Nat → Nat} {k : Nat} : ∀ {gs : List Arg} {as : List A}, matchArg hp m k gs as → ∀ id, id ∈ datIds gs as → ∃ t es, hp id = .row t es ∨ hp id = .frz t es
  | [], [], _, id, hid => by simp [datIds] at hid
  | [], _ :: _, h, _, _ => by simp [matchArg] at h
  | g :: _, [], h, _, _ => by cases g <;> simp [matchArg] at h
  | .dat p c :: gs, a :: as, h, id, hid => by
    simp only [matchArg] at h
    simp only [datIds] at hid
    rcases List.mem_append.1 hid with hid | hid
    · exact fitArg_rows h.1 id hid
    · exact datIds_mem h.2 id hid
  | .ref a0 :: gs, a :: as, h, id, hid => by
    simp only [matchArg] at h
    exact datIds_mem h.2.2 id (by simpa [datIds] using hid)

theorem putAll_out : ∀ {is : List Nat} {bs : List Blk} {hp : Nat → Blk} {id : Nat}, id ∉ is → putAll is bs hp id = hp id
  | [], bs, hp, id, _ => by simp [putAll]
  | i :: is, [], hp, id, _ => by simp [putAll]
  | i :: is, b :: bs, hp, id, h => by
    simp only [List.mem_cons, not_or] at h
    simp only [putAll]
    rw [putAll_out h.2]
    simp [upd, h.1]
theorem putAll_in : ∀ {is : List Nat} {bs : List Blk} {hp : Nat → Blk} {j : Nat}, is.Nodup → is.length = bs.length → j < is.length → putAll is bs hp (is.getD j 0) = bs.getD j .dead
  | [], bs, hp, j, _, _, hj => by simp at hj
  | i :: is, [], hp, j, _, hl, _ => by simp at hl
  | i :: is, b :: bs, hp, j, hn, hl, hj => by
    obtain ⟨h1, h2⟩ := List.nodup_cons.1 hn
    simp only [putAll]
    cases j with
    | zero => rw [List.getD_cons_zero, List.getD_cons_zero, putAll_out h1]; simp [upd]
    | succ j =>
      simp only [List.getD_cons_succ]
      exact putAll_in h2 (by simpa using hl) (by simpa using hj)
end Go.AE
