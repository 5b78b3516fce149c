/- Text. -/
import Derived.Test.YtfhnelkbiihpiaaGreatDoorAE44
import Derived.Test.YtfhnelkbiihpiaaGreatDoorAE41
import Derived.Test.YtfhnelkbiihpiaaGreatDoorAE11B
import Derived.Test.YtfhnelkbiihpiaaGreatDoorAE33
set_option linter.unusedSimpArgs false
set_option linter.unusedVariables false
set_option linter.unusedVariables false
namespace Go.AE
open Go.RowKit (Below)
variable {P : Program} {w0 : Base} {w : World} {N kp : Nat} {σ : Nat → RefI} {s : S} {tms : Array Value} {ρ : Operand → Value} {al : Nat → Prop} {Γ : List Fn}
theorem cell_cells {a : Addr} {v : Value} (h : w.cell? a = some v) : ∃ vs t z, w.heap[a.block]? = some (.cells vs t z) := by
  unfold World.cell? at h
  cases ho : w.heap[a.block]? with
  | none => simp [ho] at h
  | some o => cases o <;> simp_all
def CellsAt (w : World) (b : Nat) : Prop := ∃ vs t z, w.heap[b]? = some (.cells vs t z)
theorem RepC.cells {k : Kd} {v : Value} {x : C} (h : RepC P w al k v x) : RepC P w (fun b => al b ∧ CellsAt w b) k v x := by
  induction h with
  | bool x => exact .bool x
  | int k x h => exact .int k x h
  | str x h => exact .str x h
  | empty t x a cap h hz => exact .empty t x a cap h hz
  | slice t x b off cap hz E hE hal hlen hcap hel f hcell hrep ih =>
    by_cases he : x.toSl = []
    · have := RepC.empty (P := P) (w := w) (Al := fun b => al b ∧ CellsAt w b) t x (some ⟨b, off, none⟩) cap he (fun e => absurd e hz)
      simpa [he] using this
    · have h0 : 0 < x.toSl.length := List.length_pos_iff.2 he
      obtain ⟨SE⟩ := tyI_spec hE
      exact .slice t x b off cap hz E hE ⟨hal, cell_cells (cellN_cell (hcell 0 h0 0 (List.length_pos_iff.2 SE.ne)))⟩ hlen hcap hel f hcell ih
  | arr t x vs n e E hA hn hl hel hrep ih => exact .arr t x vs n e E hA hn hl hel ih
  | ptr t v x => exact .ptr t v x
  | other v x => exact .other v x
def deadHp : Nat → Blk := fun _ => .dead
def regId : A → Option Nat
  | .rg id _ _ => some id
  | .rp id _ _ _ => some id
  | _ => none
def meltA : A → A
  | .rg _ k x => .c k x
  | .rp _ ks cells off => .pp ks cells off
  | _ => .unk
mutual
def tagA (r : Nat) : A → A
  | .c k x => if scalarK k then .c k x else .rg r k x
  | .pp ks cells off => .rp r ks cells off
  | .agg xs => .agg (tagAs r xs)
  | .nilsl => .nilsl
  | _ => .unk
def tagAs (r : Nat) : List A → List A
  | [] => []
  | a :: as => tagA r a :: tagAs r as
end
def intO : Option A → Bool
  | none => true
  | some (.c (.int _) _) => true
  | _ => false
def rdR (hp : Nat → Blk) (x : A) (f : A → Option (Prop × A)) : Option Out :=
  match regId x with
  | some r => if isRegB (hp r) then match f (meltA x) with
    | some (p, a) => some ⟨p, True, tagA r a, hp, true⟩
    | none => none
    else none
  | none => none
def opRg (P : Program) (o : Oper) (hp : Nat → Blk) (v : Operand → A) : Option Out :=
  match o.op with
  | .load t x => match tyI P t with
    | some T => rdR hp (v x) fun a => loadA T deadHp a
    | none => none
  | .fieldAddr t x f => match tyI P t with
    | some T => rdR hp (v x) fun a => (fieldA T deadHp f a).map fun z => (True, z)
    | none => none
  | .indexAddr t x i => match slE P t, v i with
    | some (e, E), .c (.int _) n => rdR hp (v x) fun a => indexAddrA e E deadHp a n.toInt
    | _, _ => none
  | .slice t x lo hi none => if intO (lo.map v) && intO (hi.map v) then rdR hp (v x) fun a => sliceA P t deadHp a (lo.map v) (hi.map v) else none
  | .call c => match c.callee with
    | .builtin .len => match c.args.toList, c.argTypes.toList with
      | [x], [t] => match rdR hp (v x) fun a => lenA P t deadHp a with
        | some r => some { r with pre := True, fact := r.pre }
        | none => none
      | _, _ => none
    | _ => none
  | _ => none
def stepRg (P : Program) (o : Oper) (s : S) (K : S → Prop) : Prop :=
  match o.guard with
  | none => match opRg P o s.hp (plainTm s.tm) with
    | some r => allNeeds s.tm o.op.operands.toList ∧ r.pre ∧ (r.fact → K ⟨updD s.tm o.dst r.val, r.hp⟩)
    | none => False
  | some _ => False
def regVals : List Kd → List C → Nat → List A
  | [], _, _ => []
  | k :: ks, cells, j => (if scalarK k then .c k (nrm k (cg cells j)) else .rg 0 k (nrm k (cg cells j))) :: regVals ks cells (j + 1)
def regArg (p : Bool × List Kd) (xs : List C) : A := pack p.1 (regVals p.2 xs 0)
def regArg1 (p : Bool × List Kd) (c : List C) : Arg := if p.2.all scalarK then .dat p c else .ref (regArg p c)
def regArgs : List (Bool × List Kd) → List (List C) → List Arg
  | p :: ps, c :: cs => regArg1 p c :: regArgs ps cs
  | _, _ => []
mutual
def tagV (r : Nat) (hp : Nat → Blk) : A → A
  | .c k x => if scalarK k then .c k x else .rg r k x
  | .agg xs => .agg (tagVs r hp xs)
  | .nilsl => .nilsl
  | .own id ks off len => match hp id with
    | .row t es => .rg r (.slice t) (.slice ((es.drop off).take len))
    | .frz t es => .rg r (.slice t) (.slice ((es.drop off).take len))
    | _ => .unk
  | _ => .unk
def tagVs (r : Nat) (hp : Nat → Blk) : List A → List A
  | [] => []
  | a :: as => tagV r hp a :: tagVs r hp as
end
structure FCall (P : Program) (g : FuncId) (acts : List A) (hp : Nat → Blk) (r : Nat) (val : A) (hp' : Nat → Blk) : Prop where
  ex : ∃ ps css as res hs', CallsM P g as [.reg] res (.reg :: hs') ∧ fitArgs hp ps acts = some css ∧ as = regArgs ps css ∧ isDead (hp r) = true ∧ val = unTup (tagVs r (rowsHp (.reg :: hs')) res) ∧ hp' = upd (freezeAll hp (idsOf acts)) r .reg
end Go.AE
/-
  A call whose results become a region: the rule of a printed proof.
-/
set_option linter.unusedVariables false
namespace Go.AE
variable {P : Program} {N kp : Nat} {s s' : S} {Γ : List Fn} {g : Option Nat} {o : Oper} {os : List (Option Nat × Oper)} {K : S → Prop}
end Go.AE
/-
  Regions whose plain cells are written: what stays is where their data lie.
-/
set_option linter.unusedVariables false
namespace Go.AE
open Go.RowKit (Below)
variable {P : Program} {w0 : Base} {w : World} {N kp : Nat} {σ : Nat → RefI} {s : S} {tms : Array Value} {ρ : Operand → Value} {al : Nat → Prop} {Γ : List Fn}
def isW : Blk → Bool
  | .reg => true
  | .wob => true
  | _ => false
def scalPre : List Kd → List A → Bool
  | [], [] => true
  | k :: ks, .c k' _ :: as => scalarK k && (k == k') && scalPre ks as
  | _, _ => false
def opW (P : Program) (o : Oper) (hp : Nat → Blk) (v : Operand → A) : Option Out :=
  match o.op with
  | .indexAddr t x i => match slE P t, v x, v i with
    | some (e, E), .rg r (.slice t') c, .c (.int _) n => if isW (hp r) && (t' == e) then some ⟨0 ≤ n.toInt ∧ n.toInt < (c.toSl.length : Int), True, .rp r E.kinds (eg c.toSl n.toInt.toNat) 0, hp, true⟩ else none
    | _, _, _ => none
  | .fieldAddr t x f => match tyI P t, v x with
    | some T, .rp r ks cells off => if isW (hp r) then (T.fields[f]?).map fun p => ⟨True, True, .rp r (ks.drop p.1) cells (off + p.1), hp, true⟩ else none
    | _, _ => none
  | .load t x => match slE P t, v x with
    | some (e, _), .rp r ks cells off => if isW (hp r) && (ks.headD .other == .slice e) then some ⟨True, True, .rg r (.slice e) (nrm (.slice e) (cg cells off)), hp, true⟩ else none
    | _, _ => none
  | .call c => match c.callee with
    | .builtin .len => match c.args.toList, c.argTypes.toList with
      | [x], [t] => match v x, (slE P t).isSome with
        | .rg r (.slice _) cc, true => if isW (hp r) then some ⟨True, (cc.toSl.length : Int) ≤ 140737488355328, ki .i64 cc.toSl.length, hp, true⟩ else none
        | _, _ => none
      | _, _ => none
    | _ => none
  | .store t x y => match tyI P t, v x with
    | some T, .rp r ks cells off => if isW (hp r) && (scalPre (ks.take T.kinds.length) (cellsA (v y)) && (decide (T.kinds.length ≤ ks.length))) then some ⟨True, True, .unk, upd hp r .wob, false⟩ else none
    | _, _ => none
  | _ => none
theorem SimV.trans {a b c : Value} (h1 : SimV a b) (h2 : SimV b c) : SimV a c := by
  rcases h1 with rfl | ⟨x, y, rfl, rfl⟩ | ⟨k, n, m, rfl, rfl, hr⟩ | ⟨x, y, rfl, rfl, hs⟩
  · exact h2
  · rcases h2 with rfl | ⟨x', y', e, rfl⟩ | ⟨_, _, _, e, _⟩ | ⟨_, _, e, _⟩
    · exact .inr (.inl ⟨_, _, rfl, rfl⟩)
    · exact .inr (.inl ⟨_, _, rfl, rfl⟩)
    · cases e
    · cases e
  · rcases h2 with rfl | ⟨x', y', e, _⟩ | ⟨k', n', m', e, rfl, _⟩ | ⟨_, _, e, _⟩
    · exact .inr (.inr (.inl ⟨_, _, _, rfl, rfl, hr⟩))
    · cases e
    · cases e; exact .inr (.inr (.inl ⟨_, _, _, rfl, rfl, hr⟩))
    · cases e
  · rcases h2 with rfl | ⟨x', y', e, _⟩ | ⟨k', n', m', e, _, _⟩ | ⟨_, _, e, rfl, _⟩
    · exact .inr (.inr (.inr ⟨_, _, rfl, rfl, hs⟩))
    · cases e
    · cases e
    · cases e; exact .inr (.inr (.inr ⟨_, _, rfl, rfl, hs⟩))
def stepW (P : Program) (o : Oper) (s : S) (K : S → Prop) : Prop :=
  match o.guard with
  | none => match opW P o s.hp (plainTm s.tm) with
    | some r => allNeeds s.tm o.op.operands.toList ∧ r.pre ∧ (r.fact → K ⟨updD s.tm o.dst r.val, r.hp⟩)
    | none => False
  | some _ => False
end Go.AE
/-
  All that a state holds becomes one region (for functions that were handed all their data, and that write on them).
-/
set_option linter.unusedVariables false
namespace Go.AE
open Go.RowKit (Below)
variable {P : Program} {w0 : Base} {w : World} {N kp : Nat} {σ : Nat → RefI} {s : S} {tms : Array Value} {ρ : Operand → Value} {al : Nat → Prop} {Γ : List Fn} {a b c : Code} {Q : Exit → S → Prop}
def SmE (P : Program) (N : Nat) (c : Code) (s : S) (Q : Exit → S → Prop) : Prop :=
  ∀ (r : Option Nat) (w0 : Base) (Q' : Exit → Act → World → Prop) (a : Act) (w : World), Rel P w0 N s a.tmps w →
    (∀ e s' a' w', a'.defers = a.defers → Rel P w0 N s' a'.tmps w' → Q e s' → Q' e a' w') → cwp r P c Q' a w
def Sm0 (P : Program) (N kp : Nat) (c : Code) (s : S) (Q : Exit → S → Prop) : Prop :=
  ∀ (r : Option Nat) (w0 : Base) (Q' : Exit → Act → World → Prop) (a : Act) (w : World), (∀ id, kp ≤ id → w0.sg id = .dead) → (∀ b, ¬ w0.old b) → w0.mkd = noMk → RdOk w0 r → DfOk w0 a.defers → Rel P w0 N s a.tmps w →
    (∀ w1 e s' a' w', Ext w0 w1 → DfOk w1 a'.defers → Rel P w1 N s' a'.tmps w' → Q e s' → Q' e a' w') → cwp r P c Q' a w
theorem Sm0.seq (h : SmE P N a s fun e s' => match e with | .normal => Sm0 P N kp b s' Q | e => Q e s') : Sm0 P N kp (.seq a b) s Q := by
  intro r w0 Q' act w hk ho hm hr hd hR hQ
  refine cw_seq (h r w0 _ act w hR (fun e s' a' w' hdf hR' hq => ?_))
  cases e <;> first | exact hq r w0 Q' a' w' hk ho hm hr (hdf ▸ hd) hR' hQ | exact hQ _ _ _ _ _ (Ext.refl _) (hdf ▸ hd) hR' hq
mutual
def colA (r : Nat) (hp : Nat → Blk) : A → A
  | .c k x => if scalarK k then .c k x else .rg r k x
  | .agg xs => .agg (colAs r hp xs)
  | .nilsl => .nilsl
  | .own id ks off len => match hp id with
    | .row t es => .rg r (.slice t) (.slice ((es.drop off).take len))
    | .frz t es => .rg r (.slice t) (.slice ((es.drop off).take len))
    | _ => .unk
  | .box id off => match hp id with
    | .box _ => .box id off
    | _ => .unk
  | _ => .unk
def colAs (r : Nat) (hp : Nat → Blk) : List A → List A
  | [] => []
  | a :: as => colA r hp a :: colAs r hp as
end
def colB (r : Nat) (hp : Nat → Blk) : Blk → Blk
  | .row _ _ => .gone
  | .frz _ _ => .gone
  | .box cells => .box (colAs r hp cells)
  | b => b
def colHp (r : Nat) (hp : Nat → Blk) : Nat → Blk := fun id => if id = r then .reg else colB r hp (hp id)
mutual
def rgOnly : A → Bool
  | .c k _ => scalarK k
  | .rg _ _ _ => true
  | .agg xs => rgOnlys xs
  | .nilsl => true
  | _ => false
def rgOnlys : List A → Bool
  | [] => true
  | a :: as => rgOnly a && rgOnlys as
end
theorem rgOnlys_getD : ∀ {as : List A}, rgOnlys as = true → ∀ i, i < as.length → rgOnly (as.getD i .unk) = true
  | [], _, i, hi => by simp at hi
  | a :: as, h, 0, _ => by simp only [rgOnlys, Bool.and_eq_true] at h; simpa using h.1
  | a :: as, h, i + 1, hi => by simp only [rgOnlys, Bool.and_eq_true] at h; simpa using rgOnlys_getD h.2 i (by simpa using hi)
theorem ARel.rgOnly {al' : Nat → Prop} {v : Value} {x : A} (h : ARel P w al σ v x) (hx : rgOnly x = true) : ARel P w al' σ v x := by
  induction h with
  | c k v x h => exact .c _ _ _ (h.scalar (by simpa [Go.AE.rgOnly] using hx))
  | nilsl => exact .nilsl
  | agg vs xs hl h ih => exact .agg vs xs hl (fun i hi => ih i hi (rgOnlys_getD (by simpa [Go.AE.rgOnly] using hx) i hi))
  | rg v id k x W Q h hr => exact .rg v id k x W Q h hr
  | rgGone v id k x h => exact .rgGone v id k x h
  | _ => simp [Go.AE.rgOnly] at hx
theorem Sm0.seqK (h : ∀ K : S → Prop, (∀ s', Sm0 P N kp b s' Q → K s') → SmE P N a s (fun e s' => match e with | .normal => K s' | e => Q e s')) : Sm0 P N kp (.seq a b) s Q :=
  Sm0.seq (h (fun s' => Sm0 P N kp b s' Q) (fun _ h => h))
end Go.AE
/-
  Functions whose results are new: their contracts, out of what they do when all their data are a region.
-/
set_option linter.unusedVariables false
namespace Go.AE
open Go.RowKit (Below)
variable {P : Program} {w0 : Base} {w : World} {N kp : Nat} {σ : Nat → RefI} {s : S} {tms : Array Value} {al : Nat → Prop}
end Go.AE
/-
  A slice built of what lies in a region: with its own block, it is a region again.
-/
set_option linter.unusedVariables false
namespace Go.AE
open Go.RowKit (Below)
variable {P : Program} {w0 : Base} {w : World} {N kp : Nat} {σ : Nat → RefI} {s : S} {tms : Array Value} {ρ : Operand → Value} {al : Nat → Prop}
mutual
def meltD (r : Nat) : A → A
  | .c k x => if scalarK k then .c k x else .unk
  | .rg id k x => if id == r then .c k x else .unk
  | .agg xs => .agg (meltDs r xs)
  | .nilsl => .nilsl
  | _ => .unk
def meltDs (r : Nat) : List A → List A
  | [] => []
  | a :: as => meltD r a :: meltDs r as
end
end Go.AE
/-
  A slice of pointers to boxes' cells: measured, indexed at a known place.
-/
set_option linter.unusedVariables false
namespace Go.AE
open Go.RowKit (Below)
variable {P : Program} {w0 : Base} {w : World} {N kp : Nat} {σ : Nat → RefI} {s : S} {tms : Array Value} {ρ : Operand → Value} {al : Nat → Prop}
end Go.AE
/-
  Slices that are known to be nil, within a made row; a row's cell that is lent while it is nil.
-/
set_option linter.unusedVariables false
namespace Go.AE
open Go.RowKit (Below)
variable {P : Program} {w0 : Base} {w : World} {N kp : Nat} {σ : Nat → RefI} {s : S} {tms : Array Value} {ρ : Operand → Value} {al : Nat → Prop}
end Go.AE
/-
  Zero bytes appended to a row of the caller's own ('append(b, make([]byte, n)...)').
-/
set_option linter.unusedVariables false
set_option linter.unusedSimpArgs false
namespace Go.AE
open Go.RowKit (Below)
variable {P : Program} {w0 : Base} {w : World} {N kp : Nat} {σ : Nat → RefI} {s : S} {tms : Array Value} {ρ : Operand → Value} {al : Nat → Prop}
end Go.AE
/-
  Regions that draw their order, where one operation waits for all others: it may be of any kind.
-/
set_option linter.unusedVariables false
namespace Go.AE
open Go.RowKit (Below)
variable {P : Program} {w0 : Base} {w : World} {N kp : Nat} {s : S} {Γ : List Fn} {R : Nat → Option Bool} {bx : Nat → Foot} {lt : Nat → Bool}
def qOpL (P : Program) (Γ : List Fn) (R : Nat → Option Bool) (bx : Nat → Foot) (N : Nat) (lt : Nat → Bool) (ops : Array Oper) (i : Nat) (K : S → Prop) (s : S) : Prop :=
  match ops[i]? with
  | none => K s
  | some o => if lt i = true then StepOk P N ops.toList o s K else stepQ P Γ R bx ops.toList i o s K
theorem qOpL_mono {ops : Array Oper} {i : Nat} {K K' : S → Prop} (hK : ∀ s, K s → K' s) (h : qOpL P Γ R bx N lt ops i K s) : qOpL P Γ R bx N lt ops i K' s := by
  unfold qOpL at *
  split
  · rename_i ho; rw [ho] at h; exact hK _ h
  · rename_i o ho
    rw [ho] at h
    dsimp only at h
    split at h
    · rename_i hl
      rw [if_pos hl]
      exact StepOk.mono h hK
    · rename_i hl
      rw [if_neg hl]
      exact stepQ_mono hK h
def wpOpsL (P : Program) (Γ : List Fn) (R : Nat → Option Bool) (bx : Nat → Foot) (N : Nat) (lt : Nat → Bool) (ops : Array Oper) : List Nat → S → (S → Prop) → Prop
  | [], s, Q => Q s
  | i :: is, s, Q => qOpL P Γ R bx N lt ops i (fun s' => wpOpsL P Γ R bx N lt ops is s' Q) s
def wpAnyL (P : Program) (Γ : List Fn) (R : Nat → Option Bool) (bx : Nat → Foot) (N : Nat) (lt : Nat → Bool) (md : Region.Mode) (ops : Array Oper) (Q : S → Prop) : Nat → Array Bool → S → Prop
  | 0, listed, s => Region.ready md ops listed = [] ∧ Q s
  | fuel + 1, listed, s =>
    (Region.ready md ops listed = [] → Q s) ∧ ∀ i ∈ Region.ready md ops listed, qOpL P Γ R bx N lt ops i (wpAnyL P Γ R bx N lt md ops Q fuel (listed.setIfInBounds i true)) s
theorem qOpL_swap {ops : Array Oper} {i j : Nat} {oi oj : Oper} {K : S → Prop} (hi : ops[i]? = some oi) (hj : ops[j]? = some oj) (hap : oi.apart ops oj = true) (hcm : compat2 (bx i) (bx j) = true) (hli : lt i = false) (hlj : lt j = false) (h : qOpL P Γ R bx N lt ops i (fun s' => qOpL P Γ R bx N lt ops j K s') s) :
    qOpL P Γ R bx N lt ops j (fun s' => qOpL P Γ R bx N lt ops i K s') s := by
  unfold qOpL at *
  simp only [hi, hj, hli, hlj, Bool.false_eq_true, if_false] at *
  exact stepQ_swap (by simpa using hap) hcm h
theorem wpAnyL_first {md : Region.Mode} {ops : Array Oper} {Q : S → Prop} {i : Nat} {oi : Oper} (hi : ops[i]? = some oi) {D : Nat → Bool}
    (hDe : ∀ j, D j = true → j ≠ i → ∃ oj e, ops[j]? = some oj ∧ e ∈ oj.after ∧ Region.binds md e = true ∧ D e.on = true) :
    ∀ (fuel : Nat) (listed : Array Bool) (s : S), (∀ j, D j = true → listed.getD j true = false) →
      (∀ j oj, ops[j]? = some oj → j ≠ i → listed.getD j true = false → D j = false → oi.apart ops oj = true ∧ compat2 (bx i) (bx j) = true ∧ lt i = false ∧ lt j = false) →
      i ∈ Region.ready md ops listed → qOpL P Γ R bx N lt ops i (wpAnyL P Γ R bx N lt md ops Q fuel (listed.setIfInBounds i true)) s → wpAnyL P Γ R bx N lt md ops Q (fuel + 1) listed s := by
  intro fuel
  induction fuel with
  | zero =>
    intro listed s hDl hfree hr H
    refine ⟨fun h => (by rw [h] at hr; cases hr), fun j hj => ?_⟩
    by_cases hji : j = i
    · subst hji; exact H
    · have h1 := ready_mono hj hji
      obtain ⟨hjun, oj, hoj, hall⟩ := mem_ready.1 hj
      have hDj : D j = false := by
        cases hd : D j with
        | false => rfl
        | true =>
          obtain ⟨oj', e, hoj', he, hb, hde⟩ := hDe j hd hji
          rw [hoj] at hoj'; cases hoj'
          have h1 := hall e he hb
          have h0 := hDl e.on hde
          rcases Nat.lt_or_ge e.on listed.size with h' | h'
          · simp [h'] at h0 h1; rw [h0] at h1; cases h1
          · simp [Array.getElem?_eq_none h'] at h1
      obtain ⟨_, _, hli, _⟩ := hfree j oj hoj hji hjun hDj
      unfold qOpL at H
      simp only [hi, hli, Bool.false_eq_true, if_false] at H
      unfold stepQ at H
      split at H
      · exact H.elim
      · have := H.2.2.1
        rw [this] at h1; cases h1
  | succ fuel ih =>
    intro listed s hDl hfree hr H
    refine ⟨fun h => (by rw [h] at hr; cases hr), fun j hj => ?_⟩
    by_cases hji : j = i
    · subst hji; exact H
    · obtain ⟨hjun, oj, hoj, hall⟩ := mem_ready.1 hj
      have hDj : D j = false := by
        cases hd : D j with
        | false => rfl
        | true =>
          obtain ⟨oj', e, hoj', he, hb, hde⟩ := hDe j hd hji
          rw [hoj] at hoj'; cases hoj'
          have h1 := hall e he hb
          have h0 := hDl e.on hde
          rcases Nat.lt_or_ge e.on listed.size with h' | h'
          · simp [h'] at h0 h1; rw [h0] at h1; cases h1
          · simp [Array.getElem?_eq_none h'] at h1
      obtain ⟨hap, hcm, hli, hlj⟩ := hfree j oj hoj hji hjun hDj
      have H' : qOpL P Γ R bx N lt ops i (fun s' => qOpL P Γ R bx N lt ops j (wpAnyL P Γ R bx N lt md ops Q fuel ((listed.setIfInBounds i true).setIfInBounds j true)) s') s :=
        qOpL_mono (fun s' h => h.2 j (ready_mono hj hji)) H
      have H2 := qOpL_swap hi hoj hap hcm hli hlj H'
      have hfree' : ∀ k ok, ops[k]? = some ok → k ≠ i → (listed.setIfInBounds j true).getD k true = false →
          D k = false → oi.apart ops ok = true ∧ compat2 (bx i) (bx k) = true ∧ lt i = false ∧ lt k = false := fun k ok hk hki hun hno => by
        refine hfree k ok hk hki ?_ hno
        by_cases hjk : j = k
        · subst hjk; exact hjun
        · rw [getD_set_ne true hjk] at hun; exact hun
      have hDl' : ∀ k, D k = true → (listed.setIfInBounds j true).getD k true = false := fun k hk => by
        have hjk : j ≠ k := fun e => by subst e; rw [hk] at hDj; cases hDj
        rw [getD_set_ne true hjk]; exact hDl k hk
      refine qOpL_mono (fun s' h3 => ih (listed.setIfInBounds j true) s' hDl' hfree' (ready_mono hr (Ne.symm hji)) ?_) H2
      rw [Array.setIfInBounds_comm _ _ hji]
      exact h3
def freeL (bx : Nat → Foot) (lt : Nat → Bool) (md : Region.Mode) (ops : Array Oper) (listed : Array Bool) (k : Nat) : Bool :=
  freeQ bx md ops listed k && (List.range ops.size).all fun j => j == k || (listed.getD j true || (depD md ops listed k 8 j || (!lt k && !lt j)))
theorem freeL_spec {md : Region.Mode} {ops : Array Oper} {listed : Array Bool} {k : Nat} {ok : Oper} (hk : ops[k]? = some ok) (h : freeL bx lt md ops listed k = true) :
    ∀ j oj, ops[j]? = some oj → j ≠ k → listed.getD j true = false → depD md ops listed k 8 j = false → ok.apart ops oj = true ∧ compat2 (bx k) (bx j) = true ∧ lt k = false ∧ lt j = false := by
  unfold freeL at h
  simp only [Bool.and_eq_true, List.all_eq_true, List.mem_range] at h
  intro j oj hj hjk hl hd
  have h1 := freeQ_spec hk h.1 j oj hj hjk hl hd
  have h2 := h.2 j (Array.getElem?_eq_some_iff.1 hj).1
  simp only [hd, Bool.or_eq_true, beq_iff_eq, hjk, false_or, hl, Bool.false_eq_true, Bool.and_eq_true, Bool.not_eq_true'] at h2
  exact ⟨h1.1, h1.2, h2.1, h2.2⟩
def lexFromL (bx : Nat → Foot) (lt : Nat → Bool) (md : Region.Mode) (ops : Array Oper) : List Nat → Array Bool → Bool
  | [], listed => (Region.ready md ops listed).isEmpty
  | k :: ks, listed => ((Region.ready md ops listed).contains k && freeL bx lt md ops listed k) && lexFromL bx lt md ops ks (listed.setIfInBounds k true)
def regOkL (bx : Nat → Foot) (lt : Nat → Bool) (N : Nat) (ops : Array Oper) (ord : List Nat) : Bool := ops.toList.all (operOk N) && lexFromL bx lt .any ops ord (Array.replicate ops.size false)
theorem wpAnyL_lex {md : Region.Mode} {ops : Array Oper} {Q : S → Prop} : ∀ (ks : List Nat) (listed : Array Bool) (s : S),
    lexFromL bx lt md ops ks listed = true → wpOpsL P Γ R bx N lt ops ks s Q → wpAnyL P Γ R bx N lt md ops Q ks.length listed s
  | [], _, _, hB, h => ⟨by simpa [lexFromL] using hB, h⟩
  | k :: ks, listed, s, hB, h => by
    simp only [lexFromL, Bool.and_eq_true] at hB
    obtain ⟨⟨hr, hf⟩, hB'⟩ := hB
    cases h0 : ops[k]? with
    | none => simp [freeL, freeQ, h0] at hf
    | some o =>
      refine wpAnyL_first h0 (D := depD md ops listed k 8) (fun j hd hj => depD_edge hd hj) ks.length listed s (fun j hd => depD_un hd) (freeL_spec h0 hf) (by simpa using hr) ?_
      exact qOpL_mono (fun s' h' => wpAnyL_lex ks _ s' hB' h') h
theorem wpAnyL_sound {md : Region.Mode} {ops : Array Oper} {Q : S → Prop} {Q' : Exit → Act → World → Prop} {a0 : Act} (h00 : tyI P 0 = none) (hΓ : ∀ g, g ∈ Γ → Contract P g) (hok : ∀ o, o ∈ ops.toList → operOk N o = true)
    (hQ : ∀ s' a' w', a'.defers = a0.defers → Rel P w0 N s' a'.tmps w' → Q s' → Q' .normal a' w') :
    ∀ (fuel : Nat) (listed : Array Bool) (s : S) (a : Act) (w : World), a.defers = a0.defers → wpAnyL P Γ R bx N lt md ops Q fuel listed s → Rel P w0 N s a.tmps w → wpAny P md ops Q' fuel listed a w
  | 0, _, s, a, w, hd, h, hR => ⟨h.1, hQ s a w hd hR h.2⟩
  | fuel + 1, listed, s, a, w, hd, h, hR => by
    refine ⟨fun h0 => hQ s a w hd hR (h.1 h0), fun i hi => ?_⟩
    have h1 := h.2 i hi
    unfold qOpL at h1
    unfold wpOp
    cases ho : ops[i]? with
    | none =>
      simp only [ho] at h1 ⊢
      exact wpAnyL_sound h00 hΓ hok hQ fuel _ s a w hd h1 hR
    | some o =>
      simp only [ho] at h1 ⊢
      have hm : o ∈ ops.toList := by
        obtain ⟨hlt, e⟩ := Array.getElem?_eq_some_iff.1 ho
        rw [← e]; simp
      have hst : StepOk P N ops.toList o s (wpAnyL P Γ R bx N lt md ops Q fuel (listed.setIfInBounds i true)) := by
        split at h1
        · exact h1
        · exact stepQ_ok h00 hΓ (hok o hm) h1
      obtain ⟨k1, k2⟩ := hst w0 a w hR
      have ih : ∀ s' a' w', a'.defers = a.defers → wpAnyL P Γ R bx N lt md ops Q fuel (listed.setIfInBounds i true) s' → Rel P w0 N s' a'.tmps w' → wpAny P md ops Q' fuel (listed.setIfInBounds i true) a' w' := fun s' a' w' hdf hK hR' =>
        wpAnyL_sound h00 hΓ hok hQ fuel _ s' a' w' (hdf.trans hd) hK hR'
      simp only [Array.toArray_toList] at k1 k2
      cases hw : Region.wanted o (yielded ops a.tmps) with
      | true => exact .inl (k1 hw _ _ (fun s' a' w' h1 h2 h3 => ih s' a' w' h1 h2 h3))
      | false =>
        obtain ⟨s', h2, h3⟩ := k2 hw
        exact ih s' _ _ (put_defers _ _ _) h2 h3
theorem wpOpsX_one {ops : List Oper} {o : Oper} {Q : S → Prop} (h00 : tyI P 0 = none) (hΓ : ∀ g, g ∈ Γ → Contract P g) (ho : operOk N o = true) (h : wpOpsX P Γ [(gdst ops o, o)] s Q) : StepOk P N ops o s Q := by
  simp only [wpOpsX] at h
  rcases h with h | h | h | h | h | h | h | ⟨st, hs, h⟩ | ⟨st, hs, j, want, hg, hgt, h⟩
  · exact stepG_ok h00 hΓ ho h
  · exact stepX_ok ho h
  · exact stepN_ok ho h
  · exact stepM_ok h00 ho h
  · exact stepT_ok h00 hΓ ho h
  · exact stepF_ok ho h
  · exact stepP_ok ho h
  · exact hs _ _ _ _ _ ho h
  · have hU := hs N ops (unguard o) s _ ho h
    intro w0 a w hR
    have hR0 := hR
    obtain ⟨σ, hR'⟩ := hR
    have hw := guardOf_sound hR' hg ((guardOf_gdst hg s.tm).trans hgt)
    refine ⟨fun _ K' Q hq => ?_, fun hw' => by rw [hw] at hw'; cases hw'⟩
    exact (hU w0 a w hR0).1 (wanted_none rfl) K' Q hq
theorem wpOpsL_last {ops : Array Oper} {c : Nat} {Q1 Q : S → Prop} (hc : ∀ s', Q1 s' → qOpL P Γ R bx N lt ops c Q s') : ∀ (ord : List Nat) (s : S), (∀ i ∈ ord, lt i = false) → wpOpsQ P Γ R bx ops ord s Q1 → wpOpsL P Γ R bx N lt ops (ord ++ [c]) s Q
  | [], s, _, h => hc s h
  | i :: is, s, hl, h => by
    simp only [List.cons_append, wpOpsL, wpOpsQ] at h ⊢
    unfold qOp at h
    unfold qOpL
    cases ho : ops[i]? with
    | none =>
      rw [ho] at h
      exact wpOpsL_last hc is s (fun j hj => hl j (by simp [hj])) h
    | some o =>
      rw [ho] at h
      dsimp only at h ⊢
      rw [if_neg (by rw [hl i (by simp)]; simp)]
      exact stepQ_mono (fun s' h' => wpOpsL_last hc is s' (fun j hj => hl j (by simp [hj])) h') h
theorem Sm.regL {id : Nat} {ops : Array Oper} {Q : Exit → S → Prop} (h00 : tyI P 0 = none) (hm : P.follows .mixedOrders = true) (hΓ : ∀ g, g ∈ Γ → Contract P g) (ord : List Nat) (c : Nat) (Rl : List (Option Bool × Foot))
    (hok : regOkL (fun i => (Rl.getD i (none, [], [])).2) (fun i => i == c) N ops (ord ++ [c]) = true) (hlen : ord.length + 1 = ops.size) (hno : ord.all (fun i => !(i == c)) = true) {oc : Oper} (hoc : ops[c]? = some oc)
    (h : wpOpsHQ P Γ (inOrd ops.toList Rl ord) s (fun s' => wpOpsX P Γ [(gdst ops.toList oc, oc)] s' (Q .normal))) : Sm P N kp (.region id ops true) s Q := by
  intro r w0 Q' a w hk hr hd hR hQ
  simp only [regOkL, Bool.and_eq_true, List.all_eq_true] at hok
  have hw := wpOps_HQ ops Rl ord s h
  have hm' : oc ∈ ops.toList := by
    obtain ⟨hlt, e⟩ := Array.getElem?_eq_some_iff.1 hoc
    rw [← e]; simp
  have hL : wpOpsL P Γ (fun i => (Rl.getD i (none, [], [])).1) (fun i => (Rl.getD i (none, [], [])).2) N (fun i => i == c) ops (ord ++ [c]) s (Q .normal) := by
    refine wpOpsL_last (fun s' hs' => ?_) ord s (fun i hi => by have := List.all_eq_true.1 hno i hi; simpa using this) hw
    unfold qOpL
    rw [hoc]
    dsimp only
    rw [if_pos (by simp)]
    exact wpOpsX_one h00 hΓ (hok.1 oc hm') hs'
  refine cw_region_any hm (operOk_noDefer hok.1) ?_
  obtain ⟨σ, hR'⟩ := hR
  have hR2 : Rel P w0 N s a.tmps { w with drawn := w.drawn + 1 } := ⟨σ, hR'.world (Below.refl _ _).drew⟩
  have hA := wpAnyL_lex (md := .any) (ord ++ [c]) (Array.replicate ops.size false) s hok.2 hL
  have := wpAnyL_sound (Q' := shutQ Q') h00 hΓ hok.1 (fun s' a' w' h1 h2 h3 => ⟨by simp, hQ _ _ _ _ _ (Ext.refl _) (h1 ▸ hd) h2 h3⟩) (ord ++ [c]).length _ s a _ rfl hA hR2
  rw [List.length_append, List.length_singleton, hlen] at this
  simpa using this
variable {l : List ((Option Bool × Foot) × Option Nat × Oper)}
theorem eL {id : Nat} {ops : Array Oper} {Q : Exit → S → Prop} {oc : Oper} (ord : List Nat) (c : Nat) (Rl : List (Option Bool × Foot)) (h : wpOpsHQ P Γ l s (fun s' => wpOpsX P Γ [(none, oc)] s' (Q .normal)))
    (hoc : ops[c]? = some oc := by rfl) (hgd : gdst ops.toList oc = none := by rfl) (h1 : tyI P 0 = none := by exact h00) (h2 : P.follows .mixedOrders = true := by exact mixed) (h3 : ∀ g, g ∈ Γ → Contract P g := by exact hΓ)
    (hok : regOkL (fun i => (Rl.getD i (none, [], [])).2) (fun i => i == c) N ops (ord ++ [c]) = true := by kernel_rfl) (hlen : ord.length + 1 = ops.size := by rfl) (hno : ord.all (fun i => !(i == c)) = true := by rfl)
    (h5 : ∀ K : List ((Option Bool × Foot) × Option Nat × Oper) → Prop, K l → K (inOrd ops.toList Rl ord) := by intro K hK; simp only [rs]; exact hK) : Sm P N kp (.region id ops true) s Q :=
  Sm.regL h1 h2 h3 ord c Rl hok hlen hno hoc (h5 (fun l => wpOpsHQ P Γ l s _) (by rw [hgd]; exact h))
end Go.AE
/-
  Regions that draw their order: quiet operations first, the rest in every order; some of the rest may be of any kind.
-/
set_option linter.unusedVariables false
namespace Go.AE
open Go.RowKit (Below)
variable {P : Program} {w0 : Base} {w : World} {N kp : Nat} {s : S} {Γ : List Fn} {R : Nat → Option Bool} {bx : Nat → Foot} {lt : Nat → Bool}
def lexPre (bx : Nat → Foot) (lt : Nat → Bool) (md : Region.Mode) (ops : Array Oper) : List Nat → Array Bool → Bool
  | [], _ => true
  | k :: ks, listed => ((Region.ready md ops listed).contains k && (freeL bx lt md ops listed k && !lt k)) && lexPre bx lt md ops ks (listed.setIfInBounds k true)
def marks : List Nat → Array Bool → Array Bool
  | [], l => l
  | k :: ks, l => marks ks (l.setIfInBounds k true)
theorem wpAnyL_pre {md : Region.Mode} {ops : Array Oper} {Q : S → Prop} {m : Nat} : ∀ (ks : List Nat) (listed : Array Bool) (s : S), lexPre bx lt md ops ks listed = true →
    wpOpsQ P Γ R bx ops ks s (fun s' => wpAnyL P Γ R bx N lt md ops Q m (marks ks listed) s') → wpAnyL P Γ R bx N lt md ops Q (ks.length + m) listed s
  | [], _, _, _, h => by simpa [marks, wpOpsQ] using h
  | k :: ks, listed, s, hB, h => by
    simp only [lexPre, Bool.and_eq_true, Bool.not_eq_true'] at hB
    obtain ⟨⟨hr, hf, hl⟩, hB'⟩ := hB
    cases h0 : ops[k]? with
    | none => simp [freeL, freeQ, h0] at hf
    | some o =>
      rw [show (k :: ks).length + m = (ks.length + m) + 1 by simp; omega]
      refine wpAnyL_first h0 (D := depD md ops listed k 8) (fun j hd hj => depD_edge hd hj) (ks.length + m) listed s (fun j hd => depD_un hd) (freeL_spec h0 hf) (by simpa using hr) ?_
      simp only [wpOpsQ] at h
      unfold qOp at h
      unfold qOpL
      rw [h0] at h ⊢
      dsimp only at h ⊢
      rw [if_neg (by rw [hl]; simp)]
      exact stepQ_mono (fun s' h' => wpAnyL_pre ks _ s' hB' h') h
def nextL (P : Program) (Γ : List Fn) (Rl : List (Option Bool × Foot)) (N : Nat) (lt : Nat → Bool) (ops : Array Oper) (s : S) (i : Nat) (K : S → Prop) : Prop :=
  match ops[i]? with
  | some o => bif lt i then wpOpsX P Γ [(gdst ops.toList o, o)] s K else wpOpsHQ P Γ [(Rl.getD i (none, [], []), gdst ops.toList o, o)] s K
  | none => False
def nextsL (P : Program) (Γ : List Fn) (Rl : List (Option Bool × Foot)) (N : Nat) (lt : Nat → Bool) (ops : Array Oper) (s : S) (K : Nat → S → Prop) : List Nat → Prop
  | [] => True
  | i :: is => nextL P Γ Rl N lt ops s i (K i) ∧ nextsL P Γ Rl N lt ops s K is
theorem nextL_ok {Rl : List (Option Bool × Foot)} {ops : Array Oper} {i : Nat} {K : S → Prop} (h00 : tyI P 0 = none) (hΓ : ∀ g, g ∈ Γ → Contract P g) (hok : ∀ o, o ∈ ops.toList → operOk N o = true) (h : nextL P Γ Rl N lt ops s i K) :
    qOpL P Γ (fun i => (Rl.getD i (none, [], [])).1) (fun i => (Rl.getD i (none, [], [])).2) N lt ops i K s := by
  unfold nextL at h
  unfold qOpL
  cases ho : ops[i]? with
  | none => rw [ho] at h; exact h.elim
  | some o =>
    rw [ho] at h
    dsimp only at h ⊢
    have hm : o ∈ ops.toList := by
      obtain ⟨hlt, e⟩ := Array.getElem?_eq_some_iff.1 ho
      rw [← e]; simp
    cases hl : lt i with
    | true =>
      rw [hl, cond_true] at h
      rw [if_pos rfl]
      exact wpOpsX_one h00 hΓ (hok o hm) h
    | false =>
      rw [hl, cond_false] at h
      rw [if_neg (by simp)]
      have := wpOps_HQ (P := P) (Γ := Γ) ops Rl [i] s (Q := K) (by simp only [inOrd, Array.getElem?_toList, ho]; exact h)
      simp only [wpOpsQ, qOp, ho] at this
      exact this
theorem nextsL_mem {Rl : List (Option Bool × Foot)} {ops : Array Oper} {K : Nat → S → Prop} {i : Nat} : ∀ {l : List Nat}, nextsL P Γ Rl N lt ops s K l → i ∈ l → nextL P Γ Rl N lt ops s i (K i)
  | j :: l, h, hi => by
    rcases List.mem_cons.1 hi with rfl | hi
    · exact h.1
    · exact nextsL_mem h.2 hi
theorem wpAnyL_node {Rl : List (Option Bool × Foot)} {ops : Array Oper} {Q : S → Prop} {n : Nat} {listed : Array Bool} (h00 : tyI P 0 = none) (hΓ : ∀ g, g ∈ Γ → Contract P g) (hok : ∀ o, o ∈ ops.toList → operOk N o = true) (i : Nat) (l : List Nat) (hr : Region.ready .any ops listed = i :: l)
    (h : nextsL P Γ Rl N lt ops s (fun j => wpAnyL P Γ (fun i => (Rl.getD i (none, [], [])).1) (fun i => (Rl.getD i (none, [], [])).2) N lt .any ops Q n (listed.setIfInBounds j true)) (i :: l)) :
    wpAnyL P Γ (fun i => (Rl.getD i (none, [], [])).1) (fun i => (Rl.getD i (none, [], [])).2) N lt .any ops Q (n + 1) listed s := by
  unfold wpAnyL
  refine ⟨fun e => ?_, fun j hj => ?_⟩
  · rw [hr] at e; cases e
  · rw [hr] at hj; exact nextL_ok h00 hΓ hok (nextsL_mem h hj)
def restL (P : Program) (Γ : List Fn) (Rl : List (Option Bool × Foot)) (N : Nat) (lts : List Nat) (ops : Array Oper) (Q : S → Prop) (n : Nat) (listed : Array Bool) (s : S) : Prop :=
  wpAnyL P Γ (fun i => (Rl.getD i (none, [], [])).1) (fun i => (Rl.getD i (none, [], [])).2) N (fun i => lts.contains i) .any ops Q n listed s
theorem restL0 {Rl : List (Option Bool × Foot)} {lts : List Nat} {ops : Array Oper} {Q : S → Prop} {listed : Array Bool} (h : Q s) (hr : Region.ready .any ops listed = [] := by kernel_rfl) : restL P Γ Rl N lts ops Q 0 listed s := ⟨hr, h⟩
theorem restL_node {Rl : List (Option Bool × Foot)} {lts : List Nat} {ops : Array Oper} {Q : S → Prop} {n : Nat} {listed : Array Bool} (i : Nat) (l : List Nat)
    (h : nextsL P Γ Rl N (fun i => lts.contains i) ops s (fun j => restL P Γ Rl N lts ops Q n (listed.setIfInBounds j true)) (i :: l))
    (hr : Region.ready .any ops listed = i :: l := by kernel_rfl) (h1 : tyI P 0 = none := by exact h00) (h3 : ∀ g, g ∈ Γ → Contract P g := by exact hΓ) (hok : ops.toList.all (operOk N) = true := by kernel_rfl) : restL P Γ Rl N lts ops Q (n + 1) listed s :=
  wpAnyL_node h1 h3 (List.all_eq_true.1 hok) i l hr h
theorem nextX {Rl : List (Option Bool × Foot)} {lts : List Nat} {ops : Array Oper} {i : Nat} {l : List Nat} {o : Oper} {K : Nat → S → Prop} (h : wpOpsX P Γ [(none, o)] s (K i)) (h2 : nextsL P Γ Rl N (fun i => lts.contains i) ops s K l) (ho : ops[i]? = some o := by rfl) (hg : gdst ops.toList o = none := by rfl) (hl : lts.contains i = true := by rfl) :
    nextsL P Γ Rl N (fun i => lts.contains i) ops s K (i :: l) := by
  refine ⟨?_, h2⟩
  unfold nextL
  rw [ho]
  dsimp only
  rw [hl, cond_true, hg]
  exact h
theorem nextQ {Rl : List (Option Bool × Foot)} {lts : List Nat} {ops : Array Oper} {i : Nat} {l : List Nat} {o : Oper} {r : Option Bool × Foot} {K : Nat → S → Prop} (h : wpOpsHQ P Γ [(r, none, o)] s (K i)) (h2 : nextsL P Γ Rl N (fun i => lts.contains i) ops s K l) (ho : ops[i]? = some o := by rfl) (hg : gdst ops.toList o = none := by rfl) (hr : Rl.getD i (none, [], []) = r := by rfl) (hl : lts.contains i = false := by rfl) :
    nextsL P Γ Rl N (fun i => lts.contains i) ops s K (i :: l) := by
  refine ⟨?_, h2⟩
  unfold nextL
  rw [ho]
  dsimp only
  rw [hl, cond_false, hg, hr]
  exact h
theorem Sm.regP {id : Nat} {ops : Array Oper} {Q : Exit → S → Prop} (h00 : tyI P 0 = none) (hm : P.follows .mixedOrders = true) (hΓ : ∀ g, g ∈ Γ → Contract P g) (ord : List Nat) (m : Nat) (lts : List Nat) (Rl : List (Option Bool × Foot))
    (hok : ops.toList.all (operOk N) = true) (hpre : lexPre (fun i => (Rl.getD i (none, [], [])).2) (fun i => lts.contains i) .any ops ord (Array.replicate ops.size false) = true) (hlen : ord.length + m = ops.size)
    (h : wpOpsHQ P Γ (inOrd ops.toList Rl ord) s (restL P Γ Rl N lts ops (Q .normal) m (marks ord (Array.replicate ops.size false)))) : Sm P N kp (.region id ops true) s Q := by
  intro r w0 Q' a w hk hr hd hR hQ
  simp only [List.all_eq_true] at hok
  have hw := wpOps_HQ ops Rl ord s h
  refine cw_region_any hm (operOk_noDefer hok) ?_
  obtain ⟨σ, hR'⟩ := hR
  have hR2 : Rel P w0 N s a.tmps { w with drawn := w.drawn + 1 } := ⟨σ, hR'.world (Below.refl _ _).drew⟩
  have hA := wpAnyL_pre (md := .any) ord (Array.replicate ops.size false) s hpre hw
  have := wpAnyL_sound (Q' := shutQ Q') h00 hΓ hok (fun s' a' w' h1 h2 h3 => ⟨by simp, hQ _ _ _ _ _ (Ext.refl _) (h1 ▸ hd) h2 h3⟩) (ord.length + m) _ s a _ rfl hA hR2
  rw [hlen] at this
  simpa using this
variable {b : Code} {l : List ((Option Bool × Foot) × Option Nat × Oper)}
theorem sP {id : Nat} {ops : Array Oper} {Q : Exit → S → Prop} (ord : List Nat) (m : Nat) (lts : List Nat) (Rl : List (Option Bool × Foot)) (h : ∀ K : S → Prop, (∀ s', Sm P N kp b s' Q → K s') → wpOpsHQ P Γ l s (restL P Γ Rl N lts ops K m (marks ord (Array.replicate ops.size false))))
    (h1 : tyI P 0 = none := by exact h00) (h2 : P.follows .mixedOrders = true := by exact mixed) (h3 : ∀ g, g ∈ Γ → Contract P g := by exact hΓ)
    (hok : ops.toList.all (operOk N) = true := by kernel_rfl) (hpre : lexPre (fun i => (Rl.getD i (none, [], [])).2) (fun i => lts.contains i) .any ops ord (Array.replicate ops.size false) = true := by kernel_rfl) (hlen : ord.length + m = ops.size := by rfl)
    (h5 : ∀ K : List ((Option Bool × Foot) × Option Nat × Oper) → Prop, K l → K (inOrd ops.toList Rl ord) := by intro K hK; simp only [rs]; exact hK) : Sm P N kp (.seq (.region id ops true) b) s Q :=
  Sm.seq (Sm.regP h1 h2 h3 ord m lts Rl hok hpre hlen (h5 (fun l => wpOpsHQ P Γ l s _) (h _ (fun _ h => h))))
end Go.AE
