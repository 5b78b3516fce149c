/- Text. -/
import Derived.Test.YtfhnelkbiihpiaaGreatDoorAE30
set_option linter.unusedSimpArgs false
set_option linter.unusedVariables false
set_option linter.unusedVariables false
namespace Go.AE
open Go.RowKit (Below)
variable {P : Program} {w0 : Base} {w : World} {N kp : Nat} {σ : Nat → RefI} {s : S} {tms : Array Value} {ρ : Operand → Value} {al : Nat → Prop} {Γ : List Fn}
def pickR (tm : Nat → A) (hp : Nat → Blk) (k : Bool) (g : Option (Nat × Bool)) (go : Option Bool) (c a b : Operand) : Option (Prop × Prop × A × (Nat → Blk)) :=
  match g with
  | none => match plainTm tm c with
    | .c .bool x => some (x.toBool = k ∧ (allNeeds tm [c] ∧ allNeeds tm [match k with | true => a | false => b]), True, plainTm tm (match k with | true => a | false => b), hp)
    | _ => none
  | some _ => match go with
    | some g => some ((match g with | true => (match plainTm tm c with | .c .bool x => x.toBool = k ∧ (allNeeds tm [c] ∧ allNeeds tm [match k with | true => a | false => b]) | _ => False) | false => True), True, (match g with | true => plainTm tm (match k with | true => a | false => b) | false => .when false (.c .bool (.bool false))), hp)
    | none => none
def guardR (P : Program) (tm : Nat → A) (hp : Nat → Blk) (k : Bool) (g : Option Bool) (e : Option (Prop × Prop × A × (Nat → Blk))) : Option (Prop × Prop × A × (Nat → Blk)) :=
  match g with
  | some g => match k with
    | true => match e with
      | some q => some (g = true ∧ q.1, q.2)
      | none => none
    | false => some (g = false, True, .when false (.c .bool (.bool false)), hp)
  | none => none
def effR (P : Program) (Γ : List Fn) (r : Option Bool) (ops : List Oper) (o : Oper) (tm : Nat → A) (hp : Nat → Blk) : Option (Prop × Prop × A × (Nat → Blk)) :=
  match r with
  | none => eff P Γ ops o tm hp
  | some k => match o.op with
    | .pick c a b => pickR tm hp k o.guard (match o.guard with | some (j, want) => guardOf ops tm j want | none => none) c a b
    | _ => match o.guard with
      | some (j, want) => guardR P tm hp k (guardOf ops tm j want) (eff P Γ ops (unguard o) tm hp)
      | none => none
def effRG (P : Program) (Γ : List Fn) (r : Option Bool) (gd : Option Nat) (o : Oper) (tm : Nat → A) (hp : Nat → Blk) : Option (Prop × Prop × A × (Nat → Blk)) :=
  match r with
  | none => effG P Γ gd o tm hp
  | some k => match o.op with
    | .pick c a b => pickR tm hp k o.guard (match o.guard with | some (_, want) => guardT tm gd want | none => none) c a b
    | _ => match o.guard with
      | some (_, want) => guardR P tm hp k (guardT tm gd want) (effG P Γ none (unguard o) tm hp)
      | none => none
end Go.AE
/-
  Which blocks an operation reads and which it turns: operations apart go in either order.
-/
set_option linter.unusedVariables false
namespace Go.AE
open Go.RowKit (Below)
variable {P : Program} {Γ : List Fn}
mutual
def idsA : A → List Nat
  | .own id _ _ _ => [id]
  | .box id _ => [id]
  | .bsl id _ => [id]
  | .elt id _ _ _ _ => [id]
  | .mref id => [id]
  | .agg xs => idsAs xs
  | .tup xs => idsAs xs
  | .fnv _ xs => idsAs xs
  | .rg id _ _ => [id]
  | .rp id _ _ _ => [id]
  | _ => []
def idsAs : List A → List Nat
  | [] => []
  | a :: as => idsA a ++ idsAs as
end
section
variable {hp hp' : Nat → Blk}
mutual
theorem meltH_c : ∀ {a : A}, (∀ k ∈ idsA a, hp' k = hp k) → meltH hp' a = meltH hp a
  | .rg id k x, h => by simp only [meltH]; rw [h id (by simp [idsA])]
  | .agg xs, h => by simp only [meltH]; rw [meltHs_c (fun k hk => h k (by simpa [idsA] using hk))]
  | .unk, _ => rfl
  | .c _ _, _ => rfl
  | .nilsl, _ => rfl
  | .tup _, _ => rfl
  | .own _ _ _ _, _ => rfl
  | .box _ _, _ => rfl
  | .elt _ _ _ _ _, _ => rfl
  | .pp _ _ _, _ => rfl
  | .fnv _ _, _ => rfl
  | .mref _, _ => rfl
  | .when _ _, _ => rfl
  | .rp _ _ _ _, _ => rfl
  | .bsl _ _, _ => rfl
theorem meltHs_c : ∀ {as : List A}, (∀ k ∈ idsAs as, hp' k = hp k) → meltHs hp' as = meltHs hp as
  | [], _ => rfl
  | a :: as, h => by
    simp only [meltHs]
    rw [meltH_c (fun k hk => h k (by simp [idsAs, hk])), meltHs_c (fun k hk => h k (by simp [idsAs, hk]))]
end
structure Loc (W : List Nat) (hp hp' hp1 hp1' : Nat → Blk) : Prop where
  inW : ∀ k, k ∈ W → hp1' k = hp1 k
  out : ∀ k, k ∉ W → hp1 k = hp k
  out' : ∀ k, k ∉ W → hp1' k = hp' k
variable {W : List Nat} {hp1 hp1' : Nat → Blk}
theorem Loc.upd (h : Loc W hp hp' hp1 hp1') {id : Nat} (hid : id ∈ W) (b : Blk) : Loc W hp hp' (upd hp1 id b) (upd hp1' id b) := by
  refine ⟨fun k hk => ?_, fun k hk => ?_, fun k hk => ?_⟩
  · simp only [upd_apply]; rw [h.inW k hk]
  · simp only [upd_apply]; rw [if_neg (fun e : k = id => hk (by rw [e]; exact hid)), h.out k hk]
  · simp only [upd_apply]; rw [if_neg (fun e : k = id => hk (by rw [e]; exact hid)), h.out' k hk]
theorem Loc.freeze1 (h : Loc W hp hp' hp1 hp1') {id : Nat} (hid : id ∈ W) : Loc W hp hp' (freeze1 hp1 id) (freeze1 hp1' id) := by
  unfold Go.AE.freeze1
  rw [h.inW id hid]
  split
  · exact h.upd hid _
  · exact h
theorem Loc.freezeAll : ∀ {ids : List Nat} {hp1 hp1' : Nat → Blk}, Loc W hp hp' hp1 hp1' → (∀ id ∈ ids, id ∈ W) → Loc W hp hp' (freezeAll hp1 ids) (freezeAll hp1' ids)
  | [], _, _, h, _ => h
  | id :: ids, _, _, h, hi => by
    simp only [Go.AE.freezeAll]
    exact Loc.freezeAll (h.freeze1 (hi id (by simp))) (fun i hi' => hi i (by simp [hi']))
end
def noRead : Op → Bool
  | .move _ => true
  | .assign _ => true
  | .binOp .. => true
  | .unOp .. => true
  | .convert .. => true
  | .index .. => true
  | .extract .. => true
  | .pick .. => true
  | _ => false
def rIds (o : Oper) (v : Operand → A) : List Nat := if noRead o.op = true then [] else idsAs (o.op.operands.toList.map v)
def boxId : A → Option Nat
  | .box id _ => some id
  | _ => none
def keysN (d : Nat) : Nat → List Nat
  | 0 => []
  | n + 1 => key d n :: keysN d n
def dKeys (o : Option Nat) (n : Nat) : List Nat := keysN (o.getD 0) n
def wIds (o : Oper) (v : Operand → A) : List Nat :=
  match o.op with
  | .box _ _ => dKeys o.dst 1
  | .alloc _ => dKeys o.dst 1
  | .store _ x _ => match boxId (v x) with
    | some id => [id]
    | none => rIds o v
  | .buildSlice _ _ _ => dKeys o.dst 1 ++ rIds o v
  | .makeMap _ _ => dKeys o.dst 1
  | .mapUpdate _ _ _ _ => rIds o v
  | .call c => match c.callee with
    | .builtin .delete => rIds o v
    | .builtin .append => dKeys o.dst 1 ++ (match c.args.toList with | x :: _ => idsA (v x) | [] => [])
    | .value _ => dKeys o.dst 16 ++ rIds o v
    | _ => []
  | _ => []
end Go.AE
