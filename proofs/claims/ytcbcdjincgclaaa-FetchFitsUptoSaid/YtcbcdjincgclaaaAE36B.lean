/-
  Further operations: bytes and strings, copies, shifts.
-/
import Derived.Test.YtcbcdjincgclaaaAE32
import Derived.Test.YtcbcdjincgclaaaAE11B
import Derived.Lib.AppendStr
import Derived.Laws.BytesArg
import Derived.Laws.CopyRow
set_option linter.unusedSimpArgs false
set_option linter.unusedVariables false
set_option linter.unusedVariables false
namespace Go.AE
open Go.RowKit (Below)
variable {P : Program} {w0 : Base} {w : World} {N : Nat} {σ : Nat → RefI} {s : S} {tms : Array Value} {ρ : Operand → Value} {al : Nat → Prop}

/-- a text's bytes, as a row -/
def row8 (l : List UInt8) : List (List C) := l.map fun b => [.int (b.toNat : Int)]
/-- a row of bytes, as a text -/
def str8 (es : List (List C)) : List UInt8 := es.map fun e => UInt8.ofNat (cg e 0).toInt.toNat
/-! ## The operations -/
def shiftV (isL : Bool) (x y : A) (hp : Nat → Blk) : Option Out :=
  match x, y with
  | .c (.int k) a, .c (.int _) b => some ⟨0 ≤ b.toInt, True, ki k (if isL then k.wrap (a.toInt * 2 ^ min b.toInt.toNat k.bits) else a.toInt.fdiv (2 ^ min b.toInt.toNat k.bits)), hp, true⟩
  | _, _ => none
def convV (P : Program) (src dst : TypeId) (hp : Nat → Blk) (x : A) : Option Out :=
  match slE P src, P.underlying dst with
  | some (e, E), some .string => match E.kinds, P.underlying e with
    | [.int .u8], some (.int .u8) => match srcRows e hp x with
      | some es => some ⟨True, True, .c .str (.str (str8 es)), hp, true⟩
      | none => none
    | _, _ => none
  | _, _ => none
def appV (P : Program) (t u : TypeId) (d : Option Nat) (hp : Nat → Blk) (x y : A) : Option Out :=
  match slE P t, P.underlying u, d, y with
  | some (e, E), some .string, some d, .c .str l => match E.kinds with
    | [.int .u8] => if isDead (hp (key d 0)) then (match x with
      | .nilsl => some ⟨((row8 l.toStr).length : Int) * E.bytes ≤ 140737488355328, True, .own (key d 0) E.kinds 0 (row8 l.toStr).length, upd hp (key d 0) (.row e (row8 l.toStr)), false⟩
      | .own id ks 0 len => match hp id with
        | .row t' es => if t' = e then some ⟨len ≤ es.length ∧ ((len + (row8 l.toStr).length : Nat) : Int) * E.bytes ≤ 140737488355328, True, .own (key d 0) ks 0 (len + (row8 l.toStr).length), upd (upd hp id .gone) (key d 0) (.row e (es.take len ++ row8 l.toStr)), false⟩ else none
        | _ => none
      | _ => none) else none
    | _ => none
  | _, _, _, _ => none
/-- copy of a row's part over another's -/
def copyV (P : Program) (t : TypeId) (hp : Nat → Blk) (x y : A) : Option Out :=
  match slE P t with
  | some (e, E) => if E.kinds.length == 1 && plainKs E.kinds then (match x, srcRows e hp y with
    | .own id ks off len, some new => if sameId id y then none else (match hp id with
      | .row t' es => if t' = e then some ⟨off + len ≤ es.length, True, ki .i64 ((new.take len).length : Int), upd hp id (.row t' (overL es off (new.take len))), false⟩ else none
      | _ => none)
    | _, _ => none) else none
  | none => none
/-! ### Rows with a lent cell -/
def idxL (P : Program) (t : TypeId) (hp : Nat → Blk) (x i : A) : Option Out :=
  match slE P t, x, i with
  | some (_, E), .own id ks 0 len, .c (.int _) n => match hp id with
    | .rl _ _ _ _ _ => if ks = E.kinds then some ⟨0 ≤ n.toInt ∧ n.toInt < (len : Int), True, .elt id ks.length ks n.toInt.toNat 0, hp, true⟩ else none
    | _ => none
  | _, _, _ => none
def loadL (P : Program) (t : TypeId) (hp : Nat → Blk) (x : A) : Option Out :=
  match tyI P t, x with
  | some T, .elt id _ _ i off => match hp id with
    | .rl _ es i0 j0 a => if (T.kinds.length == 1 && !T.agg) && off == j0 then some ⟨i = i0 ∧ i < es.length, True, a, hp, true⟩ else none
    | _ => none
  | _, _ => none
def storeL (P : Program) (t : TypeId) (hp : Nat → Blk) (x y : A) : Option Out :=
  match tyI P t, x, y with
  | some T, .elt id _ _ i off, .own id2 ks2 0 len2 => match hp id, hp id2 with
    | .rl t0 es i0 j0 _, .row u es2 => if (T.kinds == [.slice u] && off == j0) && !(id == id2) then some ⟨i = i0 ∧ i < es.length ∧ len2 ≤ es2.length, True, .unk, upd hp id (.rl t0 (es.set i0 (spliceR (eg es i0) j0 [.slice (es2.take len2)])) i0 j0 (.own id2 ks2 0 len2)), false⟩ else none
    | _, _ => none
  | _, _, _ => none
def lenL (P : Program) (t : TypeId) (hp : Nat → Blk) (x : A) : Option Out :=
  match slE P t, x with
  | some _, .own id _ 0 len => match hp id with
    | .rl _ _ _ _ _ => some ⟨True, (len : Int) ≤ 140737488355328, ki .i64 len, hp, true⟩
    | _ => none
  | _, _ => none
def opV (P : Program) (o : Oper) (hp : Nat → Blk) (v : Operand → A) : Option Out :=
  match o.op with
  | .indexAddr t x i => idxL P t hp (v x) (v i)
  | .load t x => loadL P t hp (v x)
  | .store t x y => storeL P t hp (v x) (v y)
  | .nilCheck x => nilZ hp (v x)
  | .buildSlice t n parts => bsP P t n (parts.toList.map fun p => (p.1, v p.2)) o.dst hp
  | .binOp .shl _ x y _ => shiftV true (v x) (v y) hp
  | .binOp .shr _ x y _ => shiftV false (v x) (v y) hp
  | .convert s d x => convV P s d hp (v x)
  | .call c => match c.callee with
    | .builtin .append => match c.args.toList, c.argTypes.toList with
      | [x, y], [t, u] => appV P t u o.dst hp (v x) (v y)
      | _, _ => none
    | .builtin .copy => match c.args.toList, c.argTypes.toList with
      | [x, y], [t, _] => copyV P t hp (v x) (v y)
      | _, _ => none
    | .builtin .len => match c.args.toList, c.argTypes.toList with
      | [x], [t] => lenL P t hp (v x)
      | _, _ => none
    | _ => none
  | _ => none
def stepV (P : Program) (o : Oper) (s : S) (K : S → Prop) : Prop :=
  match o.guard with
  | none => match opV P o s.hp (plainTm s.tm) with
    | some r => allNeeds s.tm o.op.operands.toList ∧ r.pre ∧ (r.fact → K ⟨updD s.tm o.dst r.val, r.hp⟩)
    | none => False
  | some _ => False
end Go.AE

/-
  Bytes and strings, copies, shifts: what the machine does.
-/
set_option linter.unusedVariables false
namespace Go.AE
open Go.RowKit (Below)
variable {P : Program} {w0 : Base} {w : World} {N : Nat} {σ : Nat → RefI} {s : S} {tms : Array Value} {ρ : Operand → Value} {al : Nat → Prop}

/-! ### Rows with a lent cell -/
end Go.AE

