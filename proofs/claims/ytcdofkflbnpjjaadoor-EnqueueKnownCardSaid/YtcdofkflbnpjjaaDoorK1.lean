/-
  An executor for closed code: values and blocks without memory addresses, run in the kernel; that the program's own run does the same is proved in later texts.
-/
import Derived.WalkKit
set_option linter.unusedVariables false
namespace Go.KX
noncomputable section

/-! ## Finite maps from numbers -/
inductive T (α : Type) where
  | e
  | n (v : Option α) (l r : T α)
  deriving Inhabited

def T.get {α : Type} (t : T α) : Nat → Option α :=
  T.rec (motive := fun _ => Nat → Option α) (fun _ => none) (fun v _ _ gl gr i => Bool.rec (motive := fun _ => Option α) (Bool.rec (motive := fun _ => Option α) (gr (i / 2 - 1)) (gl (i / 2)) (Nat.beq (i % 2) 1)) v (Nat.beq i 0)) t
theorem T.get_e {α : Type} (i : Nat) : (T.e : T α).get i = none := rfl
theorem T.get_n {α : Type} (v : Option α) (l r : T α) (i : Nat) : (T.n v l r).get i = bif Nat.beq i 0 then v else bif Nat.beq (i % 2) 1 then l.get (i / 2) else r.get (i / 2 - 1) := by
  simp only [T.get]
  cases Nat.beq i 0 <;> cases Nat.beq (i % 2) 1 <;> rfl

def T.single {α : Type} : Nat → Nat → α → T α
  | 0, _, v => .n (some v) .e .e
  | f + 1, i, v => bif Nat.beq i 0 then .n (some v) .e .e else bif Nat.beq (i % 2) 1 then .n none (single f (i / 2) v) .e else .n none .e (single f (i / 2 - 1) v)

def T.set {α : Type} (t : T α) : Nat → α → T α :=
  T.rec (motive := fun _ => Nat → α → T α) (fun i v => T.single i i v) (fun w l r sl sr i v => Bool.rec (motive := fun _ => T α) (Bool.rec (motive := fun _ => T α) (.n w l (sr (i / 2 - 1) v)) (.n w (sl (i / 2) v) r) (Nat.beq (i % 2) 1)) (.n (some v) l r) (Nat.beq i 0)) t
theorem T.set_e {α : Type} (i : Nat) (v : α) : (T.e : T α).set i v = T.single i i v := rfl
theorem T.set_n {α : Type} (w : Option α) (l r : T α) (i : Nat) (v : α) : (T.n w l r).set i v = bif Nat.beq i 0 then .n (some v) l r else bif Nat.beq (i % 2) 1 then .n w (l.set (i / 2) v) r else .n w l (r.set (i / 2 - 1) v) := by
  simp only [T.set]
  cases Nat.beq i 0 <;> cases Nat.beq (i % 2) 1 <;> rfl

/-! ## Values, blocks -/
inductive KV where
  | bool (b : Bool)
  | int (k : IntKind) (n : Int)
  | str (s : List UInt8)
  | nilp
  | ptr (b off : Nat)
  | nilsl
  | sl (b off len cap : Nat)
  /-- a slice of unknown capacity, at least kc, over elements of sz cells -/
  | slo (b off len sz kc : Nat)
  /-- an empty slice, not nil, of which nothing else is known -/
  | slz
  | nilmap
  | map (b : Nat)
  | nilf
  | fn (f : FuncId) (first caps : List KV)
  | yld (l : Nat)
  | agg (cs : List KV)
  | tup (cs : List KV)
  deriving Inhabited

def KV.cells : KV → List KV
  | .agg cs => cs
  | v => [v]
def KV.one : KV → Bool
  | .agg _ => false
  | .tup _ => false
  | _ => true

mutual
def KV.eqb : KV → KV → Bool
  | .bool a, .bool b => a == b
  | .int j a, .int k b => decide (j = k) && a == b
  | .str a, .str b => a == b
  | .nilp, .nilp => true
  | .ptr a i, .ptr b j => Nat.beq a b && Nat.beq i j
  | .nilsl, .nilsl => true
  | .sl a i l c, .sl b j m d => Nat.beq a b && Nat.beq i j && Nat.beq l m && Nat.beq c d
  | .slo a i l c u, .slo b j m d w => Nat.beq a b && Nat.beq i j && Nat.beq l m && Nat.beq c d && Nat.beq u w
  | .slz, .slz => true
  | .nilmap, .nilmap => true
  | .map a, .map b => Nat.beq a b
  | .nilf, .nilf => true
  | .fn f xs ys, .fn g zs ws => Nat.beq f g && KV.eqs xs zs && KV.eqs ys ws
  | .yld a, .yld b => Nat.beq a b
  | .agg xs, .agg ys => KV.eqs xs ys
  | .tup xs, .tup ys => KV.eqs xs ys
  | _, _ => false
def KV.eqs : List KV → List KV → Bool
  | [], [] => true
  | a :: as, b :: bs => KV.eqb a b && KV.eqs as bs
  | _, _ => false
end

structure KE where
  key : KV
  val : KV
  born : Nat
  deriving Inhabited

inductive KO where
  | dead
  | row (cs : List KV)
  | mp (es : List KE) (clock : Nat)
  | mit (m : Option Nat) (since : Nat) (seen : List Nat) (stepped : Nat)
  | loop (st : LoopState) (tm : T KV) (n : Nat) (ps : List Nat) (assign body : Code) (df : Nat)
  | defd (isopen : Bool)
  | sit (s : List UInt8) (pos : Nat)
  deriving Inhabited

def KE.eqb (a b : KE) : Bool := KV.eqb a.key b.key && KV.eqb a.val b.val && Nat.beq a.born b.born
def leqb {α : Type} (f : α → α → Bool) : List α → List α → Bool
  | [], [] => true
  | a :: as, b :: bs => f a b && leqb f as bs
  | _, _ => false
def oeqb {α : Type} (f : α → α → Bool) : Option α → Option α → Bool
  | none, none => true
  | some a, some b => f a b
  | _, _ => false
def KO.eqb : KO → KO → Bool
  | .dead, .dead => true
  | .row xs, .row ys => KV.eqs xs ys
  | .mp xs a, .mp ys b => leqb KE.eqb xs ys && Nat.beq a b
  | .mit a b c d, .mit e f g h => oeqb Nat.beq a e && Nat.beq b f && leqb Nat.beq c g && Nat.beq d h
  | .defd a, .defd b => a == b
  | .sit a i, .sit b j => a == b && Nat.beq i j
  | _, _ => false
def T.eqb {α : Type} (f : α → α → Bool) : T α → T α → Bool
  | .e, .e => true
  | .n v l r, .n w l' r' => oeqb f v w && T.eqb f l l' && T.eqb f r r'
  | _, _ => false

structure KS where
  tm : T KV
  hp : T KO
  nx : Nat
  df : List Nat
  deriving Inhabited

def KS.eqb (a b : KS) : Bool := T.eqb KV.eqb a.tm b.tm && T.eqb KO.eqb a.hp b.hp && Nat.beq a.nx b.nx && leqb Nat.beq a.df b.df

/-- the program; functions without a body; struct types that '==' compares cell by cell -/
structure Env where
  P : Program
  X : FuncId → Option (List KV → Option KV)
  F : List TypeId
  /-- functions with a body whose answers are known -/
  Y : FuncId → Option (List KV → Option KV) := fun _ => none

/-! ## Types, constants -/
def omap {α β : Type} (f : α → Option β) : List α → Option (List β)
  | [] => some []
  | a :: l => match f a with
    | some b => match omap f l with
      | some bs => some (b :: bs)
      | none => none
    | none => none

def kc1 : Value → Option KV
  | .bool b => some (.bool b)
  | .int k n => some (.int k n)
  | .string s => some (.str s.data.toList)
  | .pointer none => some .nilp
  | .slice none 0 0 => some .nilsl
  | .map none => some .nilmap
  | .nilFunc => some .nilf
  | _ => none
def kc : Value → Option KV
  | .agg cs => (omap kc1 cs.toList).map .agg
  | v => kc1 v

def tsz (P : Program) (t : TypeId) : Option Nat := (P.info? t).map (·.size)
def tby (P : Program) (t : TypeId) : Option Nat := (P.info? t).map (·.bytes)
def tagg (P : Program) (t : TypeId) : Option Bool :=
  match P.underlying t with
  | some (.struct _) => some true
  | some (.array _ _) => some true
  | some _ => some false
  | none => none
def tzero (P : Program) (t : TypeId) : Option KV :=
  match P.info? t with
  | some i => match i.zero with
    | some v => kc v
    | none => none
  | none => none

def lget {α : Type} : List α → Nat → Option α
  | [], _ => none
  | a :: l, i => match i with
    | 0 => some a
    | j + 1 => lget l j

def chk (b : Bool) {α : Type} (x : Option α) : Option α := bif b then x else none

/-! ## Operations -/
def kopd (s : KS) : Operand → Option KV
  | .tmp t => match s.tm.get t with
    | some v => some v
    | none => some (.tup [])
  | .const v => kc v
  | .global _ => none
  | .func f => some (.fn f [] [])

def kb (b : Bool) : KV := .bool b

def kintBin (op : BinOp) (k : IntKind) (a b : Int) : Option KV :=
  match op with
  | .add => some (.int k (k.wrap (a + b)))
  | .sub => some (.int k (k.wrap (a - b)))
  | .mul => some (.int k (k.wrap (a * b)))
  | .quo => bif b == 0 then none else some (.int k (k.wrap (a.tdiv b)))
  | .rem => bif b == 0 then none else some (.int k (a.tmod b))
  | .and => some (.int k (k.wrap (BitVec.ofInt k.bits a &&& BitVec.ofInt k.bits b).toNat))
  | .or => some (.int k (k.wrap (BitVec.ofInt k.bits a ||| BitVec.ofInt k.bits b).toNat))
  | .xor => some (.int k (k.wrap (BitVec.ofInt k.bits a ^^^ BitVec.ofInt k.bits b).toNat))
  | .andNot => some (.int k (k.wrap (BitVec.ofInt k.bits a &&& ~~~BitVec.ofInt k.bits b).toNat))
  | .eql => some (kb (a == b))
  | .neq => some (kb (a != b))
  | .lss => some (kb (a < b))
  | .leq => some (kb (a ≤ b))
  | .gtr => some (kb (a > b))
  | .geq => some (kb (a ≥ b))
  | _ => none

def kshift (op : BinOp) (k : IntKind) (a b : Int) : Option KV :=
  bif decide (b < 0) then none else
  match op with
  | .shl => some (.int k (k.wrap (a * 2 ^ (min b.toNat k.bits))))
  | .shr => some (.int k (a.fdiv (2 ^ (min b.toNat k.bits))))
  | _ => none

def kstrBin (op : BinOp) (x y : List UInt8) : Option KV :=
  match op with
  | .add => bif Nat.ble (x.length + y.length) 9223372036854775807 then some (.str (x ++ y)) else none
  | .eql => some (kb (x == y))
  | .neq => some (kb (x != y))
  | .lss => some (kb (Op.bytesLess x y))
  | .leq => some (kb (Op.bytesLess x y || x == y))
  | .gtr => some (kb (!(Op.bytesLess x y || x == y)))
  | .geq => some (kb (!Op.bytesLess x y))
  | _ => none

/-- '==' of two cells of a kind -/
def keq1 : TypeDesc → KV → KV → Option Bool
  | .int _, .int j a, .int k b => bif decide (j = k) then some (a == b) else none
  | .string, .str a, .str b => some (a == b)
  | .bool, .bool a, .bool b => some (a == b)
  | _, _, _ => none
/-- .. of structs of such cells -/
def keqF (P : Program) : List Field → List KV → List KV → Option Bool
  | [], [], [] => some true
  | f :: fs, a :: as, b :: bs => match P.underlying f.type with
    | some d => match keq1 d a b, keqF P fs as bs with
      | some p, some q => some (p && q)
      | _, _ => none
    | none => none
  | _, _, _ => none
def flatF (P : Program) : Nat → List Field → Bool
  | _, [] => true
  | j, f :: fs => Nat.beq f.offset j && (decide (f.name ≠ "_") && ((match P.underlying f.type with | some .bool => true | some (.int _) => true | some .string => true | _ => false) && flatF P (j + 1) fs))
/-- a struct type of plain cells -/
def flatOk (P : Program) (t : TypeId) : Bool :=
  match P.underlying t with
  | some (.struct fs) => !P.stoodInHeld t && (!P.eqGuardType P.depth t && flatF P 0 fs.toList)
  | _ => false

def isRow (hp : T KO) (b : Nat) : Bool := match hp.get b with | some (.row _) => true | _ => false

def posz (P : Program) (e : TypeId) : Bool := match tsz P e with | some (_ + 1) => true | _ => false
/-- '==' at a type -/
def kequal (P : Program) (F : List TypeId) (hp : T KO) (t : TypeId) (x y : KV) : Option Bool :=
  match P.underlying t with
  | some .bool => keq1 .bool x y
  | some (.pointer e) => match x, y with
    | .nilp, .nilp => some true
    | .nilp, .ptr _ _ => some false
    | .ptr _ _, .nilp => some false
    | .ptr b o, .ptr c q => bif isRow hp b && (isRow hp c && posz P e) then some (Nat.beq b c && Nat.beq o q) else none
    | _, _ => none
  | some (.slice _) => match x, y with
    | .nilsl, .nilsl => some true
    | .nilsl, .sl .. => some false
    | .sl .., .nilsl => some false
    | .nilsl, .slo .. => some false
    | .slo .., .nilsl => some false
    | _, _ => none
  | some (.map _ _) => match x, y with
    | .nilmap, .nilmap => some true
    | .nilmap, .map _ => some false
    | .map _, .nilmap => some false
    | _, _ => none
  | some (.func _ _ _) => match x, y with
    | .nilf, .nilf => some true
    | .nilf, .fn .. => some false
    | .fn .., .nilf => some false
    | _, _ => none
  | some (.struct fs) => match x, y with
    | .agg xs, .agg ys => bif F.contains t then keqF P fs.toList xs ys else none
    | _, _ => none
  | _ => none

def kbin (P : Program) (F : List TypeId) (hp : T KO) (op : BinOp) (t : TypeId) (x y : KV) : Option KV :=
  match x, y with
  | .int k a, .int j b => match op with
    | .shl => kshift op k a b
    | .shr => kshift op k a b
    | _ => bif decide (k = j) then kintBin op k a b else none
  | .str a, .str b => kstrBin op a b
  | _, _ => match op with
    | .eql => (kequal P F hp t x y).map kb
    | .neq => (kequal P F hp t x y).map fun b => kb (!b)
    | _ => none

def kun (op : UnOp) (x : KV) : Option KV :=
  match op, x with
  | .not, .bool b => some (.bool (!b))
  | .neg, .int k n => some (.int k (k.wrap (0 - n)))
  | .xor, .int k n => kintBin .xor k (if k.signed then -1 else k.max) n
  | _, _ => none

def kload (P : Program) (t : TypeId) (hp : T KO) : KV → Option KV
  | .ptr b off => match hp.get b with
    | some (.row cs) => match tagg P t, tsz P t with
      | some true, some n => bif Nat.ble (off + n) cs.length then some (.agg ((cs.drop off).take n)) else none
      | some false, some _ => lget cs off
      | _, _ => none
    | _ => none
  | _ => none

def put (cs : List KV) (off : Nat) (xs : List KV) : List KV := cs.take off ++ (xs ++ cs.drop (off + xs.length))

def kput (hp : T KO) (b off : Nat) (xs : List KV) : Option (T KO) :=
  match hp.get b with
  | some (.row cs) => bif Nat.ble (off + xs.length) cs.length && xs.all KV.one then some (hp.set b (.row (put cs off xs))) else none
  | _ => none

def kstore (P : Program) (t : TypeId) (hp : T KO) (x y : KV) : Option (T KO) :=
  match x, tsz P t with
  | .ptr b off, some n => bif Nat.beq y.cells.length n then kput hp b off y.cells else none
  | _, _ => none

def fieldOf (P : Program) (t : TypeId) (f : Nat) : Option Field :=
  match P.underlying t with
  | some (.struct fs) => lget fs.toList f
  | _ => none

/-- a part out of cells -/
def kpart (P : Program) (t : TypeId) (cs : List KV) (off : Nat) : Option KV :=
  match tagg P t, tsz P t with
  | some true, some n => bif Nat.ble (off + n) cs.length then some (.agg ((cs.drop off).take n)) else none
  | some false, some _ => lget cs off
  | _, _ => none

def kfill (place : Nat → Option (Nat × Nat)) (cs : List KV) : List (Nat × KV) → Option (List KV)
  | [] => some cs
  | (i, v) :: r => match place i with
    | some (off, sz) => bif Nat.beq v.cells.length sz && Nat.ble (off + sz) cs.length then kfill place (put cs off v.cells) r else none
    | none => none

def parts (v : Operand → Option KV) (ps : List (Nat × Operand)) : Option (List (Nat × KV)) :=
  omap (fun p => match v p.2 with | some x => some (p.1, x) | none => none) ps

def kbuild (P : Program) (t : TypeId) (ps : List (Nat × KV)) : Option KV :=
  match tzero P t with
  | some z => match P.underlying t with
    | some (.struct fs) => match omap (fun f : Field => (tsz P f.type).map fun n => (f.offset, n)) fs.toList with
      | some places => (kfill (lget places) z.cells ps).map .agg
      | none => none
    | some (.array _ e) => match tsz P e with
      | some n => (kfill (fun i => some (i * n, n)) z.cells ps).map .agg
      | none => none
    | _ => none
  | none => none

def reps (z : List KV) : Nat → List KV
  | 0 => []
  | n + 1 => z ++ reps z n

def fresh (hp : T KO) (b : Nat) : Bool := match hp.get b with | none => true | some _ => false

def kbuildSlice (P : Program) (self : Nat) (hp : T KO) (t : TypeId) (n : Nat) (ps : List (Nat × KV)) : Option (KV × T KO) :=
  match P.underlying t with
  | some (.slice e) => match tsz P e, tzero P e with
    | some sz, some z => bif Nat.ble (n * sz) 16777216 && (Nat.ble 1 sz && (Nat.beq z.cells.length sz && (z.cells.all KV.one && fresh hp self))) then
        match kfill (fun i => some (i * sz, sz)) (reps z.cells n) ps with
        | some cs => bif cs.all KV.one then some (.sl self 0 n n, hp.set self (.row cs)) else none
        | none => none
      else none
    | _, _ => none
  | _ => none

def knew (hp : T KO) (self : Nat) (cs : List KV) : Option (KV × T KO) :=
  bif fresh hp self && cs.all KV.one then some (.ptr self 0, hp.set self (.row cs)) else none

def kmakeSlice (P : Program) (self : Nat) (hp : T KO) (t : TypeId) (l c : KV) : Option (KV × T KO) :=
  match l, c, P.underlying t with
  | .int _ l, .int _ c, some (.slice e) => match tsz P e, tby P e, tzero P e with
    | some sz, some by_, some z =>
      bif decide (0 ≤ l) && (decide (l ≤ c) && (decide (c * by_ ≤ 140737488355328) && (decide (c ≤ 1000000) && (Nat.ble 1 sz && (Nat.beq z.cells.length sz && (z.cells.all KV.one && fresh hp self)))))) then
        some (.sl self 0 l.toNat c.toNat, hp.set self (.row (reps z.cells c.toNat)))
      else none
    | _, _, _ => none
  | _, _, _ => none

/-- a bound of a slice expression -/
def kbound (o : Option KV) (dflt lim : Nat) : Option Nat :=
  match o with
  | none => some dflt
  | some (.int _ i) => bif decide (0 ≤ i) && decide (i ≤ (lim : Int)) then some i.toNat else none
  | some _ => none

/-- 'x[lo:hi:mx]' over something of a length and a capacity -/
def kbounds (len cap : Nat) (lo hi mx : Option KV) : Option (Nat × Nat × Nat) :=
  match kbound mx cap cap with
  | some m => match (match hi, mx with | none, some _ => none | _, _ => kbound hi len m) with
    | some h => match kbound lo 0 h with
      | some l => some (l, h, m)
      | none => none
    | none => none
  | none => none

def kslice (P : Program) (hp : T KO) (t : TypeId) (x : KV) (lo hi mx : Option KV) : Option KV :=
  match P.underlying t, x with
  | some .string, .str s => match mx with
    | some _ => none
    | none => match kbounds s.length s.length lo hi none with
      | some (l, h, _) => some (.str ((s.drop l).take (h - l)))
      | none => none
  | some (.slice e), .sl b off len cap => match kbounds len cap lo hi mx, tsz P e with
    | some (l, h, m), some sz => some (.sl b (bif Nat.beq m l then off else off + l * sz) (h - l) (m - l))
    | _, _ => none
  | some (.slice e), .slo b off len sz kc => match tsz P e with
    | some z => bif Nat.beq z sz then
        match mx with
        | some _ => match kbounds len kc lo hi mx with
          | some (l, h, m) => some (.sl b (bif Nat.beq m l then off else off + l * sz) (h - l) (m - l))
          | none => none
        | none => match kbounds len kc lo hi none with
          | some (l, h, _) => bif Nat.blt l kc || Nat.beq l 0 then some (.slo b (off + l * sz) (h - l) sz (kc - l)) else (bif Nat.beq h l then some .slz else none)
          | none => none
      else none
    | none => none
  | some (.slice e), .nilsl => match kbounds 0 0 lo hi mx, tsz P e with
    | some _, some _ => some .nilsl
    | _, _ => none
  | some (.array n e), .ptr b off => match kbounds n n lo hi mx, tsz P e with
    | some (l, h, m), some sz => some (.sl b (bif Nat.beq m l then off else off + l * sz) (h - l) (m - l))
    | _, _ => none
  | _, _ => none

def kindexAddr (P : Program) (t : TypeId) (x i : KV) : Option KV :=
  match P.underlying t, x, i with
  | some (.slice e), .sl b off len _, .int _ i => match tsz P e with
    | some sz => bif decide (0 ≤ i) && decide (i < (len : Int)) then some (.ptr b (off + i.toNat * sz)) else none
    | none => none
  | some (.slice e), .slo b off len _ _, .int _ i => match tsz P e with
    | some sz => bif decide (0 ≤ i) && decide (i < (len : Int)) then some (.ptr b (off + i.toNat * sz)) else none
    | none => none
  | some (.array n e), .ptr b off, .int _ i => match tsz P e with
    | some sz => bif decide (0 ≤ i) && decide (i < (n : Int)) then some (.ptr b (off + i.toNat * sz)) else none
    | none => none
  | _, _, _ => none

def kindex (P : Program) (t : TypeId) (x i : KV) : Option KV :=
  match P.underlying t, x, i with
  | some .string, .str s, .int _ i => bif decide (0 ≤ i) then (lget s i.toNat).map fun b => .int .u8 b.toNat else none
  | some (.array n e), .agg cs, .int _ i => match tsz P e with
    | some sz => bif decide (0 ≤ i) && decide (i < (n : Int)) then kpart P e cs (i.toNat * sz) else none
    | none => none
  | _, _, _ => none

/-- the element type's cells of a slice value: how many elements, which cells -/
def kelems (hp : T KO) (sz : Nat) : KV → Option (List KV)
  | .nilsl => some []
  | .slz => some []
  | .str s => some (s.map fun b => .int .u8 b.toNat)
  | .sl b off len _ => match hp.get b with
    | some (.row cs) => bif Nat.ble (off + len * sz) cs.length then some ((cs.drop off).take (len * sz)) else none
    | _ => none
  | .slo b off len _ _ => match hp.get b with
    | some (.row cs) => bif Nat.ble (off + len * sz) cs.length then some ((cs.drop off).take (len * sz)) else none
    | _ => none
  | _ => none
def klen : KV → Option Nat
  | .nilsl => some 0
  | .slz => some 0
  | .str s => some s.length
  | .sl _ _ len _ => some len
  | .slo _ _ len _ _ => some len
  | _ => none

def isSl : KV → Bool | .nilsl => true | .sl .. => true | .slo .. => true | _ => false
def strOk (x : KV) (sz : Nat) : Bool := match x with | .str _ => Nat.beq sz 1 | _ => true
def notInt (P : Program) (u : TypeId) : Bool := match P.underlying u with | some (.slice _) => true | some .string => true | _ => false

def kappend (P : Program) (self : Nat) (hp : T KO) (t u : TypeId) (s x : KV) : Option (KV × T KO) :=
  match P.underlying t with
  | some (.slice e) => match tsz P e, tby P e, klen s, klen x, kelems hp ((tsz P e).getD 0) s, kelems hp ((tsz P e).getD 0) x, tzero P e with
    | some sz, some by_, some sl, some n, some old, some new, some z =>
      bif notInt P u && (Nat.ble 1 sz && (Nat.ble 1 by_ && (Nat.beq z.cells.length sz && (isSl s && strOk x sz)))) then
        bif Nat.beq n 0 then some (s, hp) else
        bif Nat.ble ((2 * (sl + n) + 1000) * by_) 140737488355328 && fresh hp self then
          match s with
          | .nilsl => some (.slo self 0 n sz n, hp.set self (.row new))
          | .sl b off len cap =>
            bif Nat.ble (len + n) cap then
              match kput hp b (off + len * sz) new with
              | some hp' => some (.sl b off (len + n) cap, hp')
              | none => none
            else some (.slo self 0 (len + n) sz (len + n), hp.set self (.row (old ++ new)))
          | .slo b off len z kc =>
            bif Nat.ble (len + n) kc then
              bif Nat.beq z sz then
                match kput hp b (off + len * sz) new with
                | some hp' => some (.slo b off (len + n) sz kc, hp')
                | none => none
              else none
            else bif Nat.beq off 0 && (Nat.beq z sz && new.all KV.one) then some (.slo self 0 (len + n) sz (len + n), (hp.set b .dead).set self (.row (old ++ new))) else none
          | _ => none
        else none
      else none
    | _, _, _, _, _, _, _ => none
  | _ => none

def kcopy (P : Program) (hp : T KO) (t : TypeId) (d x : KV) : Option (KV × T KO) :=
  match P.underlying t with
  | some (.slice e) => match tsz P e, klen x, klen d with
    | some sz, some n, some dl => match kelems hp sz x with
      | some xs => bif Nat.ble 1 sz && strOk x sz then
        match d with
        | .nilsl => some (.int .i64 0, hp)
        | .sl b off _ _ => (kput hp b off (xs.take (Nat.min n dl * sz))).map fun hp' => (.int .i64 (Nat.min n dl), hp')
        | .slo b off _ _ _ => (kput hp b off (xs.take (Nat.min n dl * sz))).map fun hp' => (.int .i64 (Nat.min n dl), hp')
        | _ => none
        else none
      | none => none
    | _, _, _ => none
  | _ => none

def kclear (P : Program) (hp : T KO) (t : TypeId) (x : KV) : Option (T KO) :=
  match P.underlying t, x with
  | some (.slice _), .nilsl => some hp
  | some (.slice e), .sl b off len _ => match tzero P e, tsz P e with
    | some z, some sz => bif Nat.beq z.cells.length sz && Nat.ble 1 sz then (bif Nat.beq len 0 then some hp else kput hp b off (reps z.cells len)) else none
    | _, _ => none
  | some (.slice e), .slo b off len _ _ => match tzero P e, tsz P e with
    | some z, some sz => bif Nat.beq z.cells.length sz && Nat.ble 1 sz then (bif Nat.beq len 0 then some hp else kput hp b off (reps z.cells len)) else none
    | _, _ => none
  | _, _ => none

/-! maps -/
def keyEq (P : Program) (d : TypeDesc) (x y : KV) : Option Bool :=
  match d with
  | .struct fs => match x, y with
    | .agg xs, .agg ys => keqF P fs.toList xs ys
    | _, _ => none
  | d => keq1 d x y
def kfind (P : Program) (d : TypeDesc) (k : KV) : List KE → Nat → Option (Option (Nat × KV))
  | [], _ => some none
  | e :: es, i => match keyEq P d k e.key with
    | some true => some (some (i, e.val))
    | some false => kfind P d k es (i + 1)
    | none => none
/-- the kind of a map's keys, which must be one that the executor knows; the key must be of it -/
def keyKind (P : Program) (F : List TypeId) (kt : TypeId) (k : KV) : Option TypeDesc :=
  match P.underlying kt, k with
  | some (.int q), .int _ _ => some (.int q)
  | some .string, .str _ => some .string
  | some .bool, .bool _ => some .bool
  | some (.struct fs), .agg xs => bif F.contains kt && Nat.beq xs.length fs.size then some (.struct fs) else none
  | _, _ => none

def klookup (P : Program) (F : List TypeId) (t : TypeId) (ok : Bool) (hp : T KO) (x k : KV) : Option KV :=
  match P.underlying t with
  | some (.map kt e) => match keyKind P F kt k, tzero P e with
    | some d, some z => match x with
      | .nilmap => some (if ok then .tup [z, .bool false] else z)
      | .map b => match hp.get b with
        | some (.mp es _) => match kfind P d k es 0 with
          | some (some (_, v)) => some (if ok then .tup [v, .bool true] else v)
          | some none => some (if ok then .tup [z, .bool false] else z)
          | none => none
        | _ => none
      | _ => none
    | _, _ => none
  | _ => none

def kmodify (f : KE → KE) : List KE → Nat → List KE
  | [], _ => []
  | e :: es, 0 => f e :: es
  | e :: es, i + 1 => e :: kmodify f es i

def kupdate (P : Program) (F : List TypeId) (t : TypeId) (hp : T KO) (x k v : KV) : Option (T KO) :=
  match P.underlying t, x with
  | some (.map kt _), .map b => match hp.get b, keyKind P F kt k with
    | some (.mp es c), some d => match kfind P d k es 0 with
      | some (some (i, _)) => some (hp.set b (.mp (kmodify (fun e => { e with key := k, val := v }) es i) c))
      | some none => some (hp.set b (.mp (es ++ [{ key := k, val := v, born := c }]) (c + 1)))
      | none => none
    | _, _ => none
  | _, _ => none

def keraseIdx : List KE → Nat → List KE
  | [], _ => []
  | _ :: es, 0 => es
  | e :: es, i + 1 => e :: keraseIdx es i

def kdelete (P : Program) (F : List TypeId) (t : TypeId) (hp : T KO) (x k : KV) : Option (T KO) :=
  match P.underlying t, x with
  | some (.map kt _), .map b => match hp.get b, keyKind P F kt k with
    | some (.mp es c), some d => match kfind P d k es 0 with
      | some (some (i, _)) => some (hp.set b (.mp (keraseIdx es i) c))
      | some none => some hp
      | none => none
    | _, _ => none
  | _, _ => none

def krange (P : Program) (self : Nat) (hp : T KO) (t : TypeId) (x : KV) : Option (KV × T KO) :=
  match P.underlying t, x with
  | some (.map _ _), .nilmap => chk (fresh hp self) (some (.ptr self 0, hp.set self (.mit none 0 [] 0)))
  | some (.map _ _), .map b => match hp.get b with
    | some (.mp _ c) => chk (fresh hp self) (some (.ptr self 0, hp.set self (.mit (some b) c [] c)))
    | _ => none
  | some .string, .str s => chk (fresh hp self) (some (.ptr self 0, hp.set self (.sit s 0)))
  | _, _ => none

/-- the ways on of a range over a map -/
def knext (hp : T KO) (x : KV) : Option (List (KV × T KO)) :=
  match x with
  | .ptr r 0 => match hp.get r with
    | some (.mit none _ _ _) => some [(.tup [.bool false], hp)]
    | some (.mit (some m) since seen last) => match hp.get m with
      | some (.mp es clock) =>
        bif !seen.isEmpty && (!es.isEmpty && es.all fun e => Nat.ble last e.born) then none else
        let left := es.filter fun e => !seen.contains e.born
        let old := left.filter fun e => Nat.blt e.born since
        some ((bif old.isEmpty then [(.tup [.bool false], hp)] else []) ++ left.map fun e => (.tup [.bool true, e.key, e.val], hp.set r (.mit (some m) since (seen ++ [e.born]) clock)))
      | _ => none
    | _ => none
  | _ => none

/-- a range over a string of plain signs -/
def knextS (hp : T KO) (x : KV) : Option (KV × T KO) :=
  match x with
  | .ptr r 0 => match hp.get r with
    | some (.sit s pos) => match lget s pos with
      | some b => bif Nat.blt b.toNat 128 then some (.tup [.bool true, .int .i64 pos, .int .i32 b.toNat], hp.set r (.sit s (pos + 1))) else none
      | none => some (.tup [.bool false], hp)
    | _ => none
  | _ => none

def kentry (hp : T KO) (x : KV) : Option KV :=
  match x with
  | .ptr r 0 => match hp.get r with
    | some (.mit (some m) _ seen stepped) => match hp.get m with
      | some (.mp es clock) => bif Nat.beq clock stepped then
          match seen.getLast? with
          | some stamp => match es.find? fun e => Nat.beq e.born stamp with
            | some e => some (.tup [e.key, e.val])
            | none => none
          | none => none
        else none
      | _ => none
    | _ => none
  | _ => none

def kconv (P : Program) (s d : TypeId) (x : KV) : Option KV :=
  match P.underlying s, P.underlying d, x with
  | some _, some (.int k), .int _ n => some (.int k (k.wrap n))
  | some _, some .string, .str s => some (.str s)
  | _, _, _ => none

def kmm (mx : Bool) (x y : KV) : Option KV :=
  match x, y with
  | .int k a, .int _ b => some (.int k (if mx then (if b > a then b else a) else (if b < a then b else a)))
  | _, _ => none
def kfoldMM (mx : Bool) : KV → List KV → Option KV
  | x, [] => some x
  | x, y :: r => match kmm mx x y with
    | some z => kfoldMM mx z r
    | none => none

def kbuiltin (P : Program) (F : List TypeId) (self : Nat) (hp : T KO) (b : Builtin) (ts : List TypeId) (xs : List KV) : Option (KV × T KO) :=
  match b, ts, xs with
  | .len, t :: _, [x] => match P.underlying t, x with
    | some .string, .str s => some (.int .i64 s.length, hp)
    | some (.array n _), _ => some (.int .i64 n, hp)
    | some (.slice _), .nilsl => some (.int .i64 0, hp)
    | some (.slice _), .sl _ _ n _ => some (.int .i64 n, hp)
    | some (.slice _), .slo _ _ n _ _ => some (.int .i64 n, hp)
    | some (.map _ _), .nilmap => some (.int .i64 0, hp)
    | some (.map _ _), .map r => match hp.get r with
      | some (.mp es _) => some (.int .i64 es.length, hp)
      | _ => none
    | _, _ => none
  | .cap, t :: _, [x] => match P.underlying t, x with
    | some (.slice _), .nilsl => some (.int .i64 0, hp)
    | some (.slice _), .sl _ _ _ c => some (.int .i64 c, hp)
    | _, _ => none
  | .append, [t, u], [s, x] => kappend P self hp t u s x
  | .copy, t :: _, [d, x] => kcopy P hp t d x
  | .clear, t :: _, [x] => (kclear P hp t x).map fun hp' => (.tup [], hp')
  | .delete, t :: _, [m, k] => (kdelete P F t hp m k).map fun hp' => (.tup [], hp')
  | .min, _, x :: r => (kfoldMM false x r).map fun v => (v, hp)
  | .max, _, x :: r => (kfoldMM true x r).map fun v => (v, hp)
  | _, _, _ => none

def pair (hp : T KO) (x : Option KV) : Option (KV × T KO) := x.map fun v => (v, hp)
def unitv (x : Option (T KO)) : Option (KV × T KO) := x.map fun hp => (.tup [], hp)

/-- an operation that enters no function -/
def kop (P : Program) (F : List TypeId) (self : Nat) (hp : T KO) (v : Operand → Option KV) (o : Oper) : Option (KV × T KO) :=
  match o.op with
  | .move x => pair hp (v x)
  | .assign x => pair hp (v x)
  | .pick c a b => match v c with
    | some (.bool t) => pair hp (if t then v a else v b)
    | _ => none
  | .alloc t => match tzero P t with
    | some z => knew hp self z.cells
    | none => none
  | .box _ x => match v x with
    | some x => knew hp self x.cells
    | none => none
  | .build t ps => match parts v ps.toList with
    | some l => pair hp (kbuild P t l)
    | none => none
  | .buildSlice t n ps => match parts v ps.toList with
    | some l => kbuildSlice P self hp t n l
    | none => none
  | .load t x => match v x with
    | some x => pair hp (kload P t hp x)
    | none => none
  | .store t x y => match v x, v y with
    | some x, some y => unitv (kstore P t hp x y)
    | _, _ => none
  | .nilCheck x => match v x with
    | some (.ptr b o) => some (.ptr b o, hp)
    | some (.fn f a b) => some (.fn f a b, hp)
    | _ => none
  | .binOp op t x y _ => match v x, v y with
    | some x, some y => pair hp (kbin P F hp op t x y)
    | _, _ => none
  | .unOp op _ x => match v x with
    | some x => pair hp (kun op x)
    | none => none
  | .convert a b x => match v x with
    | some x => pair hp (kconv P a b x)
    | none => none
  | .makeFunc (.func f) a b => match omap v a.toList, omap v b.toList with
    | some xs, some ys => some (.fn f xs ys, hp)
    | _, _ => none
  | .makeMap t r => match P.underlying t, (match r with | none => some (KV.int .i64 0) | some x => v x) with
    | some (.map _ _), some (.int _ _) => chk (fresh hp self) (some (.map self, hp.set self (.mp [] 0)))
    | _, _ => none
  | .makeSlice t l c => match v l, v c with
    | some l, some c => kmakeSlice P self hp t l c
    | _, _ => none
  | .slice t x lo hi mx => match v x, omap v lo.toList, omap v hi.toList, omap v mx.toList with
    | some x, some lo, some hi, some mx => pair hp (kslice P hp t x lo.head? hi.head? mx.head?)
    | _, _, _, _ => none
  | .fieldAddr t x f => match v x, fieldOf P t f with
    | some (.ptr b off), some fd => bif posz P fd.type then some (.ptr b (off + fd.offset), hp) else none
    | _, _ => none
  | .field t x f => match v x, fieldOf P t f with
    | some (.agg cs), some fd => pair hp (kpart P fd.type cs fd.offset)
    | _, _ => none
  | .indexAddr t x i => match v x, v i with
    | some x, some i => pair hp (kindexAddr P t x i)
    | _, _ => none
  | .index t x i => match v x, v i with
    | some x, some i => pair hp (kindex P t x i)
    | _, _ => none
  | .lookup t x k ok => match v x, v k with
    | some x, some k => pair hp (klookup P F t ok hp x k)
    | _, _ => none
  | .mapUpdate t m k x => match v m, v k, v x with
    | some m, some k, some x => unitv (kupdate P F t hp m k x)
    | _, _, _ => none
  | .insert t m k x => match v m, v k, v x with
    | some m, some k, some x => unitv (kupdate P F t hp m k x)
    | _, _, _ => none
  | .range t x => match v x with
    | some x => krange P self hp t x
    | none => none
  | .entry x => match v x with
    | some x => pair hp (kentry hp x)
    | none => none
  | .extract x i => match v x with
    | some (.tup xs) => pair hp (lget xs i)
    | _ => none
  | .call c => match c.callee with
    | .builtin b => match omap v c.args.toList with
      | some xs => kbuiltin P F self hp b c.argTypes.toList xs
      | none => none
    | _ => none
  | _ => none

/-- operations that leave the blocks as they are -/
def kquiet (o : Oper) : Bool :=
  match o.op with
  | .move _ => true
  | .assign _ => true
  | .pick .. => true
  | .build .. => true
  | .load .. => true
  | .nilCheck _ => true
  | .binOp .. => true
  | .unOp .. => true
  | .convert .. => true
  | .makeFunc .. => true
  | .slice .. => true
  | .fieldAddr .. => true
  | .field .. => true
  | .indexAddr .. => true
  | .index .. => true
  | .lookup .. => true
  | .entry _ => true
  | .extract .. => true
  | .call c => match c.callee with
    | .builtin .len => true
    | .builtin .cap => true
    | .builtin .min => true
    | .builtin .max => true
    | _ => false
  | _ => false
abbrev KF := Program → List TypeId → Nat → T KO → (Operand → Option KV) → Option (KV × T KO)
def kf_move (x : Operand) : KF := fun P F self hp v => pair hp (v x)
def kf_assign (x : Operand) : KF := fun P F self hp v => pair hp (v x)
def kf_pick (c a b : Operand) : KF := fun P F self hp v => match v c with
    | some (.bool t) => pair hp (if t then v a else v b)
    | _ => none
def kf_alloc (t : TypeId) : KF := fun P F self hp v => match tzero P t with
    | some z => knew hp self z.cells
    | none => none
def kf_box (t : TypeId) (x : Operand) : KF := fun P F self hp v => match v x with
    | some x => knew hp self x.cells
    | none => none
def kf_build (t : TypeId) (ps : Array (Nat × Operand)) : KF := fun P F self hp v => match parts v ps.toList with
    | some l => pair hp (kbuild P t l)
    | none => none
def kf_buildSlice (t : TypeId) (n : Nat) (ps : Array (Nat × Operand)) : KF := fun P F self hp v => match parts v ps.toList with
    | some l => kbuildSlice P self hp t n l
    | none => none
def kf_insert (t : TypeId) (m k x : Operand) : KF := fun P F self hp v => match v m, v k, v x with
    | some m, some k, some x => unitv (kupdate P F t hp m k x)
    | _, _, _ => none
def kf_load (t : TypeId) (x : Operand) : KF := fun P F self hp v => match v x with
    | some x => pair hp (kload P t hp x)
    | none => none
def kf_store (t : TypeId) (x y : Operand) : KF := fun P F self hp v => match v x, v y with
    | some x, some y => unitv (kstore P t hp x y)
    | _, _ => none
def kf_nilCheck (x : Operand) : KF := fun P F self hp v => match v x with
    | some (.ptr b o) => some (.ptr b o, hp)
    | some (.fn f a b) => some (.fn f a b, hp)
    | _ => none
def kf_binOp (op : BinOp) (t : TypeId) (x y : Operand) (yt : TypeId) : KF := fun P F self hp v => match v x, v y with
    | some x, some y => pair hp (kbin P F hp op t x y)
    | _, _ => none
def kf_unOp (op : UnOp) (t : TypeId) (x : Operand) : KF := fun P F self hp v => match v x with
    | some x => pair hp (kun op x)
    | none => none
def kf_convert (a b : TypeId) (x : Operand) : KF := fun P F self hp v => match v x with
    | some x => pair hp (kconv P a b x)
    | none => none
def kf_makeFunc (fn : Fn) (a b : Array Operand) : KF := fun P F self hp v => match fn with
  | .func f => match omap v a.toList, omap v b.toList with
    | some xs, some ys => some (.fn f xs ys, hp)
    | _, _ => none
  | _ => none
def kf_makeMap (t : TypeId) (r : Option Operand) : KF := fun P F self hp v => match P.underlying t, (match r with | none => some (KV.int .i64 0) | some x => v x) with
    | some (.map _ _), some (.int _ _) => chk (fresh hp self) (some (.map self, hp.set self (.mp [] 0)))
    | _, _ => none
def kf_makeSlice (t : TypeId) (l c : Operand) : KF := fun P F self hp v => match v l, v c with
    | some l, some c => kmakeSlice P self hp t l c
    | _, _ => none
def kf_slice (t : TypeId) (x : Operand) (lo hi mx : Option Operand) : KF := fun P F self hp v => match v x, omap v lo.toList, omap v hi.toList, omap v mx.toList with
    | some x, some lo, some hi, some mx => pair hp (kslice P hp t x lo.head? hi.head? mx.head?)
    | _, _, _, _ => none
def kf_fieldAddr (t : TypeId) (x : Operand) (f : Nat) : KF := fun P F self hp v => match v x, fieldOf P t f with
    | some (.ptr b off), some fd => bif posz P fd.type then some (.ptr b (off + fd.offset), hp) else none
    | _, _ => none
def kf_field (t : TypeId) (x : Operand) (f : Nat) : KF := fun P F self hp v => match v x, fieldOf P t f with
    | some (.agg cs), some fd => pair hp (kpart P fd.type cs fd.offset)
    | _, _ => none
def kf_indexAddr (t : TypeId) (x i : Operand) : KF := fun P F self hp v => match v x, v i with
    | some x, some i => pair hp (kindexAddr P t x i)
    | _, _ => none
def kf_index (t : TypeId) (x i : Operand) : KF := fun P F self hp v => match v x, v i with
    | some x, some i => pair hp (kindex P t x i)
    | _, _ => none
def kf_lookup (t : TypeId) (x k : Operand) (ok : Bool) : KF := fun P F self hp v => match v x, v k with
    | some x, some k => pair hp (klookup P F t ok hp x k)
    | _, _ => none
def kf_mapUpdate (t : TypeId) (m k x : Operand) : KF := fun P F self hp v => match v m, v k, v x with
    | some m, some k, some x => unitv (kupdate P F t hp m k x)
    | _, _, _ => none
def kf_range (t : TypeId) (x : Operand) : KF := fun P F self hp v => match v x with
    | some x => krange P self hp t x
    | none => none
def kf_entry (x : Operand) : KF := fun P F self hp v => match v x with
    | some x => pair hp (kentry hp x)
    | none => none
def kf_extract (x : Operand) (i : Nat) : KF := fun P F self hp v => match v x with
    | some (.tup xs) => pair hp (lget xs i)
    | _ => none
def kf_call (c : Call) : KF := fun P F self hp v => match c.callee with
    | .builtin b => match omap v c.args.toList with
      | some xs => kbuiltin P F self hp b c.argTypes.toList xs
      | none => none
    | _ => none
/-- as kop, cheaper in the kernel -/
def kopF (P : Program) (F : List TypeId) (self : Nat) (hp : T KO) (v : Operand → Option KV) (o : Oper) : Option (KV × T KO) :=
  Op.casesOn (motive := fun _ => KF) o.op kf_move kf_assign kf_pick kf_alloc kf_box kf_build kf_buildSlice kf_insert kf_load kf_store (fun _ _ _ _ _ _ => none) (fun _ _ _ _ _ _ => none) kf_nilCheck kf_binOp kf_unOp kf_convert (fun _ _ _ _ _ _ _ => none) (fun _ _ _ _ _ _ _ => none) kf_makeFunc kf_makeMap (fun _ _ _ _ _ _ _ => none) kf_makeSlice kf_slice kf_fieldAddr kf_field kf_indexAddr kf_index kf_lookup kf_mapUpdate (fun _ _ _ _ _ _ _ _ => none) (fun _ _ _ _ _ _ _ _ _ => none) kf_range (fun _ _ _ _ _ _ _ => none) kf_entry (fun _ _ _ _ _ _ _ _ _ => none) kf_extract kf_call (fun _ _ _ _ _ _ => none) (fun _ _ _ _ _ _ => none) (fun _ _ _ _ _ _ => none) (fun _ _ _ _ _ _ _ => none) (fun _ _ _ _ _ _ _ _ => none) (fun _ _ _ _ _ _ _ => none) P F self hp v
theorem kopF_eq : @kopF = @kop := by
  funext P F self hp v o
  obtain ⟨dst, op, type, pos, after, guard⟩ := o
  cases op with
  | makeFunc fn a b => cases fn <;> rfl
  | _ => rfl
def kloud (o : Op) : Bool := Op.casesOn (motive := fun _ => Bool) o (fun _ => false) (fun _ => false) (fun _ _ _ => false) (fun _ => false) (fun _ _ => false) (fun _ _ => false) (fun _ _ _ => false) (fun _ _ _ _ => false) (fun _ _ => false) (fun _ _ _ => false) (fun _ => false) (fun _ => false) (fun _ => false) (fun _ _ _ _ _ => false) (fun _ _ _ => false) (fun _ _ _ => false) (fun _ _ => false) (fun _ _ => false) (fun _ _ _ => false) (fun _ _ => false) (fun _ _ => false) (fun _ _ _ => false) (fun _ _ _ _ _ => false) (fun _ _ _ => false) (fun _ _ _ => false) (fun _ _ _ => false) (fun _ _ _ => false) (fun _ _ _ _ => false) (fun _ _ _ _ => false) (fun _ _ _ => false) (fun _ _ _ _ => false) (fun _ _ => false) (fun _ _ => true) (fun _ => false) (fun _ _ _ _ => false) (fun _ _ => false) (fun _ => true) (fun _ => false) (fun _ => false) (fun _ => false) (fun _ _ => false) (fun _ _ _ => false) (fun _ _ => false)
def q_bool (a : Bool) (y : KV) : Bool := KV.casesOn (motive_1 := fun _ => Bool) y (fun b => a == b) (fun _ _ => false) (fun _ => false) false (fun _ _ => false) false (fun _ _ _ _ => false) (fun _ _ _ _ _ => false) false false (fun _ => false) false (fun _ _ _ => false) (fun _ => false) (fun _ => false) (fun _ => false)
def q_int (j : IntKind) (n : Int) (y : KV) : Bool := KV.casesOn (motive_1 := fun _ => Bool) y (fun _ => false) (fun k m => decide (j = k) && n == m) (fun _ => false) false (fun _ _ => false) false (fun _ _ _ _ => false) (fun _ _ _ _ _ => false) false false (fun _ => false) false (fun _ _ _ => false) (fun _ => false) (fun _ => false) (fun _ => false)
def q_str (s : List UInt8) (y : KV) : Bool := KV.casesOn (motive_1 := fun _ => Bool) y (fun _ => false) (fun _ _ => false) (fun t => s == t) false (fun _ _ => false) false (fun _ _ _ _ => false) (fun _ _ _ _ _ => false) false false (fun _ => false) false (fun _ _ _ => false) (fun _ => false) (fun _ => false) (fun _ => false)
def q_nilp  (y : KV) : Bool := KV.casesOn (motive_1 := fun _ => Bool) y (fun _ => false) (fun _ _ => false) (fun _ => false) true (fun _ _ => false) false (fun _ _ _ _ => false) (fun _ _ _ _ _ => false) false false (fun _ => false) false (fun _ _ _ => false) (fun _ => false) (fun _ => false) (fun _ => false)
def q_ptr (a i : Nat) (y : KV) : Bool := KV.casesOn (motive_1 := fun _ => Bool) y (fun _ => false) (fun _ _ => false) (fun _ => false) false (fun b j => Nat.beq a b && Nat.beq i j) false (fun _ _ _ _ => false) (fun _ _ _ _ _ => false) false false (fun _ => false) false (fun _ _ _ => false) (fun _ => false) (fun _ => false) (fun _ => false)
def q_nilsl  (y : KV) : Bool := KV.casesOn (motive_1 := fun _ => Bool) y (fun _ => false) (fun _ _ => false) (fun _ => false) false (fun _ _ => false) true (fun _ _ _ _ => false) (fun _ _ _ _ _ => false) false false (fun _ => false) false (fun _ _ _ => false) (fun _ => false) (fun _ => false) (fun _ => false)
def q_sl (a i l c : Nat) (y : KV) : Bool := KV.casesOn (motive_1 := fun _ => Bool) y (fun _ => false) (fun _ _ => false) (fun _ => false) false (fun _ _ => false) false (fun b j m d => Nat.beq a b && Nat.beq i j && Nat.beq l m && Nat.beq c d) (fun _ _ _ _ _ => false) false false (fun _ => false) false (fun _ _ _ => false) (fun _ => false) (fun _ => false) (fun _ => false)
def q_slo (a i l c u : Nat) (y : KV) : Bool := KV.casesOn (motive_1 := fun _ => Bool) y (fun _ => false) (fun _ _ => false) (fun _ => false) false (fun _ _ => false) false (fun _ _ _ _ => false) (fun b j m d w => Nat.beq a b && Nat.beq i j && Nat.beq l m && Nat.beq c d && Nat.beq u w) false false (fun _ => false) false (fun _ _ _ => false) (fun _ => false) (fun _ => false) (fun _ => false)
def q_slz  (y : KV) : Bool := KV.casesOn (motive_1 := fun _ => Bool) y (fun _ => false) (fun _ _ => false) (fun _ => false) false (fun _ _ => false) false (fun _ _ _ _ => false) (fun _ _ _ _ _ => false) true false (fun _ => false) false (fun _ _ _ => false) (fun _ => false) (fun _ => false) (fun _ => false)
def q_nilmap  (y : KV) : Bool := KV.casesOn (motive_1 := fun _ => Bool) y (fun _ => false) (fun _ _ => false) (fun _ => false) false (fun _ _ => false) false (fun _ _ _ _ => false) (fun _ _ _ _ _ => false) false true (fun _ => false) false (fun _ _ _ => false) (fun _ => false) (fun _ => false) (fun _ => false)
def q_map (a : Nat) (y : KV) : Bool := KV.casesOn (motive_1 := fun _ => Bool) y (fun _ => false) (fun _ _ => false) (fun _ => false) false (fun _ _ => false) false (fun _ _ _ _ => false) (fun _ _ _ _ _ => false) false false (fun b => Nat.beq a b) false (fun _ _ _ => false) (fun _ => false) (fun _ => false) (fun _ => false)
def q_nilf  (y : KV) : Bool := KV.casesOn (motive_1 := fun _ => Bool) y (fun _ => false) (fun _ _ => false) (fun _ => false) false (fun _ _ => false) false (fun _ _ _ _ => false) (fun _ _ _ _ _ => false) false false (fun _ => false) true (fun _ _ _ => false) (fun _ => false) (fun _ => false) (fun _ => false)
def q_fn (f : FuncId) (xs ys : List KV) (y : KV) : Bool := KV.eqb (.fn f xs ys) y
def q_yld (a : Nat) (y : KV) : Bool := KV.casesOn (motive_1 := fun _ => Bool) y (fun _ => false) (fun _ _ => false) (fun _ => false) false (fun _ _ => false) false (fun _ _ _ _ => false) (fun _ _ _ _ _ => false) false false (fun _ => false) false (fun _ _ _ => false) (fun b => Nat.beq a b) (fun _ => false) (fun _ => false)
def q_agg (xs : List KV) (y : KV) : Bool := KV.eqb (.agg xs) y
def q_tup (xs : List KV) (y : KV) : Bool := KV.eqb (.tup xs) y
def KV.eqF (x y : KV) : Bool := KV.casesOn (motive_1 := fun _ => KV → Bool) x q_bool q_int q_str q_nilp q_ptr q_nilsl q_sl q_slo q_slz q_nilmap q_map q_nilf q_fn q_yld q_agg q_tup y
theorem KV.eqF_eq : @KV.eqF = @KV.eqb := by
  funext x y
  cases x <;> cases y <;> simp [KV.eqF, KV.eqb, q_bool, q_int, q_str, q_nilp, q_ptr, q_nilsl, q_sl, q_slo, q_slz, q_nilmap, q_map, q_nilf, q_fn, q_yld, q_agg, q_tup]
def KV.eqsF : List KV → List KV → Bool
  | [], [] => true
  | a :: as, b :: bs => KV.eqF a b && KV.eqsF as bs
  | _, _ => false
theorem KV.eqsF_eq : @KV.eqsF = @KV.eqs := by
  funext x
  induction x with
  | nil => funext y; cases y <;> simp [KV.eqsF, KV.eqs]
  | cons a as ih => funext y; cases y <;> simp [KV.eqsF, KV.eqs, KV.eqF_eq, ih]
def KO.eqF (x y : KO) : Bool := match x with
  | .row xs => match y with
    | .row ys => KV.eqsF xs ys
    | _ => false
  | _ => KO.eqb x y
theorem KO.eqF_eq : @KO.eqF = @KO.eqb := by
  funext x y
  cases x <;> cases y <;> simp [KO.eqF, KO.eqb, KV.eqsF_eq]
def KS.eqF (a b : KS) : Bool := T.eqb KV.eqF a.tm b.tm && T.eqb KO.eqF a.hp b.hp && Nat.beq a.nx b.nx && leqb Nat.beq a.df b.df
theorem KS.eqF_eq : @KS.eqF = @KS.eqb := by
  funext a b
  simp only [KS.eqF, KS.eqb, KV.eqF_eq, KO.eqF_eq]
end
end Go.KX
