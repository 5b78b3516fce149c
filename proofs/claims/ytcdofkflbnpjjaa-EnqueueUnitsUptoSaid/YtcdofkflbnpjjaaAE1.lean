/- Text. -/
import Derived.WalkKit
import Derived.Lib.Hide
set_option linter.unusedVariables false
namespace Go.AE
inductive C where
  | z
  | bool (b:Bool)
  | int (n:Int)
  | str (s:List UInt8)
  | slice (es:List (List C))
  | ptr (cells:List C)
  | clo (f:Nat) (caps:List C)
  deriving Inhabited
def C.toBool:C→Bool | .bool b=>b | _=>false
def C.toInt:C→Int | .int n=>n | _=>0
def C.toStr:C→List UInt8 | .str s=>s | _=>[]
def C.toSl:C→List (List C) | .slice es=>es | _=>[]
def C.toPtr:C→List C | .ptr cs=>cs | _=>[]
@[simp] theorem C.toBool_bool (b:Bool):(C.bool b).toBool=b:=rfl
@[simp] theorem C.toInt_int (n:Int):(C.int n).toInt=n:=rfl
@[simp] theorem C.toStr_str (s:List UInt8):(C.str s).toStr=s:=rfl
@[simp] theorem C.toSl_slice (es:List (List C)):(C.slice es).toSl=es:=rfl
@[simp] theorem C.toPtr_ptr (es:List C):(C.ptr es).toPtr=es:=rfl
def cg (xs:List C) (j:Nat):C:=xs.getD j .z
@[simp] theorem cg_zero (x:C) (xs:List C):cg (x :: xs) 0=x:=rfl
@[simp] theorem cg_succ (x:C) (xs:List C) (j:Nat):cg (x :: xs) (j+1)=cg xs j:=rfl
def eg (es:List (List C)) (i:Nat):List C:=es.getD i []
inductive Kd where
  | bool | int (k:IntKind) | str | slice (t:TypeId) | ptr (t:TypeId) | arr (t:TypeId) | other
  deriving DecidableEq,Inhabited
inductive A where
  | unk
  | c (k:Kd) (x:C)
  | nilsl
  | agg (xs:List A)
  | tup (xs:List A)
  | own (id:Nat) (ks:List Kd) (off len:Nat)
  | box (id off:Nat)
  | elt (id sz:Nat) (ks:List Kd) (i off:Nat)
  | pp (ks:List Kd) (cells:List C) (off:Nat)
  | fnv (f:Nat) (caps:List A)
  | fnb (f:Nat) (firsts:List A)
  | mref (id:Nat)
  | when (g:Bool) (a:A)
  | rg (id:Nat) (k:Kd) (x:C)
  | rp (id:Nat) (ks:List Kd) (cells:List C) (off:Nat)
  | bsl (id len:Nat)
  deriving Inhabited
inductive Blk where
  | dead
  | gone
  | box (cells:List A)
  | row (t:TypeId) (es:List (List C))
  | frz (t:TypeId) (es:List (List C))
  | mp (kk:Kd) (vp:Bool×List Kd) (m:List (C×List C))
  | rl (t:TypeId) (es:List (List C)) (i j:Nat) (a:A)
  | it (kk:Kd) (vp:Bool×List Kd) (cur:Option (C×List C)) (left:List (C×List C))
  | reg
  | wob
  deriving Inhabited
structure S where
  tm:Nat→A
  hp:Nat→Blk
def upd {α:Type} (f:Nat→α) (i:Nat) (v:α):Nat→α:=fun j=>if j=i then v else f j
theorem upd_apply {α:Type} (f:Nat→α) (i:Nat) (v:α) (j:Nat):upd f i v j=if j=i then v else f j:=rfl
def updD (f:Nat→A) (d:Option Nat) (v:A):Nat→A:=match d with | some i=>upd f i v | none=>f
structure TyI where
  kinds:List Kd
  agg:Bool
  fields:List (Nat×TypeId)
  elem:TypeId
  bytes:Nat
def kindsF (P:Program):Nat→TypeId→Option (List Kd)
  | 0,_=>none
  | n+1,t=>match P.underlying t with
    | some .bool=>some [.bool]
    | some (.int k)=>some [.int k]
    | some .string=>some [.str]
    | some (.slice e)=>some [.slice e]
    | some (.pointer e)=>some [.ptr e]
    | some (.struct fs)=>(fs.toList.mapM fun f=>kindsF P n f.type).map List.flatten
    | some (.array _ _)=>none
    | some _=>some [.other]
    | none=>none
def zeroFits:Kd→Value→Bool
  | .bool,.bool b=>!b
  | .int k,.int k' n=>k == k' && n == 0
  | .str,.string s=>s.size == 0
  | .slice _,.slice none 0 0=>true
  | .ptr _,.pointer none=>true
  | .other,_=>true
  | _,_=>false
def fitsAll:List Kd→List Value→Bool
  | [],[]=>true
  | k :: ks,v :: vs=>zeroFits k v && fitsAll ks vs
  | _,_=>false
def isAggD:TypeDesc→Bool
  | .struct _ | .array _ _=>true
  | _=>false
def fieldsOfD:TypeDesc→List (Nat×TypeId)
  | .struct fs=>fs.toList.map fun f=>(f.offset,f.type)
  | _=>[]
def elemOfD:TypeDesc→TypeId
  | .slice e=>e
  | .pointer e=>e
  | .array _ e=>e
  | _=>0
def fieldsFit (P:Program) (n:Nat) (d:TypeDesc):Bool :=
  (fieldsOfD d).all fun p=>match P.info? p.2 with | some fi=>decide (0 < fi.size) && decide (p.1+fi.size≤n) | none=>false
def isAggV:Value→Bool
  | .agg _=>true
  | _=>false
def tyOk (P:Program) (i:TypeInfo) (d:TypeDesc) (ks:List Kd):Bool :=
  i.size == ks.length && (!ks.isEmpty && (decide (0 < i.bytes) && (fieldsFit P ks.length d && (match i.zero with | some z=>fitsAll ks z.cells.toList && isAggD d == isAggV z | none=>false))))
def tyI (P:Program) (t:TypeId):Option TyI :=
  match P.info? t,P.underlying t,kindsF P 12 t with
  | some i,some d,some ks =>
    if tyOk P i d ks then some { kinds:=ks,agg:=isAggD d,fields:=fieldsOfD d,elem:=elemOfD d,bytes:=i.bytes } else none
  | _,_,_=>none
def arrI (P:Program) (t:TypeId):Option (Nat×TypeId×TyI) :=
  match P.info? t,P.underlying t with
  | some i,some (.array n e)=>match tyI P e with
    | some E=>if i.size == n * E.kinds.length && (decide (0 < n) && (decide (n * E.bytes≤140737488355328) && (match i.zero with | some (.agg z)=>fitsAll (List.replicate n E.kinds).flatten z.toList | _=>false))) then some (n,e,E) else none
    | none=>none
  | _,_=>none
def isStrT (P:Program) (t:TypeId):Bool :=
  match tyI P t with
  | some ⟨[.str],false,_,_,_⟩=>true
  | _=>false
def slE (P:Program) (t:TypeId):Option (TypeId×TyI) :=
  match tyI P t with
  | some ⟨[.slice e],false,_,_,_⟩=>match tyI P e with
    | some E=>some (e,E)
    | none=>none
  | _=>none
def mapE (P:Program) (t:TypeId):Option (Kd×TypeId×TyI) :=
  match P.underlying t with
  | some (.map k e)=>match P.underlying k,tyI P e with
    | some .string,some E=>some (.str,e,E)
    | some (.int q),some E=>some (.int q,e,E)
    | _,_=>none
  | _=>none
def keyEq (kk:Kd) (a b:C):Bool :=
  match kk with
  | .str=>a.toStr == b.toStr
  | .int _=>a.toInt == b.toInt
  | _=>false
def mget (kk:Kd) (k:C):List (C×List C)→Option (List C)
  | []=>none
  | e :: m=>if keyEq kk k e.1 then some e.2 else mget kk k m
def mset (kk:Kd) (k:C) (v:List C):List (C×List C)→List (C×List C)
  | []=>[(k,v)]
  | e :: m=>if keyEq kk k e.1 then (k,v) :: m else e :: mset kk k v m
def mdel (kk:Kd) (k:C):List (C×List C)→List (C×List C)
  | []=>[]
  | e :: m=>if keyEq kk k e.1 then m else e :: mdel kk k m
structure Sig where
  pre:Prop
  res:List A
  rows:List Blk
structure Fn where
  f:FuncId
  ps:List (Bool×List Kd)
  refs:Bool
  sem:List (List C)→Sig
structure Out where
  pre:Prop
  fact:Prop
  val:A
  hp:Nat→Blk
  q:Bool
def constA:Value→A
  | .bool b=>.c .bool (.bool b)
  | .int k n=>.c (.int k) (.int n)
  | .string s=>.c .str (.str s.data.toList)
  | .slice none 0 0=>.nilsl
  | _=>.unk
def opdA (tm:Nat→A):Operand→A
  | .tmp t=>tm t
  | .const v=>constA v
  | .global _=>.unk
  | .func f=>.fnv f []
def whenP:A→Option Bool×A
  | .when g a=>(some g,a)
  | a=>(none,a)
def kb (b:Bool):A:=.c .bool (.bool b)
def ki (k:IntKind) (n:Int):A:=.c (.int k) (.int n)
def intBin (op:BinOp) (k:IntKind) (a b:Int):Option (Prop×A) :=
  match op with
  | .add=>some (True,ki k (k.wrap (a+b)))
  | .sub=>some (True,ki k (k.wrap (a - b)))
  | .mul=>some (True,ki k (k.wrap (a * b)))
  | .quo=>some (b≠0,ki k (k.wrap (a.tdiv b)))
  | .rem=>some (b≠0,ki k (a.tmod b))
  | .and=>some (True,ki k (k.wrap (BitVec.ofInt k.bits a &&& BitVec.ofInt k.bits b).toNat))
  | .or=>some (True,ki k (k.wrap (BitVec.ofInt k.bits a ||| BitVec.ofInt k.bits b).toNat))
  | .xor=>some (True,ki k (k.wrap (BitVec.ofInt k.bits a ^^^ BitVec.ofInt k.bits b).toNat))
  | .andNot=>some (True,ki k (k.wrap (BitVec.ofInt k.bits a &&& ~~~BitVec.ofInt k.bits b).toNat))
  | .eql=>some (True,kb (a == b))
  | .neq=>some (True,kb (a != b))
  | .lss=>some (True,kb (a < b))
  | .leq=>some (True,kb (a≤b))
  | .gtr=>some (True,kb (a > b))
  | .geq=>some (True,kb (a ≥ b))
  | _=>none
def strBin (op:BinOp) (x y:List UInt8):Option (Prop×A) :=
  match op with
  | .add=>some (((x.length+y.length:Nat):Int)≤9223372036854775807,.c .str (.str (x ++ y)))
  | .eql=>some (True,kb (x == y))
  | .neq=>some (True,kb (x != y))
  | .lss=>some (True,kb (Op.bytesLess x y))
  | .leq=>some (True,kb (Op.bytesLess x y || x == y))
  | .gtr=>some (True,kb (!(Op.bytesLess x y || x == y)))
  | .geq=>some (True,kb (!Op.bytesLess x y))
  | _=>none
def boolTy (T:Option TyI):Bool :=
  match T with
  | some ⟨[.bool],false,_,_,_⟩=>true
  | _=>false
def binA (op:BinOp) (T:Option TyI):A→A→Option (Prop×A)
  | .c (.int k) x,.c (.int k') y=>if k=k' then intBin op k x.toInt y.toInt else none
  | .c .str x,.c .str y=>strBin op x.toStr y.toStr
  | .c .bool x,.c .bool y=>match op with
    | .eql=>if boolTy T then some (True,kb (x.toBool == y.toBool)) else none
    | .neq=>if boolTy T then some (True,kb (x.toBool != y.toBool)) else none
    | _=>none
  | _,_=>none
def cellEq:Kd→A→A→Option Bool
  | .bool,.c .bool x,.c .bool y=>some (x.toBool == y.toBool)
  | .int k,.c (.int k1) x,.c (.int k2) y=>if k1=k then (if k2=k then some (x.toInt == y.toInt) else none) else none
  | .str,.c .str x,.c .str y=>some (x.toStr == y.toStr)
  | _,_,_=>none
def cellsEq:List Kd→List A→List A→Option Bool
  | [],[],[]=>some true
  | k :: ks,a :: as,b :: bs=>match cellEq k a b,cellsEq ks as bs with
    | some p,some q=>some (p && q)
    | _,_=>none
  | _,_,_=>none
def eqFs (P:Program) (ok:TypeId→Bool):Nat→List Field→Bool
  | _,[]=>true
  | acc, f :: fs => f.offset == acc && (decide (f.name ≠ "_") && (decide (0 < P.cellsOf f.type) && (ok f.type && eqFs P ok (acc + P.cellsOf f.type) fs)))
def eqT0 (P:Program):Nat→TypeId→Bool
  | 0,_=>false
  | n+1,t=>match P.underlying t with
    | some .bool=>P.cellsOf t == 1
    | some (.int _)=>P.cellsOf t == 1
    | some .string=>P.cellsOf t == 1
    | some (.struct fs)=>!P.stoodInHeld t && (eqFs P (eqT0 P n) 0 fs.toList && P.cellsOf t == (fs.toList.map fun f=>P.cellsOf f.type).sum)
    | _=>false
def eqT (P:Program) (t:TypeId):Bool:=!(P.eqGuardType P.depth t) && (eqT0 P 12 t && (match P.underlying t with | some (.struct _)=>true | _=>false))
def binS (P:Program) (op:BinOp) (t:TypeId):A→A→Option (Prop×A)
  | .agg xs,.agg ys=>match tyI P t with
    | some T=>if eqT P t then (match op,cellsEq T.kinds xs ys with
      | .eql,some b=>some (True,kb b)
      | .neq,some b=>some (True,kb (!b))
      | _,_=>none) else none
    | none=>none
  | x,y=>binA op (tyI P t) x y
def unA (op:UnOp):A→Option A
  | .c .bool x=>match op with | .not=>some (kb (!x.toBool)) | _=>none
  | .c (.int k) x=>match op with
    | .neg=>some (ki k (k.wrap (0 - x.toInt)))
    | _=>none
  | _=>none
def nrm:Kd→C→C
  | .bool,x=>.bool x.toBool
  | .int _,x=>.int x.toInt
  | .str,x=>.str x.toStr
  | .slice _,x=>.slice x.toSl
  | .arr _,x=>.slice x.toSl
  | _,x=>x
def ppVals:List Kd→List C→Nat→List A
  | [],_,_=>[]
  | k :: ks,cells,j=>.c k (nrm k (cg cells j)) :: ppVals ks cells (j+1)
def zeroA:Kd→A
  | .bool=>kb false
  | .int k=>ki k 0
  | .str=>.c .str (.str [])
  | .slice _=>.nilsl
  | _=>.unk
def zeroC:Kd→C
  | .bool=>.bool false
  | .int _=>.int 0
  | .str=>.str []
  | .slice _=>.slice []
  | _=>.z
def pack (agg:Bool) (xs:List A):A:=if agg then .agg xs else xs.headD .unk
def live (hp:Nat→Blk) (id:Nat):Bool :=
  match hp id with
  | .box _=>true
  | .row _ _=>true
  | .frz _ _=>true
  | _=>false
def oneA (hp:Nat→Blk):A→Bool
  | .c .other _=>false
  | .c (.ptr _) _=>false
  | .c (.arr _) _=>false
  | .c _ _=>true
  | .own id _ _ _=>live hp id
  | .box id _=>live hp id
  | .bsl id _=>live hp id
  | .elt id _ _ _ _=>live hp id
  | .nilsl=>true
  | .pp ..=>true
  | .fnv ..=>true
  | .fnb ..=>true
  | .mref id=>match hp id with | .mp _ _ _=>true | _=>false
  | .rg id k _=>(match k with | .other=>false | .ptr _=>false | .arr _=>false | _=>true) && (match hp id with | .reg=>true | _=>false)
  | .rp id _ _ _=>(match hp id with | .reg=>true | _=>false)
  | _=>false
def toCell (hp:Nat→Blk):A→Option (Kd×C)
  | .c k x=>some (k,x)
  | .nilsl=>some (.slice 0,.slice [])
  | .own id _ off len=>match hp id with
    | .row t es=>some (.slice t,.slice ((es.drop off).take len))
    | .frz t es=>some (.slice t,.slice ((es.drop off).take len))
    | _=>none
  | _=>none
def frozenIds:A→List Nat
  | .own id _ _ _=>[id]
  | _=>[]
def freeze1 (hp:Nat→Blk) (id:Nat):Nat→Blk :=
  match hp id with
  | .row t es=>upd hp id (.frz t es)
  | _=>hp
def loadA (T:TyI) (hp:Nat→Blk):A→Option (Prop×A)
  | .box id off=>match hp id with
    | .box cells=>some (off+T.kinds.length≤cells.length,pack T.agg ((cells.drop off).take T.kinds.length))
    | _=>none
  | .elt id _ ks i off=>match hp id with
    | .row _ es=>some (i < es.length∧T.kinds.length≤ks.length,pack T.agg (ppVals (ks.take T.kinds.length) (eg es i) off))
    | .frz _ es=>some (i < es.length∧T.kinds.length≤ks.length,pack T.agg (ppVals (ks.take T.kinds.length) (eg es i) off))
    | _=>none
  | .pp ks cells off=>some (T.kinds.length≤ks.length,pack T.agg (ppVals (ks.take T.kinds.length) cells off))
  | _=>none
def cellsA:A→List A
  | .agg xs=>xs
  | a=>[a]
def boxable (hp:Nat→Blk):A→Bool
  | .agg _=>true
  | a=>oneA hp a
def allOne (hp:Nat→Blk):List A→Bool
  | []=>true
  | a :: as=>oneA hp a && allOne hp as
def splice {α:Type} (l:List α) (off:Nat) (xs:List α):List α:=l.take off ++ xs ++ l.drop (off+xs.length)
def spliceR (l:List C) (off:Nat) (xs:List C):List C:=splice l off xs
def toKCells (hp:Nat→Blk):List A→Option (List Kd×List C)
  | []=>some ([],[])
  | a :: as=>match toCell hp a,toKCells hp as with
    | some (k,x),some (ks,xs)=>some (k :: ks,x :: xs)
    | _,_=>none
def fitK:Kd→Kd→Bool
  | .bool,.bool=>true
  | .int k,.int k'=>k == k'
  | .str,.str=>true
  | .slice t,.slice u=>u == 0 || t == u
  | _,_=>false
def fitP:Kd→Kd→Bool
  | .arr t,.arr u=>t == u
  | k,k'=>fitK k k'
def fitKs:List Kd→List Kd→Bool
  | _,[]=>true
  | k :: ks,k' :: ks'=>fitK k k' && fitKs ks ks'
  | [],_ :: _=>false
def freezeAll (hp:Nat→Blk):List Nat→(Nat→Blk)
  | []=>hp
  | id :: ids=>freezeAll (freeze1 hp id) ids
def notIn (id:Nat):List Nat→Bool
  | []=>true
  | x :: xs=>!(x == id) && notIn id xs
def storeA (v:A) (hp:Nat→Blk):A→Option (Prop×(Nat→Blk))
  | .box id off=>match hp id with
    | .box cells=>some (off+(cellsA v).length≤cells.length∧allOne hp (cellsA v)=true,upd hp id (.box (splice cells off (cellsA v))))
    | _=>none
  | .elt id _ ks i off=>match hp id,toKCells hp (cellsA v) with
    | .row t es,some (ks',xs)=>if notIn id ((cellsA v).flatMap frozenIds) then
        some (i < es.length∧fitKs ks ks'=true,upd (freezeAll hp ((cellsA v).flatMap frozenIds)) id (.row t (es.set i (spliceR (eg es i) off xs))))
      else none
    | _,_=>none
  | _=>none
def loadArr (P:Program) (t:TypeId) (hp:Nat→Blk) (x:A):Option (Prop×A) :=
  match arrI P t,x with
  | some (n,e,_),.elt id _ _ 0 0=>match hp id with
    | .row t' es=>if t' == e then some (es.length=n,.c (.arr t) (.slice es)) else none
    | .frz t' es=>if t' == e then some (es.length=n,.c (.arr t) (.slice es)) else none
    | _=>none
  | _,_=>none
def fieldA (T:TyI) (hp:Nat→Blk) (f:Nat):A→Option A
  | .box id off=>(T.fields[f]?).map fun p=>.box id (off+p.1)
  | .elt id sz ks i off=>if live hp id then (T.fields[f]?).map fun p=>.elt id sz (ks.drop p.1) i (off+p.1) else none
  | .pp ks cells off=>(T.fields[f]?).map fun p=>.pp (ks.drop p.1) cells (off+p.1)
  | _=>none
def indexAddrA (e:TypeId) (E:TyI) (hp:Nat→Blk) (x:A) (i:Int):Option (Prop×A) :=
  match x with
  | .c (.slice e') c=>if e'=e then some (0≤i∧i < (c.toSl.length:Int),.pp E.kinds (eg c.toSl i.toNat) 0) else none
  | .own id ks off len=>if live hp id then (if ks=E.kinds then some (0≤i∧i < (len:Int),.elt id ks.length ks (off+i.toNat) 0) else none) else none
  | _=>none
def indexArrA (m:Nat) (e:TypeId) (E:TyI) (hp:Nat→Blk) (x:A) (i:Int):Option (Prop×A) :=
  match x with
  | .elt id sz ks 0 0=>match hp id with
    | .row t es=>if t=e∧ks=E.kinds∧sz=ks.length then some (0≤i∧i < (m:Int)∧es.length=m,.elt id sz ks i.toNat 0) else none
    | .frz t es=>if t=e∧ks=E.kinds∧sz=ks.length then some (0≤i∧i < (m:Int)∧es.length=m,.elt id sz ks i.toNat 0) else none
    | _=>none
  | _=>none
def bound (d:Int):Option A→Option Int
  | none=>some d
  | some (.c (.int _) x)=>some x.toInt
  | _=>none
def sliceStr (c:C) (lo hi:Option A):Option (Prop×A) :=
  match bound 0 lo,bound (c.toStr.length:Int) hi with
  | some l,some h=>some (0≤l∧l≤h∧h≤(c.toStr.length:Int),.c .str (.str ((c.toStr.take h.toNat).drop l.toNat)))
  | _,_=>none
def sliceSl (e:TypeId) (c:C) (lo hi:Option A):Option (Prop×A) :=
  match bound 0 lo,bound (c.toSl.length:Int) hi with
  | some l,some h=>some (0≤l∧l≤h∧h≤(c.toSl.length:Int),.c (.slice e) (.slice ((c.toSl.take h.toNat).drop l.toNat)))
  | _,_=>none
def rowLen (hp:Nat→Blk) (id off len:Nat):Nat :=
  match off with
  | 0=>match hp id with
    | .row _ es=>es.length
    | .frz _ es=>es.length
    | _=>len
  | _+1=>len
def sliceOwn (mx:Nat) (id:Nat) (ks:List Kd) (off len:Nat) (lo hi:Option A):Option (Prop×A) :=
  match bound 0 lo,bound (len:Int) hi with
  | some l,some h=>some (0≤l∧l≤h∧h≤(mx:Int),.own id ks (off+l.toNat) (h - l).toNat)
  | _,_=>none
def sliceA (P:Program) (t:TypeId) (hp:Nat→Blk) (x:A) (lo hi:Option A):Option (Prop×A) :=
  match x with
  | .c .str c=>if isStrT P t then sliceStr c lo hi else none
  | .c (.slice e) c=>match slE P t with
    | some (e',_)=>if e=e' then sliceSl e c lo hi else none
    | none=>none
  | .own id ks off len=>match slE P t with
    | some (_,E)=>if live hp id then (if ks=E.kinds then sliceOwn (rowLen hp id off len) id ks off len lo hi else none) else none
    | none=>none
  | _=>none
def lenSl (hp:Nat→Blk):A→Option (Prop×A)
  | .c (.slice _) c=>some ((c.toSl.length:Int)≤140737488355328,ki .i64 c.toSl.length)
  | .own id _ _ len=>if live hp id then some ((len:Int)≤140737488355328,ki .i64 len) else none
  | .nilsl=>some (True,ki .i64 0)
  | _=>none
def lenA (P:Program) (t:TypeId) (hp:Nat→Blk) (x:A):Option (Prop×A) :=
  match x with
  | .c .str c=>if isStrT P t then some ((c.toStr.length:Int)≤9223372036854775807,ki .i64 c.toStr.length) else none
  | x=>if (slE P t).isSome then lenSl hp x else none
def minMaxA (isMax:Bool):A→A→Option A
  | .c (.int k) x,.c (.int k') y=>if k=k' then some (ki k (if isMax then (if y.toInt > x.toInt then y.toInt else x.toInt) else (if y.toInt < x.toInt then y.toInt else x.toInt))) else none
  | _,_=>none
def foldMM (isMax:Bool) (x:A):List A→Option A
  | []=>some x
  | y :: r=>match minMaxA isMax x y with
    | some z=>foldMM isMax z r
    | none=>none
def srcRows (e:TypeId) (hp:Nat→Blk):A→Option (List (List C))
  | .c (.slice e') c=>if e'=e then some c.toSl else none
  | .nilsl=>some []
  | .own id _ off len=>match hp id with
    | .row e' es=>if e'=e then some ((es.drop off).take len) else none
    | .frz e' es=>if e'=e then some ((es.drop off).take len) else none
    | _=>none
  | _=>none
def key (d:Nat) (j:Nat):Nat:=d * 16+j
def isDead:Blk→Bool
  | .dead=>true
  | _=>false
def plainKs:List Kd→Bool
  | []=>true
  | .other :: _=>false
  | .ptr _ :: _=>false
  | .arr _ :: _=>false
  | _ :: ks=>plainKs ks
def overL {α:Type} (l:List α) (i:Nat) (new:List α):List α:=if i+new.length≤l.length then l.take i ++ new ++ l.drop (i+new.length) else l
theorem overL_len {α:Type} (l:List α) (i:Nat) (new:List α):(overL l i new).length=l.length:=by
  unfold overL
  split
  · simp;omega
  · rfl
theorem overL_map {α β:Type} (f:α→β) (l:List α) (i:Nat) (new:List α):overL (List.map f l) i (List.map f new)=List.map f (overL l i new):=by
  unfold overL
  simp only [List.length_map]
  split
  · simp
  · rfl
theorem overL_pos {α:Type} {l:List α} {i:Nat} {new:List α} (h:i+new.length≤l.length):overL l i new=l.take i ++ new ++ l.drop (i+new.length):=if_pos h
def sameId (id:Nat):A→Bool
  | .own id' _ _ _=>id' == id
  | _=>false
def scalarK:Kd→Bool
  | .bool=>true
  | .int _=>true
  | .str=>true
  | _=>false
def isRegB:Blk→Bool
  | .reg=>true
  | _=>false
mutual
def meltH (hp:Nat→Blk):A→A
  | .rg id k x=>if isRegB (hp id) then .c k x else .unk
  | .agg xs=>.agg (meltHs hp xs)
  | a=>a
def meltHs (hp:Nat→Blk):List A→List A
  | []=>[]
  | a :: as=>meltH hp a :: meltHs hp as
end
def srcA (ks:List Kd) (hp:Nat→Blk) (y:A):A:=if ks.all scalarK then meltH hp y else y
def appendA (t:TypeId) (E:TyI) (d:Nat) (hp:Nat→Blk) (x y:A):Option Out :=
  match srcRows t hp (srcA E.kinds hp y) with
  | none=>none
  | some new =>
    if isDead (hp (key d 0)) && plainKs E.kinds then
      match x with
      | .nilsl=>some ⟨(new.length:Int) * E.bytes≤140737488355328,True,.own (key d 0) E.kinds 0 new.length,upd hp (key d 0) (.row t new),false⟩
      | .own id ks 0 len=>match hp id with
        | .row t' es=>if t'=t then (if sameId id y then some ⟨len+new.length≤es.length,True,.own id ks 0 (len+new.length),upd hp id (.row t' (overL es len new)),false⟩ else some ⟨len≤es.length∧((len+new.length:Nat):Int) * E.bytes≤140737488355328,True,.own (key d 0) ks 0 (len+new.length),upd (upd hp id .gone) (key d 0) (.row t' (es.take len ++ new)),false⟩) else none
        | _=>none
      | _=>none
    else none
mutual
def renA (d:Nat):A→A
  | .own id ks off len=>.own (key d id) ks off len
  | .agg xs=>.agg (renAs d xs)
  | .c k x=>.c k x
  | .nilsl=>.nilsl
  | _=>.unk
def renAs (d:Nat):List A→List A
  | []=>[]
  | a :: as=>renA d a :: renAs d as
end
def addRows (d:Nat):Nat→List Blk→(Nat→Blk)→(Nat→Blk)
  | _,[],hp=>hp
  | j,b :: bs,hp=>addRows d (j+1) bs (upd hp (key d j) b)
def deadRows (d:Nat):Nat→List Blk→(Nat→Blk)→Bool
  | _,[],_=>true
  | j,_ :: bs,hp=>isDead (hp (key d j)) && deadRows d (j+1) bs hp
def findFn:List Fn→FuncId→Option Fn
  | [],_=>none
  | g :: gs,f=>if g.f=f then some g else findFn gs f
def unTup:List A→A
  | [a]=>a
  | as=>.tup as
def idsOf:List A→List Nat
  | []=>[]
  | a :: as=>(cellsA a).flatMap frozenIds ++ idsOf as
def fitArg (hp:Nat→Blk) (p:Bool×List Kd) (a:A):Option (List C) :=
  match a with
  | .agg xs=>match p.1 with
    | true=>match toKCells hp xs with
      | some (ks,cs)=>if fitKs p.2 ks && (ks.length == p.2.length) then some cs else none
      | none=>none
    | false=>none
  | a=>match p.1 with
    | true=>none
    | false=>match toCell hp a,p.2 with
      | some (k,c),[k0]=>if fitP k0 k then some [c] else none
      | _,_=>none
def fitArgs (hp:Nat→Blk):List (Bool×List Kd)→List A→Option (List (List C))
  | [],[]=>some []
  | p :: ps,a :: as=>match fitArg hp p a,fitArgs hp ps as with
    | some x,some xs=>some (x :: xs)
    | _,_=>none
  | _,_=>none
def callArgs (refs:Bool) (hp:Nat→Blk) (as:List A):List A :=
  match refs with
  | true=>as
  | false=>meltHs hp as
def callA (Γ:List Fn) (f:FuncId) (d:Nat) (as:List A) (hp:Nat→Blk):Option Out :=
  match findFn Γ f with
  | some g=>match fitArgs hp g.ps (callArgs g.refs hp as) with
    | some cs =>
      if decide ((g.sem cs).rows.length≤16) && deadRows d 0 (g.sem cs).rows hp then
        some ⟨(g.sem cs).pre,True,unTup (renAs d (g.sem cs).res),addRows d 0 (g.sem cs).rows (if g.refs then freezeAll hp (idsOf as) else hp),!g.refs && (g.sem cs).rows.isEmpty⟩
      else none
    | none=>none
  | none=>none
def zeroRow (E:TyI):List C:=E.kinds.map zeroC
def placeParts (hp:Nat→Blk) (ks:List Kd):List (Nat×A)→List (List C)→Option (List (List C))
  | [],es=>some es
  | (i,a) :: r,es=>match toKCells hp (cellsA a) with
    | some (ks',xs)=>if (boxable hp a && fitKs ks ks') && (xs.length == ks.length && decide (i < es.length)) then placeParts hp ks r (es.set i xs) else none
    | none=>none
def buildParts (P:Program) (T:TyI) (hp:Nat→Blk):List (Nat×A)→List A→Option (List A)
  | [],xs=>some xs
  | (i,a) :: r,xs=>match T.fields[i]? with
    | some p=>match tyI P p.2 with
      | some F=>if boxable hp a && ((cellsA a).length == F.kinds.length) then buildParts P T hp r (splice xs p.1 (cellsA a)) else none
      | none=>none
    | none=>none
def convA (P:Program) (src dst:TypeId) (x:A):Option A :=
  match x,P.underlying dst with
  | .c (.int _) c,some (.int k)=>some (ki k (k.wrap c.toInt))
  | .c .str c,some .string=>some (.c .str c)
  | _,_=>none
def lookupA (P:Program) (t:TypeId) (commaOk:Bool) (hp:Nat→Blk) (x y:A):Option A :=
  match mapE P t,x,y with
  | some (kk,_,E),.mref id,.c ky k=>if ky=kk then match hp id with
    | .mp kk' vp m=>if kk'=kk then (if vp=(E.agg,E.kinds) then
        some (if commaOk then .tup [pack E.agg (ppVals E.kinds ((mget kk k m).getD (zeroRow E)) 0),kb (mget kk k m).isSome] else pack E.agg (ppVals E.kinds ((mget kk k m).getD (zeroRow E)) 0))
      else none) else none
    | _=>none
    else none
  | _,_,_=>none
def updateA (P:Program) (t:TypeId) (hp:Nat→Blk) (x y z:A):Option (Nat→Blk) :=
  match mapE P t,x,y with
  | some (kk,_,E),.mref id,.c ky k=>if ky=kk then match hp id with
    | .mp kk' vp m=>if kk'=kk then (if vp=(E.agg,E.kinds) then match fitArg hp vp z with
        | some c=>some (upd (freezeAll hp ((cellsA z).flatMap frozenIds)) id (.mp kk vp (mset kk k c m)))
        | none=>none
      else none) else none
    | _=>none
    else none
  | _,_,_=>none
def deleteA (P:Program) (t:TypeId) (hp:Nat→Blk) (x y:A):Option (Nat→Blk) :=
  match mapE P t,x,y with
  | some (kk,_,_),.mref id,.c ky k=>if ky=kk then match hp id with
    | .mp kk' vp m=>if kk'=kk then some (upd hp id (.mp kk vp (mdel kk k m))) else none
    | _=>none
    else none
  | _,_,_=>none
def opA (P:Program) (Γ:List Fn) (o:Oper) (tm:Nat→A) (hp:Nat→Blk) (v:Operand→A):Option Out :=
  let pure1 (r:Option A):Option Out:=match r with | some a=>some ⟨True,True,a,hp,true⟩ | none=>none
  let pure2 (r:Option (Prop×A)):Option Out:=match r with | some (p,a)=>some ⟨p,True,a,hp,true⟩ | none=>none
  match o.op with
  | .move x=>pure1 (some (v x))
  | .assign x=>pure1 (some (v x))
  | .binOp op t x y _=>pure2 (binS P op t (v x) (v y))
  | .unOp op _ x=>pure1 (unA op (v x))
  | .convert s d x=>match tyI P s with
    | some _=>pure1 (convA P s d (v x))
    | none=>none
  | .box _ x=>match o.dst with
    | some d=>if isDead (hp (key d 0)) && boxable hp (v x) then some ⟨True,True,.box (key d 0) 0,upd hp (key d 0) (.box (cellsA (v x))),false⟩ else none
    | none=>none
  | .alloc t=>match o.dst,tyI P t with
    | some d,some T=>if isDead (hp (key d 0)) then some ⟨True,True,.box (key d 0) 0,upd hp (key d 0) (.box (T.kinds.map zeroA)),false⟩ else none
    | _,_=>none
  | .load t x=>match tyI P t with
    | some T=>pure2 (loadA T hp (v x))
    | none=>none
  | .store t x y=>match tyI P t,storeA (v y) hp (v x) with
    | some T,some (p,hp')=>if (cellsA (v y)).length=T.kinds.length then (if boxable hp (v y) then some ⟨p,True,.unk,hp',false⟩ else none) else none
    | _,_=>none
  | .fieldAddr t x f=>match tyI P t with
    | some T=>pure1 (fieldA T hp f (v x))
    | none=>none
  | .indexAddr t x i=>match slE P t,v i with
    | some (e,E),.c (.int _) n=>pure2 (indexAddrA e E hp (v x) n.toInt)
    | none,.c (.int _) n=>match arrI P t with
      | some (m,e,E)=>pure2 (indexArrA m e E hp (v x) n.toInt)
      | none=>none
    | _,_=>none
  | .index t x i=>match v x,v i with
    | .c .str s,.c (.int _) n=>if isStrT P t then some ⟨0≤n.toInt∧n.toInt < (s.toStr.length:Int),True,ki .u8 (s.toStr.getD n.toInt.toNat 0).toNat,hp,true⟩ else none
    | _,_=>none
  | .slice t x lo hi none=>pure2 (sliceA P t hp (v x) (lo.map v) (hi.map v))
  | .extract x i=>match v x with
    | .tup xs=>pure1 xs[i]?
    | _=>none
  | .build t parts=>match tyI P t with
    | some T=>if T.fields.isEmpty then none else pure1 ((buildParts P T hp (parts.toList.map fun p=>(p.1,v p.2)) (T.kinds.map zeroA)).map .agg)
    | none=>none
  | .buildSlice t n parts=>match o.dst,slE P t with
    | some d,some (e,E)=>if isDead (hp (key d 0)) then
        match placeParts hp E.kinds (parts.toList.map fun p=>(p.1,v p.2)) (List.replicate n (zeroRow E)) with
        | some es=>some ⟨(n:Int) * E.bytes≤140737488355328∧n * E.kinds.length≤16777216,True,.own (key d 0) E.kinds 0 n,upd (freezeAll hp (idsOf (parts.toList.map fun p=>v p.2))) (key d 0) (.row e es),false⟩
        | none=>none
      else none
    | _,_=>none
  | .makeMap t none=>match o.dst,mapE P t with
    | some d,some (kk,_,E)=>if isDead (hp (key d 0)) then some ⟨True,True,.mref (key d 0),upd hp (key d 0) (.mp kk (E.agg,E.kinds) []),false⟩ else none
    | _,_=>none
  | .lookup t x y ok=>pure1 (lookupA P t ok hp (v x) (v y))
  | .mapUpdate t x y z=>match updateA P t hp (v x) (v y) (v z) with
    | some hp'=>some ⟨True,True,.unk,hp',false⟩
    | none=>none
  | .call c=>match c.callee with
    | .builtin .delete=>match c.args.toList,c.argTypes.toList with
      | [x,y],t :: _=>match deleteA P t hp (v x) (v y) with
        | some hp'=>some ⟨True,True,.tup [],hp',false⟩
        | none=>none
      | _,_=>none
    | .builtin .len=>match c.args.toList,c.argTypes.toList with
      | [x],[t]=>match lenA P t hp (v x) with
        | some (p,a)=>some ⟨True,p,a,hp,true⟩
        | none=>none
      | _,_=>none
    | .builtin .min=>match c.args.toList with
      | x :: r=>pure1 (foldMM false (v x) (r.map v))
      | _=>none
    | .builtin .max=>match c.args.toList with
      | x :: r=>pure1 (foldMM true (v x) (r.map v))
      | _=>none
    | .builtin .append=>match c.args.toList,c.argTypes.toList,o.dst with
      | [x,y],[t,u],some d=>match slE P t with
        | some (e,E)=>if t=u then appendA e E d hp (v x) (v y) else none
        | none=>none
      | _,_,_=>none
    | .value f=>match v f,o.dst with
      | .fnv f [],d=>callA Γ f (d.getD 0) (c.args.toList.map v) hp
      | _,_=>none
    | _=>none
  | _=>none
def needs (tm:Nat→A):Operand→Option Bool
  | .tmp t=>match tm t with | .when g _=>some g | _=>none
  | _=>none
def plainTm (tm:Nat→A) (x:Operand):A :=
  match opdA tm x with
  | .when _ a=>a
  | a=>a
def allNeeds (tm:Nat→A):List Operand→Prop
  | []=>True
  | x :: xs=>(match needs tm x with | some g=>g=true∧allNeeds tm xs | none=>allNeeds tm xs)
def guardOf (ops:List Oper) (tm:Nat→A) (j:Nat) (want:Bool):Option Bool :=
  match ops[j]? with
  | some o=>match o.dst with
    | some d=>match tm d with
      | .c .bool x=>some (x.toBool == want)
      | .when g (.c .bool x)=>some (g && x.toBool == want)
      | _=>none
    | none=>none
  | none=>none
def pickA (c:Bool):A→A→Option A
  | .c .bool x,.c .bool y=>some (kb (if c then x.toBool else y.toBool))
  | .c (.int k) x,.c (.int k') y=>if k=k' then some (ki k (if c then x.toInt else y.toInt)) else none
  | .c .str x,.c .str y=>some (.c .str (.str (if c then x.toStr else y.toStr)))
  | _,_=>none
def implies (c:Bool):Option Bool→Prop
  | none=>True
  | some g=>c=true→g=true
def eff (P:Program) (Γ:List Fn) (ops:List Oper) (o:Oper) (tm:Nat→A) (hp:Nat→Blk):Option (Prop×Prop×A×(Nat→Blk)) :=
  match o.op with
  | .pick c a b =>
    match plainTm tm c with
    | .c .bool x =>
      match pickA x.toBool (plainTm tm a) (plainTm tm b) with
      | some r=>match o.guard with
        | none=>some (allNeeds tm [c]∧implies x.toBool (needs tm a)∧implies (!x.toBool) (needs tm b),True,r,hp)
        | some (j,want)=>match guardOf ops tm j want with
          | some g=>some ((g=true→allNeeds tm [c])∧implies (g && x.toBool) (needs tm a)∧implies (g && !x.toBool) (needs tm b),True,.when g r,hp)
          | none=>none
      | none=>none
    | _=>none
  | _ =>
    match opA P Γ o tm hp (plainTm tm) with
    | none=>none
    | some r=>match o.guard with
      | none=>some (allNeeds tm o.op.operands.toList∧r.pre,r.fact,r.val,r.hp)
      | some (j,want)=>match guardOf ops tm j want with
        | some g=>if r.q then some ((g=true→allNeeds tm o.op.operands.toList∧r.pre),True,.when g r.val,hp) else none
        | none=>none
def stepR (P:Program) (Γ:List Fn) (ops:List Oper) (o:Oper) (s:S):Option (Prop×Prop×S) :=
  (eff P Γ ops o s.tm s.hp).map fun q=>(q.1,q.2.1,⟨updD s.tm o.dst q.2.2.1,q.2.2.2⟩)
def stepA (P:Program) (Γ:List Fn) (ops:List Oper) (o:Oper) (s:S) (K:S→Prop):Prop :=
  match stepR P Γ ops o s with
  | none=>False
  | some (p,f,s')=>p∧(f→K s')
def wpOpsA (P:Program) (Γ:List Fn) (ops:List Oper):List Oper→S→(S→Prop)→Prop
  | [],s,Q=>Q s
  | o :: os,s,Q=>stepA P Γ ops o s fun s'=>wpOpsA P Γ ops os s' Q
def argA (p:Bool×List Kd) (xs:List C):A:=pack p.1 (ppVals p.2 xs 0)
def initTm:List (Bool×List Kd)→List (List C)→Nat→(Nat→A)
  | p :: ps,x :: xs,i=>upd (initTm ps xs (i+1)) i (argA p x)
  | _,_,_=>fun _=>.unk
def resA (P:Program) (s:S):List ResultVar→Option (Prop×List A)
  | []=>some (True,[])
  | .tmp t :: r=>match resA P s r with
    | some (p,as)=>some (p,s.tm t :: as)
    | none=>none
  | .cell a t :: r=>match tyI P t with
    | some T=>match loadA T s.hp (s.tm a),resA P s r with
      | some (q,z),some (p,as)=>some (q∧p,z :: as)
      | _,_=>none
    | none=>match loadArr P t s.hp (s.tm a),resA P s r with
      | some (q,z),some (p,as)=>some (q∧p,z :: as)
      | _,_=>none
def notRet (id:Nat):List (Option Nat)→Bool
  | []=>true
  | some x :: xs=>!(x == id) && notRet id xs
  | none :: xs=>notRet id xs
def nodupRet:List (Option Nat)→Bool
  | []=>true
  | some x :: xs=>notRet x xs && nodupRet xs
  | none :: xs=>nodupRet xs
def matchA (P:Program) (rows:List Blk) (ret:List (Option Nat)) (hp:Nat→Blk) (exp act:A):Prop :=
  match exp with
  | .c k x=>match toCell hp act with
    | some (k',y)=>fitP k k'=true∧y=x∧(frozenIds act).all (fun id=>notRet id ret)=true
    | none=>False
  | .own j ks off len=>match act with
    | .own id ks' off' len'=>ret.getD j none=some id∧ks'=ks∧off'=off∧len'=len∧live hp id=true
    | .nilsl=>ret[j]? = some none∧off=0∧len=0∧(match rows.getD j .dead with | .row t _=>(match tyI P t with | some E=>E.kinds=ks | none=>False) | _=>False)
    | _=>False
  | .nilsl=>act = .nilsl
  | _=>False
def matchAll (P:Program) (rows:List Blk) (ret:List (Option Nat)) (hp:Nat→Blk):List A→List A→Prop
  | [],[]=>True
  | e :: xs,a :: ys=>(match e with | .agg es=>(match a with | .agg as=>matchAll P rows ret hp es as | _=>False) | _=>matchA P rows ret hp e a)∧matchAll P rows ret hp xs ys
  | _,_=>False
def rowsMatch (P:Program) (hp:Nat→Blk):List (Option Nat)→List Blk→Prop
  | [],[]=>True
  | r :: ret,b :: bs=>(match r with
    | some id=>(match b with | .row t es=>hp id = .row t es | _=>False)
    | none=>(match b with | .row t es=>es=[]∧(tyI P t).isSome=true | _=>False))∧rowsMatch P hp ret bs
  | _,_=>False
def RetOk (P:Program) (s:S) (results:List ResultVar) (ret:List (Option Nat)) (sig:Sig):Prop :=
  match resA P s results with
  | some (p,as)=>p∧nodupRet ret=true∧rowsMatch P s.hp ret sig.rows∧matchAll P sig.rows ret s.hp sig.res as
  | none=>False
end Go.AE
