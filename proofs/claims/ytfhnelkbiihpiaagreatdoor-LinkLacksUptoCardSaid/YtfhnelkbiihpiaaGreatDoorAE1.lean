/- Text. -/
import Derived.WalkKit
import Derived.Lib.Hide
set_option linter.unusedVariables false
namespace Go.AE
theorem aI {a b:Prop} (x:a) (y:b):a∧b:=⟨x,y⟩
inductive C where
 | z
 | bool (b:Bool)
 | int (n:Int)
 | str (s:List UInt8)
 | slice (es:List (List C))
 | ptr (cells:List C)
 | clo (f:Nat) (caps:List C)
 deriving Inhabited
def C.toBool:C→Bool | .bool b=>b | _=>false
def C.toInt:C→Int | .int n=>n | _=>0
def C.toStr:C→List UInt8 | .str s=>s | _=>[]
def C.toSl:C→List (List C) | .slice es=>es | _=>[]
def C.toPtr:C→List C | .ptr cs=>cs | _=>[]
@[simp] theorem C.toBool_bool (b:Bool):(C.bool b).toBool=b:=rfl
@[simp] theorem C.toInt_int (n:Int):(C.int n).toInt=n:=rfl
@[simp] theorem C.toStr_str (s:List UInt8):(C.str s).toStr=s:=rfl
@[simp] theorem C.toSl_slice (es:List (List C)):(C.slice es).toSl=es:=rfl
@[simp] theorem C.toPtr_ptr (es:List C):(C.ptr es).toPtr=es:=rfl
def cg (xs:List C) (j:Nat):C:=xs.getD j .z
@[simp] theorem cg_zero (x:C) (xs:List C):cg (x :: xs) 0=x:=rfl
@[simp] theorem cg_succ (x:C) (xs:List C) (j:Nat):cg (x :: xs) (j+1)=cg xs j:=rfl
def eg (es:List (List C)) (i:Nat):List C:=es.getD i []
inductive Kd where
 | bool | int (k:IntKind) | str | slice (t:TypeId) | ptr (t:TypeId) | arr (t:TypeId) | other
 deriving DecidableEq,Inhabited
inductive A where
 | unk
 | c (k:Kd) (x:C)
 | nilsl
 | agg (xs:List A)
 | tup (xs:List A)
 | own (id:Nat) (ks:List Kd) (off len:Nat)
 | box (id off:Nat)
 | elt (id sz:Nat) (ks:List Kd) (i off:Nat)
 | pp (ks:List Kd) (cells:List C) (off:Nat)
 | fnv (f:Nat) (caps:List A)
 | fnb (f:Nat) (firsts:List A)
 | mref (id:Nat)
 | when (g:Bool) (a:A)
 | rg (id:Nat) (k:Kd) (x:C)
 | rp (id:Nat) (ks:List Kd) (cells:List C) (off:Nat)
 | bsl (id len:Nat)
 deriving Inhabited
inductive Blk where
 | dead
 | gone
 | box (cells:List A)
 | row (t:TypeId) (es:List (List C))
 | frz (t:TypeId) (es:List (List C))
 | mp (kk:Kd) (vp:Bool×List Kd) (m:List (C×List C))
 | rl (t:TypeId) (es:List (List C)) (i j:Nat) (a:A)
 | it (kk:Kd) (vp:Bool×List Kd) (cur:Option (C×List C)) (left:List (C×List C))
 | reg
 | wob
 deriving Inhabited
structure S where
 tm:Nat→A
 hp:Nat→Blk
def upd {α:Type} (f:Nat→α) (i:Nat) (v:α):Nat→α:=fun j=>if j=i then v else f j
theorem bjq {α:Type} (f:Nat→α) (i:Nat) (v:α) (j:Nat):upd f i v j=if j=i then v else f j:=rfl
def updD (f:Nat→A) (d:Option Nat) (v:A):Nat→A:=match d with | some i=>upd f i v | none=>f
structure TyI where
 kinds:List Kd
 agg:Bool
 fields:List (Nat×TypeId)
 elem:TypeId
 bytes:Nat
def aqi (P:Program):Nat→TypeId→Option (List Kd)
 | 0,_=>none
 | n+1,t=>match P.underlying t with
  | some .bool=>some [.bool]
  | some (.int k)=>some [.int k]
  | some .string=>some [.str]
  | some (.slice e)=>some [.slice e]
  | some (.pointer e)=>some [.ptr e]
  | some (.struct fs)=>(fs.toList.mapM fun f=>aqi P n f.type).map List.flatten
  | some (.array _ _)=>none
  | some _=>some [.other]
  | none=>none
def bkk:Kd→Value→Bool
 | .bool,.bool b=>!b
 | .int k,.int k' n=>k == k' && n == 0
 | .str,.string s=>s.size == 0
 | .slice _,.slice none 0 0=>true
 | .ptr _,.pointer none=>true
 | .other,_=>true
 | _,_=>false
def akp:List Kd→List Value→Bool
 | [],[]=>true
 | k :: ks,v :: vs=>bkk k v && akp ks vs
 | _,_=>false
def awn:TypeDesc→Bool
 | .struct _ | .array _ _=>true
 | _=>false
def ay6:TypeDesc→List (Nat×TypeId)
 | .struct fs=>fs.toList.map fun f=>(f.offset,f.type)
 | _=>[]
def dqi:TypeDesc→TypeId
 | .slice e=>e
 | .pointer e=>e
 | .array _ e=>e
 | _=>0
def bkc (P:Program) (n:Nat) (d:TypeDesc):Bool :=
 (ay6 d).all fun p=>match P.info? p.2 with | some fi=>decide (0 < fi.size) && decide (p.1+fi.size≤n) | none=>false
def dwu:Value→Bool
 | .agg _=>true
 | _=>false
def tyOk (P:Program) (i:TypeInfo) (d:TypeDesc) (ks:List Kd):Bool :=
 i.size == ks.length && (!ks.isEmpty && (decide (0 < i.bytes) && (bkc P ks.length d && (match i.zero with | some z=>akp ks z.cells.toList && awn d == dwu z | none=>false))))
def tyI (P:Program) (t:TypeId):Option TyI :=
 match P.info? t,P.underlying t,aqi P 12 t with
 | some i,some d,some ks =>
  if tyOk P i d ks then some { kinds:=ks,agg:=awn d,fields:=ay6 d,elem:=dqi d,bytes:=i.bytes } else none
 | _,_,_=>none
def arrI (P:Program) (t:TypeId):Option (Nat×TypeId×TyI) :=
 match P.info? t,P.underlying t with
 | some i,some (.array n e)=>match tyI P e with
  | some E=>if i.size == n * E.kinds.length && (decide (0 < n) && (decide (n * E.bytes≤140737488355328) && (match i.zero with | some (.agg z)=>akp (List.replicate n E.kinds).flatten z.toList | _=>false))) then some (n,e,E) else none
  | none=>none
 | _,_=>none
def cwc (P:Program) (t:TypeId):Bool :=
 match tyI P t with
 | some ⟨[.str],false,_,_,_⟩=>true
 | _=>false
def slE (P:Program) (t:TypeId):Option (TypeId×TyI) :=
 match tyI P t with
 | some ⟨[.slice e],false,_,_,_⟩=>match tyI P e with
  | some E=>some (e,E)
  | none=>none
 | _=>none
def mapE (P:Program) (t:TypeId):Option (Kd×TypeId×TyI) :=
 match P.underlying t with
 | some (.map k e)=>match P.underlying k,tyI P e with
  | some .string,some E=>some (.str,e,E)
  | some (.int q),some E=>some (.int q,e,E)
  | _,_=>none
 | _=>none
def keyEq (kk:Kd) (a b:C):Bool :=
 match kk with
 | .str=>a.toStr == b.toStr
 | .int _=>a.toInt == b.toInt
 | _=>false
def mget (kk:Kd) (k:C):List (C×List C)→Option (List C)
 | []=>none
 | e :: m=>if keyEq kk k e.1 then some e.2 else mget kk k m
def mset (kk:Kd) (k:C) (v:List C):List (C×List C)→List (C×List C)
 | []=>[(k,v)]
 | e :: m=>if keyEq kk k e.1 then (k,v) :: m else e :: mset kk k v m
def mdel (kk:Kd) (k:C):List (C×List C)→List (C×List C)
 | []=>[]
 | e :: m=>if keyEq kk k e.1 then m else e :: mdel kk k m
structure Sig where
 pre:Prop
 res:List A
 rows:List Blk
structure Fn where
 f:FuncId
 ps:List (Bool×List Kd)
 refs:Bool
 sem:List (List C)→Sig
structure Out where
 pre:Prop
 fact:Prop
 val:A
 hp:Nat→Blk
 q:Bool
def bzd:Value→A
 | .bool b=>.c .bool (.bool b)
 | .int k n=>.c (.int k) (.int n)
 | .string s=>.c .str (.str s.data.toList)
 | .slice none 0 0=>.nilsl
 | _=>.unk
def opdA (tm:Nat→A):Operand→A
 | .tmp t=>tm t
 | .const v=>bzd v
 | .global _=>.unk
 | .func f=>.fnv f []
def fjm:A→Option Bool×A
 | .when g a=>(some g,a)
 | a=>(none,a)
def kb (b:Bool):A:=.c .bool (.bool b)
def ki (k:IntKind) (n:Int):A:=.c (.int k) (.int n)
def akh (op:BinOp) (k:IntKind) (a b:Int):Option (Prop×A) :=
 match op with
 | .add=>some (True,ki k (k.wrap (a+b)))
 | .sub=>some (True,ki k (k.wrap (a - b)))
 | .mul=>some (True,ki k (k.wrap (a * b)))
 | .quo=>some (b≠0,ki k (k.wrap (a.tdiv b)))
 | .rem=>some (b≠0,ki k (a.tmod b))
 | .and=>some (True,ki k (k.wrap (BitVec.ofInt k.bits a &&& BitVec.ofInt k.bits b).toNat))
 | .or=>some (True,ki k (k.wrap (BitVec.ofInt k.bits a ||| BitVec.ofInt k.bits b).toNat))
 | .xor=>some (True,ki k (k.wrap (BitVec.ofInt k.bits a ^^^ BitVec.ofInt k.bits b).toNat))
 | .andNot=>some (True,ki k (k.wrap (BitVec.ofInt k.bits a &&& ~~~BitVec.ofInt k.bits b).toNat))
 | .eql=>some (True,kb (a == b))
 | .neq=>some (True,kb (a != b))
 | .lss=>some (True,kb (a < b))
 | .leq=>some (True,kb (a≤b))
 | .gtr=>some (True,kb (a > b))
 | .geq=>some (True,kb (a ≥ b))
 | _=>none
def bw4 (op:BinOp) (x y:List UInt8):Option (Prop×A) :=
 match op with
 | .add=>some (((x.length+y.length:Nat):Int)≤9223372036854775807,.c .str (.str (x ++ y)))
 | .eql=>some (True,kb (x == y))
 | .neq=>some (True,kb (x != y))
 | .lss=>some (True,kb (Op.bytesLess x y))
 | .leq=>some (True,kb (Op.bytesLess x y || x == y))
 | .gtr=>some (True,kb (!(Op.bytesLess x y || x == y)))
 | .geq=>some (True,kb (!Op.bytesLess x y))
 | _=>none
def cz9 (T:Option TyI):Bool :=
 match T with
 | some ⟨[.bool],false,_,_,_⟩=>true
 | _=>false
def binA (op:BinOp) (T:Option TyI):A→A→Option (Prop×A)
 | .c (.int k) x,.c (.int k') y=>if k=k' then akh op k x.toInt y.toInt else none
 | .c .str x,.c .str y=>bw4 op x.toStr y.toStr
 | .c .bool x,.c .bool y=>match op with
  | .eql=>if cz9 T then some (True,kb (x.toBool == y.toBool)) else none
  | .neq=>if cz9 T then some (True,kb (x.toBool != y.toBool)) else none
  | _=>none
 | _,_=>none
def bk3:Kd→A→A→Option Bool
 | .bool,.c .bool x,.c .bool y=>some (x.toBool == y.toBool)
 | .int k,.c (.int k1) x,.c (.int k2) y=>if k1=k then (if k2=k then some (x.toInt == y.toInt) else none) else none
 | .str,.c .str x,.c .str y=>some (x.toStr == y.toStr)
 | _,_,_=>none
def aw6:List Kd→List A→List A→Option Bool
 | [],[],[]=>some true
 | k :: ks,a :: as,b :: bs=>match bk3 k a b,aw6 ks as bs with
  | some p,some q=>some (p && q)
  | _,_=>none
 | _,_,_=>none
def eqFs (P:Program) (ok:TypeId→Bool):Nat→List Field→Bool
 | _,[]=>true
 | acc, f :: fs => f.offset == acc && (decide (f.name ≠ "_") && (decide (0 < P.cellsOf f.type) && (ok f.type && eqFs P ok (acc + P.cellsOf f.type) fs)))
def eqT0 (P:Program):Nat→TypeId→Bool
 | 0,_=>false
 | n+1,t=>match P.underlying t with
  | some .bool=>P.cellsOf t == 1
  | some (.int _)=>P.cellsOf t == 1
  | some .string=>P.cellsOf t == 1
  | some (.struct fs)=>!P.stoodInHeld t && (eqFs P (eqT0 P n) 0 fs.toList && P.cellsOf t == (fs.toList.map fun f=>P.cellsOf f.type).sum)
  | _=>false
def eqT (P:Program) (t:TypeId):Bool:=!(P.eqGuardType P.depth t) && (eqT0 P 12 t && (match P.underlying t with | some (.struct _)=>true | _=>false))
def binS (P:Program) (op:BinOp) (t:TypeId):A→A→Option (Prop×A)
 | .agg xs,.agg ys=>match tyI P t with
  | some T=>if eqT P t then (match op,aw6 T.kinds xs ys with
   | .eql,some b=>some (True,kb b)
   | .neq,some b=>some (True,kb (!b))
   | _,_=>none) else none
  | none=>none
 | x,y=>binA op (tyI P t) x y
def unA (op:UnOp):A→Option A
 | .c .bool x=>match op with | .not=>some (kb (!x.toBool)) | _=>none
 | .c (.int k) x=>match op with
  | .neg=>some (ki k (k.wrap (0 - x.toInt)))
  | _=>none
 | _=>none
def nrm:Kd→C→C
 | .bool,x=>.bool x.toBool
 | .int _,x=>.int x.toInt
 | .str,x=>.str x.toStr
 | .slice _,x=>.slice x.toSl
 | .arr _,x=>.slice x.toSl
 | _,x=>x
def aku:List Kd→List C→Nat→List A
 | [],_,_=>[]
 | k :: ks,cells,j=>.c k (nrm k (cg cells j)) :: aku ks cells (j+1)
def bzq:Kd→A
 | .bool=>kb false
 | .int k=>ki k 0
 | .str=>.c .str (.str [])
 | .slice _=>.nilsl
 | _=>.unk
def by7:Kd→C
 | .bool=>.bool false
 | .int _=>.int 0
 | .str=>.str []
 | .slice _=>.slice []
 | _=>.z
def pack (agg:Bool) (xs:List A):A:=if agg then .agg xs else xs.headD .unk
def live (hp:Nat→Blk) (id:Nat):Bool :=
 match hp id with
 | .box _=>true
 | .row _ _=>true
 | .frz _ _=>true
 | _=>false
def oneA (hp:Nat→Blk):A→Bool
 | .c .other _=>false
 | .c (.ptr _) _=>false
 | .c (.arr _) _=>false
 | .c _ _=>true
 | .own id _ _ _=>live hp id
 | .box id _=>live hp id
 | .bsl id _=>live hp id
 | .elt id _ _ _ _=>live hp id
 | .nilsl=>true
 | .pp ..=>true
 | .fnv ..=>true
 | .fnb ..=>true
 | .mref id=>match hp id with | .mp _ _ _=>true | _=>false
 | .rg id k _=>(match k with | .other=>false | .ptr _=>false | .arr _=>false | _=>true) && (match hp id with | .reg=>true | _=>false)
 | .rp id _ _ _=>(match hp id with | .reg=>true | _=>false)
 | _=>false
def toCell (hp:Nat→Blk):A→Option (Kd×C)
 | .c k x=>some (k,x)
 | .nilsl=>some (.slice 0,.slice [])
 | .own id _ off len=>match hp id with
  | .row t es=>some (.slice t,.slice ((es.drop off).take len))
  | .frz t es=>some (.slice t,.slice ((es.drop off).take len))
  | _=>none
 | _=>none
def ajc:A→List Nat
 | .own id _ _ _=>[id]
 | _=>[]
def freeze1 (hp:Nat→Blk) (id:Nat):Nat→Blk :=
 match hp id with
 | .row t es=>upd hp id (.frz t es)
 | _=>hp
def bqo (T:TyI) (hp:Nat→Blk):A→Option (Prop×A)
 | .box id off=>match hp id with
  | .box cells=>some (off+T.kinds.length≤cells.length,pack T.agg ((cells.drop off).take T.kinds.length))
  | _=>none
 | .elt id _ ks i off=>match hp id with
  | .row _ es=>some (i < es.length∧T.kinds.length≤ks.length,pack T.agg (aku (ks.take T.kinds.length) (eg es i) off))
  | .frz _ es=>some (i < es.length∧T.kinds.length≤ks.length,pack T.agg (aku (ks.take T.kinds.length) (eg es i) off))
  | _=>none
 | .pp ks cells off=>some (T.kinds.length≤ks.length,pack T.agg (aku (ks.take T.kinds.length) cells off))
 | _=>none
def aje:A→List A
 | .agg xs=>xs
 | a=>[a]
def ayb (hp:Nat→Blk):A→Bool
 | .agg _=>true
 | a=>oneA hp a
def bwg (hp:Nat→Blk):List A→Bool
 | []=>true
 | a :: as=>oneA hp a && bwg hp as
def awg {α:Type} (l:List α) (off:Nat) (xs:List α):List α:=l.take off ++ xs ++ l.drop (off+xs.length)
def ayn (l:List C) (off:Nat) (xs:List C):List C:=awg l off xs
def aqj (hp:Nat→Blk):List A→Option (List Kd×List C)
 | []=>some ([],[])
 | a :: as=>match toCell hp a,aqj hp as with
  | some (k,x),some (ks,xs)=>some (k :: ks,x :: xs)
  | _,_=>none
def fitK:Kd→Kd→Bool
 | .bool,.bool=>true
 | .int k,.int k'=>k == k'
 | .str,.str=>true
 | .slice t,.slice u=>u == 0 || t == u
 | _,_=>false
def fitP:Kd→Kd→Bool
 | .arr t,.arr u=>t == u
 | k,k'=>fitK k k'
def cqh:List Kd→List Kd→Bool
 | _,[]=>true
 | k :: ks,k' :: ks'=>fitK k k' && cqh ks ks'
 | [],_ :: _=>false
def freezeAll (hp:Nat→Blk):List Nat→(Nat→Blk)
 | []=>hp
 | id :: ids=>freezeAll (freeze1 hp id) ids
def cjj (id:Nat):List Nat→Bool
 | []=>true
 | x :: xs=>!(x == id) && cjj id xs
def bzc (v:A) (hp:Nat→Blk):A→Option (Prop×(Nat→Blk))
 | .box id off=>match hp id with
  | .box cells=>some (off+(aje v).length≤cells.length∧bwg hp (aje v)=true,upd hp id (.box (awg cells off (aje v))))
  | _=>none
 | .elt id _ ks i off=>match hp id,aqj hp (aje v) with
  | .row t es,some (ks',xs)=>if cjj id ((aje v).flatMap ajc) then
    some (i < es.length∧cqh ks ks'=true,upd (freezeAll hp ((aje v).flatMap ajc)) id (.row t (es.set i (ayn (eg es i) off xs))))
   else none
  | _,_=>none
 | _=>none
def cwa (P:Program) (t:TypeId) (hp:Nat→Blk) (x:A):Option (Prop×A) :=
 match arrI P t,x with
 | some (n,e,_),.elt id _ _ 0 0=>match hp id with
  | .row t' es=>if t' == e then some (es.length=n,.c (.arr t) (.slice es)) else none
  | .frz t' es=>if t' == e then some (es.length=n,.c (.arr t) (.slice es)) else none
  | _=>none
 | _,_=>none
def bji (T:TyI) (hp:Nat→Blk) (f:Nat):A→Option A
 | .box id off=>(T.fields[f]?).map fun p=>.box id (off+p.1)
 | .elt id sz ks i off=>if live hp id then (T.fields[f]?).map fun p=>.elt id sz (ks.drop p.1) i (off+p.1) else none
 | .pp ks cells off=>(T.fields[f]?).map fun p=>.pp (ks.drop p.1) cells (off+p.1)
 | _=>none
def aqy (e:TypeId) (E:TyI) (hp:Nat→Blk) (x:A) (i:Int):Option (Prop×A) :=
 match x with
 | .c (.slice e') c=>if e'=e then some (0≤i∧i < (c.toSl.length:Int),.pp E.kinds (eg c.toSl i.toNat) 0) else none
 | .own id ks off len=>if live hp id then (if ks=E.kinds then some (0≤i∧i < (len:Int),.elt id ks.length ks (off+i.toNat) 0) else none) else none
 | _=>none
def azb (m:Nat) (e:TypeId) (E:TyI) (hp:Nat→Blk) (x:A) (i:Int):Option (Prop×A) :=
 match x with
 | .elt id sz ks 0 0=>match hp id with
  | .row t es=>if t=e∧ks=E.kinds∧sz=ks.length then some (0≤i∧i < (m:Int)∧es.length=m,.elt id sz ks i.toNat 0) else none
  | .frz t es=>if t=e∧ks=E.kinds∧sz=ks.length then some (0≤i∧i < (m:Int)∧es.length=m,.elt id sz ks i.toNat 0) else none
  | _=>none
 | _=>none
def bound (d:Int):Option A→Option Int
 | none=>some d
 | some (.c (.int _) x)=>some x.toInt
 | _=>none
def ckf (c:C) (lo hi:Option A):Option (Prop×A) :=
 match bound 0 lo,bound (c.toStr.length:Int) hi with
 | some l,some h=>some (0≤l∧l≤h∧h≤(c.toStr.length:Int),.c .str (.str ((c.toStr.take h.toNat).drop l.toNat)))
 | _,_=>none
def dqo (e:TypeId) (c:C) (lo hi:Option A):Option (Prop×A) :=
 match bound 0 lo,bound (c.toSl.length:Int) hi with
 | some l,some h=>some (0≤l∧l≤h∧h≤(c.toSl.length:Int),.c (.slice e) (.slice ((c.toSl.take h.toNat).drop l.toNat)))
 | _,_=>none
def bym (hp:Nat→Blk) (id off len:Nat):Nat :=
 match off with
 | 0=>match hp id with
  | .row _ es=>es.length
  | .frz _ es=>es.length
  | _=>len
 | _+1=>len
def ckp (mx:Nat) (id:Nat) (ks:List Kd) (off len:Nat) (lo hi:Option A):Option (Prop×A) :=
 match bound 0 lo,bound (len:Int) hi with
 | some l,some h=>some (0≤l∧l≤h∧h≤(mx:Int),.own id ks (off+l.toNat) (h - l).toNat)
 | _,_=>none
def bqv (P:Program) (t:TypeId) (hp:Nat→Blk) (x:A) (lo hi:Option A):Option (Prop×A) :=
 match x with
 | .c .str c=>if cwc P t then ckf c lo hi else none
 | .c (.slice e) c=>match slE P t with
  | some (e',_)=>if e=e' then dqo e c lo hi else none
  | none=>none
 | .own id ks off len=>match slE P t with
  | some (_,E)=>if live hp id then (if ks=E.kinds then ckp (bym hp id off len) id ks off len lo hi else none) else none
  | none=>none
 | _=>none
def cja (hp:Nat→Blk):A→Option (Prop×A)
 | .c (.slice _) c=>some ((c.toSl.length:Int)≤140737488355328,ki .i64 c.toSl.length)
 | .own id _ _ len=>if live hp id then some ((len:Int)≤140737488355328,ki .i64 len) else none
 | .nilsl=>some (True,ki .i64 0)
 | _=>none
def lenA (P:Program) (t:TypeId) (hp:Nat→Blk) (x:A):Option (Prop×A) :=
 match x with
 | .c .str c=>if cwc P t then some ((c.toStr.length:Int)≤9223372036854775807,ki .i64 c.toStr.length) else none
 | x=>if (slE P t).isSome then cja hp x else none
def cq7 (isMax:Bool):A→A→Option A
 | .c (.int k) x,.c (.int k') y=>if k=k' then some (ki k (if isMax then (if y.toInt > x.toInt then y.toInt else x.toInt) else (if y.toInt < x.toInt then y.toInt else x.toInt))) else none
 | _,_=>none
def bw2 (isMax:Bool) (x:A):List A→Option A
 | []=>some x
 | y :: r=>match cq7 isMax x y with
  | some z=>bw2 isMax z r
  | none=>none
def az7 (e:TypeId) (hp:Nat→Blk):A→Option (List (List C))
 | .c (.slice e') c=>if e'=e then some c.toSl else none
 | .nilsl=>some []
 | .own id _ off len=>match hp id with
  | .row e' es=>if e'=e then some ((es.drop off).take len) else none
  | .frz e' es=>if e'=e then some ((es.drop off).take len) else none
  | _=>none
 | _=>none
def key (d:Nat) (j:Nat):Nat:=d * 16+j
def aqh:Blk→Bool
 | .dead=>true
 | _=>false
def azd:List Kd→Bool
 | []=>true
 | .other :: _=>false
 | .ptr _ :: _=>false
 | .arr _ :: _=>false
 | _ :: ks=>azd ks
def bz7 {α:Type} (l:List α) (i:Nat) (new:List α):List α:=if i+new.length≤l.length then l.take i ++ new ++ l.drop (i+new.length) else l
theorem dje {α:Type} (l:List α) (i:Nat) (new:List α):(bz7 l i new).length=l.length:=by
 unfold bz7
 split
 ·simp;omega
 ·rfl
theorem ejr {α β:Type} (f:α→β) (l:List α) (i:Nat) (new:List α):bz7 (List.map f l) i (List.map f new)=List.map f (bz7 l i new):=by
 unfold bz7
 simp only [List.length_map]
 split
 ·simp
 ·rfl
theorem bkj {α:Type} {l:List α} {i:Nat} {new:List α} (h:i+new.length≤l.length):bz7 l i new=l.take i ++ new ++ l.drop (i+new.length):=if_pos h
def dwg (id:Nat):A→Bool
 | .own id' _ _ _=>id' == id
 | _=>false
def aqo:Kd→Bool
 | .bool=>true
 | .int _=>true
 | .str=>true
 | _=>false
def bwl:Blk→Bool
 | .reg=>true
 | _=>false
mutual
def bq4 (hp:Nat→Blk):A→A
 | .rg id k x=>if bwl (hp id) then .c k x else .unk
 | .agg xs=>.agg (azy hp xs)
 | a=>a
def azy (hp:Nat→Blk):List A→List A
 | []=>[]
 | a :: as=>bq4 hp a :: azy hp as
end
def srcA (ks:List Kd) (hp:Nat→Blk) (y:A):A:=if ks.all aqo then bq4 hp y else y
def bkz (t:TypeId) (E:TyI) (d:Nat) (hp:Nat→Blk) (x y:A):Option Out :=
 match az7 t hp (srcA E.kinds hp y) with
 | none=>none
 | some new =>
  if aqh (hp (key d 0)) && azd E.kinds then
   match x with
   | .nilsl=>some ⟨(new.length:Int) * E.bytes≤140737488355328,True,.own (key d 0) E.kinds 0 new.length,upd hp (key d 0) (.row t new),false⟩
   | .own id ks 0 len=>match hp id with
    | .row t' es=>if t'=t then (if dwg id y then some ⟨len+new.length≤es.length,True,.own id ks 0 (len+new.length),upd hp id (.row t' (bz7 es len new)),false⟩ else some ⟨len≤es.length∧((len+new.length:Nat):Int) * E.bytes≤140737488355328,True,.own (key d 0) ks 0 (len+new.length),upd (upd hp id .gone) (key d 0) (.row t' (es.take len ++ new)),false⟩) else none
    | _=>none
   | _=>none
  else none
mutual
def renA (d:Nat):A→A
 | .own id ks off len=>.own (key d id) ks off len
 | .agg xs=>.agg (bkf d xs)
 | .c k x=>.c k x
 | .nilsl=>.nilsl
 | _=>.unk
def bkf (d:Nat):List A→List A
 | []=>[]
 | a :: as=>renA d a :: bkf d as
end
def addRows (d:Nat):Nat→List Blk→(Nat→Blk)→(Nat→Blk)
 | _,[],hp=>hp
 | j,b :: bs,hp=>addRows d (j+1) bs (upd hp (key d j) b)
def ay2 (d:Nat):Nat→List Blk→(Nat→Blk)→Bool
 | _,[],_=>true
 | j,_ :: bs,hp=>aqh (hp (key d j)) && ay2 d (j+1) bs hp
def cz1:List Fn→FuncId→Option Fn
 | [],_=>none
 | g :: gs,f=>if g.f=f then some g else cz1 gs f
def ayh:List A→A
 | [a]=>a
 | as=>.tup as
def ak5:List A→List Nat
 | []=>[]
 | a :: as=>(aje a).flatMap ajc ++ ak5 as
def azx (hp:Nat→Blk) (p:Bool×List Kd) (a:A):Option (List C) :=
 match a with
 | .agg xs=>match p.1 with
  | true=>match aqj hp xs with
   | some (ks,cs)=>if cqh p.2 ks && (ks.length == p.2.length) then some cs else none
   | none=>none
  | false=>none
 | a=>match p.1 with
  | true=>none
  | false=>match toCell hp a,p.2 with
   | some (k,c),[k0]=>if fitP k0 k then some [c] else none
   | _,_=>none
def ak2 (hp:Nat→Blk):List (Bool×List Kd)→List A→Option (List (List C))
 | [],[]=>some []
 | p :: ps,a :: as=>match azx hp p a,ak2 hp ps as with
  | some x,some xs=>some (x :: xs)
  | _,_=>none
 | _,_=>none
def bq8 (refs:Bool) (hp:Nat→Blk) (as:List A):List A :=
 match refs with
 | true=>as
 | false=>azy hp as
def dw9 (Γ:List Fn) (f:FuncId) (d:Nat) (as:List A) (hp:Nat→Blk):Option Out :=
 match cz1 Γ f with
 | some g=>match ak2 hp g.ps (bq8 g.refs hp as) with
  | some cs =>
   if decide ((g.sem cs).rows.length≤16) && ay2 d 0 (g.sem cs).rows hp then
    some ⟨(g.sem cs).pre,True,ayh (bkf d (g.sem cs).res),addRows d 0 (g.sem cs).rows (if g.refs then freezeAll hp (ak5 as) else hp),!g.refs && (g.sem cs).rows.isEmpty⟩
   else none
  | none=>none
 | none=>none
def ajg (E:TyI):List C:=E.kinds.map by7
def aqz (hp:Nat→Blk) (ks:List Kd):List (Nat×A)→List (List C)→Option (List (List C))
 | [],es=>some es
 | (i,a) :: r,es=>match aqj hp (aje a) with
  | some (ks',xs)=>if (ayb hp a && cqh ks ks') && (xs.length == ks.length && decide (i < es.length)) then aqz hp ks r (es.set i xs) else none
  | none=>none
def aw7 (P:Program) (T:TyI) (hp:Nat→Blk):List (Nat×A)→List A→Option (List A)
 | [],xs=>some xs
 | (i,a) :: r,xs=>match T.fields[i]? with
  | some p=>match tyI P p.2 with
   | some F=>if ayb hp a && ((aje a).length == F.kinds.length) then aw7 P T hp r (awg xs p.1 (aje a)) else none
   | none=>none
  | none=>none
def equ (P:Program) (src dst:TypeId) (x:A):Option A :=
 match x,P.underlying dst with
 | .c (.int _) c,some (.int k)=>some (ki k (k.wrap c.toInt))
 | .c .str c,some .string=>some (.c .str c)
 | _,_=>none
def bzk (P:Program) (t:TypeId) (commaOk:Bool) (hp:Nat→Blk) (x y:A):Option A :=
 match mapE P t,x,y with
 | some (kk,_,E),.mref id,.c ky k=>if ky=kk then match hp id with
  | .mp kk' vp m=>if kk'=kk then (if vp=(E.agg,E.kinds) then
    some (if commaOk then .tup [pack E.agg (aku E.kinds ((mget kk k m).getD (ajg E)) 0),kb (mget kk k m).isSome] else pack E.agg (aku E.kinds ((mget kk k m).getD (ajg E)) 0))
   else none) else none
  | _=>none
  else none
 | _,_,_=>none
def bzn (P:Program) (t:TypeId) (hp:Nat→Blk) (x y z:A):Option (Nat→Blk) :=
 match mapE P t,x,y with
 | some (kk,_,E),.mref id,.c ky k=>if ky=kk then match hp id with
  | .mp kk' vp m=>if kk'=kk then (if vp=(E.agg,E.kinds) then match azx hp vp z with
    | some c=>some (upd (freezeAll hp ((aje z).flatMap ajc)) id (.mp kk vp (mset kk k c m)))
    | none=>none
   else none) else none
  | _=>none
  else none
 | _,_,_=>none
def bzf (P:Program) (t:TypeId) (hp:Nat→Blk) (x y:A):Option (Nat→Blk) :=
 match mapE P t,x,y with
 | some (kk,_,_),.mref id,.c ky k=>if ky=kk then match hp id with
  | .mp kk' vp m=>if kk'=kk then some (upd hp id (.mp kk vp (mdel kk k m))) else none
  | _=>none
  else none
 | _,_,_=>none
def opA (P:Program) (Γ:List Fn) (o:Oper) (tm:Nat→A) (hp:Nat→Blk) (v:Operand→A):Option Out :=
 let pure1 (r:Option A):Option Out:=match r with | some a=>some ⟨True,True,a,hp,true⟩ | none=>none
 let pure2 (r:Option (Prop×A)):Option Out:=match r with | some (p,a)=>some ⟨p,True,a,hp,true⟩ | none=>none
 match o.op with
 | .move x=>pure1 (some (v x))
 | .assign x=>pure1 (some (v x))
 | .binOp op t x y _=>pure2 (binS P op t (v x) (v y))
 | .unOp op _ x=>pure1 (unA op (v x))
 | .convert s d x=>match tyI P s with
  | some _=>pure1 (equ P s d (v x))
  | none=>none
 | .box _ x=>match o.dst with
  | some d=>if aqh (hp (key d 0)) && ayb hp (v x) then some ⟨True,True,.box (key d 0) 0,upd hp (key d 0) (.box (aje (v x))),false⟩ else none
  | none=>none
 | .alloc t=>match o.dst,tyI P t with
  | some d,some T=>if aqh (hp (key d 0)) then some ⟨True,True,.box (key d 0) 0,upd hp (key d 0) (.box (T.kinds.map bzq)),false⟩ else none
  | _,_=>none
 | .load t x=>match tyI P t with
  | some T=>pure2 (bqo T hp (v x))
  | none=>none
 | .store t x y=>match tyI P t,bzc (v y) hp (v x) with
  | some T,some (p,hp')=>if (aje (v y)).length=T.kinds.length then (if ayb hp (v y) then some ⟨p,True,.unk,hp',false⟩ else none) else none
  | _,_=>none
 | .fieldAddr t x f=>match tyI P t with
  | some T=>pure1 (bji T hp f (v x))
  | none=>none
 | .indexAddr t x i=>match slE P t,v i with
  | some (e,E),.c (.int _) n=>pure2 (aqy e E hp (v x) n.toInt)
  | none,.c (.int _) n=>match arrI P t with
   | some (m,e,E)=>pure2 (azb m e E hp (v x) n.toInt)
   | none=>none
  | _,_=>none
 | .index t x i=>match v x,v i with
  | .c .str s,.c (.int _) n=>if cwc P t then some ⟨0≤n.toInt∧n.toInt < (s.toStr.length:Int),True,ki .u8 (s.toStr.getD n.toInt.toNat 0).toNat,hp,true⟩ else none
  | _,_=>none
 | .slice t x lo hi none=>pure2 (bqv P t hp (v x) (lo.map v) (hi.map v))
 | .extract x i=>match v x with
  | .tup xs=>pure1 xs[i]?
  | _=>none
 | .build t parts=>match tyI P t with
  | some T=>if T.fields.isEmpty then none else pure1 ((aw7 P T hp (parts.toList.map fun p=>(p.1,v p.2)) (T.kinds.map bzq)).map .agg)
  | none=>none
 | .buildSlice t n parts=>match o.dst,slE P t with
  | some d,some (e,E)=>if aqh (hp (key d 0)) then
    match aqz hp E.kinds (parts.toList.map fun p=>(p.1,v p.2)) (List.replicate n (ajg E)) with
    | some es=>some ⟨(n:Int) * E.bytes≤140737488355328∧n * E.kinds.length≤16777216,True,.own (key d 0) E.kinds 0 n,upd (freezeAll hp (ak5 (parts.toList.map fun p=>v p.2))) (key d 0) (.row e es),false⟩
    | none=>none
   else none
  | _,_=>none
 | .makeMap t none=>match o.dst,mapE P t with
  | some d,some (kk,_,E)=>if aqh (hp (key d 0)) then some ⟨True,True,.mref (key d 0),upd hp (key d 0) (.mp kk (E.agg,E.kinds) []),false⟩ else none
  | _,_=>none
 | .lookup t x y ok=>pure1 (bzk P t ok hp (v x) (v y))
 | .mapUpdate t x y z=>match bzn P t hp (v x) (v y) (v z) with
  | some hp'=>some ⟨True,True,.unk,hp',false⟩
  | none=>none
 | .call c=>match c.callee with
  | .builtin .delete=>match c.args.toList,c.argTypes.toList with
   | [x,y],t :: _=>match bzf P t hp (v x) (v y) with
    | some hp'=>some ⟨True,True,.tup [],hp',false⟩
    | none=>none
   | _,_=>none
  | .builtin .len=>match c.args.toList,c.argTypes.toList with
   | [x],[t]=>match lenA P t hp (v x) with
    | some (p,a)=>some ⟨True,p,a,hp,true⟩
    | none=>none
   | _,_=>none
  | .builtin .min=>match c.args.toList with
   | x :: r=>pure1 (bw2 false (v x) (r.map v))
   | _=>none
  | .builtin .max=>match c.args.toList with
   | x :: r=>pure1 (bw2 true (v x) (r.map v))
   | _=>none
  | .builtin .append=>match c.args.toList,c.argTypes.toList,o.dst with
   | [x,y],[t,u],some d=>match slE P t with
    | some (e,E)=>if t=u then bkz e E d hp (v x) (v y) else none
    | none=>none
   | _,_,_=>none
  | .value f=>match v f,o.dst with
   | .fnv f [],d=>dw9 Γ f (d.getD 0) (c.args.toList.map v) hp
   | _,_=>none
  | _=>none
 | _=>none
def akf (tm:Nat→A):Operand→Option Bool
 | .tmp t=>match tm t with | .when g _=>some g | _=>none
 | _=>none
def aj4 (tm:Nat→A) (x:Operand):A :=
 match opdA tm x with
 | .when _ a=>a
 | a=>a
def aj6 (tm:Nat→A):List Operand→Prop
 | []=>True
 | x :: xs=>(match akf tm x with | some g=>g=true∧aj6 tm xs | none=>aj6 tm xs)
def guardOf (ops:List Oper) (tm:Nat→A) (j:Nat) (want:Bool):Option Bool :=
 match ops[j]? with
 | some o=>match o.dst with
  | some d=>match tm d with
   | .c .bool x=>some (x.toBool == want)
   | .when g (.c .bool x)=>some (g && x.toBool == want)
   | _=>none
  | none=>none
 | none=>none
def czx (c:Bool):A→A→Option A
 | .c .bool x,.c .bool y=>some (kb (if c then x.toBool else y.toBool))
 | .c (.int k) x,.c (.int k') y=>if k=k' then some (ki k (if c then x.toInt else y.toInt)) else none
 | .c .str x,.c .str y=>some (.c .str (.str (if c then x.toStr else y.toStr)))
 | _,_=>none
def ayy (c:Bool):Option Bool→Prop
 | none=>True
 | some g=>c=true→g=true
def eff (P:Program) (Γ:List Fn) (ops:List Oper) (o:Oper) (tm:Nat→A) (hp:Nat→Blk):Option (Prop×Prop×A×(Nat→Blk)) :=
 match o.op with
 | .pick c a b =>
  match aj4 tm c with
  | .c .bool x =>
   match czx x.toBool (aj4 tm a) (aj4 tm b) with
   | some r=>match o.guard with
    | none=>some (aj6 tm [c]∧ayy x.toBool (akf tm a)∧ayy (!x.toBool) (akf tm b),True,r,hp)
    | some (j,want)=>match guardOf ops tm j want with
     | some g=>some ((g=true→aj6 tm [c])∧ayy (g && x.toBool) (akf tm a)∧ayy (g && !x.toBool) (akf tm b),True,.when g r,hp)
     | none=>none
   | none=>none
  | _=>none
 | _ =>
  match opA P Γ o tm hp (aj4 tm) with
  | none=>none
  | some r=>match o.guard with
   | none=>some (aj6 tm o.op.operands.toList∧r.pre,r.fact,r.val,r.hp)
   | some (j,want)=>match guardOf ops tm j want with
    | some g=>if r.q then some ((g=true→aj6 tm o.op.operands.toList∧r.pre),True,.when g r.val,hp) else none
    | none=>none
def ckr (P:Program) (Γ:List Fn) (ops:List Oper) (o:Oper) (s:S):Option (Prop×Prop×S) :=
 (eff P Γ ops o s.tm s.hp).map fun q=>(q.1,q.2.1,⟨updD s.tm o.dst q.2.2.1,q.2.2.2⟩)
def ew4 (P:Program) (Γ:List Fn) (ops:List Oper) (o:Oper) (s:S) (K:S→Prop):Prop :=
 match ckr P Γ ops o s with
 | none=>False
 | some (p,f,s')=>p∧(f→K s')
def byh (P:Program) (Γ:List Fn) (ops:List Oper):List Oper→S→(S→Prop)→Prop
 | [],s,Q=>Q s
 | o :: os,s,Q=>ew4 P Γ ops o s fun s'=>byh P Γ ops os s' Q
def argA (p:Bool×List Kd) (xs:List C):A:=pack p.1 (aku p.2 xs 0)
def bkq:List (Bool×List Kd)→List (List C)→Nat→(Nat→A)
 | p :: ps,x :: xs,i=>upd (bkq ps xs (i+1)) i (argA p x)
 | _,_,_=>fun _=>.unk
def resA (P:Program) (s:S):List ResultVar→Option (Prop×List A)
 | []=>some (True,[])
 | .tmp t :: r=>match resA P s r with
  | some (p,as)=>some (p,s.tm t :: as)
  | none=>none
 | .cell a t :: r=>match tyI P t with
  | some T=>match bqo T s.hp (s.tm a),resA P s r with
   | some (q,z),some (p,as)=>some (q∧p,z :: as)
   | _,_=>none
  | none=>match cwa P t s.hp (s.tm a),resA P s r with
   | some (q,z),some (p,as)=>some (q∧p,z :: as)
   | _,_=>none
def ayf (id:Nat):List (Option Nat)→Bool
 | []=>true
 | some x :: xs=>!(x == id) && ayf id xs
 | none :: xs=>ayf id xs
def aky:List (Option Nat)→Bool
 | []=>true
 | some x :: xs=>ayf x xs && aky xs
 | none :: xs=>aky xs
def bkr (P:Program) (rows:List Blk) (ret:List (Option Nat)) (hp:Nat→Blk) (exp act:A):Prop :=
 match exp with
 | .c k x=>match toCell hp act with
  | some (k',y)=>fitP k k'=true∧y=x∧(ajc act).all (fun id=>ayf id ret)=true
  | none=>False
 | .own j ks off len=>match act with
  | .own id ks' off' len'=>ret.getD j none=some id∧ks'=ks∧off'=off∧len'=len∧live hp id=true
  | .nilsl=>ret[j]? = some none∧off=0∧len=0∧(match rows.getD j .dead with | .row t _=>(match tyI P t with | some E=>E.kinds=ks | none=>False) | _=>False)
  | _=>False
 | .nilsl=>act = .nilsl
 | _=>False
def azz (P:Program) (rows:List Blk) (ret:List (Option Nat)) (hp:Nat→Blk):List A→List A→Prop
 | [],[]=>True
 | e :: xs,a :: ys=>(match e with | .agg es=>(match a with | .agg as=>azz P rows ret hp es as | _=>False) | _=>bkr P rows ret hp e a)∧azz P rows ret hp xs ys
 | _,_=>False
def az3 (P:Program) (hp:Nat→Blk):List (Option Nat)→List Blk→Prop
 | [],[]=>True
 | r :: ret,b :: bs=>(match r with
  | some id=>(match b with | .row t es=>hp id = .row t es | _=>False)
  | none=>(match b with | .row t es=>es=[]∧(tyI P t).isSome=true | _=>False))∧az3 P hp ret bs
 | _,_=>False
def cjd (P:Program) (s:S) (results:List ResultVar) (ret:List (Option Nat)) (sig:Sig):Prop :=
 match resA P s results with
 | some (p,as)=>p∧aky ret=true∧az3 P s.hp ret sig.rows∧azz P sig.rows ret s.hp sig.res as
 | none=>False
end Go.AE
