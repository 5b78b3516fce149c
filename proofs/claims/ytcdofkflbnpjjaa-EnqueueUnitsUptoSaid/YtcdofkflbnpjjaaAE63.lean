/- Text. -/
import Derived.Test.YtcdofkflbnpjjaaAE44
import Derived.Test.YtcdofkflbnpjjaaAE41
import Derived.Test.YtcdofkflbnpjjaaAE11B
import Derived.Test.YtcdofkflbnpjjaaAE33
import Derived.Test.YtcdofkflbnpjjaaAE25
set_option linter.unusedSimpArgs false
set_option linter.unusedVariables false
set_option linter.unusedVariables false
namespace Go.AE
open Go.RowKit (Below)
variable {P:Program} {w0:Base} {w:World} {N kp:Nat} {σ:Nat→RefI} {s:S} {tms:Array Value} {ρ:Operand→Value} {al:Nat→Prop} {Γ:List Fn}
theorem cell_cells {a:Addr} {v:Value} (h:w.cell? a=some v):∃ vs t z,w.heap[a.block]? = some (.cells vs t z):=by
  unfold World.cell? at h
  cases ho:w.heap[a.block]? with
  | none=>simp [ho] at h
  | some o=>cases o <;> simp_all
def CellsAt (w:World) (b:Nat):Prop:=∃ vs t z,w.heap[b]? = some (.cells vs t z)
theorem RepC.cells {k:Kd} {v:Value} {x:C} (h:RepC P w al k v x):RepC P w (fun b=>al b∧CellsAt w b) k v x:=by
  induction h with
  | bool x=>exact .bool x
  | int k x h=>exact .int k x h
  | str x h=>exact .str x h
  | empty t x a cap h hz=>exact .empty t x a cap h hz
  | slice t x b off cap hz E hE hal hlen hcap hel f hcell hrep ih =>
    by_cases he:x.toSl=[]
    · have:=RepC.empty (P:=P) (w:=w) (Al:=fun b=>al b∧CellsAt w b) t x (some ⟨b,off,none⟩) cap he (fun e=>absurd e hz)
      simpa [he] using this
    · have h0:0 < x.toSl.length:=List.length_pos_iff.2 he
      obtain ⟨SE⟩:=tyI_spec hE
      exact .slice t x b off cap hz E hE ⟨hal,cell_cells (cellN_cell (hcell 0 h0 0 (List.length_pos_iff.2 SE.ne)))⟩ hlen hcap hel f hcell ih
  | arr t x vs n e E hA hn hl hel hrep ih=>exact .arr t x vs n e E hA hn hl hel ih
  | ptr t v x=>exact .ptr t v x
  | other v x=>exact .other v x
def deadHp:Nat→Blk:=fun _=>.dead
def regId:A→Option Nat
  | .rg id _ _=>some id
  | .rp id _ _ _=>some id
  | _=>none
def meltA:A→A
  | .rg _ k x=>.c k x
  | .rp _ ks cells off=>.pp ks cells off
  | _=>.unk
mutual
def tagA (r:Nat):A→A
  | .c k x=>if scalarK k then .c k x else .rg r k x
  | .pp ks cells off=>.rp r ks cells off
  | .agg xs=>.agg (tagAs r xs)
  | .nilsl=>.nilsl
  | _=>.unk
def tagAs (r:Nat):List A→List A
  | []=>[]
  | a :: as=>tagA r a :: tagAs r as
end
def intO:Option A→Bool
  | none=>true
  | some (.c (.int _) _)=>true
  | _=>false
def rdR (hp:Nat→Blk) (x:A) (f:A→Option (Prop×A)):Option Out :=
  match regId x with
  | some r=>if isRegB (hp r) then match f (meltA x) with
    | some (p,a)=>some ⟨p,True,tagA r a,hp,true⟩
    | none=>none
    else none
  | none=>none
def opRg (P:Program) (o:Oper) (hp:Nat→Blk) (v:Operand→A):Option Out :=
  match o.op with
  | .load t x=>match tyI P t with
    | some T=>rdR hp (v x) fun a=>loadA T deadHp a
    | none=>none
  | .fieldAddr t x f=>match tyI P t with
    | some T=>rdR hp (v x) fun a=>(fieldA T deadHp f a).map fun z=>(True,z)
    | none=>none
  | .indexAddr t x i=>match slE P t,v i with
    | some (e,E),.c (.int _) n=>rdR hp (v x) fun a=>indexAddrA e E deadHp a n.toInt
    | _,_=>none
  | .slice t x lo hi none=>if intO (lo.map v) && intO (hi.map v) then rdR hp (v x) fun a=>sliceA P t deadHp a (lo.map v) (hi.map v) else none
  | .call c=>match c.callee with
    | .builtin .len=>match c.args.toList,c.argTypes.toList with
      | [x],[t]=>match rdR hp (v x) fun a=>lenA P t deadHp a with
        | some r=>some { r with pre:=True,fact:=r.pre }
        | none=>none
      | _,_=>none
    | _=>none
  | _=>none
def stepRg (P:Program) (o:Oper) (s:S) (K:S→Prop):Prop :=
  match o.guard with
  | none=>match opRg P o s.hp (plainTm s.tm) with
    | some r=>allNeeds s.tm o.op.operands.toList∧r.pre∧(r.fact→K ⟨updD s.tm o.dst r.val,r.hp⟩)
    | none=>False
  | some _=>False
def regVals:List Kd→List C→Nat→List A
  | [],_,_=>[]
  | k :: ks,cells,j=>(if scalarK k then .c k (nrm k (cg cells j)) else .rg 0 k (nrm k (cg cells j))) :: regVals ks cells (j+1)
def regArg (p:Bool×List Kd) (xs:List C):A:=pack p.1 (regVals p.2 xs 0)
def regArg1 (p:Bool×List Kd) (c:List C):Arg:=if p.2.all scalarK then .dat p c else .ref (regArg p c)
def regArgs:List (Bool×List Kd)→List (List C)→List Arg
  | p :: ps,c :: cs=>regArg1 p c :: regArgs ps cs
  | _,_=>[]
mutual
def tagV (r:Nat) (hp:Nat→Blk):A→A
  | .c k x=>if scalarK k then .c k x else .rg r k x
  | .agg xs=>.agg (tagVs r hp xs)
  | .nilsl=>.nilsl
  | .own id ks off len=>match hp id with
    | .row t es=>.rg r (.slice t) (.slice ((es.drop off).take len))
    | .frz t es=>.rg r (.slice t) (.slice ((es.drop off).take len))
    | _=>.unk
  | _=>.unk
def tagVs (r:Nat) (hp:Nat→Blk):List A→List A
  | []=>[]
  | a :: as=>tagV r hp a :: tagVs r hp as
end
structure FCall (P:Program) (g:FuncId) (acts:List A) (hp:Nat→Blk) (r:Nat) (val:A) (hp':Nat→Blk):Prop where
  ex:∃ ps css as res hs',CallsM P g as [.reg] res (.reg :: hs')∧fitArgs hp ps acts=some css∧as=regArgs ps css∧isDead (hp r)=true∧val=unTup (tagVs r (rowsHp (.reg :: hs')) res)∧hp'=upd (freezeAll hp (idsOf acts)) r .reg
end Go.AE
/-
  A call whose results become a region: the rule of a printed proof.
-/
set_option linter.unusedVariables false
namespace Go.AE
variable {P:Program} {N kp:Nat} {s s':S} {Γ:List Fn} {g:Option Nat} {o:Oper} {os:List (Option Nat×Oper)} {K:S→Prop}
end Go.AE
/-
  Regions whose plain cells are written: what stays is where their data lie.
-/
set_option linter.unusedVariables false
namespace Go.AE
open Go.RowKit (Below)
variable {P:Program} {w0:Base} {w:World} {N kp:Nat} {σ:Nat→RefI} {s:S} {tms:Array Value} {ρ:Operand→Value} {al:Nat→Prop} {Γ:List Fn}
def isW:Blk→Bool
  | .reg=>true
  | .wob=>true
  | _=>false
def scalPre:List Kd→List A→Bool
  | [],[]=>true
  | k :: ks,.c k' _ :: as=>scalarK k && (k == k') && scalPre ks as
  | _,_=>false
def opW (P:Program) (o:Oper) (hp:Nat→Blk) (v:Operand→A):Option Out :=
  match o.op with
  | .indexAddr t x i=>match slE P t,v x,v i with
    | some (e,E),.rg r (.slice t') c,.c (.int _) n=>if isW (hp r) && (t' == e) then some ⟨0≤n.toInt∧n.toInt < (c.toSl.length:Int),True,.rp r E.kinds (eg c.toSl n.toInt.toNat) 0,hp,true⟩ else none
    | _,_,_=>none
  | .fieldAddr t x f=>match tyI P t,v x with
    | some T,.rp r ks cells off=>if isW (hp r) then (T.fields[f]?).map fun p=>⟨True,True,.rp r (ks.drop p.1) cells (off+p.1),hp,true⟩ else none
    | _,_=>none
  | .load t x=>match slE P t,v x with
    | some (e,_),.rp r ks cells off=>if isW (hp r) && (ks.headD .other == .slice e) then some ⟨True,True,.rg r (.slice e) (nrm (.slice e) (cg cells off)),hp,true⟩ else none
    | _,_=>none
  | .call c=>match c.callee with
    | .builtin .len=>match c.args.toList,c.argTypes.toList with
      | [x],[t]=>match v x,(slE P t).isSome with
        | .rg r (.slice _) cc,true=>if isW (hp r) then some ⟨True,(cc.toSl.length:Int)≤140737488355328,ki .i64 cc.toSl.length,hp,true⟩ else none
        | _,_=>none
      | _,_=>none
    | _=>none
  | .store t x y=>match tyI P t,v x with
    | some T,.rp r ks cells off=>if isW (hp r) && (scalPre (ks.take T.kinds.length) (cellsA (v y)) && (decide (T.kinds.length≤ks.length))) then some ⟨True,True,.unk,upd hp r .wob,false⟩ else none
    | _,_=>none
  | _=>none
theorem SimV.trans {a b c:Value} (h1:SimV a b) (h2:SimV b c):SimV a c:=by
  rcases h1 with rfl | ⟨x,y,rfl,rfl⟩ | ⟨k,n,m,rfl,rfl,hr⟩ | ⟨x,y,rfl,rfl,hs⟩
  · exact h2
  · rcases h2 with rfl | ⟨x',y',e,rfl⟩ | ⟨_,_,_,e,_⟩ | ⟨_,_,e,_⟩
    · exact .inr (.inl ⟨_,_,rfl,rfl⟩)
    · exact .inr (.inl ⟨_,_,rfl,rfl⟩)
    · cases e
    · cases e
  · rcases h2 with rfl | ⟨x',y',e,_⟩ | ⟨k',n',m',e,rfl,_⟩ | ⟨_,_,e,_⟩
    · exact .inr (.inr (.inl ⟨_,_,_,rfl,rfl,hr⟩))
    · cases e
    · cases e;exact .inr (.inr (.inl ⟨_,_,_,rfl,rfl,hr⟩))
    · cases e
  · rcases h2 with rfl | ⟨x',y',e,_⟩ | ⟨k',n',m',e,_,_⟩ | ⟨_,_,e,rfl,_⟩
    · exact .inr (.inr (.inr ⟨_,_,rfl,rfl,hs⟩))
    · cases e
    · cases e
    · cases e;exact .inr (.inr (.inr ⟨_,_,rfl,rfl,hs⟩))
def stepW (P:Program) (o:Oper) (s:S) (K:S→Prop):Prop :=
  match o.guard with
  | none=>match opW P o s.hp (plainTm s.tm) with
    | some r=>allNeeds s.tm o.op.operands.toList∧r.pre∧(r.fact→K ⟨updD s.tm o.dst r.val,r.hp⟩)
    | none=>False
  | some _=>False
end Go.AE
/-
  All that a state holds becomes one region (for functions that were handed all their data, and that write on them).
-/
set_option linter.unusedVariables false
namespace Go.AE
open Go.RowKit (Below)
variable {P:Program} {w0:Base} {w:World} {N kp:Nat} {σ:Nat→RefI} {s:S} {tms:Array Value} {ρ:Operand→Value} {al:Nat→Prop} {Γ:List Fn} {a b c:Code} {Q:Exit→S→Prop}
mutual
def colA (r:Nat) (hp:Nat→Blk):A→A
  | .c k x=>if scalarK k then .c k x else .rg r k x
  | .agg xs=>.agg (colAs r hp xs)
  | .nilsl=>.nilsl
  | .own id ks off len=>match hp id with
    | .row t es=>.rg r (.slice t) (.slice ((es.drop off).take len))
    | .frz t es=>.rg r (.slice t) (.slice ((es.drop off).take len))
    | _=>.unk
  | .box id off=>match hp id with
    | .box _=>.box id off
    | _=>.unk
  | _=>.unk
def colAs (r:Nat) (hp:Nat→Blk):List A→List A
  | []=>[]
  | a :: as=>colA r hp a :: colAs r hp as
end
def colB (r:Nat) (hp:Nat→Blk):Blk→Blk
  | .row _ _=>.gone
  | .frz _ _=>.gone
  | .box cells=>.box (colAs r hp cells)
  | b=>b
def colHp (r:Nat) (hp:Nat→Blk):Nat→Blk:=fun id=>if id=r then .reg else colB r hp (hp id)
mutual
def rgOnly:A→Bool
  | .c k _=>scalarK k
  | .rg _ _ _=>true
  | .agg xs=>rgOnlys xs
  | .nilsl=>true
  | _=>false
def rgOnlys:List A→Bool
  | []=>true
  | a :: as=>rgOnly a && rgOnlys as
end
theorem rgOnlys_getD:∀ {as:List A},rgOnlys as=true→∀ i,i < as.length→rgOnly (as.getD i .unk)=true
  | [],_,i,hi=>by simp at hi
  | a :: as,h,0,_=>by simp only [rgOnlys,Bool.and_eq_true] at h;simpa using h.1
  | a :: as,h,i+1,hi=>by simp only [rgOnlys,Bool.and_eq_true] at h;simpa using rgOnlys_getD h.2 i (by simpa using hi)
theorem ARel.rgOnly {al':Nat→Prop} {v:Value} {x:A} (h:ARel P w al σ v x) (hx:rgOnly x=true):ARel P w al' σ v x:=by
  induction h with
  | c k v x h=>exact .c _ _ _ (h.scalar (by simpa [Go.AE.rgOnly] using hx))
  | nilsl=>exact .nilsl
  | agg vs xs hl h ih=>exact .agg vs xs hl (fun i hi=>ih i hi (rgOnlys_getD (by simpa [Go.AE.rgOnly] using hx) i hi))
  | rg v id k x W Q h hr=>exact .rg v id k x W Q h hr
  | rgGone v id k x h=>exact .rgGone v id k x h
  | _=>simp [Go.AE.rgOnly] at hx
end Go.AE
/-
  Functions whose results are new: their contracts, out of what they do when all their data are a region.
-/
set_option linter.unusedVariables false
namespace Go.AE
open Go.RowKit (Below)
variable {P:Program} {w0:Base} {w:World} {N kp:Nat} {σ:Nat→RefI} {s:S} {tms:Array Value} {al:Nat→Prop}
end Go.AE
/-
  A slice built of what lies in a region: with its own block, it is a region again.
-/
set_option linter.unusedVariables false
namespace Go.AE
open Go.RowKit (Below)
variable {P:Program} {w0:Base} {w:World} {N kp:Nat} {σ:Nat→RefI} {s:S} {tms:Array Value} {ρ:Operand→Value} {al:Nat→Prop}
mutual
def meltD (r:Nat):A→A
  | .c k x=>if scalarK k then .c k x else .unk
  | .rg id k x=>if id == r then .c k x else .unk
  | .agg xs=>.agg (meltDs r xs)
  | .nilsl=>.nilsl
  | _=>.unk
def meltDs (r:Nat):List A→List A
  | []=>[]
  | a :: as=>meltD r a :: meltDs r as
end
end Go.AE
/-
  A slice of pointers to boxes' cells: measured, indexed at a known place.
-/
set_option linter.unusedVariables false
namespace Go.AE
open Go.RowKit (Below)
variable {P:Program} {w0:Base} {w:World} {N kp:Nat} {σ:Nat→RefI} {s:S} {tms:Array Value} {ρ:Operand→Value} {al:Nat→Prop}
end Go.AE
/-
  Slices that are known to be nil, within a made row; a row's cell that is lent while it is nil.
-/
set_option linter.unusedVariables false
namespace Go.AE
open Go.RowKit (Below)
variable {P:Program} {w0:Base} {w:World} {N kp:Nat} {σ:Nat→RefI} {s:S} {tms:Array Value} {ρ:Operand→Value} {al:Nat→Prop}
end Go.AE
/-
  Zero bytes appended to a row of the caller's own ('append(b, make([]byte, n)...)').
-/
set_option linter.unusedVariables false
set_option linter.unusedSimpArgs false
namespace Go.AE
open Go.RowKit (Below)
variable {P:Program} {w0:Base} {w:World} {N kp:Nat} {σ:Nat→RefI} {s:S} {tms:Array Value} {ρ:Operand→Value} {al:Nat→Prop}
end Go.AE
/-
  Regions that draw their order, where one operation waits for all others: it may be of any kind.
-/
set_option linter.unusedVariables false
namespace Go.AE
open Go.RowKit (Below)
variable {P:Program} {w0:Base} {w:World} {N kp:Nat} {s:S} {Γ:List Fn} {R:Nat→Option Bool} {bx:Nat→Foot} {lt:Nat→Bool}
variable {l:List ((Option Bool×Foot)×Option Nat×Oper)}
end Go.AE
/-
  Regions that draw their order: quiet operations first, the rest in every order; some of the rest may be of any kind.
-/
set_option linter.unusedVariables false
namespace Go.AE
open Go.RowKit (Below)
variable {P:Program} {w0:Base} {w:World} {N kp:Nat} {s:S} {Γ:List Fn} {R:Nat→Option Bool} {bx:Nat→Foot} {lt:Nat→Bool}
def marks:List Nat→Array Bool→Array Bool
  | [],l=>l
  | k :: ks,l=>marks ks (l.setIfInBounds k true)
variable {b:Code} {l:List ((Option Bool×Foot)×Option Nat×Oper)}
end Go.AE
/-
  A scalar loaded out of a region that is written on: it is not known. A slice built of what lies in a region, where one other value of that region stays.
-/
set_option linter.unusedVariables false
namespace Go.AE
open Go.RowKit (Below)
variable {P:Program} {w0:Base} {w:World} {N kp:Nat} {σ:Nat→RefI} {s:S} {tms:Array Value} {ρ:Operand→Value} {al:Nat→Prop}
end Go.AE
/-
  A slice built of what lies in a region, where several values of that region stay.
-/
set_option linter.unusedVariables false
namespace Go.AE
open Go.RowKit (Below)
variable {P:Program} {w0:Base} {w:World} {N kp:Nat} {σ:Nat→RefI} {s:S} {tms:Array Value} {ρ:Operand→Value} {al:Nat→Prop}
end Go.AE
/-
  A call whose answer is only known to be data of a kind: its memory is new.
-/
set_option linter.unusedVariables false
namespace Go.AE
open Go.RowKit (Below)
variable {P:Program} {w0:Base} {w:World} {N kp:Nat} {σ:Nat→RefI} {s:S} {tms:Array Value} {ρ:Operand→Value} {al:Nat→Prop}
structure CallsE (P:Program) (f:FuncId) (ps:List (Bool×List Kd)) (pre:List (List C)→Prop) (res:Kd) (ok:C→Prop):Prop where
  enter:∀ args w,(callFunc f args).run P w = .ok (.enter f args) w
  calls:∀ (w:World) (vs:List Value) (cs:List (List C)),vs.length=ps.length→cs.length=ps.length →
    (∀ i,i < ps.length→ArgRel P w (fun b=>b < w.heap.size) (ps.getD i (false,[])) (vs.getD i undef) (cs.getD i []))→pre cs →
    Calls P f vs.toArray w (fun e w'=>∃ v x,e = .returned v∧Below w.heap.size w w'∧ok x∧RepC P w' (fun b=>w.heap.size≤b∧b < w'.heap.size) res v x)
end Go.AE
/-
  A pointer to a box of the caller's own against nil.
-/
set_option linter.unusedVariables false
set_option linter.unusedSimpArgs false
namespace Go.AE
variable {P:Program} {w0:Base} {w:World} {N kp:Nat} {σ:Nat→RefI} {s:S} {tms:Array Value} {ρ:Operand→Value}
end Go.AE
/-
  Regions that draw their order: an operation that may come next without loss, of any kind, under any guard.
-/
set_option linter.unusedVariables false
namespace Go.AE
variable {P:Program} {w0:Base} {w:World} {N kp:Nat} {s:S} {Γ:List Fn} {Rl:List (Option Bool×Foot)} {lts:List Nat} {ops:Array Oper}
end Go.AE
/-
  Regions that draw their order: calls that are handed blocks keep to these blocks, so that they may change places with what leaves these alone.
-/
set_option linter.unusedVariables false
namespace Go.AE
open Go.RowKit (Below)
variable {P:Program} {w0:Base} {w:World} {N kp:Nat} {s:S} {Γ:List Fn}
theorem wbo {L:List (Nat×A)} {bs:List (Nat×Blk)} (os:List (Option Nat)) (hkp:keepOk kp (zipH os bs)=true:=by rfl) (hl:os.length=bs.length:=by rfl) (ho:oldsOk (zipH os bs)=true:=by rfl) (hL:subTs P (zipH os bs) s.hp s.tm L:=by (simp only [wk,z,seval];try omega)) (hH:subHs P (zipH os bs) s.hp (zipH os bs):=by (simp only [wk,z,seval];try omega)):Weak P kp s (stB L bs):=weak_b os hkp hl ho hL hH
def stepI (ef:(Nat→A)→(Nat→Blk)→Option (Prop×A×(Nat→Blk))) (d:Option Nat) (s:S) (K:S→Prop):Prop :=
  match ef s.tm s.hp with
  | none=>False
  | some (p,v,hp')=>p∧K ⟨updD s.tm d v,hp'⟩
theorem stepI_mono {ef:(Nat→A)→(Nat→Blk)→Option (Prop×A×(Nat→Blk))} {d:Option Nat} {K K':S→Prop} (hK:∀ s,K s→K' s) (h:stepI ef d s K):stepI ef d s K':=by
  unfold stepI at *
  split at h
  · exact h
  · exact ⟨h.1,hK _ h.2⟩
structure EffI (P:Program) (N:Nat) (ops:List Oper) (o:Oper) where
  ef:(Nat→A)→(Nat→Blk)→Option (Prop×A×(Nat→Blk))
  fo:Foot
  congr:∀ {tm tm':Nat→A} (hp:Nat→Blk),(∀ t,t∈o.looksAt ops.toArray→tm t=tm' t)→ef tm hp=ef tm' hp
  loc:∀ {tm:Nat→A} {hp hp' hp1:Nat→Blk} {p:Prop} {v:A},ef tm hp=some (p,v,hp1)→p→(∀ k,k∈fo.1 ++ fo.2→hp' k=hp k)→∃ p' hp1',ef tm hp'=some (p',v,hp1')∧p'∧Loc fo.2 hp hp' hp1 hp1'
  ok:operOk N o=true→∀ {s:S} {K:S→Prop},stepI ef o.dst s K→StepOk P N ops o s K
theorem stepI_swap {ops:List Oper} {oi oj:Oper} {K:S→Prop} (Ei:EffI P N ops oi) (Ej:EffI P N ops oj) (hap:oi.apart ops.toArray oj=true) (hcm:compat2 Ei.fo Ej.fo=true) (h:stepI Ei.ef oi.dst s fun s'=>stepI Ej.ef oj.dst s' K) :
    stepI Ej.ef oj.dst s fun s'=>stepI Ei.ef oi.dst s' K:=by
  obtain ⟨h1,h2,h3⟩:=Oper.apart_spec hap
  simp only [compat2,Bool.and_eq_true] at hcm
  obtain ⟨d1,d2,d3⟩:=hcm
  unfold stepI at h
  split at h
  · exact h.elim
  · rename_i p1 v1 hp1 he1
    obtain ⟨hq1,h⟩:=h
    dsimp only at h
    split at h
    · exact h.elim
    · rename_i p2 v2 hp2 he2
      obtain ⟨hq2,hK⟩:=h
      have c1:∀ hp,Ej.ef (updD s.tm oi.dst v1) hp=Ej.ef s.tm hp:=fun hp=>Ej.congr hp (fun t ht=>updD_other (fun d hd e=>h1 d hd (e ▸ ht)))
      have c2:∀ hp,Ei.ef (updD s.tm oj.dst v2) hp=Ei.ef s.tm hp:=fun hp=>Ei.congr hp (fun t ht=>updD_other (fun d hd e=>h3 d hd (e ▸ ht)))
      rw [c1] at he2
      have hcomm:=updD_comm (tm:=s.tm) (v:=v1) (u:=v2) h2
      have hK':K ⟨updD (updD s.tm oj.dst v2) oi.dst v1,hp2⟩:=by rw [← hcomm];exact hK
      obtain ⟨_,_,_,_,l1⟩:=Ei.loc (hp':=s.hp) he1 hq1 (fun _ _=>rfl)
      have out1:∀ k,k ∉ Ei.fo.2→hp1 k=s.hp k:=l1.out
      obtain ⟨p2',hq,e2,hp2t,l2⟩:=Ej.loc (hp':=s.hp) he2 hq2 (fun k hk=>by
        rcases List.mem_append.1 hk with hk | hk
        · exact (out1 k (fun h=>disjL_spec d1 h hk)).symm
        · exact (out1 k (fun h=>disjL_spec d2 h hk)).symm)
      obtain ⟨p1',hr,e3,hp1t,l3⟩:=Ei.loc (hp':=hq) he1 hq1 (fun k hk=>by
        rcases List.mem_append.1 hk with hk | hk
        · exact l2.out' k (fun h=>disjL_spec d3 h hk)
        · exact l2.out' k (fun h=>disjL_spec d2 hk h))
      have hfin:hr=hp2:=by
        funext k
        by_cases k1:k∈Ei.fo.2
        · have k2:k ∉ Ej.fo.2:=disjL_spec d2 k1
          rw [l3.inW k k1,l2.out k k2]
        · rw [l3.out' k k1]
          by_cases k2:k∈Ej.fo.2
          · exact l2.inW k k2
          · rw [l2.out' k k2,l2.out k k2,out1 k k1]
      unfold stepI
      rw [e2]
      dsimp only
      rw [c2,e3,hfin]
      exact ⟨hp2t,hp1t,hK'⟩
def efQ (P:Program) (Γ:List Fn) (r:Option Bool) (f:Foot) (ops:List Oper) (o:Oper) (tm:Nat→A) (hp:Nat→Blk):Option (Prop×A×(Nat→Blk)) :=
  match effQ P Γ r f ops o tm hp with
  | none=>none
  | some (p,_,v,hp')=>some (p∧footQ r f o tm=true,v,hp')
def EffI.q (h00:tyI P 0=none) (hΓ:∀ g,g∈Γ→Contract P g) (N:Nat) (r:Option Bool) (f:Foot) (ops:List Oper) (o:Oper):EffI P N ops o where
  ef:=efQ P Γ r f ops o
  fo:=f
  congr:=fun hp h=>by unfold efQ;rw [effQ_congr h,footQ_congr (ops:=ops) h]
  loc:=fun {tm hp hp' hp1 p v} he hp0 hA=>by
    unfold efQ at he ⊢
    split at he
    · cases he
    · rename_i p0 f0 v0 h0 he0
      simp only [Option.some.injEq,Prod.mk.injEq] at he
      obtain ⟨rfl,rfl,rfl⟩:=he
      obtain ⟨h1,e1,l1⟩:=effQ_loc (hp':=hp') hp0.2 hA he0
      exact ⟨_,h1,by rw [e1],hp0,l1⟩
  ok:=fun hok {s K} h=>by
    refine stepQ_ok (R:=fun _=>r) (bx:=fun _=>f) (i:=0) h00 hΓ hok ?_
    unfold stepI efQ at h
    unfold stepQ
    split at h
    · exact h.elim
    · rename_i p v hp' he
      split at he
      · cases he
      · rename_i p0 f0 v0 h0 he0
        simp only [Option.some.injEq,Prod.mk.injEq] at he
        obtain ⟨rfl,rfl,rfl⟩:=he
        dsimp only
        rw [he0]
        exact ⟨h.1.1,h.1.2,h.2⟩
structure MT (P:Program) where
  g:FuncId
  as:List Arg
  hs:List Blk
  res:List A
  hs':List Blk
  ids:List Nat
  keys:List Nat
  C:CallsM P g as hs res hs'
def MT.pre (T:MT P) (f:Foot) (hp:Nat→Blk) (acts:List A):Prop :=
  blksAt hp (mL T.ids) T.hs.length T.ids T.hs∧matchArg hp (mL T.ids) T.hs.length T.as acts∧disj T.ids (datIds T.as acts)=true∧nodupL (T.ids ++ T.keys)=true∧allDead hp T.keys=true∧T.keys.length+T.hs.length=T.hs'.length ∧
  subL (T.ids ++ T.keys) f.2=true∧subL (datIds T.as acts) f.2=true∧subL (idsAs acts) (f.1 ++ f.2)=true
def MT.val (T:MT P):A:=unTup (renMs (mL (T.ids ++ T.keys)) T.res)
def MT.hp (T:MT P) (hp:Nat→Blk) (acts:List A):Nat→Blk:=putAll (T.ids ++ T.keys) (T.hs'.map (renB (mL (T.ids ++ T.keys)))) (freezeAll hp (datIds T.as acts))
def gdOk (o:Oper) (ops:List Oper) (tm:Nat→A):Prop :=
  match o.guard with
  | none=>True
  | some (j,want)=>guardOf ops tm j want=some true
def efM (T:MT P) (f:Foot) (ops:List Oper) (o:Oper) (tm:Nat→A) (hp:Nat→Blk):Option (Prop×A×(Nat→Blk)) :=
  match o.op with
  | .call c=>match c.callee with
    | .value x=>match plainTm tm x with
      | .fnv g caps=>some (gdOk o ops tm∧g=T.g∧allNeeds tm o.op.operands.toList∧T.pre f hp (c.args.toList.map (plainTm tm) ++ caps),T.val,T.hp hp (c.args.toList.map (plainTm tm) ++ caps))
      | .fnb g caps=>some (gdOk o ops tm∧g=T.g∧allNeeds tm o.op.operands.toList∧T.pre f hp (caps ++ c.args.toList.map (plainTm tm)),T.val,T.hp hp (caps ++ c.args.toList.map (plainTm tm)))
      | _=>none
    | _=>none
  | _=>none
theorem blksAt_c {hp hp':Nat→Blk} {m:Nat→Nat} {k:Nat}:∀ {is:List Nat} {bs:List Blk},(∀ i∈is,hp' i=hp i)→blksAt hp m k is bs→blksAt hp' m k is bs
  | [],[],_,_=>trivial
  | [],_ :: _,_,h=>h
  | _ :: _,[],_,h=>h
  | i :: is,b :: bs,hA,h=>⟨(hA i (by simp)).trans h.1,h.2.1,blksAt_c (fun j hj=>hA j (by simp [hj])) h.2.2⟩
theorem matchArg_c {hp hp':Nat→Blk} {m:Nat→Nat} {k:Nat}:∀ {gs:List Arg} {as:List A},(∀ i∈idsAs as,hp' i=hp i)→matchArg hp m k gs as→matchArg hp' m k gs as
  | [],[],_,_=>trivial
  | [],_ :: _,_,h=>h
  | .dat _ _ :: _,[],_,h=>h
  | .ref _ :: _,[],_,h=>h
  | .dat p c :: gs,a :: as,hA,h=>by
    simp only [matchArg] at h ⊢
    exact ⟨(fitArg_c (fun i hi=>hA i (by simp [idsAs,hi]))).trans h.1,matchArg_c (fun i hi=>hA i (by simp [idsAs,hi])) h.2⟩
  | .ref a0 :: gs,a :: as,hA,h=>by
    simp only [matchArg] at h ⊢
    exact ⟨h.1,h.2.1,matchArg_c (fun i hi=>hA i (by simp [idsAs,hi])) h.2.2⟩
theorem allDead_c {hp hp':Nat→Blk}:∀ {l:List Nat},(∀ i∈l,hp' i=hp i)→allDead hp l=true→allDead hp' l=true
  | [],_,_=>rfl
  | i :: l,hA,h=>by
    simp only [allDead,Bool.and_eq_true] at h ⊢
    exact ⟨by rw [hA i (by simp)];exact h.1,allDead_c (fun j hj=>hA j (by simp [hj])) h.2⟩
theorem Loc.putAll {W:List Nat} {hp hp':Nat→Blk}:∀ {is:List Nat} {bs:List Blk} {hp1 hp1':Nat→Blk},Loc W hp hp' hp1 hp1'→(∀ i∈is,i∈W)→Loc W hp hp' (putAll is bs hp1) (putAll is bs hp1')
  | [],bs,_,_,h,_=>by simpa [Go.AE.putAll] using h
  | i :: is,[],_,_,h,_=>by simpa [Go.AE.putAll] using h
  | i :: is,b :: bs,_,_,h,hW=>by
    simp only [Go.AE.putAll]
    exact Loc.putAll (h.upd (hW i (by simp)) b) (fun j hj=>hW j (by simp [hj]))
theorem callee_mem {o:Oper} {c:Call} {f:Operand} (ho:o.op = .call c) (hcal:c.callee = .value f):∀ x,(x=f∨x∈c.args.toList)→x∈o.op.operands:=by
  intro x hx
  rw [ho]
  simp only [Op.operands,Call.operands,hcal]
  rcases hx with rfl | hx
  · exact Array.mem_append.2 (.inl (by simp))
  · exact Array.mem_append.2 (.inr (Array.mem_toList_iff.1 hx))
def EffI.m (h00:tyI P 0=none) (N:Nat) (T:MT P) (f:Foot) (ops:List Oper) (o:Oper):EffI P N ops o where
  ef:=efM T f ops o
  fo:=f
  congr:=fun {tm tm'} hp h=>by
    unfold efM
    have hop:=operands_congr h
    have hg:gdOk o ops tm=gdOk o ops tm':=by
      unfold gdOk
      split
      · rfl
      · rename_i j want hg
        rw [guardOf_congr (fun oj d ho hd=>h d (by
          simp only [Oper.looksAt,hg]
          refine List.mem_append.2 (.inr ?_)
          simp [ho,hd]))]
    split
    · rename_i c ho
      split
      · rename_i x hcal
        have hm:=callee_mem ho hcal
        rw [(hop x (hm x (.inl rfl))).1]
        have ha:c.args.toList.map (plainTm tm)=c.args.toList.map (plainTm tm'):=List.map_congr_left fun y hy=>(hop y (hm y (.inr hy))).1
        have hn:allNeeds tm o.op.operands.toList=allNeeds tm' o.op.operands.toList:=allNeeds_congrV (fun y hy=>(hop y (Array.mem_toList_iff.1 hy)).2)
        split
        · rw [ha,hn,hg]
        · rw [ha,hn,hg]
        · rfl
      · rfl
    · rfl
  loc:=fun {tm hp hp' hp1 p v} he hp0 hA=>by
    unfold efM at he ⊢
    split at he
    · rename_i c ho
      split at he
      · rename_i x hcal
        split at he
        · rename_i g caps hx
          simp only [Option.some.injEq,Prod.mk.injEq] at he
          obtain ⟨rfl,rfl,rfl⟩:=he
          obtain ⟨q1,q2,q3,r1,r2,r3,r4,r5,r6,r7,r8,r9⟩:=hp0
          have mI:∀ i∈T.ids ++ T.keys,i∈f.2:=fun i hi=>subL_spec r7 hi
          have mD:∀ i∈datIds T.as (c.args.toList.map (plainTm tm) ++ caps),i∈f.2:=fun i hi=>subL_spec r8 hi
          have eW:∀ i,i∈f.2→hp' i=hp i:=fun i hi=>hA i (List.mem_append.2 (.inr hi))
          refine ⟨_,_,rfl,⟨q1,q2,q3,blksAt_c (fun i hi=>eW i (mI i (by simp [hi]))) r1,matchArg_c (fun i hi=>hA i (subL_spec r9 hi)) r2,r3,r4,allDead_c (fun i hi=>eW i (mI i (by simp [hi]))) r5,r6,r7,r8,r9⟩,?_⟩
          exact ((Loc.refl eW).freezeAll mD).putAll mI
        · rename_i g caps hx
          simp only [Option.some.injEq,Prod.mk.injEq] at he
          obtain ⟨rfl,rfl,rfl⟩:=he
          obtain ⟨q1,q2,q3,r1,r2,r3,r4,r5,r6,r7,r8,r9⟩:=hp0
          have mI:∀ i∈T.ids ++ T.keys,i∈f.2:=fun i hi=>subL_spec r7 hi
          have mD:∀ i∈datIds T.as (caps ++ c.args.toList.map (plainTm tm)),i∈f.2:=fun i hi=>subL_spec r8 hi
          have eW:∀ i,i∈f.2→hp' i=hp i:=fun i hi=>hA i (List.mem_append.2 (.inr hi))
          refine ⟨_,_,rfl,⟨q1,q2,q3,blksAt_c (fun i hi=>eW i (mI i (by simp [hi]))) r1,matchArg_c (fun i hi=>hA i (subL_spec r9 hi)) r2,r3,r4,allDead_c (fun i hi=>eW i (mI i (by simp [hi]))) r5,r6,r7,r8,r9⟩,?_⟩
          exact ((Loc.refl eW).freezeAll mD).putAll mI
        · cases he
      · cases he
    · cases he
  ok:=fun hok {s K} h=>by
    unfold stepI at h
    split at h
    · exact h.elim
    · rename_i p v hp' he
      obtain ⟨hp0,hK⟩:=h
      unfold efM at he
      split at he
      · rename_i c ho
        split at he
        · rename_i x hcal
          split at he
          · rename_i g caps hx
            simp only [Option.some.injEq,Prod.mk.injEq] at he
            obtain ⟨rfl,rfl,rfl⟩:=he
            obtain ⟨q1,rfl,q3,r1,r2,r3,r4,r5,r6,r7,r8,r9⟩:=hp0
            have main:∀ o':Oper,o'.op=o.op→o'.dst=o.dst→o'.guard=none→operOk N o'=true→StepOk P N ops o' s K:=by
              intro o' e1 e2 e3 hok'
              refine stepM_ok h00 hok' ?_
              unfold stepM
              rw [e3,e1,ho]
              dsimp only
              rw [hcal]
              dsimp only
              rw [hx]
              refine ⟨by rw [← ho];exact q3,_,_,⟨⟨T.as,T.hs,T.res,T.hs',T.ids,T.keys,T.C,r1,r2,r3,r4,r5,r6,rfl,rfl⟩⟩,?_⟩
              rw [e2]
              exact hK
            cases hg:o.guard with
            | none=>exact main o rfl rfl hg hok
            | some q =>
              obtain ⟨j,want⟩:=q
              have hU:=main (unguard o) rfl rfl rfl hok
              unfold gdOk at q1
              rw [hg] at q1
              intro w0 a w hR
              have hR0:=hR
              obtain ⟨σ,hR'⟩:=hR
              have hw:=guardOf_sound hR' hg q1
              refine ⟨fun _ K' Q hq=>?_,fun hw'=>by rw [hw] at hw';cases hw'⟩
              exact (hU w0 a w hR0).1 (wanted_none rfl) K' Q hq
          · rename_i g caps hx
            simp only [Option.some.injEq,Prod.mk.injEq] at he
            obtain ⟨rfl,rfl,rfl⟩:=he
            obtain ⟨q1,rfl,q3,r1,r2,r3,r4,r5,r6,r7,r8,r9⟩:=hp0
            have main:∀ o':Oper,o'.op=o.op→o'.dst=o.dst→o'.guard=none→operOk N o'=true→StepOk P N ops o' s K:=by
              intro o' e1 e2 e3 hok'
              refine stepM_ok h00 hok' ?_
              unfold stepM
              rw [e3,e1,ho]
              dsimp only
              rw [hcal]
              dsimp only
              rw [hx]
              refine ⟨by rw [← ho];exact q3,_,_,⟨⟨T.as,T.hs,T.res,T.hs',T.ids,T.keys,T.C,r1,r2,r3,r4,r5,r6,rfl,rfl⟩⟩,?_⟩
              rw [e2]
              exact hK
            cases hg:o.guard with
            | none=>exact main o rfl rfl hg hok
            | some q =>
              obtain ⟨j,want⟩:=q
              have hU:=main (unguard o) rfl rfl rfl hok
              unfold gdOk at q1
              rw [hg] at q1
              intro w0 a w hR
              have hR0:=hR
              obtain ⟨σ,hR'⟩:=hR
              have hw:=guardOf_sound hR' hg q1
              refine ⟨fun _ K' Q hq=>?_,fun hw'=>by rw [hw] at hw';cases hw'⟩
              exact (hU w0 a w hR0).1 (wanted_none rfl) K' Q hq
          · cases he
        · cases he
      · cases he
section
variable (E:∀ (i:Nat) (ops:List Oper) (o:Oper),EffI P N ops o)
def eOp (ops:Array Oper) (i:Nat) (K:S→Prop) (s:S):Prop :=
  match ops[i]? with
  | none=>K s
  | some o=>stepI (E i ops.toList o).ef o.dst s K
theorem eOp_mono {ops:Array Oper} {i:Nat} {K K':S→Prop} (hK:∀ s,K s→K' s) (h:eOp E ops i K s):eOp E ops i K' s:=by
  unfold eOp at *
  split
  · rename_i ho;rw [ho] at h;exact hK _ h
  · rename_i o ho;rw [ho] at h;exact stepI_mono hK h
def wpOpsE (ops:Array Oper):List Nat→S→(S→Prop)→Prop
  | [],s,Q=>Q s
  | i :: is,s,Q=>eOp E ops i (fun s'=>wpOpsE ops is s' Q) s
def wpAnyE (md:Region.Mode) (ops:Array Oper) (Q:S→Prop):Nat→Array Bool→S→Prop
  | 0,listed,s=>Region.ready md ops listed=[]∧Q s
  | fuel+1,listed,s =>
    (Region.ready md ops listed=[]→Q s)∧∀ i∈Region.ready md ops listed,eOp E ops i (wpAnyE md ops Q fuel (listed.setIfInBounds i true)) s
theorem eOp_swap {ops:Array Oper} {i j:Nat} {oi oj:Oper} {K:S→Prop} (hi:ops[i]? = some oi) (hj:ops[j]? = some oj) (hap:oi.apart ops oj=true) (hcm:compat2 (E i ops.toList oi).fo (E j ops.toList oj).fo=true) (h:eOp E ops i (fun s'=>eOp E ops j K s') s) :
    eOp E ops j (fun s'=>eOp E ops i K s') s:=by
  unfold eOp at *
  simp only [hi,hj] at *
  exact stepI_swap _ _ (by simpa using hap) hcm h
theorem wpAnyE_first {md:Region.Mode} {ops:Array Oper} {Q:S→Prop} {i:Nat} {oi:Oper} (hi:ops[i]? = some oi) {D:Nat→Bool}
    (hDe:∀ j,D j=true→j≠i→∃ oj e,ops[j]? = some oj∧e∈oj.after∧Region.binds md e=true∧D e.on=true) :
    ∀ (fuel:Nat) (listed:Array Bool) (s:S),(∀ j,D j=true→listed.getD j true=false) →
      (∀ j oj,ops[j]? = some oj→j≠i→listed.getD j true=false→D j=false→oi.apart ops oj=true∧compat2 (E i ops.toList oi).fo (E j ops.toList oj).fo=true) →
      i∈Region.ready md ops listed→eOp E ops i (wpAnyE E md ops Q fuel (listed.setIfInBounds i true)) s→wpAnyE E md ops Q (fuel+1) listed s:=by
  intro fuel
  induction fuel with
  | zero =>
    intro listed s _ _ hr H
    refine ⟨fun h=>(by rw [h] at hr;cases hr),fun j hj=>?_⟩
    by_cases hji:j=i
    · subst hji;exact H
    · have h1:=ready_mono hj hji
      unfold eOp at H
      simp only [hi] at H
      unfold stepI at H
      split at H
      · exact H.elim
      · have:=H.2.1
        rw [this] at h1;cases h1
  | succ fuel ih =>
    intro listed s hDl hfree hr H
    refine ⟨fun h=>(by rw [h] at hr;cases hr),fun j hj=>?_⟩
    by_cases hji:j=i
    · subst hji;exact H
    · obtain ⟨hjun,oj,hoj,hall⟩:=mem_ready.1 hj
      have hDj:D j=false:=by
        cases hd:D j with
        | false=>rfl
        | true =>
          obtain ⟨oj',e,hoj',he,hb,hde⟩:=hDe j hd hji
          rw [hoj] at hoj';cases hoj'
          have h1:=hall e he hb
          have h0:=hDl e.on hde
          rcases Nat.lt_or_ge e.on listed.size with h' | h'
          · simp [h'] at h0 h1;rw [h0] at h1;cases h1
          · simp [Array.getElem?_eq_none h'] at h1
      obtain ⟨hap,hcm⟩:=hfree j oj hoj hji hjun hDj
      have H':eOp E ops i (fun s'=>eOp E ops j (wpAnyE E md ops Q fuel ((listed.setIfInBounds i true).setIfInBounds j true)) s') s :=
        eOp_mono E (fun s' h=>h.2 j (ready_mono hj hji)) H
      have H2:=eOp_swap E hi hoj hap hcm H'
      have hfree':∀ k ok,ops[k]? = some ok→k≠i→(listed.setIfInBounds j true).getD k true=false →
          D k=false→oi.apart ops ok=true∧compat2 (E i ops.toList oi).fo (E k ops.toList ok).fo=true:=fun k ok hk hki hun hno=>by
        refine hfree k ok hk hki ?_ hno
        by_cases hjk:j=k
        · subst hjk;exact hjun
        · rw [getD_set_ne true hjk] at hun;exact hun
      have hDl':∀ k,D k=true→(listed.setIfInBounds j true).getD k true=false:=fun k hk=>by
        have hjk:j≠k:=fun e=>by subst e;rw [hk] at hDj;cases hDj
        rw [getD_set_ne true hjk];exact hDl k hk
      refine eOp_mono E (fun s' h3=>ih (listed.setIfInBounds j true) s' hDl' hfree' (ready_mono hr (Ne.symm hji)) ?_) H2
      rw [Array.setIfInBounds_comm _ _ hji]
      exact h3
theorem wpAnyE_lex {bx:Nat→Foot} (hfo:∀ i ops o,(E i ops o).fo=bx i) {md:Region.Mode} {ops:Array Oper} {Q:S→Prop}:∀ (ks:List Nat) (listed:Array Bool) (s:S),
    lexFromQ bx md ops ks listed=true→wpOpsE E ops ks s Q→wpAnyE E md ops Q ks.length listed s
  | [],_,_,hB,h=>⟨by simpa [lexFromQ] using hB,h⟩
  | k :: ks,listed,s,hB,h=>by
    simp only [lexFromQ,Bool.and_eq_true] at hB
    obtain ⟨⟨hr,hf⟩,hB'⟩:=hB
    cases h0:ops[k]? with
    | none=>simp [freeQ,h0] at hf
    | some o =>
      refine wpAnyE_first E h0 (D:=depD md ops listed k 8) (fun j hd hj=>depD_edge hd hj) ks.length listed s (fun j hd=>depD_un hd) (fun j oj h1 h2 h3 h4=>by rw [hfo,hfo];exact freeQ_spec h0 hf j oj h1 h2 h3 h4) (by simpa using hr) ?_
      exact eOp_mono E (fun s' h'=>wpAnyE_lex hfo ks _ s' hB' h') h
theorem wpAnyE_sound {md:Region.Mode} {ops:Array Oper} {Q:S→Prop} {Q':Exit→Act→World→Prop} {a0:Act} (hok:∀ o,o∈ops.toList→operOk N o=true)
    (hQ:∀ s' a' w',a'.defers=a0.defers→Rel P w0 N s' a'.tmps w'→Q s'→Q' .normal a' w') :
    ∀ (fuel:Nat) (listed:Array Bool) (s:S) (a:Act) (w:World),a.defers=a0.defers→wpAnyE E md ops Q fuel listed s→Rel P w0 N s a.tmps w→wpAny P md ops Q' fuel listed a w
  | 0,_,s,a,w,hd,h,hR=>⟨h.1,hQ s a w hd hR h.2⟩
  | fuel+1,listed,s,a,w,hd,h,hR=>by
    refine ⟨fun h0=>hQ s a w hd hR (h.1 h0),fun i hi=>?_⟩
    have h1:=h.2 i hi
    unfold eOp at h1
    unfold wpOp
    cases ho:ops[i]? with
    | none =>
      simp only [ho] at h1 ⊢
      exact wpAnyE_sound hok hQ fuel _ s a w hd h1 hR
    | some o =>
      simp only [ho] at h1 ⊢
      have hm:o∈ops.toList:=by
        obtain ⟨hlt,e⟩:=Array.getElem?_eq_some_iff.1 ho
        rw [← e];simp
      obtain ⟨k1,k2⟩:=(E i ops.toList o).ok (hok o hm) h1 w0 a w hR
      have ih:∀ s' a' w',a'.defers=a.defers→wpAnyE E md ops Q fuel (listed.setIfInBounds i true) s'→Rel P w0 N s' a'.tmps w'→wpAny P md ops Q' fuel (listed.setIfInBounds i true) a' w':=fun s' a' w' hdf hK hR' =>
        wpAnyE_sound hok hQ fuel _ s' a' w' (hdf.trans hd) hK hR'
      simp only [Array.toArray_toList] at k1 k2
      cases hw:Region.wanted o (yielded ops a.tmps) with
      | true=>exact .inl (k1 hw _ _ (fun s' a' w' h1 h2 h3=>ih s' a' w' h1 h2 h3))
      | false =>
        obtain ⟨s',h2,h3⟩:=k2 hw
        exact ih s' _ _ (put_defers _ _ _) h2 h3
end
def mtAt (Ml:List (Nat×MT P)) (i:Nat):Option (MT P) :=
  match Ml with
  | []=>none
  | (j,T) :: l=>if j=i then some T else mtAt l i
def famE (h00:tyI P 0=none) (hΓ:∀ g,g∈Γ→Contract P g) (N:Nat) (Rl:List (Option Bool×Foot)) (Ml:List (Nat×MT P)) (i:Nat) (ops:List Oper) (o:Oper):EffI P N ops o :=
  match mtAt Ml i with
  | some T=>EffI.m h00 N T (Rl.getD i (none,[],[])).2 ops o
  | none=>EffI.q h00 hΓ N (Rl.getD i (none,[],[])).1 (Rl.getD i (none,[],[])).2 ops o
def stepHM (T:MT P) (r:Option Bool×Foot) (gd:Option Nat) (o:Oper) (s:S) (K:S→Prop):Prop :=
  (match o.guard with | none=>True | some (_,want)=>guardT s.tm gd want=some true)∧match o.op with
  | .call c=>match c.callee with
    | .value x=>match plainTm s.tm x with
      | .fnv g caps=>g=T.g∧allNeeds s.tm o.op.operands.toList∧T.pre r.2 s.hp (c.args.toList.map (plainTm s.tm) ++ caps)∧K ⟨updD s.tm o.dst T.val,T.hp s.hp (c.args.toList.map (plainTm s.tm) ++ caps)⟩
      | .fnb g caps=>g=T.g∧allNeeds s.tm o.op.operands.toList∧T.pre r.2 s.hp (caps ++ c.args.toList.map (plainTm s.tm))∧K ⟨updD s.tm o.dst T.val,T.hp s.hp (caps ++ c.args.toList.map (plainTm s.tm))⟩
      | _=>False
    | _=>False
  | _=>False
def wpOpsHE (P:Program) (Γ:List Fn):List (((Option Bool×Foot)×Option Nat×Oper)×Option (MT P))→S→(S→Prop)→Prop
  | [],s,Q=>Q s
  | ((r,g,o),none) :: os,s,Q=>if vF r.2=true then stepHV P r o s fun s'=>wpOpsHE P Γ os s' Q else stepHQ P Γ r g o s fun s'=>wpOpsHE P Γ os s' Q
  | ((r,g,o),some T) :: os,s,Q=>stepHM T r g o s fun s'=>wpOpsHE P Γ os s' Q
def inOrdE (ops:List Oper) (Rl:List (Option Bool×Foot)) (Ml:List (Nat×MT P)):List Nat→List (((Option Bool×Foot)×Option Nat×Oper)×Option (MT P))
  | []=>[]
  | i :: is=>match ops[i]? with
    | some o=>((Rl.getD i (none,[],[]),gdst ops o,o),mtAt Ml i) :: inOrdE ops Rl Ml is
    | none=>inOrdE ops Rl Ml is
theorem wpOps_HE (h00:tyI P 0=none) (hΓ:∀ g,g∈Γ→Contract P g) (ops:Array Oper) (Rl:List (Option Bool×Foot)) (Ml:List (Nat×MT P)) {Q:S→Prop}:∀ (ord:List Nat) (s:S),wpOpsHE P Γ (inOrdE ops.toList Rl Ml ord) s Q→wpOpsE (famE h00 hΓ N Rl Ml) ops ord s Q
  | [],s,h=>h
  | i :: is,s,h=>by
    simp only [wpOpsE,eOp]
    cases ho:ops[i]? with
    | none =>
      simp only [inOrdE,Array.getElem?_toList,ho] at h
      exact wpOps_HE h00 hΓ ops Rl Ml is s h
    | some o =>
      simp only [inOrdE,Array.getElem?_toList,ho] at h
      dsimp only
      unfold famE
      cases hm:mtAt Ml i with
      | none =>
        rw [hm] at h
        simp only [wpOpsHE] at h
        dsimp only
        show stepI (efQ P Γ _ _ ops.toList o) o.dst s _
        unfold stepI efQ effQ footQ
        split at h
        · rename_i hv
          rw [if_pos hv,if_pos hv]
          unfold stepHV at h
          unfold effV
          split at h
          · rename_i r' hg hop
            try rw [hg,hop]
            exact ⟨⟨⟨h.1,h.2.1⟩,h.2.2.1⟩,wpOps_HE h00 hΓ ops Rl Ml is _ h.2.2.2⟩
          · exact h.elim
        · rename_i hv
          rw [if_neg hv,if_neg hv]
          unfold stepHQ at h
          rw [effR_G]
          split at h
          · exact h.elim
          · rename_i p f v hp' he
            rw [he]
            exact ⟨⟨h.1,h.2.1⟩,wpOps_HE h00 hΓ ops Rl Ml is _ h.2.2⟩
      | some T =>
        rw [hm] at h
        simp only [wpOpsHE] at h
        dsimp only
        show stepI (efM T _ ops.toList o) o.dst s _
        unfold stepI efM
        unfold stepHM at h
        obtain ⟨hg,h⟩:=h
        have hgo:gdOk o ops.toList s.tm:=by
          unfold gdOk
          split
          · trivial
          · rename_i j want hgd
            rw [hgd] at hg
            dsimp only at hg
            rw [guardOf_gdst hgd];exact hg
        split at h
        · rename_i c hoc
          split at h
          · rename_i x hcal
            split at h
            · rename_i g caps hx
              try simp only [hoc]
              exact ⟨⟨hgo,h.1,by first | exact h.2.1 | (rw [hoc] at h;exact h.2.1),h.2.2.1⟩,wpOps_HE h00 hΓ ops Rl Ml is _ h.2.2.2⟩
            · rename_i g caps hx
              try simp only [hoc]
              exact ⟨⟨hgo,h.1,by first | exact h.2.1 | (rw [hoc] at h;exact h.2.1),h.2.2.1⟩,wpOps_HE h00 hΓ ops Rl Ml is _ h.2.2.2⟩
            · exact h.elim
          · exact h.elim
        · exact h.elim
theorem Sm.regE {id:Nat} {ops:Array Oper} {Q:Exit→S→Prop} (h00:tyI P 0=none) (hm:P.follows .mixedOrders=true) (hΓ:∀ g,g∈Γ→Contract P g) (ord:List Nat) (Rl:List (Option Bool×Foot)) (Ml:List (Nat×MT P)) (hok:regOkQ (fun i=>(Rl.getD i (none,[],[])).2) N ops ord=true) (hlen:ord.length=ops.size)
    (h:wpOpsHE P Γ (inOrdE ops.toList Rl Ml ord) s (Q .normal)):Sm P N kp (.region id ops true) s Q:=by
  intro r w0 Q' a w hk hr hd hR hQ
  simp only [regOkQ,Bool.and_eq_true,List.all_eq_true] at hok
  have hE:wpOpsE (famE h00 hΓ N Rl Ml) ops ord s (Q .normal):=wpOps_HE h00 hΓ ops Rl Ml ord s h
  refine cw_region_any hm (operOk_noDefer hok.1) ?_
  obtain ⟨σ,hR'⟩:=hR
  have hR2:Rel P w0 N s a.tmps { w with drawn:=w.drawn+1 }:=⟨σ,hR'.world (Below.refl _ _).drew⟩
  have hA:=wpAnyE_lex (famE h00 hΓ N Rl Ml) (bx:=fun i=>(Rl.getD i (none,[],[])).2) (fun i ops o=>by unfold famE;split <;> rfl) (md:=.any) ord (Array.replicate ops.size false) s hok.2 hE
  have:=wpAnyE_sound (famE h00 hΓ N Rl Ml) (Q':=shutQ Q') hok.1 (fun s' a' w' h1 h2 h3=>⟨by simp,hQ _ _ _ _ _ (Ext.refl _) (h1 ▸ hd) h2 h3⟩) ord.length _ s a _ rfl hA hR2
  rw [hlen] at this
  simpa using this
variable {b:Code} {l:List (((Option Bool×Foot)×Option Nat×Oper)×Option (MT P))}
theorem sE {id:Nat} {ops:Array Oper} {Q:Exit→S→Prop} (ord:List Nat) (Rl:List (Option Bool×Foot)) (Ml:List (Nat×MT P)) (h:∀ K:S→Prop,(∀ s',Sm P N kp b s' Q→K s')→wpOpsHE P Γ l s K)
    (h1:tyI P 0=none:=by exact h00) (h2:P.follows .mixedOrders=true:=by exact mixed) (h3:∀ g,g∈Γ→Contract P g:=by exact hΓ)
    (hok:regOkQ (fun i=>(Rl.getD i (none,[],[])).2) N ops ord=true:=by kernel_rfl) (hlen:ord.length=ops.size:=by rfl)
    (h5:∀ K:List (((Option Bool×Foot)×Option Nat×Oper)×Option (MT P))→Prop,K l→K (inOrdE ops.toList Rl Ml ord):=by intro K hK;simp only [rs,inOrdE,mtAt,reduceIte,Nat.reduceEqDiff];exact hK):Sm P N kp (.seq (.region id ops true) b) s Q :=
  Sm.seq (Sm.regE h1 h2 h3 ord Rl Ml hok hlen (h5 (fun l=>wpOpsHE P Γ l s _) (h _ (fun _ h=>h))))
variable {r:Option Bool×Foot} {g:Option Nat} {o:Oper} {os:List (((Option Bool×Foot)×Option Nat×Oper)×Option (MT P))} {K:S→Prop} {s':S}
theorem opsE0 {Q:S→Prop} (h:Q s):wpOpsHE P Γ [] s Q:=h
theorem eQq (h:wpOpsHE P Γ os s' K) (hs:∀ K:S→Prop,K s'→stepHQ P Γ r g o s K:=by intro K hK;simp only [z,seval,q];(repeat first | refine gcI ?_ | intro (_:_≤_));exact hK) (hv:vF r.2=false:=by rfl):wpOpsHE P Γ (((r,g,o),none) :: os) s K:=by
  simp only [wpOpsHE,hv,Bool.false_eq_true,if_false]
  exact hs _ h
theorem eB {d:Option Nat} {f:Operand} {args:Array Operand} {argTypes:Array TypeId} {ty:TypeId} {pos:String} {after:Array Edge} {gu:Option (Nat×Bool)} {gf:FuncId} {caps:List A} {as:List Arg} {hs:List Blk} {res:List A} {hs':List Blk} {C0:CallsM P gf as hs res hs'} {ids keys:List Nat}
    (h:wpOpsHE P Γ os ⟨updD s.tm d (unTup (renMs (mL (ids ++ keys)) res)),putAll (ids ++ keys) (hs'.map (renB (mL (ids ++ keys)))) (freezeAll s.hp (datIds as (caps ++ args.toList.map (plainTm s.tm))))⟩ K)
    (hg:match gu with | none=>True | some (_,want)=>guardT s.tm g want=some true:=by first | trivial | simp only [z,seval,q]) (hf:plainTm s.tm f = .fnb gf caps:=by (simp only [z,seval,q];try rfl)) (hn:allNeeds s.tm (Op.call ⟨.value f,args,argTypes⟩).operands.toList:=by simp only [z,seval,q]) (hb:blksAt s.hp (mL ids) hs.length ids hs:=by simp only [z,seval,q])
    (ha:matchArg s.hp (mL ids) hs.length as (caps ++ args.toList.map (plainTm s.tm)):=by simp only [z,seval,q]) (hd:disj ids (datIds as (caps ++ args.toList.map (plainTm s.tm)))=true:=by simp only [z,seval,q]) (hnd:nodupL (ids ++ keys)=true:=by rfl) (hk:allDead s.hp keys=true:=by simp only [z,seval,q]) (hl:keys.length+hs.length=hs'.length:=by rfl)
    (hi:subL (ids ++ keys) r.2.2=true:=by rfl) (hz:subL (datIds as (caps ++ args.toList.map (plainTm s.tm))) r.2.2=true:=by first | rfl | (simp only [z,seval,q,subL,inL];done) | (simp only [z,seval,q];rfl)) (hr:subL (idsAs (caps ++ args.toList.map (plainTm s.tm))) (r.2.1 ++ r.2.2)=true:=by first | rfl | (simp only [z,seval,q,subL,inL,idsAs,idsA];done) | (simp only [z,seval,q];rfl)) :
    wpOpsHE P Γ (((r,g,⟨d,.call ⟨.value f,args,argTypes⟩,ty,pos,after,gu⟩),some ⟨gf,as,hs,res,hs',ids,keys,C0⟩) :: os) s K:=by
  simp only [wpOpsHE]
  unfold stepHM
  refine ⟨hg,?_⟩
  dsimp only
  rw [hf]
  exact ⟨rfl,hn,⟨hb,ha,hd,hnd,hk,hl,hi,hz,hr⟩,h⟩
end Go.AE
/-
  The end of a call that is handed blocks, for contracts written by hand.
-/
set_option linter.unusedVariables false
namespace Go.AE
open Go.RowKit (Below)
variable {P:Program} {w w':World} {N:Nat} {σ σ':Nat→RefI} {al:Nat→Prop} {B B':Nat→Prop}
theorem BRel.wr {id:Nat} {k:Blk} (h:BRel P w B al σ id k) (hB:∀ b,blockOf (σ id) b→B' b):BRel P w B' al σ id k:=by
  cases k with
  | dead=>exact h
  | gone=>exact h
  | box cells =>
    obtain ⟨b,vs,t,hr,_,hh,hl,hc⟩:=h
    exact ⟨b,vs,t,hr,hB b (by rw [hr];rfl),hh,hl,hc⟩
  | row t es =>
    obtain ⟨E,hE,hby,h⟩:=h
    refine ⟨E,hE,hby,h.imp (fun x=>x) ?_⟩
    rintro ⟨b,cap,cur,tg,hr,_,hh⟩
    exact ⟨b,cap,cur,tg,hr,hB b (by rw [hr];exact .inl rfl),hh⟩
  | frz t es =>
    obtain ⟨E,hE,hby,h⟩:=h
    refine ⟨E,hE,hby,h.imp (fun x=>x) ?_⟩
    rintro ⟨b,cap,cur,tg,hr,_,hh⟩
    exact ⟨b,cap,cur,tg,hr,hB b (by rw [hr];exact .inl rfl),hh⟩
  | mp kk vp m =>
    obtain ⟨b,es,clock,hr,_,hh⟩:=h
    exact ⟨b,es,clock,hr,hB b (by rw [hr];rfl),hh⟩
  | rl t es i j a =>
    obtain ⟨E,hE,hby,h⟩:=h
    refine ⟨E,hE,hby,h.imp (fun x=>x) ?_⟩
    rintro ⟨b,cap,cur,tg,hr,_,hh⟩
    exact ⟨b,cap,cur,tg,hr,hB b (by rw [hr];exact .inl rfl),hh⟩
  | it kk vp cur left =>
    obtain ⟨r,b,es,clock,since,seen,c0,hr,_,_,hh⟩:=h
    exact ⟨r,b,es,clock,since,seen,c0,hr,hB r (by rw [hr];exact .inl rfl),hB b (by rw [hr];exact .inr rfl),hh⟩
  | reg =>
    obtain ⟨W,Q,hr,hh⟩:=h
    exact ⟨W,Q,hr,fun b hb=>⟨hB b (by rw [hr];exact hb),(hh b hb).2⟩⟩
  | wob =>
    obtain ⟨W,Q,hr,hh⟩:=h
    exact ⟨W,Q,hr,fun b hb=>⟨hB b (by rw [hr];exact hb),(hh b hb).2⟩⟩
theorem ResM.of {hs':List Blk} {res:List A} {v:Value} (hal:∀ b,al b→b < w.heap.size∧∀ j,¬ blockOf (σ j) b) (hinj:∀ i j b,blockOf (σ i) b→blockOf (σ j) b→i=j)
    (hold:∀ j b,blockOf (σ j) b→b < w.heap.size)
    (hbel:BelowX w.heap.size (muOf σ) w w') (hσ:∀ j,σ j≠.dead→σ' j=σ j) (hnew:∀ j b,σ j = .dead→blockOf (σ' j) b→w.heap.size≤b∧∀ i,σ i = .dead→blockOf (σ' i) b→i=j)
    (hblk:∀ j,BRel P w' B al σ' j (rowsHp hs' j)) (hv:ARel P w' al σ' v (unTup res)):ResM P w al σ w' v res hs':=by
  have hdis:∀ b,al b→∀ id,¬ blockOf (σ' id) b:=by
    intro b hb id hid
    by_cases hd:σ id = .dead
    · have:=(hnew id b hd hid).1
      have:=(hal b hb).1
      omega
    · rw [hσ id hd] at hid
      exact (hal b hb).2 id hid
  have hAl:∀ b,al b→Al ⟨w,al,muOf σ,σ,noMk,0⟩ w' σ' (rowsHp hs') b:=fun b hb=>⟨Nat.lt_of_lt_of_le (hal b hb).1 hbel.size,fun id hid=>absurd hid (hdis b hb id),.inr hb⟩
  refine ⟨hbel,σ',fun j=>?_,fun i j b hi hj=>?_,fun j hj=>.inl (hσ j hj),hv.mono (fun _ _=>rfl) hAl (fun _ _=>.inl rfl)⟩
  · refine ((hblk j).wr (B':=Base.wr ⟨w,al,muOf σ,σ,noMk,0⟩) (fun b hb=>?_)).mono (fun _ _=>rfl) hAl (fun _ _=>.inl rfl) rfl (fun _ _=>rfl)
    by_cases hd:σ j = .dead
    · exact .inl (hnew j b hd hb).1
    · rw [hσ j hd] at hb
      exact .inr ⟨j,hb⟩
  · by_cases hd:σ i = .dead
    · have h1:=hnew i b hd hi
      by_cases he:σ j = .dead
      · exact (h1.2 j he hj).symm
      · rw [hσ j he] at hj
        have:=hold j b hj
        omega
    · by_cases he:σ j = .dead
      · have h1:=hnew j b he hj
        rw [hσ i hd] at hi
        have:=hold i b hi
        omega
      · rw [hσ i hd] at hi
        rw [hσ j he] at hj
        exact hinj i j b hi hj
theorem old_blocks {hs:List Blk} (hB:∀ j,BRel P w (fun b=>b < w.heap.size) al σ j (rowsHp hs j)):∀ j b,blockOf (σ j) b→b < w.heap.size:=fun j b hb=>(block_lt_of_bref (hB j) hb).1
theorem ResM.read {hs:List Blk} {res:List A} {v:Value} (hal:∀ b,al b→b < w.heap.size∧∀ j,¬ blockOf (σ j) b) (hinj:∀ i j b,blockOf (σ i) b→blockOf (σ j) b→i=j)
    (hB:∀ j,BRel P w (fun b=>b < w.heap.size) al σ j (rowsHp hs j)) (hbel:Below w.heap.size w w') (hv:ARel P w' al σ v (unTup res)):ResM P w al σ w' v res hs:=by
  have hold:=old_blocks hB
  exact ResM.of (B:=fun b=>b < w.heap.size) hal hinj hold (.of hbel) (fun _ _=>rfl) (fun j b hd hb=>by rw [hd] at hb;exact hb.elim) (fun j=>(hB j).mono (fun b hb=>hbel.block b (hal b hb).1) (fun _ h=>h) (fun _ _=>.inl rfl) rfl (fun b hb=>hbel.block b (hold j b hb))) hv
theorem ResM.turn {hs:List Blk} {res:List A} {v:Value} {i:Nat} {k':Blk} {b0:Nat} (hal:∀ b,al b→b < w.heap.size∧∀ j,¬ blockOf (σ j) b) (hinj:∀ i j b,blockOf (σ i) b→blockOf (σ j) b→i=j)
    (hB:∀ j,BRel P w (fun b=>b < w.heap.size) al σ j (rowsHp hs j)) (hi:i < hs.length) (hb0:∀ b,blockOf (σ i) b↔b=b0)
    (hos:w'.os=w.os) (htp:w'.tape=w.tape) (hout:w'.output=w.output) (hsz:w.heap.size≤w'.heap.size) (hblk:∀ b,b < w.heap.size→b≠b0→w'.heap[b]? = w.heap[b]?)
    (hk:BRel P w' B al σ i k') (hv:ARel P w' al σ v (unTup res)):ResM P w al σ w' v res (hs.set i k'):=by
  have hold:=old_blocks hB
  refine ResM.of (B:=fun b=>b < w.heap.size∨B b) hal hinj hold ⟨hos,htp,hout,hsz,fun b hb hn=>hblk b hb (fun e=>hn ⟨i,(hb0 b).2 e⟩)⟩ (fun _ _=>rfl) (fun j b hd hb=>by rw [hd] at hb;exact hb.elim) (fun j=>?_) hv
  by_cases e:j=i
  · subst e
    have e1:rowsHp (hs.set j k') j=k':=by simp [rowsHp,hi]
    rw [e1]
    exact hk.wr (fun b hb=>.inl (hold j b hb))
  · have e1:rowsHp (hs.set i k') j=rowsHp hs j:=by
      simp [rowsHp,List.getD_eq_getElem?_getD,Ne.symm e]
    rw [e1]
    refine ((hB j).mono (fun b hb=>hblk b (hal b hb).1 (fun e=>(hal b hb).2 i ((hb0 b).2 e))) (fun _ h=>h) (fun _ _=>.inl rfl) rfl (fun b hb=>hblk b (hold j b hb) (fun e'=>e (hinj j i b hb ((hb0 b).2 e'))))).wr (fun b hb=>.inl (hold j b hb))
end Go.AE
/-
  Calls of a function value whose first arguments are given.
-/
set_option linter.unusedVariables false
namespace Go.AE
variable {P:Program} {Γ:List Fn} {s:S} {N:Nat} {g:Option Nat} {os:List (Option Nat×Oper)} {K:S→Prop}
end Go.AE
