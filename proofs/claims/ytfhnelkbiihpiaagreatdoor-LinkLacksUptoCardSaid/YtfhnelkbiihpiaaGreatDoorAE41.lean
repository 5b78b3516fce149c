/- Text. -/
import Derived.Test.YtfhnelkbiihpiaaGreatDoorAE35
import Derived.Test.YtfhnelkbiihpiaaGreatDoorAE18
set_option linter.unusedSimpArgs false
set_option linter.unusedVariables false
namespace Go.AE
open Go.RowKit (Below)
variable {P:Program} {w0:Base} {w:World} {N:Nat} {σ:Nat→RefI} {s:S} {tms:Array Value} {ρ:Operand→Value} {al:Nat→Prop}
def boxL (d:Nat):Nat→List A→(Nat→Blk)→(Nat→Blk)
 | _,[],hp=>hp
 | j,a :: as,hp=>boxL d (j+1) as (upd hp (key d j) (.box [a]))
def czu (d:Nat):Nat→List A→List A
 | _,[]=>[]
 | j,_ :: as=>.box (key d j) 0 :: czu d (j+1) as
def ewj (d:Nat) (hp:Nat→Blk):Nat→List A→Bool
 | _,[]=>true
 | j,_ :: as=>aqh (hp (key d j)) && ewj d hp (j+1) as
def eyv (f gf:FuncId) (ts:List TypeId) (o:Oper) (s:S) (K:S→Prop):Prop :=
 match o.guard,o.op,o.dst with
 | none,.call c,some d=>match c.callee with
  | .value x=>match aj4 s.tm x with
   | .fnv g []=>g=f∧c.args.toList.length=ts.length∧aj6 s.tm o.op.operands.toList∧ewj d s.hp 0 (c.args.toList.map (aj4 s.tm))=true∧bwg s.hp (c.args.toList.map (aj4 s.tm))=true ∧
    K ⟨upd s.tm d (.fnv gf (czu d 0 (c.args.toList.map (aj4 s.tm)))),boxL d 0 (c.args.toList.map (aj4 s.tm)) s.hp⟩
   | _=>False
  | _=>False
 | _,_,_=>False
end Go.AE
/-
 Regions that draw their order: every order, one by one.
-/
namespace Go.AE
open Go.RowKit (Below)
variable {P:Program} {w0:Base} {w:World} {N kp:Nat} {σ:Nat→RefI} {s:S} {tms:Array Value} {Γ:List Fn}
def wpT (P:Program) (Γ:List Fn) (ops:Array Oper) (Q:S→Prop):Nat→Array Bool→S→Prop
 | 0,listed,s=>Region.ready .any ops listed=[]∧Q s
 | n+1,listed,s=>(Region.ready .any ops listed=[]→Q s)∧∀ i∈Region.ready .any ops listed,∀ o,ops[i]? = some o→ajh P Γ [(gdst ops.toList o,o)] s (wpT P Γ ops Q n (listed.setIfInBounds i true))
def wpTs (P:Program) (Γ:List Fn) (ops:Array Oper) (Q:S→Prop) (n:Nat) (listed:Array Bool) (s:S):List Nat→Prop
 | []=>True
 | i :: is=>(match ops.toList[i]? with | some o=>ajh P Γ [(gdst ops.toList o,o)] s (wpT P Γ ops Q n (listed.setIfInBounds i true)) | none=>True)∧wpTs P Γ ops Q n listed s is
end Go.AE
/-
 Rows with a lent cell: how they are made, how one grows.
-/
namespace Go.AE
open Go.RowKit (Below)
variable {P:Program} {w0:Base} {w:World} {N:Nat} {σ:Nat→RefI} {s:S} {tms:Array Value} {ρ:Operand→Value} {al:Nat→Prop}
def bsL (P:Program) (t:TypeId) (n:Nat) (parts:List (Nat×A)) (d:Option Nat) (hp:Nat→Blk):Option Out :=
 match slE P t,d,n,parts with
 | some (e,E),some d,1,[(0,.own id1 ks1 0 len1)]=>match hp id1 with
  | .row u es1=>if (E.kinds == [.slice u]) && aqh (hp (key d 0)) then some ⟨len1≤es1.length∧(E.bytes:Int)≤140737488355328,True,.own (key d 0) E.kinds 0 1,upd hp (key d 0) (.rl e [[.slice (es1.take len1)]] 0 0 (.own id1 ks1 0 len1)),false⟩ else none
  | _=>none
 | _,_,_,_=>none
def appL (P:Program) (t u:TypeId) (d:Option Nat) (hp:Nat→Blk) (x y:A):Option Out :=
 match slE P t,d,x,y with
 | some (e,E),some d,.own id ks 0 len,.own id2 _ 0 1=>if t=u then (match hp id,hp id2 with
  | .row e1 es,.rl e2 es2 0 j2 (.own id3 ks3 0 len3)=>match hp id3 with
   | .row _ _=>if ((e1 == e && e2 == e) && (es2.length == 1 && azd E.kinds)) && aqh (hp (key d 0)) then
     some ⟨len≤es.length∧((len+1:Nat):Int) * E.bytes≤140737488355328,True,.own (key d 0) ks 0 (len+1),upd (upd (upd hp id2 .gone) id .gone) (key d 0) (.rl e (es.take len ++ es2) len j2 (.own id3 ks3 0 len3)),false⟩ else none
   | _=>none
  | _,_=>none) else none
 | _,_,_,_=>none
def opLR (P:Program) (o:Oper) (hp:Nat→Blk) (v:Operand→A):Option Out :=
 match o.op with
 | .buildSlice t n parts=>bsL P t n (parts.toList.map fun p=>(p.1,v p.2)) o.dst hp
 | .call c=>match c.callee with
  | .builtin .append=>match c.args.toList,c.argTypes.toList with
   | [x,y],[t,u]=>appL P t u o.dst hp (v x) (v y)
   | _,_=>none
  | _=>none
 | _=>none
def eyb (P:Program) (o:Oper) (s:S) (K:S→Prop):Prop :=
 match o.guard with
 | none=>match opLR P o s.hp (aj4 s.tm) with
  | some r=>aj6 s.tm o.op.operands.toList∧r.pre∧(r.fact→K ⟨updD s.tm o.dst r.val,r.hp⟩)
  | none=>False
 | some _=>False
end Go.AE
/-
 Array values whose elements take one cell each: literals, elements.
-/
namespace Go.AE
variable {P:Program} {w0:Base} {w:World} {N:Nat} {σ:Nat→RefI} {s:S} {tms:Array Value} {ρ:Operand→Value} {al:Nat→Prop}
end Go.AE
/-
 The rules once more, with their scripts inside: what a printed proof says shortly. The scripts name 'z' (the seat's equations), 'h00', 'mixed', 'hΓ' and, where calls are known, 'q' of the place of use.
-/
namespace Go.AE
variable {P:Program} {N kp:Nat} {s s':S} {Γ:List Fn} {Q:Exit→S→Prop} {a b c:Code}
theorem Sm.st (e:s=s') (h:Sm P N kp c s' Q):Sm P N kp c s Q:=e ▸ h
theorem rA {id:Nat} {ops:Array Oper} (h:Sm P N kp b s' Q) (h1:tyI P 0=none:=by exact h00) (h2:P.follows .mixedOrders=true:=by exact mixed) (h3:∀ g,g∈Γ→aj9 P g:=by exact hΓ) (h4:codeOk N (.region id ops false)=true:=by kernel_rfl)
  (h5:∀ K:S→Prop,K s'→bql P Γ (resolve ops.toList ops.toList) s K:=by (intro K0 hK0;simp only [rs];(repeat (refine opsG fun K hK=>?_;simp only [z,seval];(repeat first | refine gcI ?_ | intro (_:_≤_));refine hK _ ?_;clear hK K));exact eqz hK0)):Sm P N kp (.seq (.region id ops false) b) s Q:=Sm.seqA h1 h2 h3 h4 fun K hK=>h5 K (hK _ h)
theorem rAq {id:Nat} {ops:Array Oper} (h:Sm P N kp b s' Q) (h1:tyI P 0=none:=by exact h00) (h2:P.follows .mixedOrders=true:=by exact mixed) (h3:∀ g,g∈Γ→aj9 P g:=by exact hΓ) (h4:codeOk N (.region id ops false)=true:=by kernel_rfl)
  (h5:∀ K:S→Prop,K s'→bql P Γ (resolve ops.toList ops.toList) s K:=by (intro K0 hK0;simp only [rs];(repeat (refine opsG fun K hK=>?_;simp only [z,seval,q];(repeat first | refine gcI ?_ | intro (_:_≤_));refine hK _ ?_;clear hK K));exact eqz hK0)):Sm P N kp (.seq (.region id ops false) b) s Q:=Sm.seqA h1 h2 h3 h4 fun K hK=>h5 K (hK _ h)
theorem rD {id:Nat} {ops:Array Oper} (h:Sm P N kp b s' Q) (h1:tyI P 0=none:=by exact h00) (h2:P.follows .mixedOrders=true:=by exact mixed) (h3:∀ g,g∈Γ→aj9 P g:=by exact hΓ) (h4:codeOk N (.region id ops true)=true:=by kernel_rfl)
  (h5:∀ K:S→Prop,K s'→bke P Γ (resolve ops.toList ops.toList) s K:=by (intro K0 hK0;simp only [rs];(repeat (refine opsH fun K hK=>?_;simp only [z,seval];(repeat first | refine gcI ?_ | intro (_:_≤_));refine hK _ ?_;clear hK K));exact fjf hK0)):Sm P N kp (.seq (.region id ops true) b) s Q:=Sm.seqD h1 h2 h3 h4 fun K hK=>h5 K (hK _ h)
theorem eA {id:Nat} {ops:Array Oper} (h:Q .normal s') (h1:tyI P 0=none:=by exact h00) (h2:P.follows .mixedOrders=true:=by exact mixed) (h3:∀ g,g∈Γ→aj9 P g:=by exact hΓ) (h4:codeOk N (.region id ops false)=true:=by kernel_rfl)
  (h5:∀ K:S→Prop,K s'→bql P Γ (resolve ops.toList ops.toList) s K:=by (intro K0 hK0;simp only [rs];(repeat (refine opsG fun K hK=>?_;simp only [z,seval];(repeat first | refine gcI ?_ | intro (_:_≤_));refine hK _ ?_;clear hK K));exact eqz hK0)):Sm P N kp (.region id ops false) s Q:=Sm.regA h1 h2 h3 h4 (h5 _ h)
theorem eAq {id:Nat} {ops:Array Oper} (h:Q .normal s') (h1:tyI P 0=none:=by exact h00) (h2:P.follows .mixedOrders=true:=by exact mixed) (h3:∀ g,g∈Γ→aj9 P g:=by exact hΓ) (h4:codeOk N (.region id ops false)=true:=by kernel_rfl)
  (h5:∀ K:S→Prop,K s'→bql P Γ (resolve ops.toList ops.toList) s K:=by (intro K0 hK0;simp only [rs];(repeat (refine opsG fun K hK=>?_;simp only [z,seval,q];(repeat first | refine gcI ?_ | intro (_:_≤_));refine hK _ ?_;clear hK K));exact eqz hK0)):Sm P N kp (.region id ops false) s Q:=Sm.regA h1 h2 h3 h4 (h5 _ h)
theorem sX {id:Nat} {ops:Array Oper} {l:List (Option Nat×Oper)} (h:∀ K:S→Prop,(∀ s',Sm P N kp b s' Q→K s')→ajh P Γ l s K) (h1:tyI P 0=none:=by exact h00) (h2:P.follows .mixedOrders=true:=by exact mixed) (h3:∀ g,g∈Γ→aj9 P g:=by exact hΓ) (h4:codeOk N (.region id ops false)=true:=by kernel_rfl)
  (h5:∀ K:List (Option Nat×Oper)→Prop,K l→K (resolve ops.toList ops.toList):=by intro K hK;simp only [rs];exact hK):Sm P N kp (.seq (.region id ops false) b) s Q:=Sm.seqX h1 h2 h3 h4 fun K hK=>h5 (fun l=>ajh P Γ l s K) (h K hK)
variable {g:Option Nat} {o:Oper} {os:List (Option Nat×Oper)} {K:S→Prop}
theorem oX (h:ajh P Γ os s' K) (hs:∀ K:S→Prop,K s'→stepG P Γ g o s K:=by intro K hK;simp only [z,seval];(repeat first | refine gcI ?_ | intro (_:_≤_));exact hK):ajh P Γ ((g,o) :: os) s K:=opsX fun K hK=>hs K (hK _ h)
theorem oXq (h:ajh P Γ os s' K) (hs:∀ K:S→Prop,K s'→stepG P Γ g o s K:=by intro K hK;simp only [z,seval,q];(repeat first | refine gcI ?_ | intro (_:_≤_));exact hK):ajh P Γ ((g,o) :: os) s K:=opsX fun K hK=>hs K (hK _ h)
theorem oE {st:Oper→S→(S→Prop)→Prop} (hst:akl P st) (h:ajh P Γ os s' K) (hs:∀ K:S→Prop,K s'→st o s K:=by intro K hK;simp only [z,seval];(repeat first | refine gcI ?_ | intro (_:_≤_));exact hK):ajh P Γ ((g,o) :: os) s K:=opsE hst fun K hK=>hs K (hK _ h)
theorem oTG {j:Nat} {want:Bool} (h:ajh P Γ os s' K) (hg:o.guard=some (j,want):=by rfl) (ht:az9 s.tm g want=some true:=by simp only [z,seval,q]) (hs:∀ K:S→Prop,K s'→stepG P Γ none (ajn o) s K:=by intro K hK;simp only [z,seval,q];(repeat first | refine gcI ?_ | intro (_:_≤_));exact hK):ajh P Γ ((g,o) :: os) s K:=eyt hg ht fun K hK=>hs K (hK _ h)
theorem oTE {st:Oper→S→(S→Prop)→Prop} (hst:akl P st) {j:Nat} {want:Bool} (h:ajh P Γ os s' K) (hg:o.guard=some (j,want):=by rfl) (ht:az9 s.tm g want=some true:=by simp only [z,seval,q]) (hs:∀ K:S→Prop,K s'→st (ajn o) s K:=by intro K hK;simp only [z,seval,q];(repeat first | refine gcI ?_ | intro (_:_≤_));exact hK):ajh P Γ ((g,o) :: os) s K:=ekl hst hg ht fun K hK=>hs K (hK _ h)
theorem oFq {j:Nat} {want:Bool} (h:ajh P Γ os ⟨updD s.tm o.dst (.when false (.c .bool (.bool false))),s.hp⟩ K) (hg:o.guard=some (j,want):=by rfl) (ht:az9 s.tm g want=some false:=by simp only [z,seval,q]):ajh P Γ ((g,o) :: os) s K:=opsF hg ht h
theorem oPl (h:ajh P Γ os s' K) (hs:∀ K:S→Prop,K s'→cj5 o s K:=by intro K hK;simp only [z,seval,q];(repeat first | refine gcI ?_ | intro (_:_≤_));refine Or.inl ?_;(repeat first | refine gcI ?_ | intro (_:_≤_));exact hK):ajh P Γ ((g,o) :: os) s K:=opsP fun K hK=>hs K (hK _ h)
theorem oPr (h:ajh P Γ os s' K) (hs:∀ K:S→Prop,K s'→cj5 o s K:=by intro K hK;simp only [z,seval,q];(repeat first | refine gcI ?_ | intro (_:_≤_));refine Or.inr ?_;(repeat first | refine gcI ?_ | intro (_:_≤_));exact hK):ajh P Γ ((g,o) :: os) s K:=opsP fun K hK=>hs K (hK _ h)
theorem oMq {d:Option Nat} {f:Operand} {args:Array Operand} {argTypes:Array TypeId} {ty:TypeId} {pos:String} {after:Array Edge} {gf:FuncId} {caps:List A} {as:List Arg} {hs:List Blk} {res:List A} {hs':List Blk}
  (C0:bjw P gf as hs res hs') (ids keys:List Nat)
  (h:ajh P Γ os ⟨updD s.tm d (ayh (bj8 (mL (ids ++ keys)) res)),putAll (ids ++ keys) (hs'.map (renB (mL (ids ++ keys)))) (freezeAll s.hp (aqw as (args.toList.map (aj4 s.tm) ++ caps)))⟩ K)
  (hf:aj4 s.tm f = .fnv gf caps:=by (simp only [z,seval,q];try rfl)) (hn:aj6 s.tm (Op.call ⟨.value f,args,argTypes⟩).operands.toList:=by simp only [z,seval,q]) (hb:bja s.hp (mL ids) hs.length ids hs:=by simp only [z,seval,q])
  (ha:aq1 s.hp (mL ids) hs.length as (args.toList.map (aj4 s.tm) ++ caps):=by simp only [z,seval,q]) (hd:disj ids (aqw as (args.toList.map (aj4 s.tm) ++ caps))=true:=by simp only [z,seval,q]) (hnd:bqg (ids ++ keys)=true:=by rfl) (hk:ak6 s.hp keys=true:=by simp only [z,seval,q]) (hl:keys.length+hs.length=hs'.length:=by rfl) :
  ajh P Γ ((g,⟨d,.call ⟨.value f,args,argTypes⟩,ty,pos,after,none⟩) :: os) s K:=opsM C0 ids keys hf hn hb ha hd hnd hk hl h
theorem oTM {d:Option Nat} {f:Operand} {args:Array Operand} {argTypes:Array TypeId} {ty:TypeId} {pos:String} {after:Array Edge} {gf:FuncId} {caps:List A} {as:List Arg} {j0:Nat} {want:Bool} {hs:List Blk} {res:List A} {hs':List Blk}
  (C0:bjw P gf as hs res hs') (ids keys:List Nat)
  (h:ajh P Γ os ⟨updD s.tm d (ayh (bj8 (mL (ids ++ keys)) res)),putAll (ids ++ keys) (hs'.map (renB (mL (ids ++ keys)))) (freezeAll s.hp (aqw as (args.toList.map (aj4 s.tm) ++ caps)))⟩ K)
  (ht:az9 s.tm g want=some true:=by simp only [z,seval,q]) (hf:aj4 s.tm f = .fnv gf caps:=by (simp only [z,seval,q];try rfl)) (hn:aj6 s.tm (Op.call ⟨.value f,args,argTypes⟩).operands.toList:=by simp only [z,seval,q]) (hb:bja s.hp (mL ids) hs.length ids hs:=by simp only [z,seval,q])
  (ha:aq1 s.hp (mL ids) hs.length as (args.toList.map (aj4 s.tm) ++ caps):=by simp only [z,seval,q]) (hd:disj ids (aqw as (args.toList.map (aj4 s.tm) ++ caps))=true:=by simp only [z,seval,q]) (hnd:bqg (ids ++ keys)=true:=by rfl) (hk:ak6 s.hp keys=true:=by simp only [z,seval,q]) (hl:keys.length+hs.length=hs'.length:=by rfl) :
  ajh P Γ ((g,⟨d,.call ⟨.value f,args,argTypes⟩,ty,pos,after,some (j0,want)⟩) :: os) s K:=fj1 C0 ids keys ht hf hn hb ha hd hnd hk hl h
theorem sQ {id:Nat} {ops:Array Oper} {l:List ((Option Bool×Foot)×Option Nat×Oper)} (ord:List Nat) (Rl:List (Option Bool×Foot)) (h:∀ K:S→Prop,(∀ s',Sm P N kp b s' Q→K s')→awb P Γ l s K) (h1:tyI P 0=none:=by exact h00) (h2:P.follows .mixedOrders=true:=by exact mixed) (h3:∀ g,g∈Γ→aj9 P g:=by exact hΓ)
  (hok:dj3 (fun i=>(Rl.getD i (none,[],[])).2) N ops ord=true:=by kernel_rfl) (hlen:ord.length=ops.size:=by rfl) (h5:∀ K:List ((Option Bool×Foot)×Option Nat×Oper)→Prop,K l→K (cw8 ops.toList Rl ord):=by intro K hK;simp only [rs];exact hK):Sm P N kp (.seq (.region id ops true) b) s Q:=Sm.seqQ h1 h2 h3 ord Rl hok hlen fun K hK=>h5 (fun l=>awb P Γ l s K) (h K hK)
theorem eQ {id:Nat} {ops:Array Oper} {l:List ((Option Bool×Foot)×Option Nat×Oper)} (ord:List Nat) (Rl:List (Option Bool×Foot)) (h:awb P Γ l s (Q .normal)) (h1:tyI P 0=none:=by exact h00) (h2:P.follows .mixedOrders=true:=by exact mixed) (h3:∀ g,g∈Γ→aj9 P g:=by exact hΓ)
  (hok:dj3 (fun i=>(Rl.getD i (none,[],[])).2) N ops ord=true:=by kernel_rfl) (hlen:ord.length=ops.size:=by rfl) (h5:∀ K:List ((Option Bool×Foot)×Option Nat×Oper)→Prop,K l→K (cw8 ops.toList Rl ord):=by intro K hK;simp only [rs];exact hK):Sm P N kp (.region id ops true) s Q:=Sm.regQ h1 h2 h3 ord Rl hok hlen (h5 (fun l=>awb P Γ l s (Q .normal)) h)
variable {r:Option Bool×Foot} {ol:List ((Option Bool×Foot)×Option Nat×Oper)}
theorem oQ (h:awb P Γ ol s' K) (hs:∀ K:S→Prop,K s'→cyz P Γ r g o s K:=by intro K hK;simp only [z,seval];(repeat first | refine gcI ?_ | intro (_:_≤_));exact hK) (hv:vF r.2=false:=by rfl):awb P Γ ((r,g,o) :: ol) s K:=opsQ (fun K hK=>hs K (hK _ h)) hv
theorem oQV (h:awb P Γ ol s' K) (hs:∀ K:S→Prop,K s'→ckz P r o s K:=by intro K hK;simp only [z,seval];(repeat first | refine gcI ?_ | intro (_:_≤_));exact hK) (hv:vF r.2=true:=by rfl):awb P Γ ((r,g,o) :: ol) s K:=fj8 hv fun K hK=>hs K (hK _ h)
def wpV (s:S) (t:Operand) (K:Bool→Prop):Prop:=match opdA s.tm t with | .c .bool x=>K x.toBool | _=>False
theorem cnd {t:Operand} {α:Type} {x y:Option α} {r:α} {v v':Bool} (H:cond v x y=some r) (h1:v=true→x=some r→Sm P N kp a s Q) (h2:v=false→y=some r→Sm P N kp b s Q) (hok:bwh t=true:=by rfl) (hv:∀ K:Bool→Prop,K v'→wpV s t K:=by intro K hK;simp only [wpV,z,seval];exact hK)
  (hc:v'=v:=by first | rfl | simp only [List.length_append] | simp only [z,seval,q]):Sm P N kp (.cond t a b) s Q:=by
 subst hc
 refine Sm.condK hok fun Ka Kb ha hb=>?_
 have:=hv (fun x=>(x=true→Ka)∧(x=false→Kb)) ⟨fun e=>ha (h1 e (fjj e H)),fun e=>hb (h2 e (fj4 e H))⟩
 unfold wpV at this;unfold dz6
 revert this
 cases opdA s.tm t with
 | c k x=>cases k <;> intro h <;> first | exact h | exact h.elim
 | _=>intro h;exact h.elim
theorem cndT {t:Operand} (h1:Sm P N kp a s Q) (hok:bwh t=true:=by rfl) (hv:∀ K:Bool→Prop,K true→wpV s t K:=by intro K hK;simp only [wpV,z,seval];exact hK):Sm P N kp (.cond t a b) s Q:=cnd (v:=true) (x:=some ()) (y:=none) (r:=()) rfl (fun _ _=>h1) (fun e=>by cases e) hok hv rfl
theorem cndF {t:Operand} (h1:Sm P N kp b s Q) (hok:bwh t=true:=by rfl) (hv:∀ K:Bool→Prop,K false→wpV s t K:=by intro K hK;simp only [wpV,z,seval];exact hK):Sm P N kp (.cond t a b) s Q:=cnd (v:=false) (x:=none) (y:=some ()) (r:=()) rfl (fun e=>by cases e) (fun _ _=>h1) hok hv rfl
theorem lf {p p':Prop} (h:p') (e:p'→p:=by (intro h;(try simp only [seval,Exit.exit.injEq]);exact h)):p:=e h
theorem wb {L:List (Nat×A)} {bs:List (Nat×Blk)} (os:List (Option Nat)) (hkp:czq kp (zipH os bs)=true:=by rfl) (hl:os.length=bs.length:=by rfl) (ho:bqz (zipH os bs)=true:=by rfl) (hL:dj2 P (zipH os bs) s.hp s.tm L:=by simp only [wk,z,seval]) (hH:bz5 P (zipH os bs) s.hp (zipH os bs):=by simp only [wk,z,seval]):Weak P kp s (stB L bs):=ey6 os hkp hl ho hL hH
theorem nx {X Y:Type} {v:X} {r:X ⊕ Y} {p:X→Prop} (H:some (Sum.inl v)=some r) (h:p v):∃ x,r = .inl x∧p x:=⟨v,(Option.some.inj H).symm,h⟩
theorem lx {X Y:Type} {v y:Y} {r:X ⊕ Y} {p:Prop} (H:some (Sum.inr v)=some r) (h:v=y→p):(∃ x,r = .inr x)∧(r = .inr y→p):=⟨⟨v,(Option.some.inj H).symm⟩,fun e=>h (Sum.inr.inj ((Option.some.inj H).trans e))⟩
theorem rt {rs:List ResultVar} {sig:Sig} {e:Exit} (ret:List (Option Nat)) (h:cjd P s rs ret sig:=by simp only [z,seval]) (he:e = .normal∨e = .ret:=by first | exact .inr rfl | exact .inl rfl):Ret P rs sig e s:=Ret.ofR ret he h
theorem rto {rs:List ResultVar} {sig:Sig} {e:Exit} (ret:List (Option Nat)) (h:cjd P s rs ret sig:=by (simp only [z,seval];try omega)) (he:e = .normal∨e = .ret:=by first | exact .inr rfl | exact .inl rfl):Ret P rs sig e s:=Ret.ofR ret he h
theorem rtM {k:Nat} {rs:List ResultVar} {res:List A} {hs':List Blk} {e:Exit} (ids:List (Option Nat)) (hp:by8 0 k ids=true:=by rfl) (h:cqd P s rs ids res hs':=by (simp only [z,seval];try omega)) (he:e = .normal∨e = .ret:=by first | exact .inr rfl | exact .inl rfl):RetM P k rs res hs' e s:=RetM.mk he ids hp h
theorem g0 {p:Fn→Prop}:∀ g,g∈([]:List Fn)→p g:=by simp
theorem g1 {p:Fn→Prop} {x:Fn} {l:List Fn} (h:p x) (hl:∀ g,g∈l→p g):∀ g,g∈x :: l→p g:=by
 intro g hg
 rcases List.mem_cons.1 hg with rfl | hg
 ·exact h
 ·exact hl g hg
theorem m0 {p:Blk→Prop}:∀ b∈([]:List Blk),p b:=by simp
theorem m1 {p:Blk→Prop} {x:Blk} {l:List Blk} (h:p x) (hl:∀ b∈l,p b):∀ b∈x :: l,p b:=by
 intro g hg
 rcases List.mem_cons.1 hg with rfl | hg
 ·exact h
 ·exact hl g hg
end Go.AE
