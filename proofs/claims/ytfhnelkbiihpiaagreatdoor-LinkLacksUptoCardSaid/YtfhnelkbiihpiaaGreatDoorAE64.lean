/- Text. -/
import Derived.Test.YtfhnelkbiihpiaaGreatDoorAE44
import Derived.Test.YtfhnelkbiihpiaaGreatDoorAE41
import Derived.Test.YtfhnelkbiihpiaaGreatDoorAE11B
import Derived.Test.YtfhnelkbiihpiaaGreatDoorAE33
import Derived.Test.YtfhnelkbiihpiaaGreatDoorAE25
set_option linter.unusedSimpArgs false
set_option linter.unusedVariables false
open _root_.Array renaming mem_append→j7,mem_toList_iff→jp
open _root_.Bool renaming and_eq_true→jd
open _root_.List renaming mem_singleton→Jb,getD_eq_getElem?_getD→jb,mem_append→jf
open _root_.Option.some renaming injEq→ja
open _root_.Prod.mk renaming injEq→jj
namespace Go.AE
open Go.RowKit (Below)
variable {P:Program} {w0:Base} {w:World} {N kp:Nat} {σ:Nat→RefI} {s:S} {tms:Array Value} {ρ:Operand→Value} {al:Nat→Prop} {Γ:List Fn}
theorem dkj {a:Addr} {v:Value} (h:w.cell? a=some v):∃ vs t z,w.heap[a.block]? = some (.cells vs t z):=by
 unfold World.cell? at h
 cases ho:w.heap[a.block]? with
 | none=>simp [ho] at h
 | some o=>cases o <;> simp_all
def dql (w:World) (b:Nat):Prop:=∃ vs t z,w.heap[b]? = some (.cells vs t z)
theorem RepC.cells {k:Kd} {v:Value} {x:C} (h:RepC P w al k v x):RepC P w (fun b=>al b∧dql w b) k v x:=by
 induction h with
 | bool x=>exact .bool x
 | int k x h=>exact .int k x h
 | str x h=>exact .str x h
 | empty t x a cap h hz=>exact .empty t x a cap h hz
 | slice t x b off cap hz E hE hal hlen hcap hel f hcell hrep ih =>
  by_cases he:x.toSl=[]
  ·have:=RepC.empty (P:=P) (w:=w) (Al:=fun b=>al b∧dql w b) t x (some ⟨b,off,none⟩) cap he (fun e=>absurd e hz)
   simpa [he] using this
  ·have h0:0 < x.toSl.length:=List.length_pos_iff.2 he
   obtain ⟨SE⟩:=ajk hE
   exact .slice t x b off cap hz E hE ⟨hal,dkj (awl (hcell 0 h0 0 (List.length_pos_iff.2 SE.ne)))⟩ hlen hcap hel f hcell ih
 | arr t x vs n e E hA hn hl hel hrep ih=>exact .arr t x vs n e E hA hn hl hel ih
 | ptr t v x=>exact .ptr t v x
 | other v x=>exact .other v x
def czl:Nat→Blk:=fun _=>.dead
def ewc:A→Option Nat
 | .rg id _ _=>some id
 | .rp id _ _ _=>some id
 | _=>none
def eqw:A→A
 | .rg _ k x=>.c k x
 | .rp _ ks cells off=>.pp ks cells off
 | _=>.unk
mutual
def tagA (r:Nat):A→A
 | .c k x=>if aqo k then .c k x else .rg r k x
 | .pp ks cells off=>.rp r ks cells off
 | .agg xs=>.agg (ewz r xs)
 | .nilsl=>.nilsl
 | _=>.unk
def ewz (r:Nat):List A→List A
 | []=>[]
 | a :: as=>tagA r a :: ewz r as
end
def intO:Option A→Bool
 | none=>true
 | some (.c (.int _) _)=>true
 | _=>false
def rdR (hp:Nat→Blk) (x:A) (f:A→Option (Prop×A)):Option Out :=
 match ewc x with
 | some r=>if bwl (hp r) then match f (eqw x) with
  | some (p,a)=>some ⟨p,True,tagA r a,hp,true⟩
  | none=>none
  else none
 | none=>none
def opRg (P:Program) (o:Oper) (hp:Nat→Blk) (v:Operand→A):Option Out :=
 match o.op with
 | .load t x=>match tyI P t with
  | some T=>rdR hp (v x) fun a=>bqo T czl a
  | none=>none
 | .fieldAddr t x f=>match tyI P t with
  | some T=>rdR hp (v x) fun a=>(bji T czl f a).map fun z=>(True,z)
  | none=>none
 | .indexAddr t x i=>match slE P t,v i with
  | some (e,E),.c (.int _) n=>rdR hp (v x) fun a=>aqy e E czl a n.toInt
  | _,_=>none
 | .slice t x lo hi none=>if intO (lo.map v) && intO (hi.map v) then rdR hp (v x) fun a=>bqv P t czl a (lo.map v) (hi.map v) else none
 | .call c=>match c.callee with
  | .builtin .len=>match c.args.toList,c.argTypes.toList with
   | [x],[t]=>match rdR hp (v x) fun a=>lenA P t czl a with
    | some r=>some { r with pre:=True,fact:=r.pre }
    | none=>none
   | _,_=>none
  | _=>none
 | _=>none
def ey3 (P:Program) (o:Oper) (s:S) (K:S→Prop):Prop :=
 match o.guard with
 | none=>match opRg P o s.hp (aj4 s.tm) with
  | some r=>aj6 s.tm o.op.operands.toList∧r.pre∧(r.fact→K ⟨updD s.tm o.dst r.val,r.hp⟩)
  | none=>False
 | some _=>False
def ejh:List Kd→List C→Nat→List A
 | [],_,_=>[]
 | k :: ks,cells,j=>(if aqo k then .c k (nrm k (cg cells j)) else .rg 0 k (nrm k (cg cells j))) :: ejh ks cells (j+1)
def eku (p:Bool×List Kd) (xs:List C):A:=pack p.1 (ejh p.2 xs 0)
def eke (p:Bool×List Kd) (c:List C):Arg:=if p.2.all aqo then .dat p c else .ref (eku p c)
def dy0:List (Bool×List Kd)→List (List C)→List Arg
 | p :: ps,c :: cs=>eke p c :: dy0 ps cs
 | _,_=>[]
mutual
def tagV (r:Nat) (hp:Nat→Blk):A→A
 | .c k x=>if aqo k then .c k x else .rg r k x
 | .agg xs=>.agg (eje r hp xs)
 | .nilsl=>.nilsl
 | .own id ks off len=>match hp id with
  | .row t es=>.rg r (.slice t) (.slice ((es.drop off).take len))
  | .frz t es=>.rg r (.slice t) (.slice ((es.drop off).take len))
  | _=>.unk
 | _=>.unk
def eje (r:Nat) (hp:Nat→Blk):List A→List A
 | []=>[]
 | a :: as=>tagV r hp a :: eje r hp as
end
structure fjl (P:Program) (g:FuncId) (acts:List A) (hp:Nat→Blk) (r:Nat) (val:A) (hp':Nat→Blk):Prop where
 ex:∃ ps css as res hs',bjw P g as [.reg] res (.reg :: hs')∧ak2 hp ps acts=some css∧as=dy0 ps css∧aqh (hp r)=true∧val=ayh (eje r (aja (.reg :: hs')) res)∧hp'=upd (freezeAll hp (ak5 acts)) r .reg
end Go.AE
/-
 A call whose results become a region: the rule of a printed proof.
-/
namespace Go.AE
variable {P:Program} {N kp:Nat} {s s':S} {Γ:List Fn} {g:Option Nat} {o:Oper} {os:List (Option Nat×Oper)} {K:S→Prop}
end Go.AE
/-
 Regions whose plain cells are written: what stays is where their data lie.
-/
namespace Go.AE
open Go.RowKit (Below)
variable {P:Program} {w0:Base} {w:World} {N kp:Nat} {σ:Nat→RefI} {s:S} {tms:Array Value} {ρ:Operand→Value} {al:Nat→Prop} {Γ:List Fn}
def isW:Blk→Bool
 | .reg=>true
 | .wob=>true
 | _=>false
def cqo:List Kd→List A→Bool
 | [],[]=>true
 | k :: ks,.c k' _ :: as=>aqo k && (k == k') && cqo ks as
 | _,_=>false
def opW (P:Program) (o:Oper) (hp:Nat→Blk) (v:Operand→A):Option Out :=
 match o.op with
 | .indexAddr t x i=>match slE P t,v x,v i with
  | some (e,E),.rg r (.slice t') c,.c (.int _) n=>if isW (hp r) && (t' == e) then some ⟨0≤n.toInt∧n.toInt < (c.toSl.length:Int),True,.rp r E.kinds (eg c.toSl n.toInt.toNat) 0,hp,true⟩ else none
  | _,_,_=>none
 | .fieldAddr t x f=>match tyI P t,v x with
  | some T,.rp r ks cells off=>if isW (hp r) then (T.fields[f]?).map fun p=>⟨True,True,.rp r (ks.drop p.1) cells (off+p.1),hp,true⟩ else none
  | _,_=>none
 | .load t x=>match slE P t,v x with
  | some (e,_),.rp r ks cells off=>if isW (hp r) && (ks.headD .other == .slice e) then some ⟨True,True,.rg r (.slice e) (nrm (.slice e) (cg cells off)),hp,true⟩ else none
  | _,_=>none
 | .call c=>match c.callee with
  | .builtin .len=>match c.args.toList,c.argTypes.toList with
   | [x],[t]=>match v x,(slE P t).isSome with
    | .rg r (.slice _) cc,true=>if isW (hp r) then some ⟨True,(cc.toSl.length:Int)≤140737488355328,ki .i64 cc.toSl.length,hp,true⟩ else none
    | _,_=>none
   | _,_=>none
  | _=>none
 | .store t x y=>match tyI P t,v x with
  | some T,.rp r ks cells off=>if isW (hp r) && (cqo (ks.take T.kinds.length) (aje (v y)) && (decide (T.kinds.length≤ks.length))) then some ⟨True,True,.unk,upd hp r .wob,false⟩ else none
  | _,_=>none
 | _=>none
theorem SimV.trans {a b c:Value} (h1:SimV a b) (h2:SimV b c):SimV a c:=by
 rcases h1 with rfl | ⟨x,y,rfl,rfl⟩ | ⟨k,n,m,rfl,rfl,hr⟩ | ⟨x,y,rfl,rfl,hs⟩
 ·exact h2
 ·rcases h2 with rfl | ⟨x',y',e,rfl⟩ | ⟨_,_,_,e,_⟩ | ⟨_,_,e,_⟩
  ·exact .inr (.inl ⟨_,_,rfl,rfl⟩)
  ·exact .inr (.inl ⟨_,_,rfl,rfl⟩)
  ·cases e
  ·cases e
 ·rcases h2 with rfl | ⟨x',y',e,_⟩ | ⟨k',n',m',e,rfl,_⟩ | ⟨_,_,e,_⟩
  ·exact .inr (.inr (.inl ⟨_,_,_,rfl,rfl,hr⟩))
  ·cases e
  ·cases e;exact .inr (.inr (.inl ⟨_,_,_,rfl,rfl,hr⟩))
  ·cases e
 ·rcases h2 with rfl | ⟨x',y',e,_⟩ | ⟨k',n',m',e,_,_⟩ | ⟨_,_,e,rfl,_⟩
  ·exact .inr (.inr (.inr ⟨_,_,rfl,rfl,hs⟩))
  ·cases e
  ·cases e
  ·cases e;exact .inr (.inr (.inr ⟨_,_,rfl,rfl,hs⟩))
def fjg (P:Program) (o:Oper) (s:S) (K:S→Prop):Prop :=
 match o.guard with
 | none=>match opW P o s.hp (aj4 s.tm) with
  | some r=>aj6 s.tm o.op.operands.toList∧r.pre∧(r.fact→K ⟨updD s.tm o.dst r.val,r.hp⟩)
  | none=>False
 | some _=>False
end Go.AE
/-
 All that a state holds becomes one region (for functions that were handed all their data, and that write on them).
-/
namespace Go.AE
open Go.RowKit (Below)
variable {P:Program} {w0:Base} {w:World} {N kp:Nat} {σ:Nat→RefI} {s:S} {tms:Array Value} {ρ:Operand→Value} {al:Nat→Prop} {Γ:List Fn} {a b c:Code} {Q:Exit→S→Prop}
def Sm0 (P:Program) (N kp:Nat) (c:Code) (s:S) (Q:Exit→S→Prop):Prop :=
 ∀ (r:Option Nat) (w0:Base) (Q':Exit→Act→World→Prop) (a:Act) (w:World),(∀ id,kp≤id→w0.sg id = .dead)→(∀ b,¬ w0.old b)→w0.mkd=noMk→RdOk w0 r→DfOk w0 a.defers→Rel P w0 N s a.tmps w →
  (∀ w1 e s' a' w',Ext w0 w1→DfOk w1 a'.defers→Rel P w1 N s' a'.tmps w'→Q e s'→Q' e a' w')→cwp r P c Q' a w
mutual
def colA (r:Nat) (hp:Nat→Blk):A→A
 | .c k x=>if aqo k then .c k x else .rg r k x
 | .agg xs=>.agg (cw4 r hp xs)
 | .nilsl=>.nilsl
 | .own id ks off len=>match hp id with
  | .row t es=>.rg r (.slice t) (.slice ((es.drop off).take len))
  | .frz t es=>.rg r (.slice t) (.slice ((es.drop off).take len))
  | _=>.unk
 | .box id off=>match hp id with
  | .box _=>.box id off
  | _=>.unk
 | _=>.unk
def cw4 (r:Nat) (hp:Nat→Blk):List A→List A
 | []=>[]
 | a :: as=>colA r hp a :: cw4 r hp as
end
theorem bjj (r:Nat) (hp:Nat→Blk) (as:List A):(cw4 r hp as).length=as.length:=by
 induction as with
 | nil=>rfl
 | cons a as ih=>simp [cw4,ih]
theorem czg (r:Nat) (hp:Nat→Blk) (as:List A) (i:Nat):(cw4 r hp as).getD i .unk=colA r hp (as.getD i .unk):=by
 induction as generalizing i with
 | nil=>simp [cw4,colA]
 | cons a as ih =>
  cases i with
  | zero=>simp [cw4]
  | succ i=>simpa [cw4] using ih i
def colB (r:Nat) (hp:Nat→Blk):Blk→Blk
 | .row _ _=>.gone
 | .frz _ _=>.gone
 | .box cells=>.box (cw4 r hp cells)
 | b=>b
def dw5 (r:Nat) (hp:Nat→Blk):Nat→Blk:=fun id=>if id=r then .reg else colB r hp (hp id)
def isRF:Blk→Bool
 | .row _ _=>true
 | .frz _ _=>true
 | _=>false
def cwl:Blk→Bool
 | .row _ _=>true
 | .frz _ _=>true
 | .box _=>true
 | .gone=>true
 | .dead=>true
 | _=>false
theorem RelL.collect {r:Nat} (h:RelL P w0 N σ s tms w) (hk:w0.sg r = .dead) (ho:∀ b,¬ w0.old b) (hm:w0.mkd=noMk) (hr:s.hp r = .dead) (hc:∀ id,cwl (s.hp id)=true) :
  ∃ σ',RelL P w0 N σ' ⟨fun k=>colA r s.hp (s.tm k),dw5 r s.hp⟩ tms w:=by
 obtain ⟨Q2,hQ⟩:∃ Q2:Nat→Prop,Q2=fun b=>(Al w0 w σ s.hp b∨∃ id,isRF (s.hp id)=true∧aj0 (σ id) b)∧dql w b:=⟨_,rfl⟩
 obtain ⟨σ',hσ⟩:∃ σ':Nat→RefI,σ'=fun id=>if id=r then .reg w Q2 else if isRF (s.hp id)=true then .gone else σ id:=⟨_,rfl⟩
 have hσr:σ' r = .reg w Q2:=by rw [hσ];simp
 have hσg:∀ id,id≠r→isRF (s.hp id)=true→σ' id = .gone:=fun id h1 h2=>by rw [hσ];simp [h1,h2]
 have hσs:∀ id,id≠r→isRF (s.hp id)=false→σ' id=σ id:=fun id h1 h2=>by rw [hσ];simp [h1,h2]
 have hQwr:∀ b,Q2 b→w0.wr b:=by
  intro b hb
  rw [hQ] at hb
  rcases hb.1 with h1 | ⟨id,_,h2⟩
  ·rcases h1.2.2 with h3 | h3
   ·exact h3
   ·exact (ho b h3).elim
  ·exact (aj3 (h.blks id) h2).2
 have hrep:∀ {k v x},RepC P w (fun b=>Al w0 w σ s.hp b∨∃ id,isRF (s.hp id)=true∧aj0 (σ id) b) k v x→RepC P w Q2 k v x:=fun h=>by rw [hQ];exact h.cells
 have rel:∀ {al':Nat→Prop} {v:Value} {a:A},ARel P w (Al w0 w σ s.hp) σ v a→ARel P w al' σ' v (colA r s.hp a):=by
  intro al' v a hx
  have own:∀ {id ks off len v},ARel P w (Al w0 w σ s.hp) σ v (.own id ks off len)→ARel P w al' σ' v (colA r s.hp (.own id ks off len)):=by
   intro id ks off len v hx
   simp only [colA]
   split
   ·rename_i t es he
    exact .rg _ _ _ _ w Q2 hσr (hrep (awp h (show toCell s.hp _=_ by simp only [toCell,he]) hx (fun b hb=>.inl hb) (fun i hi b hb=>by
     simp only [ajc,Jb] at hi;subst hi;exact .inr ⟨_,by rw [he];rfl,hb⟩)))
   ·rename_i t es he
    exact .rg _ _ _ _ w Q2 hσr (hrep (awp h (show toCell s.hp _=_ by simp only [toCell,he]) hx (fun b hb=>.inl hb) (fun i hi b hb=>by
     simp only [ajc,Jb] at hi;subst hi;exact .inr ⟨_,by rw [he];rfl,hb⟩)))
   ·exact .unk _
  induction hx with
  | c k v x h =>
   simp only [colA]
   split
   ·rename_i hk;exact .c _ _ _ (h.scalar hk)
   ·exact .rg _ _ _ _ w Q2 hσr (hrep (h.mono (fun _ _=>rfl) (fun b hb=>.inl hb)))
  | nilsl=>exact .nilsl
  | agg vs xs hl h ih =>
   simp only [colA]
   refine .agg vs _ (by rw [bjj];exact hl) (fun i hi=>?_)
   rw [bjj] at hi
   rw [czg];exact ih i hi
  | ownGone v id ks off len h=>exact own (.ownGone v id ks off len h)
  | ownNil id ks off t h ho=>exact own (.ownNil id ks off t h ho)
  | own0 id ks len b cap n t h hl=>exact own (.own0 id ks len b cap n t h hl)
  | ownOff id ks off len b cap n cap' t h ho hl hc=>exact own (.ownOff id ks off len b cap n cap' t h ho hl hc)
  | ownOff0 ad id ks off b cap n cap' t h ho hl=>exact own (.ownOff0 ad id ks off b cap n cap' t h ho hl)
  | box id off b hs =>
   simp only [colA]
   split
   ·rename_i cells he
    have hne:id≠r:=by rintro rfl;rw [hr] at he;cases he
    exact .box _ _ b (by rw [hσs id hne (by rw [he];rfl)];exact hs)
   ·exact .unk _
  | _=>exact .unk _
 refine ⟨σ',h.below,h.size,fun k=>rel (h.tms k),fun id=>?_,?_,?_,⟨h.marks.1,fun k o hko=>by rw [hm] at hko;cases hko⟩⟩
 ·by_cases e:id=r
  ·subst e
   show BRel P w _ _ σ' id (dw5 id s.hp id)
   simp only [dw5,if_true]
   refine ⟨w,Q2,hσr,fun b hb=>⟨hQwr b hb,?_⟩⟩
   rw [hQ] at hb
   obtain ⟨vs,t,z,h1⟩:=hb.2
   exact ⟨vs,t,z,h1,h1⟩
  ·show BRel P w _ _ σ' id (dw5 r s.hp id)
   simp only [dw5,if_neg e]
   have hB:=h.blks id
   have ho:=hc id
   cases hk:s.hp id with
   | row t es=>simp only [colB];exact hσg id e (by rw [hk];rfl)
   | frz t es=>simp only [colB];exact hσg id e (by rw [hk];rfl)
   | box cells =>
    rw [hk] at hB
    obtain ⟨b,vs,t,hr',hB',hh,hl,hcs⟩:=hB
    simp only [colB]
    refine ⟨b,vs,t,by rw [hσs id e (by rw [hk];rfl)];exact hr',hB',hh,by rw [bjj];exact hl,fun j hj=>?_⟩
    rw [bjj] at hj
    rw [czg];exact rel (hcs j hj)
   | gone=>rw [hk] at hB;simp only [colB];show σ' id = .gone;rw [hσs id e (by rw [hk];rfl)];exact hB
   | dead=>rw [hk] at hB;simp only [colB];show σ' id = .dead;rw [hσs id e (by rw [hk];rfl)];exact hB
   | _=>rw [hk] at ho;simp [cwl] at ho
 ·have low:∀ i b,aj0 (σ' i) b→i=r∧Q2 b∨i≠r∧isRF (s.hp i)=false∧aj0 (σ i) b:=by
   intro i b hi
   by_cases e:i=r
   ·subst e;rw [hσr] at hi;exact .inl ⟨rfl,hi⟩
   ·by_cases e2:isRF (s.hp i)=true
    ·rw [hσg i e e2] at hi;simp [aj0] at hi
    ·rw [hσs i e (by simpa using e2)] at hi;exact .inr ⟨e,by simpa using e2,hi⟩
  have cross:∀ i b,Q2 b→isRF (s.hp i)=false→aj0 (σ i) b→False:=by
   intro i b hb hn hi
   rw [hQ] at hb
   rcases hb.1 with h1 | ⟨id,h2,h3⟩
   ·have:=h1.2.1 i hi
    cases hk:s.hp i <;> rw [hk] at this hn <;> simp [ake,isRF] at this hn
   ·have:=h.inj i id b hi h3
    subst this;rw [hn] at h2;cases h2
  intro i j b hi hj
  rcases low i b hi with ⟨rfl,h1⟩ | ⟨h1,h2,h3⟩ <;> rcases low j b hj with ⟨rfl,h4⟩ | ⟨h4,h5,h6⟩
  ·rfl
  ·exact (cross j b h1 h5 h6).elim
  ·exact (cross i b h4 h2 h3).elim
  ·exact h.inj i j b h3 h6
 ·intro id hid
  have e:id≠r:=by rintro rfl;exact hid hk
  by_cases e2:isRF (s.hp id)=true
  ·refine .inr ⟨hσg id e e2,?_⟩
   rcases h.keep id hid with h1 | h1
   ·rw [← h1]
    have hB:=h.blks id
    cases hk:s.hp id <;> rw [hk] at e2 hB <;> simp [isRF] at e2
    ·obtain ⟨E,_,_,hB⟩:=hB
     rcases hB with ⟨hB,_⟩ | ⟨_,_,_,_,hB,_⟩ <;> rw [hB] <;> trivial
    ·obtain ⟨E,_,_,hB⟩:=hB
     rcases hB with ⟨hB,_⟩ | ⟨_,_,_,_,hB,_⟩ <;> rw [hB] <;> trivial
   ·exact h1.2
  ·rw [hσs id e (by simpa using e2)];exact h.keep id hid
theorem Sm0.collect (r:Nat) (h:Sm P N kp c ⟨fun k=>colA r s.hp (s.tm k),dw5 r s.hp⟩ Q) (hk:kp≤r:=by decide) (hr:s.hp r = .dead:=by rfl) (hc:∀ id,cwl (s.hp id)=true:=by (repeat (first | refine eqk ?_ rfl | exact dww rfl | exact dzk rfl))):Sm0 P N kp c s Q:=by
 intro rd w0 Q' act w hkp ho hm hrd hd hR hQ
 obtain ⟨σ,hR⟩:=hR
 exact h rd w0 Q' act w hkp hrd hd (hR.collect (hkp r hk) ho hm hr hc) hQ
theorem eqk {hp:Nat→Blk} {i:Nat} {b:Blk} (h:∀ id,cwl (hp id)=true) (hb:cwl b=true):∀ id,cwl (upd hp i b id)=true:=by
 intro id
 simp only [upd]
 split
 ·exact hb
 ·exact h id
theorem dww:∀ {l:List (Nat×Blk)},l.all (fun x=>cwl x.2)=true→∀ id,cwl (lkBl l id)=true
 | [],_,id=>rfl
 | (i,b) :: l,h,id=>by
  simp only [List.all_cons,jd] at h
  simp only [lkBl]
  split
  ·exact h.1
  ·exact dww h.2 id
theorem dzk {hs:List Blk} (h:hs.all (fun b=>bwl b || cwl b)=true):∀ id,cwl (azl (aja hs) id)=true:=by
 intro id
 unfold azl
 split
 ·rfl
 ·rename_i hn
  unfold aja at hn ⊢
  rcases Nat.lt_or_ge id hs.length with hj | hj
  ·rw [List.all_eq_true] at h
   have e:hs.getD id .dead=hs[id]:=by simp [jb,hj]
   rw [e] at hn ⊢
   have:=h _ (List.getElem_mem hj)
   simpa [hn] using this
  ·have e:hs.getD id .dead = .dead:=by simp [jb,List.getElem?_eq_none hj]
   rw [e];rfl
mutual
def rgOnly:A→Bool
 | .c k _=>aqo k
 | .rg _ _ _=>true
 | .agg xs=>cqf xs
 | .nilsl=>true
 | _=>false
def cqf:List A→Bool
 | []=>true
 | a :: as=>rgOnly a && cqf as
end
theorem byr:∀ {as:List A},cqf as=true→∀ i,i < as.length→rgOnly (as.getD i .unk)=true
 | [],_,i,hi=>by simp at hi
 | a :: as,h,0,_=>by simp only [cqf,jd] at h;simpa using h.1
 | a :: as,h,i+1,hi=>by simp only [cqf,jd] at h;simpa using byr h.2 i (by simpa using hi)
theorem ARel.rgOnly {al':Nat→Prop} {v:Value} {x:A} (h:ARel P w al σ v x) (hx:rgOnly x=true):ARel P w al' σ v x:=by
 induction h with
 | c k v x h=>exact .c _ _ _ (h.scalar (by simpa [Go.AE.rgOnly] using hx))
 | nilsl=>exact .nilsl
 | agg vs xs hl h ih=>exact .agg vs xs hl (fun i hi=>ih i hi (byr (by simpa [Go.AE.rgOnly] using hx) i hi))
 | rg v id k x W Q h hr=>exact .rg v id k x W Q h hr
 | rgGone v id k x h=>exact .rgGone v id k x h
 | _=>simp [Go.AE.rgOnly] at hx
end Go.AE
/-
 Functions whose results are new: their contracts, out of what they do when all their data are a region.
-/
namespace Go.AE
open Go.RowKit (Below)
variable {P:Program} {w0:Base} {w:World} {N kp:Nat} {σ:Nat→RefI} {s:S} {tms:Array Value} {al:Nat→Prop}
end Go.AE
/-
 A slice built of what lies in a region: with its own block, it is a region again.
-/
namespace Go.AE
open Go.RowKit (Below)
variable {P:Program} {w0:Base} {w:World} {N kp:Nat} {σ:Nat→RefI} {s:S} {tms:Array Value} {ρ:Operand→Value} {al:Nat→Prop}
mutual
def fjb (r:Nat):A→A
 | .c k x=>if aqo k then .c k x else .unk
 | .rg id k x=>if id == r then .c k x else .unk
 | .agg xs=>.agg (ez8 r xs)
 | .nilsl=>.nilsl
 | _=>.unk
def ez8 (r:Nat):List A→List A
 | []=>[]
 | a :: as=>fjb r a :: ez8 r as
end
end Go.AE
/-
 A slice of pointers to boxes' cells: measured, indexed at a known place.
-/
namespace Go.AE
open Go.RowKit (Below)
variable {P:Program} {w0:Base} {w:World} {N kp:Nat} {σ:Nat→RefI} {s:S} {tms:Array Value} {ρ:Operand→Value} {al:Nat→Prop}
end Go.AE
/-
 Slices that are known to be nil, within a made row; a row's cell that is lent while it is nil.
-/
namespace Go.AE
open Go.RowKit (Below)
variable {P:Program} {w0:Base} {w:World} {N kp:Nat} {σ:Nat→RefI} {s:S} {tms:Array Value} {ρ:Operand→Value} {al:Nat→Prop}
end Go.AE
/-
 Zero bytes appended to a row of the caller's own ('append(b, make([]byte, n)...)').
-/
namespace Go.AE
open Go.RowKit (Below)
variable {P:Program} {w0:Base} {w:World} {N kp:Nat} {σ:Nat→RefI} {s:S} {tms:Array Value} {ρ:Operand→Value} {al:Nat→Prop}
end Go.AE
/-
 Regions that draw their order, where one operation waits for all others: it may be of any kind.
-/
namespace Go.AE
open Go.RowKit (Below)
variable {P:Program} {w0:Base} {w:World} {N kp:Nat} {s:S} {Γ:List Fn} {R:Nat→Option Bool} {bx:Nat→Foot} {lt:Nat→Bool}
variable {l:List ((Option Bool×Foot)×Option Nat×Oper)}
end Go.AE
/-
 Regions that draw their order: quiet operations first, the rest in every order; some of the rest may be of any kind.
-/
namespace Go.AE
open Go.RowKit (Below)
variable {P:Program} {w0:Base} {w:World} {N kp:Nat} {s:S} {Γ:List Fn} {R:Nat→Option Bool} {bx:Nat→Foot} {lt:Nat→Bool}
def marks:List Nat→Array Bool→Array Bool
 | [],l=>l
 | k :: ks,l=>marks ks (l.setIfInBounds k true)
variable {b:Code} {l:List ((Option Bool×Foot)×Option Nat×Oper)}
end Go.AE
/-
 A scalar loaded out of a region that is written on: it is not known. A slice built of what lies in a region, where one other value of that region stays.
-/
namespace Go.AE
open Go.RowKit (Below)
variable {P:Program} {w0:Base} {w:World} {N kp:Nat} {σ:Nat→RefI} {s:S} {tms:Array Value} {ρ:Operand→Value} {al:Nat→Prop}
end Go.AE
/-
 A slice built of what lies in a region, where several values of that region stay.
-/
namespace Go.AE
open Go.RowKit (Below)
variable {P:Program} {w0:Base} {w:World} {N kp:Nat} {σ:Nat→RefI} {s:S} {tms:Array Value} {ρ:Operand→Value} {al:Nat→Prop}
end Go.AE
/-
 A call whose answer is only known to be data of a kind: its memory is new.
-/
namespace Go.AE
open Go.RowKit (Below)
variable {P:Program} {w0:Base} {w:World} {N kp:Nat} {σ:Nat→RefI} {s:S} {tms:Array Value} {ρ:Operand→Value} {al:Nat→Prop}
structure fjk (P:Program) (f:FuncId) (ps:List (Bool×List Kd)) (pre:List (List C)→Prop) (res:Kd) (ok:C→Prop):Prop where
 enter:∀ args w,(callFunc f args).run P w = .ok (.enter f args) w
 calls:∀ (w:World) (vs:List Value) (cs:List (List C)),vs.length=ps.length→cs.length=ps.length →
  (∀ i,i < ps.length→ArgRel P w (fun b=>b < w.heap.size) (ps.getD i (false,[])) (vs.getD i undef) (cs.getD i []))→pre cs →
  Calls P f vs.toArray w (fun e w'=>∃ v x,e = .returned v∧Below w.heap.size w w'∧ok x∧RepC P w' (fun b=>w.heap.size≤b∧b < w'.heap.size) res v x)
end Go.AE
/-
 A pointer to a box of the caller's own against nil.
-/
namespace Go.AE
variable {P:Program} {w0:Base} {w:World} {N kp:Nat} {σ:Nat→RefI} {s:S} {tms:Array Value} {ρ:Operand→Value}
end Go.AE
/-
 Regions that draw their order: an operation that may come next without loss, of any kind, under any guard.
-/
namespace Go.AE
variable {P:Program} {w0:Base} {w:World} {N kp:Nat} {s:S} {Γ:List Fn} {Rl:List (Option Bool×Foot)} {lts:List Nat} {ops:Array Oper}
end Go.AE
/-
 Regions that draw their order: calls that are handed blocks keep to these blocks, so that they may change places with what leaves these alone.
-/
namespace Go.AE
open Go.RowKit (Below)
variable {P:Program} {w0:Base} {w:World} {N kp:Nat} {s:S} {Γ:List Fn}
def ek3 (ef:(Nat→A)→(Nat→Blk)→Option (Prop×A×(Nat→Blk))) (d:Option Nat) (s:S) (K:S→Prop):Prop :=
 match ef s.tm s.hp with
 | none=>False
 | some (p,v,hp')=>p∧K ⟨updD s.tm d v,hp'⟩
structure EffI (P:Program) (N:Nat) (ops:List Oper) (o:Oper) where
 ef:(Nat→A)→(Nat→Blk)→Option (Prop×A×(Nat→Blk))
 fo:Foot
 congr:∀ {tm tm':Nat→A} (hp:Nat→Blk),(∀ t,t∈o.looksAt ops.toArray→tm t=tm' t)→ef tm hp=ef tm' hp
 loc:∀ {tm:Nat→A} {hp hp' hp1:Nat→Blk} {p:Prop} {v:A},ef tm hp=some (p,v,hp1)→p→(∀ k,k∈fo.1 ++ fo.2→hp' k=hp k)→∃ p' hp1',ef tm hp'=some (p',v,hp1')∧p'∧Loc fo.2 hp hp' hp1 hp1'
 ok:awj N o=true→∀ {s:S} {K:S→Prop},ek3 ef o.dst s K→akc P N ops o s K
def efQ (P:Program) (Γ:List Fn) (r:Option Bool) (f:Foot) (ops:List Oper) (o:Oper) (tm:Nat→A) (hp:Nat→Blk):Option (Prop×A×(Nat→Blk)) :=
 match effQ P Γ r f ops o tm hp with
 | none=>none
 | some (p,_,v,hp')=>some (p∧cjk r f o tm=true,v,hp')
def EffI.q (h00:tyI P 0=none) (hΓ:∀ g,g∈Γ→aj9 P g) (N:Nat) (r:Option Bool) (f:Foot) (ops:List Oper) (o:Oper):EffI P N ops o where
 ef:=efQ P Γ r f ops o
 fo:=f
 congr:=fun hp h=>by unfold efQ;rw [by5 h,bzh (ops:=ops) h]
 loc:=fun {tm hp hp' hp1 p v} he hp0 hA=>by
  unfold efQ at he ⊢
  split at he
  ·cases he
  ·rename_i p0 f0 v0 h0 he0
   simp only [ja,jj] at he
   obtain ⟨rfl,rfl,rfl⟩:=he
   obtain ⟨h1,e1,l1⟩:=cjs (hp':=hp') hp0.2 hA he0
   exact ⟨_,h1,by rw [e1],hp0,l1⟩
 ok:=fun hok {s K} h=>by
  refine dz8 (R:=fun _=>r) (bx:=fun _=>f) (i:=0) h00 hΓ hok ?_
  unfold ek3 efQ at h
  unfold bzr
  split at h
  ·exact h.elim
  ·rename_i p v hp' he
   split at he
   ·cases he
   ·rename_i p0 f0 v0 h0 he0
    simp only [ja,jj] at he
    obtain ⟨rfl,rfl,rfl⟩:=he
    dsimp only
    rw [he0]
    exact ⟨h.1.1,h.1.2,h.2⟩
structure MT (P:Program) where
 g:FuncId
 as:List Arg
 hs:List Blk
 res:List A
 hs':List Blk
 ids:List Nat
 keys:List Nat
 C:bjw P g as hs res hs'
def MT.pre (T:MT P) (f:Foot) (hp:Nat→Blk) (acts:List A):Prop :=
 bja hp (mL T.ids) T.hs.length T.ids T.hs∧aq1 hp (mL T.ids) T.hs.length T.as acts∧disj T.ids (aqw T.as acts)=true∧bqg (T.ids ++ T.keys)=true∧ak6 hp T.keys=true∧T.keys.length+T.hs.length=T.hs'.length ∧
 subL (T.ids ++ T.keys) f.2=true∧subL (aqw T.as acts) f.2=true∧subL (aq9 acts) (f.1 ++ f.2)=true
def MT.val (T:MT P):A:=ayh (bj8 (mL (T.ids ++ T.keys)) T.res)
def MT.hp (T:MT P) (hp:Nat→Blk) (acts:List A):Nat→Blk:=putAll (T.ids ++ T.keys) (T.hs'.map (renB (mL (T.ids ++ T.keys)))) (freezeAll hp (aqw T.as acts))
def gdOk (o:Oper) (ops:List Oper) (tm:Nat→A):Prop :=
 match o.guard with
 | none=>True
 | some (j,want)=>guardOf ops tm j want=some true
def efM (T:MT P) (f:Foot) (ops:List Oper) (o:Oper) (tm:Nat→A) (hp:Nat→Blk):Option (Prop×A×(Nat→Blk)) :=
 match o.op with
 | .call c=>match c.callee with
  | .value x=>match aj4 tm x with
   | .fnv g caps=>some (gdOk o ops tm∧g=T.g∧aj6 tm o.op.operands.toList∧T.pre f hp (c.args.toList.map (aj4 tm) ++ caps),T.val,T.hp hp (c.args.toList.map (aj4 tm) ++ caps))
   | .fnb g caps=>some (gdOk o ops tm∧g=T.g∧aj6 tm o.op.operands.toList∧T.pre f hp (caps ++ c.args.toList.map (aj4 tm)),T.val,T.hp hp (caps ++ c.args.toList.map (aj4 tm)))
   | _=>none
  | _=>none
 | _=>none
theorem ckb {hp hp':Nat→Blk} {m:Nat→Nat} {k:Nat}:∀ {is:List Nat} {bs:List Blk},(∀ i∈is,hp' i=hp i)→bja hp m k is bs→bja hp' m k is bs
 | [],[],_,_=>trivial
 | [],_ :: _,_,h=>h
 | _ :: _,[],_,h=>h
 | i :: is,b :: bs,hA,h=>⟨(hA i (by simp)).trans h.1,h.2.1,ckb (fun j hj=>hA j (by simp [hj])) h.2.2⟩
theorem bwp {hp hp':Nat→Blk} {m:Nat→Nat} {k:Nat}:∀ {gs:List Arg} {as:List A},(∀ i∈aq9 as,hp' i=hp i)→aq1 hp m k gs as→aq1 hp' m k gs as
 | [],[],_,_=>trivial
 | [],_ :: _,_,h=>h
 | .dat _ _ :: _,[],_,h=>h
 | .ref _ :: _,[],_,h=>h
 | .dat p c :: gs,a :: as,hA,h=>by
  simp only [aq1] at h ⊢
  exact ⟨(ck9 (fun i hi=>hA i (by simp [aq9,hi]))).trans h.1,bwp (fun i hi=>hA i (by simp [aq9,hi])) h.2⟩
 | .ref a0 :: gs,a :: as,hA,h=>by
  simp only [aq1] at h ⊢
  exact ⟨h.1,h.2.1,bwp (fun i hi=>hA i (by simp [aq9,hi])) h.2.2⟩
theorem cqe {hp hp':Nat→Blk}:∀ {l:List Nat},(∀ i∈l,hp' i=hp i)→ak6 hp l=true→ak6 hp' l=true
 | [],_,_=>rfl
 | i :: l,hA,h=>by
  simp only [ak6,jd] at h ⊢
  exact ⟨by rw [hA i (by simp)];exact h.1,cqe (fun j hj=>hA j (by simp [hj])) h.2⟩
theorem Loc.putAll {W:List Nat} {hp hp':Nat→Blk}:∀ {is:List Nat} {bs:List Blk} {hp1 hp1':Nat→Blk},Loc W hp hp' hp1 hp1'→(∀ i∈is,i∈W)→Loc W hp hp' (putAll is bs hp1) (putAll is bs hp1')
 | [],bs,_,_,h,_=>by simpa [Go.AE.putAll] using h
 | i :: is,[],_,_,h,_=>by simpa [Go.AE.putAll] using h
 | i :: is,b :: bs,_,_,h,hW=>by
  simp only [Go.AE.putAll]
  exact Loc.putAll (h.upd (hW i (by simp)) b) (fun j hj=>hW j (by simp [hj]))
theorem dkg {o:Oper} {c:Call} {f:Operand} (ho:o.op = .call c) (hcal:c.callee = .value f):∀ x,(x=f∨x∈c.args.toList)→x∈o.op.operands:=by
 intro x hx
 rw [ho]
 simp only [Op.operands,Call.operands,hcal]
 rcases hx with rfl | hx
 ·exact j7.2 (.inl (by simp))
 ·exact j7.2 (.inr (jp.1 hx))
def EffI.m (h00:tyI P 0=none) (N:Nat) (T:MT P) (f:Foot) (ops:List Oper) (o:Oper):EffI P N ops o where
 ef:=efM T f ops o
 fo:=f
 congr:=fun {tm tm'} hp h=>by
  unfold efM
  have hop:=ay3 h
  have hg:gdOk o ops tm=gdOk o ops tm':=by
   unfold gdOk
   split
   ·rfl
   ·rename_i j want hg
    rw [ayi (fun oj d ho hd=>h d (by
     simp only [Oper.looksAt,hg]
     refine jf.2 (.inr ?_)
     simp [ho,hd]))]
  split
  ·rename_i c ho
   split
   ·rename_i x hcal
    have hm:=dkg ho hcal
    rw [(hop x (hm x (.inl rfl))).1]
    have ha:c.args.toList.map (aj4 tm)=c.args.toList.map (aj4 tm'):=List.map_congr_left fun y hy=>(hop y (hm y (.inr hy))).1
    have hn:aj6 tm o.op.operands.toList=aj6 tm' o.op.operands.toList:=bj7 (fun y hy=>(hop y (jp.1 hy)).2)
    split
    ·rw [ha,hn,hg]
    ·rw [ha,hn,hg]
    ·rfl
   ·rfl
  ·rfl
 loc:=fun {tm hp hp' hp1 p v} he hp0 hA=>by
  unfold efM at he ⊢
  split at he
  ·rename_i c ho
   split at he
   ·rename_i x hcal
    split at he
    ·rename_i g caps hx
     simp only [ja,jj] at he
     obtain ⟨rfl,rfl,rfl⟩:=he
     obtain ⟨q1,q2,q3,r1,r2,r3,r4,r5,r6,r7,r8,r9⟩:=hp0
     have mI:∀ i∈T.ids ++ T.keys,i∈f.2:=fun i hi=>aw2 r7 hi
     have mD:∀ i∈aqw T.as (c.args.toList.map (aj4 tm) ++ caps),i∈f.2:=fun i hi=>aw2 r8 hi
     have eW:∀ i,i∈f.2→hp' i=hp i:=fun i hi=>hA i (jf.2 (.inr hi))
     refine ⟨_,_,rfl,⟨q1,q2,q3,ckb (fun i hi=>eW i (mI i (by simp [hi]))) r1,bwp (fun i hi=>hA i (aw2 r9 hi)) r2,r3,r4,cqe (fun i hi=>eW i (mI i (by simp [hi]))) r5,r6,r7,r8,r9⟩,?_⟩
     exact ((Loc.refl eW).freezeAll mD).putAll mI
    ·rename_i g caps hx
     simp only [ja,jj] at he
     obtain ⟨rfl,rfl,rfl⟩:=he
     obtain ⟨q1,q2,q3,r1,r2,r3,r4,r5,r6,r7,r8,r9⟩:=hp0
     have mI:∀ i∈T.ids ++ T.keys,i∈f.2:=fun i hi=>aw2 r7 hi
     have mD:∀ i∈aqw T.as (caps ++ c.args.toList.map (aj4 tm)),i∈f.2:=fun i hi=>aw2 r8 hi
     have eW:∀ i,i∈f.2→hp' i=hp i:=fun i hi=>hA i (jf.2 (.inr hi))
     refine ⟨_,_,rfl,⟨q1,q2,q3,ckb (fun i hi=>eW i (mI i (by simp [hi]))) r1,bwp (fun i hi=>hA i (aw2 r9 hi)) r2,r3,r4,cqe (fun i hi=>eW i (mI i (by simp [hi]))) r5,r6,r7,r8,r9⟩,?_⟩
     exact ((Loc.refl eW).freezeAll mD).putAll mI
    ·cases he
   ·cases he
  ·cases he
 ok:=fun hok {s K} h=>by
  unfold ek3 at h
  split at h
  ·exact h.elim
  ·rename_i p v hp' he
   obtain ⟨hp0,hK⟩:=h
   unfold efM at he
   split at he
   ·rename_i c ho
    split at he
    ·rename_i x hcal
     split at he
     ·rename_i g caps hx
      simp only [ja,jj] at he
      obtain ⟨rfl,rfl,rfl⟩:=he
      obtain ⟨q1,rfl,q3,r1,r2,r3,r4,r5,r6,r7,r8,r9⟩:=hp0
      have main:∀ o':Oper,o'.op=o.op→o'.dst=o.dst→o'.guard=none→awj N o'=true→akc P N ops o' s K:=by
       intro o' e1 e2 e3 hok'
       refine cjm h00 hok' ?_
       unfold djw
       rw [e3,e1,ho]
       dsimp only
       rw [hcal]
       dsimp only
       rw [hx]
       refine ⟨by rw [← ho];exact q3,_,_,⟨⟨T.as,T.hs,T.res,T.hs',T.ids,T.keys,T.C,r1,r2,r3,r4,r5,r6,rfl,rfl⟩⟩,?_⟩
       rw [e2]
       exact hK
      cases hg:o.guard with
      | none=>exact main o rfl rfl hg hok
      | some q =>
       obtain ⟨j,want⟩:=q
       have hU:=main (ajn o) rfl rfl rfl hok
       unfold gdOk at q1
       rw [hg] at q1
       intro w0 a w hR
       have hR0:=hR
       obtain ⟨σ,hR'⟩:=hR
       have hw:=aw9 hR' hg q1
       refine ⟨fun _ K' Q hq=>?_,fun hw'=>by rw [hw] at hw';cases hw'⟩
       exact (hU w0 a w hR0).1 (awc rfl) K' Q hq
     ·rename_i g caps hx
      simp only [ja,jj] at he
      obtain ⟨rfl,rfl,rfl⟩:=he
      obtain ⟨q1,rfl,q3,r1,r2,r3,r4,r5,r6,r7,r8,r9⟩:=hp0
      have main:∀ o':Oper,o'.op=o.op→o'.dst=o.dst→o'.guard=none→awj N o'=true→akc P N ops o' s K:=by
       intro o' e1 e2 e3 hok'
       refine cjm h00 hok' ?_
       unfold djw
       rw [e3,e1,ho]
       dsimp only
       rw [hcal]
       dsimp only
       rw [hx]
       refine ⟨by rw [← ho];exact q3,_,_,⟨⟨T.as,T.hs,T.res,T.hs',T.ids,T.keys,T.C,r1,r2,r3,r4,r5,r6,rfl,rfl⟩⟩,?_⟩
       rw [e2]
       exact hK
      cases hg:o.guard with
      | none=>exact main o rfl rfl hg hok
      | some q =>
       obtain ⟨j,want⟩:=q
       have hU:=main (ajn o) rfl rfl rfl hok
       unfold gdOk at q1
       rw [hg] at q1
       intro w0 a w hR
       have hR0:=hR
       obtain ⟨σ,hR'⟩:=hR
       have hw:=aw9 hR' hg q1
       refine ⟨fun _ K' Q hq=>?_,fun hw'=>by rw [hw] at hw';cases hw'⟩
       exact (hU w0 a w hR0).1 (awc rfl) K' Q hq
     ·cases he
    ·cases he
   ·cases he
section
variable (E:∀ (i:Nat) (ops:List Oper) (o:Oper),EffI P N ops o)
end
variable {b:Code} {l:List (((Option Bool×Foot)×Option Nat×Oper)×Option (MT P))}
variable {r:Option Bool×Foot} {g:Option Nat} {o:Oper} {os:List (((Option Bool×Foot)×Option Nat×Oper)×Option (MT P))} {K:S→Prop} {s':S}
end Go.AE
/-
 The end of a call that is handed blocks, for contracts written by hand.
-/
namespace Go.AE
open Go.RowKit (Below)
variable {P:Program} {w w':World} {N:Nat} {σ σ':Nat→RefI} {al:Nat→Prop} {B B':Nat→Prop}
theorem BRel.wr {id:Nat} {k:Blk} (h:BRel P w B al σ id k) (hB:∀ b,aj0 (σ id) b→B' b):BRel P w B' al σ id k:=by
 cases k with
 | dead=>exact h
 | gone=>exact h
 | box cells =>
  obtain ⟨b,vs,t,hr,_,hh,hl,hc⟩:=h
  exact ⟨b,vs,t,hr,hB b (by rw [hr];rfl),hh,hl,hc⟩
 | row t es =>
  obtain ⟨E,hE,hby,h⟩:=h
  refine ⟨E,hE,hby,h.imp (fun x=>x) ?_⟩
  rintro ⟨b,cap,cur,tg,hr,_,hh⟩
  exact ⟨b,cap,cur,tg,hr,hB b (by rw [hr];exact .inl rfl),hh⟩
 | frz t es =>
  obtain ⟨E,hE,hby,h⟩:=h
  refine ⟨E,hE,hby,h.imp (fun x=>x) ?_⟩
  rintro ⟨b,cap,cur,tg,hr,_,hh⟩
  exact ⟨b,cap,cur,tg,hr,hB b (by rw [hr];exact .inl rfl),hh⟩
 | mp kk vp m =>
  obtain ⟨b,es,clock,hr,_,hh⟩:=h
  exact ⟨b,es,clock,hr,hB b (by rw [hr];rfl),hh⟩
 | rl t es i j a =>
  obtain ⟨E,hE,hby,h⟩:=h
  refine ⟨E,hE,hby,h.imp (fun x=>x) ?_⟩
  rintro ⟨b,cap,cur,tg,hr,_,hh⟩
  exact ⟨b,cap,cur,tg,hr,hB b (by rw [hr];exact .inl rfl),hh⟩
 | it kk vp cur left =>
  obtain ⟨r,b,es,clock,since,seen,c0,hr,_,_,hh⟩:=h
  exact ⟨r,b,es,clock,since,seen,c0,hr,hB r (by rw [hr];exact .inl rfl),hB b (by rw [hr];exact .inr rfl),hh⟩
 | reg =>
  obtain ⟨W,Q,hr,hh⟩:=h
  exact ⟨W,Q,hr,fun b hb=>⟨hB b (by rw [hr];exact hb),(hh b hb).2⟩⟩
 | wob =>
  obtain ⟨W,Q,hr,hh⟩:=h
  exact ⟨W,Q,hr,fun b hb=>⟨hB b (by rw [hr];exact hb),(hh b hb).2⟩⟩
theorem ResM.of {hs':List Blk} {res:List A} {v:Value} (hal:∀ b,al b→b < w.heap.size∧∀ j,¬ aj0 (σ j) b) (hinj:∀ i j b,aj0 (σ i) b→aj0 (σ j) b→i=j)
  (hold:∀ j b,aj0 (σ j) b→b < w.heap.size)
  (hbel:az1 w.heap.size (muOf σ) w w') (hσ:∀ j,σ j≠.dead→σ' j=σ j) (hnew:∀ j b,σ j = .dead→aj0 (σ' j) b→w.heap.size≤b∧∀ i,σ i = .dead→aj0 (σ' i) b→i=j)
  (hblk:∀ j,BRel P w' B al σ' j (aja hs' j)) (hv:ARel P w' al σ' v (ayh res)):ResM P w al σ w' v res hs':=by
 have hdis:∀ b,al b→∀ id,¬ aj0 (σ' id) b:=by
  intro b hb id hid
  by_cases hd:σ id = .dead
  ·have:=(hnew id b hd hid).1
   have:=(hal b hb).1
   omega
  ·rw [hσ id hd] at hid
   exact (hal b hb).2 id hid
 have hAl:∀ b,al b→Al ⟨w,al,muOf σ,σ,noMk,0⟩ w' σ' (aja hs') b:=fun b hb=>⟨Nat.lt_of_lt_of_le (hal b hb).1 hbel.size,fun id hid=>absurd hid (hdis b hb id),.inr hb⟩
 refine ⟨hbel,σ',fun j=>?_,fun i j b hi hj=>?_,fun j hj=>.inl (hσ j hj),hv.mono (fun _ _=>rfl) hAl (fun _ _=>.inl rfl)⟩
 ·refine ((hblk j).wr (B':=Base.wr ⟨w,al,muOf σ,σ,noMk,0⟩) (fun b hb=>?_)).mono (fun _ _=>rfl) hAl (fun _ _=>.inl rfl) rfl (fun _ _=>rfl)
  by_cases hd:σ j = .dead
  ·exact .inl (hnew j b hd hb).1
  ·rw [hσ j hd] at hb
   exact .inr ⟨j,hb⟩
 ·by_cases hd:σ i = .dead
  ·have h1:=hnew i b hd hi
   by_cases he:σ j = .dead
   ·exact (h1.2 j he hj).symm
   ·rw [hσ j he] at hj
    have:=hold j b hj
    omega
  ·by_cases he:σ j = .dead
   ·have h1:=hnew j b he hj
    rw [hσ i hd] at hi
    have:=hold i b hi
    omega
   ·rw [hσ i hd] at hi
    rw [hσ j he] at hj
    exact hinj i j b hi hj
theorem czo {hs:List Blk} (hB:∀ j,BRel P w (fun b=>b < w.heap.size) al σ j (aja hs j)):∀ j b,aj0 (σ j) b→b < w.heap.size:=fun j b hb=>(aj3 (hB j) hb).1
theorem ResM.read {hs:List Blk} {res:List A} {v:Value} (hal:∀ b,al b→b < w.heap.size∧∀ j,¬ aj0 (σ j) b) (hinj:∀ i j b,aj0 (σ i) b→aj0 (σ j) b→i=j)
  (hB:∀ j,BRel P w (fun b=>b < w.heap.size) al σ j (aja hs j)) (hbel:Below w.heap.size w w') (hv:ARel P w' al σ v (ayh res)):ResM P w al σ w' v res hs:=by
 have hold:=czo hB
 exact ResM.of (B:=fun b=>b < w.heap.size) hal hinj hold (.of hbel) (fun _ _=>rfl) (fun j b hd hb=>by rw [hd] at hb;exact hb.elim) (fun j=>(hB j).mono (fun b hb=>hbel.block b (hal b hb).1) (fun _ h=>h) (fun _ _=>.inl rfl) rfl (fun b hb=>hbel.block b (hold j b hb))) hv
theorem ResM.turn {hs:List Blk} {res:List A} {v:Value} {i:Nat} {k':Blk} {b0:Nat} (hal:∀ b,al b→b < w.heap.size∧∀ j,¬ aj0 (σ j) b) (hinj:∀ i j b,aj0 (σ i) b→aj0 (σ j) b→i=j)
  (hB:∀ j,BRel P w (fun b=>b < w.heap.size) al σ j (aja hs j)) (hi:i < hs.length) (hb0:∀ b,aj0 (σ i) b↔b=b0)
  (hos:w'.os=w.os) (htp:w'.tape=w.tape) (hout:w'.output=w.output) (hsz:w.heap.size≤w'.heap.size) (hblk:∀ b,b < w.heap.size→b≠b0→w'.heap[b]? = w.heap[b]?)
  (hk:BRel P w' B al σ i k') (hv:ARel P w' al σ v (ayh res)):ResM P w al σ w' v res (hs.set i k'):=by
 have hold:=czo hB
 refine ResM.of (B:=fun b=>b < w.heap.size∨B b) hal hinj hold ⟨hos,htp,hout,hsz,fun b hb hn=>hblk b hb (fun e=>hn ⟨i,(hb0 b).2 e⟩)⟩ (fun _ _=>rfl) (fun j b hd hb=>by rw [hd] at hb;exact hb.elim) (fun j=>?_) hv
 by_cases e:j=i
 ·subst e
  have e1:aja (hs.set j k') j=k':=by simp [aja,hi]
  rw [e1]
  exact hk.wr (fun b hb=>.inl (hold j b hb))
 ·have e1:aja (hs.set i k') j=aja hs j:=by
   simp [aja,jb,Ne.symm e]
  rw [e1]
  refine ((hB j).mono (fun b hb=>hblk b (hal b hb).1 (fun e=>(hal b hb).2 i ((hb0 b).2 e))) (fun _ h=>h) (fun _ _=>.inl rfl) rfl (fun b hb=>hblk b (hold j b hb) (fun e'=>e (hinj j i b hb ((hb0 b).2 e'))))).wr (fun b hb=>.inl (hold j b hb))
end Go.AE
/-
 Calls of a function value whose first arguments are given.
-/
namespace Go.AE
variable {P:Program} {Γ:List Fn} {s:S} {N:Nat} {g:Option Nat} {os:List (Option Nat×Oper)} {K:S→Prop}
end Go.AE
/-
 A pick whose outcome is known, under a guard that is known.
-/
namespace Go.AE
section
variable {P:Program} {Γ:List Fn} {s s':S} {g:Option Nat} {o:Oper} {os:List (Option Nat×Oper)} {K:S→Prop}
theorem cw5:akl P cj5:=fun _ _ _ _ _ ho h=>cjt ho h
theorem oTPl {j:Nat} {want:Bool} (h:ajh P Γ os s' K) (hg:o.guard=some (j,want):=by rfl) (ht:az9 s.tm g want=some true:=by simp only [z,seval,q]) (hs:∀ K:S→Prop,K s'→cj5 (ajn o) s K:=by intro K hK;simp only [z,seval,q];(repeat first | refine gcI ?_ | intro (_:_≤_));refine Or.inl ?_;(repeat first | refine gcI ?_ | intro (_:_≤_));exact hK):ajh P Γ ((g,o) :: os) s K:=ekl cw5 hg ht fun K hK=>hs K (hK _ h)
theorem oTPr {j:Nat} {want:Bool} (h:ajh P Γ os s' K) (hg:o.guard=some (j,want):=by rfl) (ht:az9 s.tm g want=some true:=by simp only [z,seval,q]) (hs:∀ K:S→Prop,K s'→cj5 (ajn o) s K:=by intro K hK;simp only [z,seval,q];(repeat first | refine gcI ?_ | intro (_:_≤_));refine Or.inr ?_;(repeat first | refine gcI ?_ | intro (_:_≤_));exact hK):ajh P Γ ((g,o) :: os) s K:=ekl cw5 hg ht fun K hK=>hs K (hK _ h)
end
end Go.AE
