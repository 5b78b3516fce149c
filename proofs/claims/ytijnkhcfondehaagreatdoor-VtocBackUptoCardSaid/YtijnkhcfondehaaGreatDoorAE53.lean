/- Text. -/
import Derived.Test.YtijnkhcfondehaaGreatDoorAE44
import Derived.Test.YtijnkhcfondehaaGreatDoorAE41
import Derived.Test.YtijnkhcfondehaaGreatDoorAE11B
set_option linter.unusedSimpArgs false
set_option linter.unusedVariables false
open _root_.Array renaming mem_toList_iff→jF,range→j4
open _root_.Bool renaming and_eq_true→jf
open _root_.List renaming length_pos_iff→Jz,getD_eq_getElem?_getD→ja,length_map→jG,replicate→jr,length_replicate→j1,map_cons→JD
open Go.Op renaming operands→jh
open _root_.Option.some renaming injEq→jc
namespace Go.AE
open Go.RowKit (Below)
variable {P:Program} {w0:Base} {w:World} {N kp:Nat} {σ:Nat→RefI} {s:S} {tms:Array Value} {ρ:Operand→Value} {al:Nat→Prop} {Γ:List Fn}
theorem fkn {a:Addr} {v:Value} (h:w.cell? a=some v):∃ vs t z,w.heap[a.block]? = some (.cells vs t z):=by
 unfold World.cell? at h;cases ho:w.heap[a.block]? with
 | none=>simp [ho] at h
 | some o=>cases o <;> simp_all
def gqy (w:World) (b:Nat):Prop:=∃ vs t z,w.heap[b]? = some (.cells vs t z)
theorem RepC.cells {k:Kd} {v:Value} {x:C} (h:RepC P w al k v x):RepC P w (fun b=>al b∧gqy w b) k v x:=by
 induction h with
 | bool x=>exact .bool x
 | int k x h=>exact .int k x h
 | str x h=>exact .str x h
 | empty t x a cap h hz=>exact .empty t x a cap h hz
 | slice t x b off cap hz E hE hal hlen hcap hel f hcell hrep ih =>
  by_cases he:x.toSl=[]
  ·have:=RepC.empty (P:=P) (w:=w) (Al:=fun b=>al b∧gqy w b) t x (some ⟨b,off,none⟩) cap he (fun e=>absurd e hz)
   simpa [he] using this
  ·have h0:0 < x.toSl.length:=Jz.2 he;obtain ⟨SE⟩:=ajr hE;exact .slice t x b off cap hz E hE ⟨hal,fkn (akk (hcell 0 h0 0 (Jz.2 SE.ne)))⟩ hlen hcap hel f hcell ih
 | arr t x vs n e E hA hn hl hel hrep ih=>exact .arr t x vs n e E hA hn hl hel ih
 | ptr t v x=>exact .ptr t v x
 | other v x=>exact .other v x
def eq9:Nat→Blk:=fun _=>.dead
def gk7:A→Option Nat
 | .rg id _ _=>some id
 | .rp id _ _ _=>some id
 | _=>none
def gkl:A→A
 | .rg _ k x=>.c k x
 | .rp _ ks cells off=>.pp ks cells off
 | _=>.unk
mutual
def tagA (r:Nat):A→A
 | .c k x=>if awo k then .c k x else .rg r k x
 | .pp ks cells off=>.rp r ks cells off
 | .agg xs=>.agg (hjy r xs)
 | .nilsl=>.nilsl
 | _=>.unk
def hjy (r:Nat):List A→List A
 | []=>[]
 | a :: as=>tagA r a :: hjy r as
end
def intO:Option A→Bool
 | none=>true
 | some (.c (.int _) _)=>true
 | _=>false
def rdR (hp:Nat→Blk) (x:A) (f:A→Option (Prop×A)):Option Out :=
 match gk7 x with
 | some r=>if czu (hp r) then match f (gkl x) with
  | some (p,a)=>some ⟨p,True,tagA r a,hp,true⟩
  | none=>none
  else none
 | none=>none
def opRg (P:Program) (o:Oper) (hp:Nat→Blk) (v:Operand→A):Option Out :=
 match o.op with
 | .load t x=>match tyI P t with
  | some T=>rdR hp (v x) fun a=>cq7 T eq9 a
  | none=>none
 | .fieldAddr t x f=>match tyI P t with
  | some T=>rdR hp (v x) fun a=>(bke T eq9 f a).map fun z=>(True,z)
  | none=>none
 | .indexAddr t x i=>match slE P t,v i with
  | some (e,E),.c (.int _) n=>rdR hp (v x) fun a=>az2 e E eq9 a n.toInt
  | _,_=>none
 | .slice t x lo hi none=>if intO (lo.map v) && intO (hi.map v) then rdR hp (v x) fun a=>cq9 P t eq9 a (lo.map v) (hi.map v) else none
 | .call c=>match c.callee with
  | .builtin .len=>match c.args.toList,c.argTypes.toList with
   | [x],[t]=>match rdR hp (v x) fun a=>lenA P t eq9 a with
    | some r=>some { r with pre:=True,fact:=r.pre }
    | none=>none
   | _,_=>none
  | _=>none
 | _=>none
def hy3 (P:Program) (o:Oper) (s:S) (K:S→Prop):Prop :=
 match o.guard with
 | none=>match opRg P o s.hp (aj9 s.tm) with
  | some r=>ajd s.tm o.op.operands.toList∧r.pre∧(r.fact→K ⟨updD s.tm o.dst r.val,r.hp⟩)
  | none=>False
 | some _=>False
def gzi:List Kd→List C→Nat→List A
 | [],_,_=>[]
 | k :: ks,cells,j=>(if awo k then .c k (nrm k (cg cells j)) else .rg 0 k (nrm k (cg cells j))) :: gzi ks cells (j+1)
def hky (p:Bool×List Kd) (xs:List C):A:=pack p.1 (gzi p.2 xs 0)
def hkh (p:Bool×List Kd) (c:List C):Arg:=if p.2.all awo then .dat p c else .ref (hky p c)
def gqt:List (Bool×List Kd)→List (List C)→List Arg
 | p :: ps,c :: cs=>hkh p c :: gqt ps cs
 | _,_=>[]
mutual
def tagV (r:Nat) (hp:Nat→Blk):A→A
 | .c k x=>if awo k then .c k x else .rg r k x
 | .agg xs=>.agg (gq2 r hp xs)
 | .nilsl=>.nilsl
 | .own id ks off len=>match hp id with
  | .row t es=>.rg r (.slice t) (.slice ((es.drop off).take len))
  | .frz t es=>.rg r (.slice t) (.slice ((es.drop off).take len))
  | _=>.unk
 | _=>.unk
def gq2 (r:Nat) (hp:Nat→Blk):List A→List A
 | []=>[]
 | a :: as=>tagV r hp a :: gq2 r hp as
end
structure iqs (P:Program) (g:FuncId) (acts:List A) (hp:Nat→Blk) (r:Nat) (val:A) (hp':Nat→Blk):Prop where
 ex:∃ ps css as res hs',aw8 P g as [.reg] res (.reg :: hs')∧bjf hp ps acts=some css∧as=gqt ps css∧aw5 (hp r)=true∧val=by8 (gq2 r (aji (.reg :: hs')) res)∧hp'=upd (freezeAll hp (bji acts)) r .reg
end Go.AE
/-
 A call whose results become a region: the rule of a printed proof.
-/
namespace Go.AE
variable {P:Program} {N kp:Nat} {s s':S} {Γ:List Fn} {g:Option Nat} {o:Oper} {os:List (Option Nat×Oper)} {K:S→Prop}
end Go.AE
/-
 Regions whose plain cells are written: what stays is where their data lie.
-/
namespace Go.AE
open Go.RowKit (Below)
variable {P:Program} {w0:Base} {w:World} {N kp:Nat} {σ:Nat→RefI} {s:S} {tms:Array Value} {ρ:Operand→Value} {al:Nat→Prop} {Γ:List Fn}
def isW:Blk→Bool
 | .reg=>true
 | .wob=>true
 | _=>false
def dzi:List Kd→List A→Bool
 | [],[]=>true
 | k :: ks,.c k' _ :: as=>awo k && (k == k') && dzi ks as
 | _,_=>false
def opW (P:Program) (o:Oper) (hp:Nat→Blk) (v:Operand→A):Option Out :=
 match o.op with
 | .indexAddr t x i=>match slE P t,v x,v i with
  | some (e,E),.rg r (.slice t') c,.c (.int _) n=>if isW (hp r) && (t' == e) then some ⟨0≤n.toInt∧n.toInt < (c.toSl.length:Int),True,.rp r E.kinds (eg c.toSl n.toInt.toNat) 0,hp,true⟩ else none
  | _,_,_=>none
 | .fieldAddr t x f=>match tyI P t,v x with
  | some T,.rp r ks cells off=>if isW (hp r) then (T.fields[f]?).map fun p=>⟨True,True,.rp r (ks.drop p.1) cells (off+p.1),hp,true⟩ else none
  | _,_=>none
 | .load t x=>match slE P t,v x with
  | some (e,_),.rp r ks cells off=>if isW (hp r) && (ks.headD .other == .slice e) then some ⟨True,True,.rg r (.slice e) (nrm (.slice e) (cg cells off)),hp,true⟩ else none
  | _,_=>none
 | .call c=>match c.callee with
  | .builtin .len=>match c.args.toList,c.argTypes.toList with
   | [x],[t]=>match v x,(slE P t).isSome with
    | .rg r (.slice _) cc,true=>if isW (hp r) then some ⟨True,(cc.toSl.length:Int)≤140737488355328,ki .i64 cc.toSl.length,hp,true⟩ else none
    | _,_=>none
   | _,_=>none
  | _=>none
 | .store t x y=>match tyI P t,v x with
  | some T,.rp r ks cells off=>if isW (hp r) && (dzi (ks.take T.kinds.length) (aje (v y)) && (decide (T.kinds.length≤ks.length))) then some ⟨True,True,.unk,upd hp r .wob,false⟩ else none
  | _,_=>none
 | _=>none
theorem SimV.trans {a b c:Value} (h1:SimV a b) (h2:SimV b c):SimV a c:=by
 rcases h1 with rfl | ⟨x,y,rfl,rfl⟩ | ⟨k,n,m,rfl,rfl,hr⟩ | ⟨x,y,rfl,rfl,hs⟩
 ·exact h2
 ·rcases h2 with rfl | ⟨x',y',e,rfl⟩ | ⟨_,_,_,e,_⟩ | ⟨_,_,e,_⟩
  ·exact .inr (.inl ⟨_,_,rfl,rfl⟩)
  ·exact .inr (.inl ⟨_,_,rfl,rfl⟩)
  ·cases e
  ·cases e
 ·rcases h2 with rfl | ⟨x',y',e,_⟩ | ⟨k',n',m',e,rfl,_⟩ | ⟨_,_,e,_⟩
  ·exact .inr (.inr (.inl ⟨_,_,_,rfl,rfl,hr⟩))
  ·cases e
  ·cases e;exact .inr (.inr (.inl ⟨_,_,_,rfl,rfl,hr⟩))
  ·cases e
 ·rcases h2 with rfl | ⟨x',y',e,_⟩ | ⟨k',n',m',e,_,_⟩ | ⟨_,_,e,rfl,_⟩
  ·exact .inr (.inr (.inr ⟨_,_,rfl,rfl,hs⟩))
  ·cases e
  ·cases e
  ·cases e;exact .inr (.inr (.inr ⟨_,_,rfl,rfl,hs⟩))
def iqf (P:Program) (o:Oper) (s:S) (K:S→Prop):Prop :=
 match o.guard with
 | none=>match opW P o s.hp (aj9 s.tm) with
  | some r=>ajd s.tm o.op.operands.toList∧r.pre∧(r.fact→K ⟨updD s.tm o.dst r.val,r.hp⟩)
  | none=>False
 | some _=>False
end Go.AE
/-
 All that a state holds becomes one region (for functions that were handed all their data, and that write on them).
-/
namespace Go.AE
open Go.RowKit (Below)
variable {P:Program} {w0:Base} {w:World} {N kp:Nat} {σ:Nat→RefI} {s:S} {tms:Array Value} {ρ:Operand→Value} {al:Nat→Prop} {Γ:List Fn} {a b c:Code} {Q:Exit→S→Prop}
mutual
def colA (r:Nat) (hp:Nat→Blk):A→A
 | .c k x=>if awo k then .c k x else .rg r k x
 | .agg xs=>.agg (gzq r hp xs)
 | .nilsl=>.nilsl
 | .own id ks off len=>match hp id with
  | .row t es=>.rg r (.slice t) (.slice ((es.drop off).take len))
  | .frz t es=>.rg r (.slice t) (.slice ((es.drop off).take len))
  | _=>.unk
 | .box id off=>match hp id with
  | .box _=>.box id off
  | _=>.unk
 | _=>.unk
def gzq (r:Nat) (hp:Nat→Blk):List A→List A
 | []=>[]
 | a :: as=>colA r hp a :: gzq r hp as
end
def colB (r:Nat) (hp:Nat→Blk):Blk→Blk
 | .row _ _=>.gone
 | .frz _ _=>.gone
 | .box cells=>.box (gzq r hp cells)
 | b=>b
def iq3 (r:Nat) (hp:Nat→Blk):Nat→Blk:=fun id=>if id=r then .reg else colB r hp (hp id)
mutual
def rgOnly:A→Bool
 | .c k _=>awo k
 | .rg _ _ _=>true
 | .agg xs=>dy1 xs
 | .nilsl=>true
 | _=>false
def dy1:List A→Bool
 | []=>true
 | a :: as=>rgOnly a && dy1 as
end
theorem dwa:∀ {as:List A},dy1 as=true→∀ i,i < as.length→rgOnly (as.getD i .unk)=true
 | [],_,i,hi=>by simp at hi
 | a :: as,h,0,_=>by simp only [dy1,jf] at h;simpa using h.1
 | a :: as,h,i+1,hi=>by simp only [dy1,jf] at h;simpa using dwa h.2 i (by simpa using hi)
theorem ARel.rgOnly {al':Nat→Prop} {v:Value} {x:A} (h:ARel P w al σ v x) (hx:rgOnly x=true):ARel P w al' σ v x:=by
 induction h with
 | c k v x h=>exact .c _ _ _ (h.scalar (by simpa [Go.AE.rgOnly] using hx))
 | nilsl=>exact .nilsl
 | agg vs xs hl h ih=>exact .agg vs xs hl (fun i hi=>ih i hi (dwa (by simpa [Go.AE.rgOnly] using hx) i hi))
 | rg v id k x W Q h hr=>exact .rg v id k x W Q h hr
 | rgGone v id k x h=>exact .rgGone v id k x h
 | _=>simp [Go.AE.rgOnly] at hx
end Go.AE
/-
 Functions whose results are new: their contracts, out of what they do when all their data are a region.
-/
namespace Go.AE
open Go.RowKit (Below)
variable {P:Program} {w0:Base} {w:World} {N kp:Nat} {σ:Nat→RefI} {s:S} {tms:Array Value} {al:Nat→Prop}
end Go.AE
/-
 A slice built of what lies in a region: with its own block, it is a region again.
-/
namespace Go.AE
open Go.RowKit (Below)
variable {P:Program} {w0:Base} {w:World} {N kp:Nat} {σ:Nat→RefI} {s:S} {tms:Array Value} {ρ:Operand→Value} {al:Nat→Prop}
mutual
def iqp (r:Nat):A→A
 | .c k x=>if awo k then .c k x else .unk
 | .rg id k x=>if id == r then .c k x else .unk
 | .agg xs=>.agg (hqe r xs)
 | .nilsl=>.nilsl
 | _=>.unk
def hqe (r:Nat):List A→List A
 | []=>[]
 | a :: as=>iqp r a :: hqe r as
end
end Go.AE
/-
 A slice of pointers to boxes' cells: measured, indexed at a known place.
-/
namespace Go.AE
open Go.RowKit (Below)
variable {P:Program} {w0:Base} {w:World} {N kp:Nat} {σ:Nat→RefI} {s:S} {tms:Array Value} {ρ:Operand→Value} {al:Nat→Prop}
def iqr (P:Program) (o:Oper) (s:S) (K:S→Prop):Prop :=
 match o.guard,o.op with
 | none,.buildSlice t n parts=>match bsP P t n (parts.toList.map fun p=>(p.1,aj9 s.tm p.2)) o.dst s.hp with
  | some q=>ajd s.tm o.op.operands.toList∧q.pre∧(q.fact→K ⟨updD s.tm o.dst q.val,q.hp⟩)
  | none=>False
 | _,_=>False
def bsO (P:Program) (o:Op) (v:Operand→A) (hp:Nat→Blk):Option Out :=
 match o with
 | .indexAddr t x i=>match slE P t,v x,v i with
  | some (_,E),.bsl id len,.c (.int _) n=>if E.kinds.length == 1 then some ⟨0≤n.toInt∧n.toInt < (len:Int),True,.box id n.toInt.toNat,hp,false⟩ else none
  | _,_,_=>none
 | .call ⟨.builtin .len,args,argTypes⟩=>match args.toList,argTypes.toList with
  | [x],[t]=>match slE P t,v x with
   | some _,.bsl _ len=>some ⟨(len:Int)≤1000,True,ki .i64 len,hp,false⟩
   | _,_=>none
  | _,_=>none
 | _=>none
theorem gz3 {o:Oper} {q:Out} {v:Operand→A} (h:RelL P w0 N σ s tms w) (hf:bsO P o.op v s.hp=some q) (hp:q.pre)
  (hv:∀ x,x∈o.op.operands→ARel P w (Al w0 w σ s.hp) σ (ρ x) (v x)):OpOk P w0 N s tms o ρ w q:=by
 unfold bsO at hf
 split at hf
 ·rename_i t x i ho
  split at hf
  ·rename_i e E id len k n hs hvx hvi
   split at hf
   ·rename_i hk;rw [beq_iff_eq] at hk;simp only [jc] at hf;subst hf;obtain ⟨hu,hE⟩:=aqf hs;have hx:=hv x (by rw [ho];simp [jh]);have hi:=hv i (by rw [ho];simp [jh]);rw [hvx] at hx;rw [hvi] at hi;obtain ⟨hie,_⟩:=hi.int_inv;generalize hux:ρ x=u at hx;cases hx with
    | bsl _ _ b cap hb =>
     have hr:=cj7 (w:=w) hu hE k n.toInt b 0 len cap hp;rw [hk,Nat.mul_one,Nat.zero_add] at hr;refine OpOk.pure h (v:=.pointer (some ⟨b,n.toInt.toNat,none⟩)) ?_ trivial rfl (.box _ _ b hb);simp only [execOp,ho];rw [hux,hie];exact ajf hr
   ·cases hf
  ·cases hf
 ·rename_i args argTypes ho
  split at hf
  ·rename_i x t hax hat
   split at hf
   ·rename_i eE id len hs hvx;simp only [jc] at hf;subst hf;obtain ⟨e,E⟩:=eE;obtain ⟨hu,hE⟩:=aqf hs;have e1:=ajc hax;have e2:=ajc hat;subst e1 e2;have hx:=hv x (by rw [ho];simp [jh,Call.operands]);rw [hvx] at hx;generalize hux:ρ x=u at hx;cases hx with
    | bsl _ _ b cap hb =>
     have hp':(len:Int)≤1000:=hp;refine OpOk.pure h (v:=.int .i64 (len:Int)) ?_ trivial rfl (ARel.mk_int (djj (by omega)));simp only [execOp,ho];have hr:=run_len_slice (w:=w) hu o.type (some ⟨b,0,none⟩) len cap;refine ajf (x:=Builtin.len_ #[t] o.type (#[x].map ρ)) ?_;simpa [hux] using hr
   ·cases hf
  ·cases hf
 ·cases hf
def cjq (P:Program) (o:Oper) (s:S) (K:S→Prop):Prop :=
 match o.guard with
 | none=>match bsO P o.op (aj9 s.tm) s.hp with
  | some q=>ajd s.tm o.op.operands.toList∧q.pre∧(q.fact→K ⟨updD s.tm o.dst q.val,q.hp⟩)
  | none=>False
 | _=>False
theorem ayx:ay4 P (cjq P):=by
 intro N ops o s K hok h;unfold cjq at h
 split at h
 ·rename_i hg
  split at h
  ·rename_i q hop;obtain ⟨hn,hp,hK⟩:=h;obtain ⟨_,ho⟩:=aqj hok;refine bwr hg hok q (fun w0 a w σ hR=>?_) hK;exact gz3 hR hop hp (fun x hx=>ajy hR (ho x hx) (ajj hn x (jF.2 hx)))
  ·exact h.elim
 ·exact h.elim
end Go.AE
/-
 Slices that are known to be nil, within a made row; a row's cell that is lent while it is nil.
-/
namespace Go.AE
open Go.RowKit (Below)
variable {P:Program} {w0:Base} {w:World} {N kp:Nat} {σ:Nat→RefI} {s:S} {tms:Array Value} {ρ:Operand→Value} {al:Nat→Prop}
theorem fqs {K id:Nat} {B':Blk} (hnf:¬ ayq (s.hp id)) (h:∀ (w:World) (B al:Nat→Prop) (σ:Nat→RefI),BRel P w B al σ id (s.hp id)→BRel P w B al σ id B'):Weak P K s ⟨s.tm,upd s.hp id B'⟩:=by
 rintro w0 N tms w _ ⟨σ,hR⟩
 have hal:∀ c,Al w0 w σ s.hp c→Al w0 w σ (upd s.hp id B') c:=by
  intro c hc;refine ⟨hc.1,fun q hq=>?_,hc.2.2⟩
  have:=hc.2.1 q hq
  by_cases e:q=id
  ·subst e;exact absurd this hnf
  ·simp only [upd,e,if_false];exact this
 refine ⟨σ,hR.change hR.below (Nat.le_refl _) hal (fun _ _=>rfl) (fun _ _=>.inl rfl) (fun q=>?_) hR.inj⟩;by_cases e:q=id
 ·subst e;refine .inr ?_;have e0:upd s.hp q B' q=B':=by simp [upd]
  rw [e0];exact h _ _ _ _ ((hR.blks q).mono (fun _ _=>rfl) hal (fun _ _=>.inl rfl) rfl (fun _ _=>rfl))
 ·exact .inl ⟨rfl,by simp [upd,e],fun _ _=>rfl⟩
theorem fzg {K id i:Nat} {t u:TypeId} {es:List (List C)} (hb:s.hp id = .row t es) (hz:eg es i=[.z]) (hk:(tyI P t).map TyI.kinds=some [.slice u]):Weak P K s ⟨s.tm,upd s.hp id (.rl t es i 0 .nilsl)⟩:=by
 refine fqs (by rw [hb];exact fun h=>h) (fun w B al σ h=>?_);rw [hb] at h;obtain ⟨E,hE,hby,hB⟩:=h;have hkk:E.kinds=[.slice u]:=by rw [hE] at hk;simpa using hk
 refine ⟨E,hE,hby,hB.imp (fun x=>x) ?_⟩;rintro ⟨b,cap,cur,tg,q1,q2,q3,q4,q5,q6,q7,q8⟩;refine ⟨b,cap,cur,tg,q1,q2,q3,q4,q5,q6,q7,fun i' hi' j' hj' _=>q8 i' hi' j' hj',fun hi=>⟨by simp [hkk],?_⟩⟩
 have:=q8 i hi 0 (by simp [hkk])
 generalize cur.getD (i * E.kinds.length+0) undef=v at this ⊢;rw [hz,hkk] at this;simp only [List.getD_cons_zero,cg_zero] at this;cases this with
 | empty _ _ a cap h hz=>obtain ⟨rfl,rfl⟩:=hz rfl;exact .nilsl
 | slice _ _ _ _ _ hz=>exact absurd rfl hz
def nrmL:List Kd→List C→List C
 | k :: ks,c :: cs=>nrm k c :: nrmL ks cs
 | _,cs=>cs
theorem dk9:∀ (ks:List Kd) (cs:List C),(nrmL ks cs).length=cs.length
 | [],_=>by simp [nrmL]
 | _ :: _,[]=>rfl
 | k :: ks,c :: cs=>by simp [nrmL,dk9 ks cs]
theorem gzh:∀ (ks:List Kd) (cs:List C) (j:Nat),j < ks.length→j < cs.length→cg (nrmL ks cs) j=nrm (ks.getD j .other) (cg cs j)
 | [],_,j,h,_=>by simp at h
 | _ :: _,[],j,_,h=>by simp at h
 | k :: ks,c :: cs,0,_,_=>by simp [nrmL]
 | k :: ks,c :: cs,j+1,h,h'=>by
  simp only [nrmL,cg_succ,List.getD_cons_succ];exact gzh ks cs j (by simpa using h) (by simpa using h')
theorem gyd {K id:Nat} {t:TypeId} {es:List (List C)} {E:TyI} (hb:s.hp id = .row t es) (hE:tyI P t=some E):Weak P K s ⟨s.tm,upd s.hp id (.row t (es.map (nrmL E.kinds)))⟩:=by
 refine fqs (by rw [hb];exact fun h=>h) (fun w B al σ h=>?_);rw [hb] at h;obtain ⟨E',hE',hby,hB⟩:=h;rw [hE] at hE';simp only [jc] at hE';subst hE';refine ⟨E,hE,by simpa using hby,?_⟩;rcases hB with ⟨h1,h2⟩ | ⟨b,cap,cur,tg,q1,q2,q3,q4,q5,q6,q7,q8⟩
 ·exact .inl ⟨h1,by simp [h2]⟩
 ·have he:∀ i,i < es.length→eg (es.map (nrmL E.kinds)) i=nrmL E.kinds (eg es i):=fun i hi=>by
   simp [eg,ja,hi]
  refine .inr ⟨b,cap,cur,tg,by simpa using q1,q2,q3,by simpa using q4,q5,q6,fun i hi=>?_,fun i hi j hj=>?_⟩
  ·rw [jG] at hi;rw [he i hi,dk9];exact q7 i hi
  ·rw [jG] at hi;rw [he i hi,gzh _ _ _ hj (by rw [q7 i hi];exact hj)];exact (q8 i hi j hj).nrm
def gky (P:Program) (d:Option Nat) (t:TypeId) (hp:Nat→Blk) (l c:A):Option Out :=
 match d,slE P t,l,c with
 | some d,some (e,E),.c (.int _) l,.c (.int _) c=>match E.kinds with
  | [.slice _]=>if aw5 (hp (key d 0)) then
   some ⟨0≤l.toInt∧l.toInt≤c.toInt∧c.toInt * E.bytes≤140737488355328,True,.own (key d 0) E.kinds 0 l.toInt.toNat,upd hp (key d 0) (.row e (awi l.toInt.toNat [.z])),false⟩
   else none
  | _=>none
 | _,_,_,_=>none
theorem fjy {o:Oper} {t:TypeId} {l c:Operand} {a b0:A} {r:Out} (h:RelL P w0 N σ s tms w) (hf:gky P o.dst t s.hp a b0=some r) (ho:o.op = .makeSlice t l c) (hp:r.pre) (hx:ARel P w (Al w0 w σ s.hp) σ (ρ l) a) (hy:ARel P w (Al w0 w σ s.hp) σ (ρ c) b0):OpOk P w0 N s tms o ρ w r:=by
 unfold gky awi at hf
 split at hf
 ·rename_i d e E k1 x k2 y hdst hs
  split at hf
  ·rename_i u hkk
   split at hf
   ·rename_i hd;simp only [jc] at hf;subst hf;obtain ⟨h0,h1,h2⟩:=hp;obtain ⟨hu,hE⟩:=aqf hs;obtain ⟨S⟩:=ajr hE;obtain ⟨hxe,_⟩:=hx.int_inv;obtain ⟨hye,_⟩:=hy.int_inv;have hbpos:=S.pos;have hc0:0≤y.toInt:=by omega
    have hy1:y.toInt * 1≤y.toInt * E.bytes:=Int.mul_le_mul_of_nonneg_left (by omega) hc0;have hk1:E.kinds.length=1:=by rw [hkk];rfl
    have hrun:=run_make (P:=P) w t e S.i S.z hu S.info S.zero k1 k2 x.toInt y.toInt h0 h1 (by rw [S.bytes,Int.mul_comm];omega) (by omega);have hcast:((y.toInt.toNat:Nat):Int)=y.toInt:=by omega
    have hcells:madeCells S.z.cells (y.toInt.toNat * S.i.size)=(j4 (y.toInt.toNat * E.kinds.length)).map (S.z.cells[· % S.z.cells.size]!):=by rw [S.size];rfl
    rw [hcells] at hrun
    obtain ⟨z0,hz0,hzn⟩:∃ z0,S.z.cells.toList=[z0]∧z0 = .slice none 0 0:=by
     have hf:=S.zfits;rw [hkk] at hf
     match hl:S.z.cells.toList,hf with
     | [],hf=>simp [ak6] at hf
     | [z0],hf =>
      refine ⟨z0,rfl,?_⟩;simp only [ak6,Bool.and_true] at hf;unfold cjb at hf
      split at hf <;> first | rfl | (simp at *;done) | contradiction
     | _ :: _ :: _,hf=>simp [ak6] at hf
    have hzs:S.z.cells.size=1:=by
     have:=congrArg List.length hz0
     simpa using this
    have hza:S.z.cells[0]? = some (.slice none 0 0):=by
     have:S.z.cells = #[z0]:=Array.toList_inj.1 (by simpa using hz0)
     rw [this,hzn];rfl
    have hR:=ewa (tg:=e) (cells:=(j4 (y.toInt.toNat * E.kinds.length)).map (S.z.cells[· % S.z.cells.size]!)) (es:=jr x.toInt.toNat [.z]) (cap:=y.toInt.toNat) h hd hE (by
      rw [j1]
      have:((x.toInt.toNat:Nat):Int) * E.bytes≤y.toInt * E.bytes:=Int.mul_le_mul_of_nonneg_right (by omega) (by omega)
      omega) (by rw [j1];omega) (dj2 S.pos (by rw [hcast];exact h2)) (by simp) (fun i hi=>by
      simp only [j1] at hi
      simp [eg,ja,hi,hk1]) (fun i hi j hj=>by
      simp only [j1] at hi;have hj0:j=0:=by omega
      subst hj0;have hi2:i < y.toInt.toNat:=by omega
      have e1:eg (jr x.toInt.toNat [C.z]) i=[.z]:=by simp [eg,ja,hi]
      have e2:((j4 (y.toInt.toNat * E.kinds.length)).map (S.z.cells[· % S.z.cells.size]!)).getD (i * E.kinds.length+0) undef = .slice none 0 0:=by
       have h3:S.z.cells[0]! = .slice none 0 0:=by rw [getElem!_def,hza]
       simp only [Array.getD_eq_getD_getElem?,hk1,Array.getElem?_map,Nat.mul_one,Nat.add_zero,Array.getElem?_range,hi2,if_true,Option.map_some,Option.getD_some,hzs,Nat.mod_one,h3]
      rw [e1,e2,hkk]
      exact .empty _ _ _ _ rfl (fun _=>⟨rfl,rfl⟩))
    refine .inl ⟨.slice (some ⟨w.heap.size,0,none⟩) x.toInt.toNat y.toInt.toNat,_,?_,trivial,_,hR,?_⟩
    ·simp only [execOp,ho,hxe,hye];exact ajf hrun
    ·have:=ARel.own0 (F:=fun _=>False) (P:=P) (w:=w.alloc (.cells ((j4 (y.toInt.toNat * E.kinds.length)).map (S.z.cells[· % S.z.cells.size]!)) e (0,0)))
      (al:=Al w0 (w.alloc (.cells ((j4 (y.toInt.toNat * E.kinds.length)).map (S.z.cells[· % S.z.cells.size]!)) e (0,0))) (upd σ (key d 0) (.row w.heap.size y.toInt.toNat e E.kinds (jr x.toInt.toNat [C.z]).length)) (upd s.hp (key d 0) (.row e (jr x.toInt.toNat [.z]))))
      (σ:=upd σ (key d 0) (.row w.heap.size y.toInt.toNat e E.kinds (jr x.toInt.toNat [C.z]).length)) (key d 0) E.kinds x.toInt.toNat w.heap.size y.toInt.toNat (jr x.toInt.toNat [C.z]).length e (by simp [upd]) (by simp)
     exact this
   ·cases hf
  ·cases hf
 ·cases hf
def gzn (P:Program) (o:Oper) (s:S) (K:S→Prop):Prop :=
 match o.guard,o.op with
 | none,.makeSlice t l c=>match gky P o.dst t s.hp (aj9 s.tm l) (aj9 s.tm c) with
  | some q=>ajd s.tm o.op.operands.toList∧q.pre∧(q.fact→K ⟨updD s.tm o.dst q.val,q.hp⟩)
  | none=>False
 | _,_=>False
theorem gq6:ay4 P (gzn P):=by
 intro N ops o s K hok h;unfold gzn at h
 split at h
 ·rename_i t l c hg hoo
  split at h
  ·rename_i q hop;obtain ⟨hn,hp,hK⟩:=h;obtain ⟨_,ho⟩:=aqj hok;refine bwr hg hok q (fun w0 a w σ hR=>?_) hK;have hl:l∈o.op.operands:=by rw [hoo];simp [jh]
   have hc:c∈o.op.operands:=by rw [hoo];simp [jh]
   exact fjy hR hop hoo hp (ajy hR (ho l hl) (ajj hn l (jF.2 hl))) (ajy hR (ho c hc) (ajj hn c (jF.2 hc)))
  ·exact h.elim
 ·exact h.elim
end Go.AE
/-
 Zero bytes appended to a row of the caller's own ('append(b, make([]byte, n)...)').
-/
namespace Go.AE
open Go.RowKit (Below)
variable {P:Program} {w0:Base} {w:World} {N kp:Nat} {σ:Nat→RefI} {s:S} {tms:Array Value} {ρ:Operand→Value} {al:Nat→Prop}
theorem ij4 {e:TypeId} {E:TyI} (S:gwk P e E) (hk:E.kinds=[.int .u8]):S.z.cells = #[.int .u8 0]:=by
 have hf:=S.zfits;rw [hk] at hf
 match hl:S.z.cells.toList,hf with
 | [],hf=>simp [ak6] at hf
 | [z0],hf =>
  simp only [ak6,Bool.and_true] at hf
  have:S.z.cells = #[z0]:=Array.toList_inj.1 (by simpa using hl)
  rw [this];cases z0 <;> simp [cjb] at hf
  obtain ⟨h1,h2⟩:=hf;rw [h1,h2]
 | _ :: _ :: _,hf=>simp [ak6] at hf
theorem djr {t u tn e:TypeId} {E:TyI} (hs:slE P t=some (e,E)) (hU:P.underlying u=some .string) {kn:IntKind} (hN:P.underlying tn=some (.int kn)) (hk:E.kinds=[.int .u8]) (ty:TypeId) (k:IntKind) (b:Option Addr) (len cap n:Nat)
  (hle:len≤cap) (hby:(len+n) * E.bytes≤140737488355328) (q:ByteArray) (hsize:q.size=n) (hext:Builtin.firstCells 1 n (.string q)=pure (Builtin.zeroCells #[.int .u8 0] n)) :
  (Builtin.append_ #[t,tn] ty #[.slice b len cap,.int k n]).run P w=(Builtin.append_ #[t,u] ty #[.slice b len cap,.string q]).run P w:=by
 obtain ⟨hu,hE⟩:=aqf hs;obtain ⟨S⟩:=ajr hE;have hz:=ij4 S hk;have hsz:S.i.size=1:=by rw [S.size,hk];rfl
 have hpos:=S.pos;have hnb:n * E.bytes≤140737488355328:=Nat.le_trans (Nat.mul_le_mul_right _ (by omega)) hby
 have hn1:len+n≤140737488355328:=by
  have:(len+n) * 1≤(len+n) * E.bytes:=Nat.mul_le_mul_left _ (by omega)
  omega
 have hw:IntKind.i64.wrap (n:Int)=n:=by rw [IntKind.wrap_i64];omega
 have hneg:¬ ((n:Int) < 0):=by omega
 have h48:¬ (281474976710656 < (n:Int) * (S.i.bytes:Int)):=by rw [S.bytes,← Int.natCast_mul];omega
 have h63:¬ (9223372036854775807 < ((len:Int)+(n:Int))):=by omega
 have hzz:n=0→Builtin.zeroCells #[Value.int .u8 0] n = #[]:=by
  intro h;subst h;simp [Builtin.zeroCells]
 by_cases hroom:len+n≤cap
 ·by_cases h0:n=0
  ·have hz0:=hzz h0;subst h0;have hw0:IntKind.i64.wrap 0=0:=by decide
   simp [hw0,Builtin.append_,run_underlying hu,run_underlying hU,run_underlying hN,sizeOf,typeInfo,zeroValue,S.info,S.zero,asInt,asIntOf,hw,hneg,h48,hsz,hz,Builtin.lenOf,hsize,hext,hroom,hz0,storeCells];cases b <;> simp [storeCells,hroom,show len≤cap from hle]
  ·simp [Builtin.append_,run_underlying hu,run_underlying hU,run_underlying hN,sizeOf,typeInfo,zeroValue,S.info,S.zero,asInt,asIntOf,hw,hneg,h48,hsz,hz,Builtin.lenOf,hsize,hext,hroom,h0]
 ·have hfit:¬ (281474976710656 < Builtin.nextslicecap (len+n) cap * S.i.bytes):=by
   have:=growslice_fits (need:=len+n) (old:=cap) (by omega) hby
   rw [S.bytes];omega
  have h0:n≠0:=by omega
  simp [Builtin.append_,run_underlying hu,run_underlying hU,run_underlying hN,sizeOf,typeInfo,zeroValue,S.info,S.zero,asInt,asIntOf,hw,hneg,h48,h63,hsz,hz,Builtin.lenOf,hsize,hext,hroom,h0,hfit]
theorem fjp (n:Nat):Builtin.firstCells 1 n (.string ⟨(jr n (0:UInt8)).toArray⟩)=pure (Builtin.zeroCells #[.int .u8 0] n):=by
 simp only [Builtin.firstCells];congr 1;apply Array.toList_inj.1;apply List.ext_getElem
 ·simp [Builtin.zeroCells]
 ·intro i h1 h2;simp [Builtin.zeroCells,Nat.mod_one]
def appZ (P:Program) (u t tn:TypeId) (d:Option Nat) (hp:Nat→Blk) (x y:A):Option Out :=
 match slE P t,P.underlying u,P.underlying tn,d,x,y with
 | some (e,E),some .string,some (.int _),some d,.own id ks 0 len,.c (.int _) n=>match E.kinds,hp id with
  | [.int .u8],.row t' es=>if (t' == e) && aw5 (hp (key d 0)) then
    some ⟨0≤n.toInt∧len≤es.length∧((len+n.toInt.toNat:Nat):Int) * E.bytes≤140737488355328,True,.own (key d 0) ks 0 (len+n.toInt.toNat),upd (upd hp id .gone) (key d 0) (.row e (es.take len ++ awi n.toInt.toNat [.int 0])),false⟩ else none
  | _,_=>none
 | _,_,_,_,_,_=>none
theorem ejy (n:Nat):row8 (jr n 0)=awi n [.int 0]:=by simp [row8,awi]
theorem fyd {o:Oper} {r:Out} {u t tn:TypeId} {x y:Operand} {a b:A} (h:RelL P w0 N σ s tms w) (hf:appZ P u t tn o.dst s.hp a b=some r) (ho:o.op = .call ⟨.builtin .append,#[x,y],#[t,tn]⟩) (hp:r.pre)
  (hx:ARel P w (Al w0 w σ s.hp) σ (ρ x) a) (hy:ARel P w (Al w0 w σ s.hp) σ (ρ y) b):OpOk P w0 N s tms o ρ w r:=by
 unfold appZ at hf
 split at hf
 ·rename_i e E kn d id ks len k n hs hU hN hdst
  split at hf
  ·rename_i t' es hk hb
   split at hf
   ·rename_i hc;simp only [jf,beq_iff_eq] at hc;obtain ⟨rfl,hd⟩:=hc;simp only [jc] at hf;subst hf;obtain ⟨h0,h1,h2⟩:=hp;obtain ⟨hye,_⟩:=hy.int_inv;have hlv:live s.hp id=true:=by unfold live;simp [hb]
    obtain ⟨⟨sa,sc,hxs⟩,_⟩:=cqy h hlv hx
    have hlc:len≤sc:=by
     obtain ⟨t2,es2,hb2,hle,⟨E2,hE2,hks⟩,hbd,hv⟩:=akt h hlv hx;rcases hv with ⟨hv,h3,_⟩ | ⟨_,ho,_⟩ | ⟨b,cap,c,hg,hv,hc0,hlc⟩
     ·omega
     ·exact absurd rfl ho
     ·rw [hxs] at hv;simp only [Value.slice.injEq] at hv;omega
    have hl:(row8 (jr n.toInt.toNat 0)).length=n.toInt.toNat:=by simp [row8]
    obtain ⟨q,w',hr,σ',hR,hv⟩:=cjz (l:=jr n.toInt.toNat 0) h hs hU hk hd hb h1 (by rw [hl];exact h2) hx o.type;rw [hl,ejy] at hv;rw [ejy] at hR;refine .inl ⟨q,w',?_,trivial,σ',hR,hv⟩;simp only [execOp,ho];refine ajf (x:=Builtin.append_ #[t,tn] o.type (#[x,y].map ρ)) ?_;have hcast:n.toInt=((n.toInt.toNat:Nat):Int):=(Int.toNat_of_nonneg h0).symm
    have:=djr (w:=w) hs hU hN hk o.type k sa len sc n.toInt.toNat hlc (by have h3:=h2;rw [← Int.natCast_mul] at h3;omega) ⟨(jr n.toInt.toNat (0:UInt8)).toArray⟩ (show (jr n.toInt.toNat (0:UInt8)).toArray.size=_ by simp) (fjp _)
    rw [hxs] at hr;rw [← this,← hcast] at hr;simp only [List.map_toArray,JD,List.map_nil,hxs,hye];exact hr
   ·cases hf
  ·cases hf
 ·cases hf
def gq1 (u:TypeId) (P:Program) (o:Oper) (s:S) (K:S→Prop):Prop :=
 match o.guard,o.op with
 | none,.call ⟨.builtin .append,args,ats⟩=>match args.toList,ats.toList with
  | [x,y],[t,tn]=>match appZ P u t tn o.dst s.hp (aj9 s.tm x) (aj9 s.tm y) with
   | some q=>ajd s.tm o.op.operands.toList∧q.pre∧(q.fact→K ⟨updD s.tm o.dst q.val,q.hp⟩)
   | none=>False
  | _,_=>False
 | _,_=>False
theorem gqd (u:TypeId):ay4 P (gq1 u P):=by
 intro N ops o s K hok h;unfold gq1 at h
 split at h
 ·rename_i args ats hg hoo
  split at h
  ·rename_i x y t tn hax hat
   split at h
   ·rename_i q hop;obtain ⟨hn,hp,hK⟩:=h;obtain ⟨_,ho⟩:=aqj hok;have e1:=ajc hax;have e2:=ajc hat;subst e1 e2;refine bwr hg hok q (fun w0 a w σ hR=>?_) hK;have hx:x∈o.op.operands:=by rw [hoo];simp [jh,Call.operands]
    have hy:y∈o.op.operands:=by rw [hoo];simp [jh,Call.operands]
    exact fyd hR hop hoo hp (ajy hR (ho x hx) (ajj hn x (jF.2 hx))) (ajy hR (ho y hy) (ajj hn y (jF.2 hy)))
   ·exact h.elim
  ·exact h.elim
 ·exact h.elim
def litI:List (List C)→List Int
 | []=>[]
 | x :: l=>(cg x 0).toInt :: litI l
theorem gk9:litI []=[]:=rfl
theorem gjq (x:List C) (l:List (List C)):litI (x :: l)=(cg x 0).toInt :: litI l:=rfl
theorem hz7 (x:List C) (l:List (List C)) (i:Nat):(cg (eg (x :: l) i) 0).toInt=gt (litI (x :: l)) i:=by
 have h:∀ (l:List (List C)) (i:Nat),(cg (eg l i) 0).toInt=gt (litI l) i:=by
  intro l
  induction l with
  | nil=>intro i;simp [eg,gt,litI,cg,C.toInt]
  | cons a l ih =>
   intro i;cases i with
   | zero=>simp [eg,gt,litI]
   | succ i=>simpa [eg,gt,litI] using ih i
 exact h _ _
theorem hwp (x:List C) (l:List (List C)):str8 (x :: l)=dqz (litI (x :: l)):=by
 have h:∀ l:List (List C),str8 l=dqz (litI l):=by
  intro l
  induction l with
  | nil=>rfl
  | cons a l ih=>simp only [str8,dqz,litI,JD] at ih ⊢;rw [ih]
 exact h _
end Go.AE
