/- Text. -/
import Derived.Test.YtijnkhcfondehaaGreatDoorAE44
import Derived.Test.YtijnkhcfondehaaGreatDoorAE41
import Derived.Test.YtijnkhcfondehaaGreatDoorAE11B
set_option linter.unusedSimpArgs false
set_option linter.unusedVariables false
open _root_.Array renaming mem_toList_iff→jx,range→jN
open _root_.Bool renaming and_eq_true→jg
open _root_.List renaming length_pos_iff→Js,getD_eq_getElem?_getD→ja,length_map→jH,replicate→jC,length_replicate→jT,map_cons→Jf
open Go.Op renaming operands→je
open _root_.Option.some renaming injEq→jb
namespace Go.AE
open Go.RowKit (Below)
variable {P:Program} {w0:Base} {w:World} {N kp:Nat} {σ:Nat→RefI} {s:S} {tms:Array Value} {ρ:Operand→Value} {al:Nat→Prop} {Γ:List Fn}
theorem fwf {a:Addr} {v:Value} (h:w.cell? a=some v):∃ vs t z,w.heap[a.block]? = some (.cells vs t z):=by
 unfold World.cell? at h
 cases ho:w.heap[a.block]? with
 | none=>simp [ho] at h
 | some o=>cases o <;> simp_all
def fkp (w:World) (b:Nat):Prop:=∃ vs t z,w.heap[b]? = some (.cells vs t z)
theorem RepC.cells {k:Kd} {v:Value} {x:C} (h:RepC P w al k v x):RepC P w (fun b=>al b∧fkp w b) k v x:=by
 induction h with
 | bool x=>exact .bool x
 | int k x h=>exact .int k x h
 | str x h=>exact .str x h
 | empty t x a cap h hz=>exact .empty t x a cap h hz
 | slice t x b off cap hz E hE hal hlen hcap hel f hcell hrep ih =>
  by_cases he:x.toSl=[]
  ·have:=RepC.empty (P:=P) (w:=w) (Al:=fun b=>al b∧fkp w b) t x (some ⟨b,off,none⟩) cap he (fun e=>absurd e hz)
   simpa [he] using this
  ·have h0:0 < x.toSl.length:=Js.2 he
   obtain ⟨SE⟩:=ajp hE
   exact .slice t x b off cap hz E hE ⟨hal,fwf (aye (hcell 0 h0 0 (Js.2 SE.ne)))⟩ hlen hcap hel f hcell ih
 | arr t x vs n e E hA hn hl hel hrep ih=>exact .arr t x vs n e E hA hn hl hel ih
 | ptr t v x=>exact .ptr t v x
 | other v x=>exact .other v x
def eq9:Nat→Blk:=fun _=>.dead
def gja:A→Option Nat
 | .rg id _ _=>some id
 | .rp id _ _ _=>some id
 | _=>none
def gjm:A→A
 | .rg _ k x=>.c k x
 | .rp _ ks cells off=>.pp ks cells off
 | _=>.unk
mutual
def tagA (r:Nat):A→A
 | .c k x=>if aqr k then .c k x else .rg r k x
 | .pp ks cells off=>.rp r ks cells off
 | .agg xs=>.agg (gqt r xs)
 | .nilsl=>.nilsl
 | _=>.unk
def gqt (r:Nat):List A→List A
 | []=>[]
 | a :: as=>tagA r a :: gqt r as
end
def intO:Option A→Bool
 | none=>true
 | some (.c (.int _) _)=>true
 | _=>false
def rdR (hp:Nat→Blk) (x:A) (f:A→Option (Prop×A)):Option Out :=
 match gja x with
 | some r=>if cz9 (hp r) then match f (gjm x) with
  | some (p,a)=>some ⟨p,True,tagA r a,hp,true⟩
  | none=>none
  else none
 | none=>none
def opRg (P:Program) (o:Oper) (hp:Nat→Blk) (v:Operand→A):Option Out :=
 match o.op with
 | .load t x=>match tyI P t with
  | some T=>rdR hp (v x) fun a=>byb T eq9 a
  | none=>none
 | .fieldAddr t x f=>match tyI P t with
  | some T=>rdR hp (v x) fun a=>(bqw T eq9 f a).map fun z=>(True,z)
  | none=>none
 | .indexAddr t x i=>match slE P t,v i with
  | some (e,E),.c (.int _) n=>rdR hp (v x) fun a=>aw0 e E eq9 a n.toInt
  | _,_=>none
 | .slice t x lo hi none=>if intO (lo.map v) && intO (hi.map v) then rdR hp (v x) fun a=>byf P t eq9 a (lo.map v) (hi.map v) else none
 | .call c=>match c.callee with
  | .builtin .len=>match c.args.toList,c.argTypes.toList with
   | [x],[t]=>match rdR hp (v x) fun a=>lenA P t eq9 a with
    | some r=>some { r with pre:=True,fact:=r.pre }
    | none=>none
   | _,_=>none
  | _=>none
 | _=>none
def gzm (P:Program) (o:Oper) (s:S) (K:S→Prop):Prop :=
 match o.guard with
 | none=>match opRg P o s.hp (aj8 s.tm) with
  | some r=>ajc s.tm o.op.operands.toList∧r.pre∧(r.fact→K ⟨updD s.tm o.dst r.val,r.hp⟩)
  | none=>False
 | some _=>False
def fyt:List Kd→List C→Nat→List A
 | [],_,_=>[]
 | k :: ks,cells,j=>(if aqr k then .c k (nrm k (cg cells j)) else .rg 0 k (nrm k (cg cells j))) :: fyt ks cells (j+1)
def gzj (p:Bool×List Kd) (xs:List C):A:=pack p.1 (fyt p.2 xs 0)
def gzd (p:Bool×List Kd) (c:List C):Arg:=if p.2.all aqr then .dat p c else .ref (gzj p c)
def fkm:List (Bool×List Kd)→List (List C)→List Arg
 | p :: ps,c :: cs=>gzd p c :: fkm ps cs
 | _,_=>[]
mutual
def tagV (r:Nat) (hp:Nat→Blk):A→A
 | .c k x=>if aqr k then .c k x else .rg r k x
 | .agg xs=>.agg (fk5 r hp xs)
 | .nilsl=>.nilsl
 | .own id ks off len=>match hp id with
  | .row t es=>.rg r (.slice t) (.slice ((es.drop off).take len))
  | .frz t es=>.rg r (.slice t) (.slice ((es.drop off).take len))
  | _=>.unk
 | _=>.unk
def fk5 (r:Nat) (hp:Nat→Blk):List A→List A
 | []=>[]
 | a :: as=>tagV r hp a :: fk5 r hp as
end
structure gkz (P:Program) (g:FuncId) (acts:List A) (hp:Nat→Blk) (r:Nat) (val:A) (hp':Nat→Blk):Prop where
 ex:∃ ps css as res hs',awi P g as [.reg] res (.reg :: hs')∧akk hp ps acts=some css∧as=fkm ps css∧aq9 (hp r)=true∧val=bkp (fk5 r (ajh (.reg :: hs')) res)∧hp'=upd (freezeAll hp (akm acts)) r .reg
end Go.AE
/-
 A call whose results become a region: the rule of a printed proof.
-/
namespace Go.AE
variable {P:Program} {N kp:Nat} {s s':S} {Γ:List Fn} {g:Option Nat} {o:Oper} {os:List (Option Nat×Oper)} {K:S→Prop}
end Go.AE
/-
 Regions whose plain cells are written: what stays is where their data lie.
-/
namespace Go.AE
open Go.RowKit (Below)
variable {P:Program} {w0:Base} {w:World} {N kp:Nat} {σ:Nat→RefI} {s:S} {tms:Array Value} {ρ:Operand→Value} {al:Nat→Prop} {Γ:List Fn}
def isW:Blk→Bool
 | .reg=>true
 | .wob=>true
 | _=>false
def dzz:List Kd→List A→Bool
 | [],[]=>true
 | k :: ks,.c k' _ :: as=>aqr k && (k == k') && dzz ks as
 | _,_=>false
def opW (P:Program) (o:Oper) (hp:Nat→Blk) (v:Operand→A):Option Out :=
 match o.op with
 | .indexAddr t x i=>match slE P t,v x,v i with
  | some (e,E),.rg r (.slice t') c,.c (.int _) n=>if isW (hp r) && (t' == e) then some ⟨0≤n.toInt∧n.toInt < (c.toSl.length:Int),True,.rp r E.kinds (eg c.toSl n.toInt.toNat) 0,hp,true⟩ else none
  | _,_,_=>none
 | .fieldAddr t x f=>match tyI P t,v x with
  | some T,.rp r ks cells off=>if isW (hp r) then (T.fields[f]?).map fun p=>⟨True,True,.rp r (ks.drop p.1) cells (off+p.1),hp,true⟩ else none
  | _,_=>none
 | .load t x=>match slE P t,v x with
  | some (e,_),.rp r ks cells off=>if isW (hp r) && (ks.headD .other == .slice e) then some ⟨True,True,.rg r (.slice e) (nrm (.slice e) (cg cells off)),hp,true⟩ else none
  | _,_=>none
 | .call c=>match c.callee with
  | .builtin .len=>match c.args.toList,c.argTypes.toList with
   | [x],[t]=>match v x,(slE P t).isSome with
    | .rg r (.slice _) cc,true=>if isW (hp r) then some ⟨True,(cc.toSl.length:Int)≤140737488355328,ki .i64 cc.toSl.length,hp,true⟩ else none
    | _,_=>none
   | _,_=>none
  | _=>none
 | .store t x y=>match tyI P t,v x with
  | some T,.rp r ks cells off=>if isW (hp r) && (dzz (ks.take T.kinds.length) (ajd (v y)) && (decide (T.kinds.length≤ks.length))) then some ⟨True,True,.unk,upd hp r .wob,false⟩ else none
  | _,_=>none
 | _=>none
theorem SimV.trans {a b c:Value} (h1:SimV a b) (h2:SimV b c):SimV a c:=by
 rcases h1 with rfl | ⟨x,y,rfl,rfl⟩ | ⟨k,n,m,rfl,rfl,hr⟩ | ⟨x,y,rfl,rfl,hs⟩
 ·exact h2
 ·rcases h2 with rfl | ⟨x',y',e,rfl⟩ | ⟨_,_,_,e,_⟩ | ⟨_,_,e,_⟩
  ·exact .inr (.inl ⟨_,_,rfl,rfl⟩)
  ·exact .inr (.inl ⟨_,_,rfl,rfl⟩)
  ·cases e
  ·cases e
 ·rcases h2 with rfl | ⟨x',y',e,_⟩ | ⟨k',n',m',e,rfl,_⟩ | ⟨_,_,e,_⟩
  ·exact .inr (.inr (.inl ⟨_,_,_,rfl,rfl,hr⟩))
  ·cases e
  ·cases e;exact .inr (.inr (.inl ⟨_,_,_,rfl,rfl,hr⟩))
  ·cases e
 ·rcases h2 with rfl | ⟨x',y',e,_⟩ | ⟨k',n',m',e,_,_⟩ | ⟨_,_,e,rfl,_⟩
  ·exact .inr (.inr (.inr ⟨_,_,rfl,rfl,hs⟩))
  ·cases e
  ·cases e
  ·cases e;exact .inr (.inr (.inr ⟨_,_,rfl,rfl,hs⟩))
def gkr (P:Program) (o:Oper) (s:S) (K:S→Prop):Prop :=
 match o.guard with
 | none=>match opW P o s.hp (aj8 s.tm) with
  | some r=>ajc s.tm o.op.operands.toList∧r.pre∧(r.fact→K ⟨updD s.tm o.dst r.val,r.hp⟩)
  | none=>False
 | some _=>False
end Go.AE
/-
 All that a state holds becomes one region (for functions that were handed all their data, and that write on them).
-/
namespace Go.AE
open Go.RowKit (Below)
variable {P:Program} {w0:Base} {w:World} {N kp:Nat} {σ:Nat→RefI} {s:S} {tms:Array Value} {ρ:Operand→Value} {al:Nat→Prop} {Γ:List Fn} {a b c:Code} {Q:Exit→S→Prop}
mutual
def colA (r:Nat) (hp:Nat→Blk):A→A
 | .c k x=>if aqr k then .c k x else .rg r k x
 | .agg xs=>.agg (fyy r hp xs)
 | .nilsl=>.nilsl
 | .own id ks off len=>match hp id with
  | .row t es=>.rg r (.slice t) (.slice ((es.drop off).take len))
  | .frz t es=>.rg r (.slice t) (.slice ((es.drop off).take len))
  | _=>.unk
 | .box id off=>match hp id with
  | .box _=>.box id off
  | _=>.unk
 | _=>.unk
def fyy (r:Nat) (hp:Nat→Blk):List A→List A
 | []=>[]
 | a :: as=>colA r hp a :: fyy r hp as
end
def colB (r:Nat) (hp:Nat→Blk):Blk→Blk
 | .row _ _=>.gone
 | .frz _ _=>.gone
 | .box cells=>.box (fyy r hp cells)
 | b=>b
def gkh (r:Nat) (hp:Nat→Blk):Nat→Blk:=fun id=>if id=r then .reg else colB r hp (hp id)
mutual
def rgOnly:A→Bool
 | .c k _=>aqr k
 | .rg _ _ _=>true
 | .agg xs=>dye xs
 | .nilsl=>true
 | _=>false
def dye:List A→Bool
 | []=>true
 | a :: as=>rgOnly a && dye as
end
theorem dz0:∀ {as:List A},dye as=true→∀ i,i < as.length→rgOnly (as.getD i .unk)=true
 | [],_,i,hi=>by simp at hi
 | a :: as,h,0,_=>by simp only [dye,jg] at h;simpa using h.1
 | a :: as,h,i+1,hi=>by simp only [dye,jg] at h;simpa using dz0 h.2 i (by simpa using hi)
theorem ARel.rgOnly {al':Nat→Prop} {v:Value} {x:A} (h:ARel P w al σ v x) (hx:rgOnly x=true):ARel P w al' σ v x:=by
 induction h with
 | c k v x h=>exact .c _ _ _ (h.scalar (by simpa [Go.AE.rgOnly] using hx))
 | nilsl=>exact .nilsl
 | agg vs xs hl h ih=>exact .agg vs xs hl (fun i hi=>ih i hi (dz0 (by simpa [Go.AE.rgOnly] using hx) i hi))
 | rg v id k x W Q h hr=>exact .rg v id k x W Q h hr
 | rgGone v id k x h=>exact .rgGone v id k x h
 | _=>simp [Go.AE.rgOnly] at hx
end Go.AE
/-
 Functions whose results are new: their contracts, out of what they do when all their data are a region.
-/
namespace Go.AE
open Go.RowKit (Below)
variable {P:Program} {w0:Base} {w:World} {N kp:Nat} {σ:Nat→RefI} {s:S} {tms:Array Value} {al:Nat→Prop}
end Go.AE
/-
 A slice built of what lies in a region: with its own block, it is a region again.
-/
namespace Go.AE
open Go.RowKit (Below)
variable {P:Program} {w0:Base} {w:World} {N kp:Nat} {σ:Nat→RefI} {s:S} {tms:Array Value} {ρ:Operand→Value} {al:Nat→Prop}
mutual
def gkw (r:Nat):A→A
 | .c k x=>if aqr k then .c k x else .unk
 | .rg id k x=>if id == r then .c k x else .unk
 | .agg xs=>.agg (gw2 r xs)
 | .nilsl=>.nilsl
 | _=>.unk
def gw2 (r:Nat):List A→List A
 | []=>[]
 | a :: as=>gkw r a :: gw2 r as
end
end Go.AE
/-
 A slice of pointers to boxes' cells: measured, indexed at a known place.
-/
namespace Go.AE
open Go.RowKit (Below)
variable {P:Program} {w0:Base} {w:World} {N kp:Nat} {σ:Nat→RefI} {s:S} {tms:Array Value} {ρ:Operand→Value} {al:Nat→Prop}
def gky (P:Program) (o:Oper) (s:S) (K:S→Prop):Prop :=
 match o.guard,o.op with
 | none,.buildSlice t n parts=>match bsP P t n (parts.toList.map fun p=>(p.1,aj8 s.tm p.2)) o.dst s.hp with
  | some q=>ajc s.tm o.op.operands.toList∧q.pre∧(q.fact→K ⟨updD s.tm o.dst q.val,q.hp⟩)
  | none=>False
 | _,_=>False
def bsO (P:Program) (o:Op) (v:Operand→A) (hp:Nat→Blk):Option Out :=
 match o with
 | .indexAddr t x i=>match slE P t,v x,v i with
  | some (_,E),.bsl id len,.c (.int _) n=>if E.kinds.length == 1 then some ⟨0≤n.toInt∧n.toInt < (len:Int),True,.box id n.toInt.toNat,hp,false⟩ else none
  | _,_,_=>none
 | .call ⟨.builtin .len,args,argTypes⟩=>match args.toList,argTypes.toList with
  | [x],[t]=>match slE P t,v x with
   | some _,.bsl _ len=>some ⟨(len:Int)≤1000,True,ki .i64 len,hp,false⟩
   | _,_=>none
  | _,_=>none
 | _=>none
theorem fyj {o:Oper} {q:Out} {v:Operand→A} (h:RelL P w0 N σ s tms w) (hf:bsO P o.op v s.hp=some q) (hp:q.pre)
  (hv:∀ x,x∈o.op.operands→ARel P w (Al w0 w σ s.hp) σ (ρ x) (v x)):OpOk P w0 N s tms o ρ w q:=by
 unfold bsO at hf
 split at hf
 ·rename_i t x i ho
  split at hf
  ·rename_i e E id len k n hs hvx hvi
   split at hf
   ·rename_i hk
    rw [beq_iff_eq] at hk
    simp only [jb] at hf;subst hf
    obtain ⟨hu,hE⟩:=ajx hs
    have hx:=hv x (by rw [ho];simp [je])
    have hi:=hv i (by rw [ho];simp [je])
    rw [hvx] at hx
    rw [hvi] at hi
    obtain ⟨hie,_⟩:=hi.int_inv
    generalize hux:ρ x=u at hx
    cases hx with
    | bsl _ _ b cap hb =>
     have hr:=bzx (w:=w) hu hE k n.toInt b 0 len cap hp
     rw [hk,Nat.mul_one,Nat.zero_add] at hr
     refine OpOk.pure h (v:=.pointer (some ⟨b,n.toInt.toNat,none⟩)) ?_ trivial rfl (.box _ _ b hb)
     simp only [execOp,ho]
     rw [hux,hie]
     exact aje hr
   ·cases hf
  ·cases hf
 ·rename_i args argTypes ho
  split at hf
  ·rename_i x t hax hat
   split at hf
   ·rename_i eE id len hs hvx
    simp only [jb] at hf;subst hf
    obtain ⟨e,E⟩:=eE
    obtain ⟨hu,hE⟩:=ajx hs
    have e1:=ajb hax
    have e2:=ajb hat
    subst e1 e2
    have hx:=hv x (by rw [ho];simp [je,Call.operands])
    rw [hvx] at hx
    generalize hux:ρ x=u at hx
    cases hx with
    | bsl _ _ b cap hb =>
     have hp':(len:Int)≤1000:=hp
     refine OpOk.pure h (v:=.int .i64 (len:Int)) ?_ trivial rfl (ARel.mk_int (dq1 (by omega)))
     simp only [execOp,ho]
     have hr:=run_len_slice (w:=w) hu o.type (some ⟨b,0,none⟩) len cap
     refine aje (x:=Builtin.len_ #[t] o.type (#[x].map ρ)) ?_
     simpa [hux] using hr
   ·cases hf
  ·cases hf
 ·cases hf
def dka (P:Program) (o:Oper) (s:S) (K:S→Prop):Prop :=
 match o.guard with
 | none=>match bsO P o.op (aj8 s.tm) s.hp with
  | some q=>ajc s.tm o.op.operands.toList∧q.pre∧(q.fact→K ⟨updD s.tm o.dst q.val,q.hp⟩)
  | none=>False
 | _=>False
theorem cj5:az4 P (dka P):=by
 intro N ops o s K hok h
 unfold dka at h
 split at h
 ·rename_i hg
  split at h
  ·rename_i q hop
   obtain ⟨hn,hp,hK⟩:=h
   obtain ⟨_,ho⟩:=aq2 hok
   refine bqo hg hok q (fun w0 a w σ hR=>?_) hK
   exact fyj hR hop hp (fun x hx=>ajs hR (ho x hx) (ajk hn x (jx.2 hx)))
  ·exact h.elim
 ·exact h.elim
end Go.AE
/-
 Slices that are known to be nil, within a made row; a row's cell that is lent while it is nil.
-/
namespace Go.AE
open Go.RowKit (Below)
variable {P:Program} {w0:Base} {w:World} {N kp:Nat} {σ:Nat→RefI} {s:S} {tms:Array Value} {ρ:Operand→Value} {al:Nat→Prop}
theorem fja {K id:Nat} {B':Blk} (hnf:¬ akb (s.hp id)) (h:∀ (w:World) (B al:Nat→Prop) (σ:Nat→RefI),BRel P w B al σ id (s.hp id)→BRel P w B al σ id B'):Weak P K s ⟨s.tm,upd s.hp id B'⟩:=by
 rintro w0 N tms w _ ⟨σ,hR⟩
 have hal:∀ c,Al w0 w σ s.hp c→Al w0 w σ (upd s.hp id B') c:=by
  intro c hc
  refine ⟨hc.1,fun q hq=>?_,hc.2.2⟩
  have:=hc.2.1 q hq
  by_cases e:q=id
  ·subst e;exact absurd this hnf
  ·simp only [upd,e,if_false];exact this
 refine ⟨σ,hR.change hR.below (Nat.le_refl _) hal (fun _ _=>rfl) (fun _ _=>.inl rfl) (fun q=>?_) hR.inj⟩
 by_cases e:q=id
 ·subst e
  refine .inr ?_
  have e0:upd s.hp q B' q=B':=by simp [upd]
  rw [e0]
  exact h _ _ _ _ ((hR.blks q).mono (fun _ _=>rfl) hal (fun _ _=>.inl rfl) rfl (fun _ _=>rfl))
 ·exact .inl ⟨rfl,by simp [upd,e],fun _ _=>rfl⟩
theorem fqe {K id i:Nat} {t u:TypeId} {es:List (List C)} (hb:s.hp id = .row t es) (hz:eg es i=[.z]) (hk:(tyI P t).map TyI.kinds=some [.slice u]):Weak P K s ⟨s.tm,upd s.hp id (.rl t es i 0 .nilsl)⟩:=by
 refine fja (by rw [hb];exact fun h=>h) (fun w B al σ h=>?_)
 rw [hb] at h
 obtain ⟨E,hE,hby,hB⟩:=h
 have hkk:E.kinds=[.slice u]:=by rw [hE] at hk;simpa using hk
 refine ⟨E,hE,hby,hB.imp (fun x=>x) ?_⟩
 rintro ⟨b,cap,cur,tg,q1,q2,q3,q4,q5,q6,q7,q8⟩
 refine ⟨b,cap,cur,tg,q1,q2,q3,q4,q5,q6,q7,fun i' hi' j' hj' _=>q8 i' hi' j' hj',fun hi=>⟨by simp [hkk],?_⟩⟩
 have:=q8 i hi 0 (by simp [hkk])
 generalize cur.getD (i * E.kinds.length+0) undef=v at this ⊢
 rw [hz,hkk] at this
 simp only [List.getD_cons_zero,cg_zero] at this
 cases this with
 | empty _ _ a cap h hz=>obtain ⟨rfl,rfl⟩:=hz rfl;exact .nilsl
 | slice _ _ _ _ _ hz=>exact absurd rfl hz
def nrmL:List Kd→List C→List C
 | k :: ks,c :: cs=>nrm k c :: nrmL ks cs
 | _,cs=>cs
theorem dko:∀ (ks:List Kd) (cs:List C),(nrmL ks cs).length=cs.length
 | [],_=>by simp [nrmL]
 | _ :: _,[]=>rfl
 | k :: ks,c :: cs=>by simp [nrmL,dko ks cs]
theorem fys:∀ (ks:List Kd) (cs:List C) (j:Nat),j < ks.length→j < cs.length→cg (nrmL ks cs) j=nrm (ks.getD j .other) (cg cs j)
 | [],_,j,h,_=>by simp at h
 | _ :: _,[],j,_,h=>by simp at h
 | k :: ks,c :: cs,0,_,_=>by simp [nrmL]
 | k :: ks,c :: cs,j+1,h,h'=>by
  simp only [nrmL,cg_succ,List.getD_cons_succ]
  exact fys ks cs j (by simpa using h) (by simpa using h')
theorem gq2 {K id:Nat} {t:TypeId} {es:List (List C)} {E:TyI} (hb:s.hp id = .row t es) (hE:tyI P t=some E):Weak P K s ⟨s.tm,upd s.hp id (.row t (es.map (nrmL E.kinds)))⟩:=by
 refine fja (by rw [hb];exact fun h=>h) (fun w B al σ h=>?_)
 rw [hb] at h
 obtain ⟨E',hE',hby,hB⟩:=h
 rw [hE] at hE';simp only [jb] at hE';subst hE'
 refine ⟨E,hE,by simpa using hby,?_⟩
 rcases hB with ⟨h1,h2⟩ | ⟨b,cap,cur,tg,q1,q2,q3,q4,q5,q6,q7,q8⟩
 ·exact .inl ⟨h1,by simp [h2]⟩
 ·have he:∀ i,i < es.length→eg (es.map (nrmL E.kinds)) i=nrmL E.kinds (eg es i):=fun i hi=>by
   simp [eg,ja,hi]
  refine .inr ⟨b,cap,cur,tg,by simpa using q1,q2,q3,by simpa using q4,q5,q6,fun i hi=>?_,fun i hi j hj=>?_⟩
  ·rw [jH] at hi
   rw [he i hi,dko];exact q7 i hi
  ·rw [jH] at hi
   rw [he i hi,fys _ _ _ hj (by rw [q7 i hi];exact hj)]
   exact (q8 i hi j hj).nrm
def gju (P:Program) (d:Option Nat) (t:TypeId) (hp:Nat→Blk) (l c:A):Option Out :=
 match d,slE P t,l,c with
 | some d,some (e,E),.c (.int _) l,.c (.int _) c=>match E.kinds with
  | [.slice _]=>if aq9 (hp (key d 0)) then
   some ⟨0≤l.toInt∧l.toInt≤c.toInt∧c.toInt * E.bytes≤140737488355328,True,.own (key d 0) E.kinds 0 l.toInt.toNat,upd hp (key d 0) (.row e (aqt l.toInt.toNat [.z])),false⟩
   else none
  | _=>none
 | _,_,_,_=>none
theorem eyn {o:Oper} {t:TypeId} {l c:Operand} {a b0:A} {r:Out} (h:RelL P w0 N σ s tms w) (hf:gju P o.dst t s.hp a b0=some r) (ho:o.op = .makeSlice t l c) (hp:r.pre) (hx:ARel P w (Al w0 w σ s.hp) σ (ρ l) a) (hy:ARel P w (Al w0 w σ s.hp) σ (ρ c) b0):OpOk P w0 N s tms o ρ w r:=by
 unfold gju aqt at hf
 split at hf
 ·rename_i d e E k1 x k2 y hdst hs
  split at hf
  ·rename_i u hkk
   split at hf
   ·rename_i hd
    simp only [jb] at hf;subst hf
    obtain ⟨h0,h1,h2⟩:=hp
    obtain ⟨hu,hE⟩:=ajx hs
    obtain ⟨S⟩:=ajp hE
    obtain ⟨hxe,_⟩:=hx.int_inv
    obtain ⟨hye,_⟩:=hy.int_inv
    have hbpos:=S.pos
    have hc0:0≤y.toInt:=by omega
    have hy1:y.toInt * 1≤y.toInt * E.bytes:=Int.mul_le_mul_of_nonneg_left (by omega) hc0
    have hk1:E.kinds.length=1:=by rw [hkk];rfl
    have hrun:=run_make (P:=P) w t e S.i S.z hu S.info S.zero k1 k2 x.toInt y.toInt h0 h1 (by rw [S.bytes,Int.mul_comm];omega) (by omega)
    have hcast:((y.toInt.toNat:Nat):Int)=y.toInt:=by omega
    have hcells:madeCells S.z.cells (y.toInt.toNat * S.i.size)=(jN (y.toInt.toNat * E.kinds.length)).map (S.z.cells[· % S.z.cells.size]!):=by rw [S.size];rfl
    rw [hcells] at hrun
    obtain ⟨z0,hz0,hzn⟩:∃ z0,S.z.cells.toList=[z0]∧z0 = .slice none 0 0:=by
     have hf:=S.zfits
     rw [hkk] at hf
     match hl:S.z.cells.toList,hf with
     | [],hf=>simp [awu] at hf
     | [z0],hf =>
      refine ⟨z0,rfl,?_⟩
      simp only [awu,Bool.and_true] at hf
      unfold bk4 at hf
      split at hf <;> first | rfl | (simp at *;done) | contradiction
     | _ :: _ :: _,hf=>simp [awu] at hf
    have hzs:S.z.cells.size=1:=by
     have:=congrArg List.length hz0
     simpa using this
    have hza:S.z.cells[0]? = some (.slice none 0 0):=by
     have:S.z.cells = #[z0]:=Array.toList_inj.1 (by simpa using hz0)
     rw [this,hzn];rfl
    have hR:=ew1 (tg:=e) (cells:=(jN (y.toInt.toNat * E.kinds.length)).map (S.z.cells[· % S.z.cells.size]!)) (es:=jC x.toInt.toNat [.z]) (cap:=y.toInt.toNat) h hd hE (by
      rw [jT]
      have:((x.toInt.toNat:Nat):Int) * E.bytes≤y.toInt * E.bytes:=Int.mul_le_mul_of_nonneg_right (by omega) (by omega)
      omega) (by rw [jT];omega) (djn S.pos (by rw [hcast];exact h2)) (by simp) (fun i hi=>by
      simp only [jT] at hi
      simp [eg,ja,hi,hk1]) (fun i hi j hj=>by
      simp only [jT] at hi
      have hj0:j=0:=by omega
      subst hj0
      have hi2:i < y.toInt.toNat:=by omega
      have e1:eg (jC x.toInt.toNat [C.z]) i=[.z]:=by simp [eg,ja,hi]
      have e2:((jN (y.toInt.toNat * E.kinds.length)).map (S.z.cells[· % S.z.cells.size]!)).getD (i * E.kinds.length+0) undef = .slice none 0 0:=by
       have h3:S.z.cells[0]! = .slice none 0 0:=by rw [getElem!_def,hza]
       simp only [Array.getD_eq_getD_getElem?,hk1,Array.getElem?_map,Nat.mul_one,Nat.add_zero,Array.getElem?_range,hi2,if_true,Option.map_some,Option.getD_some,hzs,Nat.mod_one,h3]
      rw [e1,e2,hkk]
      exact .empty _ _ _ _ rfl (fun _=>⟨rfl,rfl⟩))
    refine .inl ⟨.slice (some ⟨w.heap.size,0,none⟩) x.toInt.toNat y.toInt.toNat,_,?_,trivial,_,hR,?_⟩
    ·simp only [execOp,ho,hxe,hye]
     exact aje hrun
    ·have:=ARel.own0 (F:=fun _=>False) (P:=P) (w:=w.alloc (.cells ((jN (y.toInt.toNat * E.kinds.length)).map (S.z.cells[· % S.z.cells.size]!)) e (0,0)))
      (al:=Al w0 (w.alloc (.cells ((jN (y.toInt.toNat * E.kinds.length)).map (S.z.cells[· % S.z.cells.size]!)) e (0,0))) (upd σ (key d 0) (.row w.heap.size y.toInt.toNat e E.kinds (jC x.toInt.toNat [C.z]).length)) (upd s.hp (key d 0) (.row e (jC x.toInt.toNat [.z]))))
      (σ:=upd σ (key d 0) (.row w.heap.size y.toInt.toNat e E.kinds (jC x.toInt.toNat [C.z]).length)) (key d 0) E.kinds x.toInt.toNat w.heap.size y.toInt.toNat (jC x.toInt.toNat [C.z]).length e (by simp [upd]) (by simp)
     exact this
   ·cases hf
  ·cases hf
 ·cases hf
def fyw (P:Program) (o:Oper) (s:S) (K:S→Prop):Prop :=
 match o.guard,o.op with
 | none,.makeSlice t l c=>match gju P o.dst t s.hp (aj8 s.tm l) (aj8 s.tm c) with
  | some q=>ajc s.tm o.op.operands.toList∧q.pre∧(q.fact→K ⟨updD s.tm o.dst q.val,q.hp⟩)
  | none=>False
 | _,_=>False
theorem fk8:az4 P (fyw P):=by
 intro N ops o s K hok h
 unfold fyw at h
 split at h
 ·rename_i t l c hg hoo
  split at h
  ·rename_i q hop
   obtain ⟨hn,hp,hK⟩:=h
   obtain ⟨_,ho⟩:=aq2 hok
   refine bqo hg hok q (fun w0 a w σ hR=>?_) hK
   have hl:l∈o.op.operands:=by rw [hoo];simp [je]
   have hc:c∈o.op.operands:=by rw [hoo];simp [je]
   exact eyn hR hop hoo hp (ajs hR (ho l hl) (ajk hn l (jx.2 hl))) (ajs hR (ho c hc) (ajk hn c (jx.2 hc)))
  ·exact h.elim
 ·exact h.elim
end Go.AE
/-
 Zero bytes appended to a row of the caller's own ('append(b, make([]byte, n)...)').
-/
namespace Go.AE
open Go.RowKit (Below)
variable {P:Program} {w0:Base} {w:World} {N kp:Nat} {σ:Nat→RefI} {s:S} {tms:Array Value} {ρ:Operand→Value} {al:Nat→Prop}
theorem gzy {e:TypeId} {E:TyI} (S:fy5 P e E) (hk:E.kinds=[.int .u8]):S.z.cells = #[.int .u8 0]:=by
 have hf:=S.zfits
 rw [hk] at hf
 match hl:S.z.cells.toList,hf with
 | [],hf=>simp [awu] at hf
 | [z0],hf =>
  simp only [awu,Bool.and_true] at hf
  have:S.z.cells = #[z0]:=Array.toList_inj.1 (by simpa using hl)
  rw [this]
  cases z0 <;> simp [bk4] at hf
  obtain ⟨h1,h2⟩:=hf
  rw [h1,h2]
 | _ :: _ :: _,hf=>simp [awu] at hf
theorem dq7 {t u tn e:TypeId} {E:TyI} (hs:slE P t=some (e,E)) (hU:P.underlying u=some .string) {kn:IntKind} (hN:P.underlying tn=some (.int kn)) (hk:E.kinds=[.int .u8]) (ty:TypeId) (k:IntKind) (b:Option Addr) (len cap n:Nat)
  (hle:len≤cap) (hby:(len+n) * E.bytes≤140737488355328) (q:ByteArray) (hsize:q.size=n) (hext:Builtin.firstCells 1 n (.string q)=pure (Builtin.zeroCells #[.int .u8 0] n)) :
  (Builtin.append_ #[t,tn] ty #[.slice b len cap,.int k n]).run P w=(Builtin.append_ #[t,u] ty #[.slice b len cap,.string q]).run P w:=by
 obtain ⟨hu,hE⟩:=ajx hs
 obtain ⟨S⟩:=ajp hE
 have hz:=gzy S hk
 have hsz:S.i.size=1:=by rw [S.size,hk];rfl
 have hpos:=S.pos
 have hnb:n * E.bytes≤140737488355328:=Nat.le_trans (Nat.mul_le_mul_right _ (by omega)) hby
 have hn1:len+n≤140737488355328:=by
  have:(len+n) * 1≤(len+n) * E.bytes:=Nat.mul_le_mul_left _ (by omega)
  omega
 have hw:IntKind.i64.wrap (n:Int)=n:=by rw [IntKind.wrap_i64];omega
 have hneg:¬ ((n:Int) < 0):=by omega
 have h48:¬ (281474976710656 < (n:Int) * (S.i.bytes:Int)):=by rw [S.bytes,← Int.natCast_mul];omega
 have h63:¬ (9223372036854775807 < ((len:Int)+(n:Int))):=by omega
 have hzz:n=0→Builtin.zeroCells #[Value.int .u8 0] n = #[]:=by
  intro h;subst h;simp [Builtin.zeroCells]
 by_cases hroom:len+n≤cap
 ·by_cases h0:n=0
  ·have hz0:=hzz h0
   subst h0
   have hw0:IntKind.i64.wrap 0=0:=by decide
   simp [hw0,Builtin.append_,run_underlying hu,run_underlying hU,run_underlying hN,sizeOf,typeInfo,zeroValue,S.info,S.zero,asInt,asIntOf,hw,hneg,h48,hsz,hz,Builtin.lenOf,hsize,hext,hroom,hz0,storeCells]
   cases b <;> simp [storeCells,hroom,show len≤cap from hle]
  ·simp [Builtin.append_,run_underlying hu,run_underlying hU,run_underlying hN,sizeOf,typeInfo,zeroValue,S.info,S.zero,asInt,asIntOf,hw,hneg,h48,hsz,hz,Builtin.lenOf,hsize,hext,hroom,h0]
 ·have hfit:¬ (281474976710656 < Builtin.nextslicecap (len+n) cap * S.i.bytes):=by
   have:=growslice_fits (need:=len+n) (old:=cap) (by omega) hby
   rw [S.bytes];omega
  have h0:n≠0:=by omega
  simp [Builtin.append_,run_underlying hu,run_underlying hU,run_underlying hN,sizeOf,typeInfo,zeroValue,S.info,S.zero,asInt,asIntOf,hw,hneg,h48,h63,hsz,hz,Builtin.lenOf,hsize,hext,hroom,h0,hfit]
theorem eye (n:Nat):Builtin.firstCells 1 n (.string ⟨(jC n (0:UInt8)).toArray⟩)=pure (Builtin.zeroCells #[.int .u8 0] n):=by
 simp only [Builtin.firstCells]
 congr 1
 apply Array.toList_inj.1
 apply List.ext_getElem
 ·simp [Builtin.zeroCells]
 ·intro i h1 h2
  simp [Builtin.zeroCells,Nat.mod_one]
def appZ (P:Program) (u t tn:TypeId) (d:Option Nat) (hp:Nat→Blk) (x y:A):Option Out :=
 match slE P t,P.underlying u,P.underlying tn,d,x,y with
 | some (e,E),some .string,some (.int _),some d,.own id ks 0 len,.c (.int _) n=>match E.kinds,hp id with
  | [.int .u8],.row t' es=>if (t' == e) && aq9 (hp (key d 0)) then
    some ⟨0≤n.toInt∧len≤es.length∧((len+n.toInt.toNat:Nat):Int) * E.bytes≤140737488355328,True,.own (key d 0) ks 0 (len+n.toInt.toNat),upd (upd hp id .gone) (key d 0) (.row e (es.take len ++ aqt n.toInt.toNat [.int 0])),false⟩ else none
  | _,_=>none
 | _,_,_,_,_,_=>none
theorem eq0 (n:Nat):row8 (jC n 0)=aqt n [.int 0]:=by simp [row8,aqt]
theorem fz3 {o:Oper} {r:Out} {u t tn:TypeId} {x y:Operand} {a b:A} (h:RelL P w0 N σ s tms w) (hf:appZ P u t tn o.dst s.hp a b=some r) (ho:o.op = .call ⟨.builtin .append,#[x,y],#[t,tn]⟩) (hp:r.pre)
  (hx:ARel P w (Al w0 w σ s.hp) σ (ρ x) a) (hy:ARel P w (Al w0 w σ s.hp) σ (ρ y) b):OpOk P w0 N s tms o ρ w r:=by
 unfold appZ at hf
 split at hf
 ·rename_i e E kn d id ks len k n hs hU hN hdst
  split at hf
  ·rename_i t' es hk hb
   split at hf
   ·rename_i hc
    simp only [jg,beq_iff_eq] at hc
    obtain ⟨rfl,hd⟩:=hc
    simp only [jb] at hf;subst hf
    obtain ⟨h0,h1,h2⟩:=hp
    obtain ⟨hye,_⟩:=hy.int_inv
    have hlv:live s.hp id=true:=by unfold live;simp [hb]
    obtain ⟨⟨sa,sc,hxs⟩,_⟩:=cjs h hlv hx
    have hlc:len≤sc:=by
     obtain ⟨t2,es2,hb2,hle,⟨E2,hE2,hks⟩,hbd,hv⟩:=azd h hlv hx
     rcases hv with ⟨hv,h3,_⟩ | ⟨_,ho,_⟩ | ⟨b,cap,c,hg,hv,hc0,hlc⟩
     ·omega
     ·exact absurd rfl ho
     ·rw [hxs] at hv
      simp only [Value.slice.injEq] at hv
      omega
    have hl:(row8 (jC n.toInt.toNat 0)).length=n.toInt.toNat:=by simp [row8]
    obtain ⟨q,w',hr,σ',hR,hv⟩:=by3 (l:=jC n.toInt.toNat 0) h hs hU hk hd hb h1 (by rw [hl];exact h2) hx o.type
    rw [hl,eq0] at hv
    rw [eq0] at hR
    refine .inl ⟨q,w',?_,trivial,σ',hR,hv⟩
    simp only [execOp,ho]
    refine aje (x:=Builtin.append_ #[t,tn] o.type (#[x,y].map ρ)) ?_
    have hcast:n.toInt=((n.toInt.toNat:Nat):Int):=(Int.toNat_of_nonneg h0).symm
    have:=dq7 (w:=w) hs hU hN hk o.type k sa len sc n.toInt.toNat hlc (by have h3:=h2;rw [← Int.natCast_mul] at h3;omega) ⟨(jC n.toInt.toNat (0:UInt8)).toArray⟩ (show (jC n.toInt.toNat (0:UInt8)).toArray.size=_ by simp) (eye _)
    rw [hxs] at hr
    rw [← this,← hcast] at hr
    simp only [List.map_toArray,Jf,List.map_nil,hxs,hye]
    exact hr
   ·cases hf
  ·cases hf
 ·cases hf
def fk4 (u:TypeId) (P:Program) (o:Oper) (s:S) (K:S→Prop):Prop :=
 match o.guard,o.op with
 | none,.call ⟨.builtin .append,args,ats⟩=>match args.toList,ats.toList with
  | [x,y],[t,tn]=>match appZ P u t tn o.dst s.hp (aj8 s.tm x) (aj8 s.tm y) with
   | some q=>ajc s.tm o.op.operands.toList∧q.pre∧(q.fact→K ⟨updD s.tm o.dst q.val,q.hp⟩)
   | none=>False
  | _,_=>False
 | _,_=>False
theorem fkb (u:TypeId):az4 P (fk4 u P):=by
 intro N ops o s K hok h
 unfold fk4 at h
 split at h
 ·rename_i args ats hg hoo
  split at h
  ·rename_i x y t tn hax hat
   split at h
   ·rename_i q hop
    obtain ⟨hn,hp,hK⟩:=h
    obtain ⟨_,ho⟩:=aq2 hok
    have e1:=ajb hax
    have e2:=ajb hat
    subst e1 e2
    refine bqo hg hok q (fun w0 a w σ hR=>?_) hK
    have hx:x∈o.op.operands:=by rw [hoo];simp [je,Call.operands]
    have hy:y∈o.op.operands:=by rw [hoo];simp [je,Call.operands]
    exact fz3 hR hop hoo hp (ajs hR (ho x hx) (ajk hn x (jx.2 hx))) (ajs hR (ho y hy) (ajk hn y (jx.2 hy)))
   ·exact h.elim
  ·exact h.elim
 ·exact h.elim
def litI:List (List C)→List Int
 | []=>[]
 | x :: l=>(cg x 0).toInt :: litI l
theorem gjc:litI []=[]:=rfl
theorem fzx (x:List C) (l:List (List C)):litI (x :: l)=(cg x 0).toInt :: litI l:=rfl
theorem gww (x:List C) (l:List (List C)) (i:Nat):(cg (eg (x :: l) i) 0).toInt=gt (litI (x :: l)) i:=by
 have h:∀ (l:List (List C)) (i:Nat),(cg (eg l i) 0).toInt=gt (litI l) i:=by
  intro l
  induction l with
  | nil=>intro i;simp [eg,gt,litI,cg,C.toInt]
  | cons a l ih =>
   intro i
   cases i with
   | zero=>simp [eg,gt,litI]
   | succ i=>simpa [eg,gt,litI] using ih i
 exact h _ _
theorem gwp (x:List C) (l:List (List C)):str8 (x :: l)=bje (litI (x :: l)):=by
 have h:∀ l:List (List C),str8 l=bje (litI l):=by
  intro l
  induction l with
  | nil=>rfl
  | cons a l ih=>simp only [str8,bje,litI,Jf] at ih ⊢;rw [ih]
 exact h _
end Go.AE
