/- Text. -/
import Derived.Test.YtijnkhcfondehaaGreatDoorAE44
import Derived.Test.YtijnkhcfondehaaGreatDoorAE41
set_option linter.unusedSimpArgs false
set_option linter.unusedVariables false
open _root_.Array renaming mem_toList_iff→jB,mem_append→JK,getElem?_eq_some_iff→jv,getD_eq_getD_getElem?→jh
open _root_.Bool renaming and_eq_true→jf,false_eq_true→jj
open _root_.List renaming length_pos_iff→JO,mem_singleton→Jp,getD_eq_getElem?_getD→ja,getElem_mem→jw,length_nil→jW,all_eq_true→jE,getElem?_eq_none→jP
open _root_.Nat renaming zero_le→JW,zero_add→Jn,add_zero→Ji,add_assoc→Ju,lt_or_ge→jD
open Go.Op renaming operands→jg
open _root_.Option renaming map_some→jY,isSome_iff_exists→jZ
open _root_.Option.some renaming injEq→jb
open Go.Result renaming andThen_ok→ju
namespace Go.AE
open Go.RowKit (Below)
variable {P:Program} {w0:Base} {w:World} {N kp:Nat} {σ:Nat→RefI} {s:S} {tms:Array Value} {ρ:Operand→Value} {al:Nat→Prop} {Γ:List Fn}
theorem gjp {a:Addr} {v:Value} (h:w.cell? a=some v):∃ vs t z,w.heap[a.block]? = some (.cells vs t z):=by
 unfold World.cell? at h
 cases ho:w.heap[a.block]? with
 | none=>simp [ho] at h
 | some o=>cases o <;> simp_all
def cqi (w:World) (b:Nat):Prop:=∃ vs t z,w.heap[b]? = some (.cells vs t z)
theorem RepC.cells {k:Kd} {v:Value} {x:C} (h:RepC P w al k v x):RepC P w (fun b=>al b∧cqi w b) k v x:=by
 induction h with
 | bool x=>exact .bool x
 | int k x h=>exact .int k x h
 | str x h=>exact .str x h
 | empty t x a cap h=>exact .empty t x a cap h
 | slice t x b off cap E hE hal hlen hcap hel f hcell hrep ih =>
  by_cases he:x.toSl=[]
  ·have:=RepC.empty (P:=P) (w:=w) (Al:=fun b=>al b∧cqi w b) t x (some ⟨b,off,none⟩) cap he
   simpa [he] using this
  ·have h0:0 < x.toSl.length:=JO.2 he
   obtain ⟨SE⟩:=aq5 hE
   exact .slice t x b off cap E hE ⟨hal,gjp (bwk (hcell 0 h0 0 (JO.2 SE.ne)))⟩ hlen hcap hel f hcell ih
 | arr t x vs n e E hA hn hl hel hrep ih=>exact .arr t x vs n e E hA hn hl hel ih
 | ptr t v x=>exact .ptr t v x
 | other v x=>exact .other v x
def bq8:Nat→Blk:=fun _=>.dead
def dj2:Nat→RefI:=fun _=>.dead
def auxB (w:World) (Q:Nat→Prop):Base:=⟨w,Q,fun _=>False,dj2,noMk,0⟩
theorem RelL.aux {Q:Nat→Prop} (h:RelL P w0 N σ s tms w):RelL P (auxB w Q) N dj2 ⟨unkT,bq8⟩ tms w :=
 ⟨azj.refl _ _ _,h.size,fun _=>.unk _,fun _=>rfl,fun id id' b hb=>by simp [dj2,aj4] at hb,fun id h=>absurd rfl h,⟨JW _,fun k o h=>by simp [auxB,noMk] at h⟩⟩
theorem fkm {Q:Nat→Prop} {b:Nat} (h:Al (auxB w Q) w dj2 bq8 b):Q b:=by
 rcases h.2.2 with h1 | h1
 ·rcases h1 with h1 | h1
  ·have:=h.1;simp only [auxB,Base.n] at h1;omega
  ·exact h1.elim
 ·exact h1
theorem gzb {Q:Nat→Prop} {b:Nat} (hb:b < w.heap.size) (h:Q b):Al (auxB w Q) w dj2 bq8 b:=⟨hb,fun id hi=>by simp [dj2,aj4] at hi,.inr h⟩
def eqt:A→Option Nat
 | .rg id _ _=>some id
 | .rp id _ _ _=>some id
 | _=>none
def gwe:A→A
 | .rg _ k x=>.c k x
 | .rp _ ks cells off=>.pp ks cells off
 | _=>.unk
mutual
def tagA (r:Nat):A→A
 | .c k x=>if aqm k then .c k x else .rg r k x
 | .pp ks cells off=>.rp r ks cells off
 | .agg xs=>.agg (ewg r xs)
 | .nilsl=>.nilsl
 | _=>.unk
def ewg (r:Nat):List A→List A
 | []=>[]
 | a :: as=>tagA r a :: ewg r as
end
theorem dkj (r:Nat) (as:List A):(ewg r as).length=as.length:=by
 induction as with
 | nil=>rfl
 | cons a as ih=>simp [ewg,ih]
theorem gjw (r:Nat) (as:List A) (i:Nat):(ewg r as).getD i .unk=tagA r (as.getD i .unk):=by
 induction as generalizing i with
 | nil=>simp [ewg,tagA]
 | cons a as ih =>
  cases i with
  | zero=>simp [ewg]
  | succ i=>simpa [ewg] using ih i
theorem hjg {v:Value} {a:A} {r:Nat} {W:World} {Q:Nat→Prop} (hx:ARel P w al σ v a) (hr:eqt a=some r) (hσ:σ r = .reg W Q) (hq:∀ b,Q b→b < w.heap.size) (hw:∀ b,Q b→w.heap[b]? = W.heap[b]?) :
  ARel P w (Al (auxB w Q) w dj2 bq8) dj2 v (gwe a):=by
 cases hx with
 | rg v id k x W' Q' h h1 =>
  simp only [eqt,jb] at hr;subst hr
  rw [hσ] at h;cases h
  exact .c _ _ _ (h1.mono hw (fun b hb=>gzb (hq b hb) hb))
 | rgGone v id k x h =>
  simp only [eqt,jb] at hr;subst hr
  rw [hσ] at h;cases h
 | rp id ks cells off b o W' Q' h hal f hcell hrep =>
  simp only [eqt,jb] at hr;subst hr
  rw [hσ] at h;cases h
  refine .pp _ _ _ b o (gzb (hq b hal) hal) f (fun j hj=>?_) (fun j hj=>(hrep j hj).mono hw (fun b hb=>gzb (hq b hb) hb))
  rw [← hcell j hj]
  exact bz5 (w:=W) (a:=⟨b,_,none⟩) (hw b hal)
 | rpGone v id ks cells off h =>
  simp only [eqt,jb] at hr;subst hr
  rw [hσ] at h;cases h
 | _=>simp [eqt] at hr
theorem hzd {v:Value} {a:A} {r:Nat} {W:World} {Q:Nat→Prop} (hx:ARel P w (Al (auxB w Q) w dj2 bq8) dj2 v a) (hσ:σ r = .reg W Q) (hw:∀ b,Q b→w.heap[b]? = W.heap[b]?):ARel P w al σ v (tagA r a):=by
 have hm:∀ {k v x},RepC P w (Al (auxB w Q) w dj2 bq8) k v x→RepC P W Q k v x:=fun h=>h.mono (fun b hb=>(hw b (fkm hb)).symm) (fun b hb=>fkm hb)
 induction hx with
 | c k v x h =>
  simp only [tagA]
  split
  ·rename_i hk;exact .c _ _ _ (h.scalar hk)
  ·exact .rg _ _ _ _ W Q hσ (hm h)
 | nilsl=>exact .nilsl
 | agg vs xs hl h ih =>
  simp only [tagA]
  refine .agg vs _ (by rw [dkj];exact hl) (fun i hi=>?_)
  rw [dkj] at hi
  rw [gjw];exact ih i hi
 | pp ks cells off b o hal f hcell hrep =>
  refine .rp _ _ _ _ b o W Q hσ (fkm hal) f (fun j hj=>?_) (fun j hj=>hm (hrep j hj))
  rw [← hcell j hj]
  exact bz5 (w:=w) (a:=⟨b,_,none⟩) (hw b (fkm hal)).symm
 | _=>exact .unk _
def intO:Option A→Bool
 | none=>true
 | some (.c (.int _) _)=>true
 | _=>false
theorem fjp {al':Nat→Prop} {σ':Nat→RefI} {x:Option Value} {y:Option A} (h:bk7 P w al σ x y) (hi:intO y=true):bk7 P w al' σ' x y:=by
 cases x <;> cases y <;> try (first | exact h | exact h.elim)
 rename_i v a
 cases a <;> simp [intO] at hi
 rename_i k c
 cases k <;> simp at hi
 have h:ARel P w al σ v _:=h
 show ARel P w al' σ' v _
 cases h with
 | c _ _ _ h=>exact .c _ _ _ (h.scalar rfl)
def rdR (hp:Nat→Blk) (x:A) (f:A→Option (Prop×A)):Option Out :=
 match eqt x with
 | some r=>if cyb (hp r) then match f (gwe x) with
  | some (p,a)=>some ⟨p,True,tagA r a,hp,true⟩
  | none=>none
  else none
 | none=>none
def opRg (P:Program) (o:Oper) (hp:Nat→Blk) (v:Operand→A):Option Out :=
 match o.op with
 | .load t x=>match tyI P t with
  | some T=>rdR hp (v x) fun a=>cwi T bq8 a
  | none=>none
 | .fieldAddr t x f=>match tyI P t with
  | some T=>rdR hp (v x) fun a=>(bkr T bq8 f a).map fun z=>(True,z)
  | none=>none
 | .indexAddr t x i=>match slE P t,v i with
  | some (e,E),.c (.int _) n=>rdR hp (v x) fun a=>awm e E bq8 a n.toInt
  | _,_=>none
 | .slice t x lo hi none=>if intO (lo.map v) && intO (hi.map v) then rdR hp (v x) fun a=>cwl P t bq8 a (lo.map v) (hi.map v) else none
 | .call c=>match c.callee with
  | .builtin .len=>match c.args.toList,c.argTypes.toList with
   | [x],[t]=>match rdR hp (v x) fun a=>lenA P t bq8 a with
    | some r=>some { r with pre:=True,fact:=r.pre }
    | none=>none
   | _,_=>none
  | _=>none
 | _=>none
theorem dwo {x:A} {f:A→Option (Prop×A)} {r:Out} {v:Value} (h:RelL P w0 N σ s tms w) (hf:rdR s.hp x f=some r) (hx:ARel P w (Al w0 w σ s.hp) σ v x) :
  ∃ (Q:Nat→Prop) (p:Prop) (a z:A),ARel P w (Al (auxB w Q) w dj2 bq8) dj2 v a∧f a=some (p,z)∧r.pre=p∧r.fact=True∧r.hp=s.hp ∧
   ∀ u,ARel P w (Al (auxB w Q) w dj2 bq8) dj2 u z→ARel P w (Al w0 w σ s.hp) σ u r.val:=by
 unfold rdR at hf
 split at hf
 ·rename_i i hi
  split at hf
  ·rename_i hreg
   split at hf
   ·rename_i p a ha
    simp only [jb] at hf;subst hf
    obtain ⟨W,Q,h1,h2,h3⟩:=dyb h hreg
    exact ⟨Q,p,_,a,hjg hx hi h1 h2 h3,ha,rfl,rfl,rfl,fun u hu=>hzd hu h1 h3⟩
   ·cases hf
  ·cases hf
 ·cases hf
theorem gj4 {o:Oper} {r:Out} {v:Operand→A} (h:RelL P w0 N σ s tms w) (hop:opRg P o s.hp v=some r) (hv:∀ x,x∈o.op.operands→ARel P w (Al w0 w σ s.hp) σ (ρ x) (v x)) (hp:r.pre):OpOk P w0 N s tms o ρ w r:=by
 obtain ⟨dst,op,type,pos,after,guard⟩:=o
 cases op with
 | load t x =>
  simp only [opRg] at hop
  split at hop
  ·rename_i T hT
   obtain ⟨Q,p,a,z,h1,h2,h3,h4,h5,h6⟩:=dwo h hop (hv x (by simp [jg]))
   rw [h3] at hp
   obtain ⟨u,hr,hu⟩:=cyw (s:=⟨unkT,bq8⟩) (h.aux (Q:=Q)) hT h2 hp h1
   exact OpOk.pure h (ajf hr) (by rw [h4];trivial) h5 (h6 u hu)
  ·cases hop
 | fieldAddr t x f =>
  simp only [opRg] at hop
  split at hop
  ·rename_i T hT
   obtain ⟨Q,p,a,z,h1,h2,h3,h4,h5,h6⟩:=dwo h hop (hv x (by simp [jg]))
   cases hz:bkr T bq8 f a with
   | none=>rw [hz] at h2;cases h2
   | some z' =>
    rw [hz] at h2
    simp only [jY,jb,Prod.mk.injEq] at h2
    obtain ⟨_,rfl⟩:=h2
    obtain ⟨u,hr,hu⟩:=dkb (s:=⟨unkT,bq8⟩) (h.aux (Q:=Q)) hT hz h1
    exact OpOk.pure h (ajf hr) (by rw [h4];trivial) h5 (h6 u hu)
  ·cases hop
 | indexAddr t x i =>
  simp only [opRg] at hop
  split at hop
  ·rename_i e E k n hs hvi
   obtain ⟨Q,p,a,z,h1,h2,h3,h4,h5,h6⟩:=dwo h hop (hv x (by simp [jg]))
   rw [h3] at hp
   have hi:=hv i (by simp [jg])
   rw [hvi] at hi
   obtain ⟨hie,_⟩:=hi.int_inv
   obtain ⟨u,hr,hu⟩:=cwr (s:=⟨unkT,bq8⟩) (k:=k) (h.aux (Q:=Q)) hs h2 hp h1
   rw [← hie] at hr
   exact OpOk.pure h (ajf hr) (by rw [h4];trivial) h5 (h6 u hu)
  ·cases hop
 | slice t x lo hi mx =>
  cases mx with
  | some m=>simp [opRg] at hop
  | none =>
   simp only [opRg] at hop
   split at hop
   ·rename_i hb
    simp only [jf] at hb
    obtain ⟨Q,p,a,z,h1,h2,h3,h4,h5,h6⟩:=dwo h hop (hv x (by simp [jg]))
    rw [h3] at hp
    have hlo:bk7 P w (Al w0 w σ s.hp) σ (lo.map ρ) (lo.map v):=by
     cases lo with
     | none=>trivial
     | some l=>exact hv l (by simp [jg])
    have hhi:bk7 P w (Al w0 w σ s.hp) σ (hi.map ρ) (hi.map v):=by
     cases hi with
     | none=>trivial
     | some l=>exact hv l (by simp [jg])
    obtain ⟨u,hr,hu⟩:=dzt (s:=⟨unkT,bq8⟩) (h.aux (Q:=Q)) h2 hp h1 (fjp hlo hb.1) (fjp hhi hb.2)
    exact OpOk.pure h (ajf hr) (by rw [h4];trivial) h5 (h6 u hu)
   ·cases hop
 | call c =>
  simp only [opRg] at hop
  split at hop
  ·rename_i hcal
   split at hop
   ·rename_i x t hax hat
    split at hop
    ·rename_i r0 hr0
     simp only [jb] at hop;subst hop
     obtain ⟨callee,args,argTypes⟩:=c
     simp only at hcal hax hat
     subst hcal
     have e1:=ajc hax
     have e2:=ajc hat
     subst e1 e2
     obtain ⟨Q,p,a,z,h1,h2,h3,h4,h5,h6⟩:=dwo h hr0 (hv x (by simp [jg,Call.operands]))
     obtain ⟨hpp,u,hr,hu⟩:=ezx (s:=⟨unkT,bq8⟩) (h.aux (Q:=Q)) h2 h1 type
     refine OpOk.pure h (ajf (x:=Builtin.len_ #[t] type (#[x].map ρ)) ?_) (by show r0.pre;rw [h3];exact hpp) h5 (h6 u hu)
     simpa using hr
    ·cases hop
   ·cases hop
  ·cases hop
 | _=>simp [opRg] at hop
def gqw (P:Program) (o:Oper) (s:S) (K:S→Prop):Prop :=
 match o.guard with
 | none=>match opRg P o s.hp (aja s.tm) with
  | some r=>ajd s.tm o.op.operands.toList∧r.pre∧(r.fact→K ⟨updD s.tm o.dst r.val,r.hp⟩)
  | none=>False
 | some _=>False
theorem awe:ay1 P (gqw P):=by
 intro N ops o s K hok h
 unfold gqw at h
 split at h
 ·rename_i hg
  split at h
  ·rename_i r hop
   obtain ⟨hn,hp,hK⟩:=h
   obtain ⟨_,ho⟩:=aqi hok
   exact bya hg hok r (fun w0 a w σ hR=>gj4 hR hop (fun x hx=>aq9 hR (ho x hx) (ajq hn x (jB.2 hx))) hp) hK
  ·exact h.elim
 ·exact h.elim
def czw:List Kd→List C→Nat→List A
 | [],_,_=>[]
 | k :: ks,cells,j=>(if aqm k then .c k (nrm k (cg cells j)) else .rg 0 k (nrm k (cg cells j))) :: czw ks cells (j+1)
def fk1 (p:Bool×List Kd) (xs:List C):A:=pack p.1 (czw p.2 xs 0)
def eyi (p:Bool×List Kd) (c:List C):Arg:=if p.2.all aqm then .dat p c else .ref (fk1 p c)
def bjn:List (Bool×List Kd)→List (List C)→List Arg
 | p :: ps,c :: cs=>eyi p c :: bjn ps cs
 | _,_=>[]
mutual
def tagV (r:Nat) (hp:Nat→Blk):A→A
 | .c k x=>if aqm k then .c k x else .rg r k x
 | .agg xs=>.agg (ckh r hp xs)
 | .nilsl=>.nilsl
 | .own id ks off len=>match hp id with
  | .row t es=>.rg r (.slice t) (.slice ((es.drop off).take len))
  | .frz t es=>.rg r (.slice t) (.slice ((es.drop off).take len))
  | _=>.unk
 | _=>.unk
def ckh (r:Nat) (hp:Nat→Blk):List A→List A
 | []=>[]
 | a :: as=>tagV r hp a :: ckh r hp as
end
theorem byg (r:Nat) (hp:Nat→Blk) (as:List A):(ckh r hp as).length=as.length:=by
 induction as with
 | nil=>rfl
 | cons a as ih=>simp [ckh,ih]
theorem ezw (r:Nat) (hp:Nat→Blk) (as:List A) (i:Nat):(ckh r hp as).getD i .unk=tagV r hp (as.getD i .unk):=by
 induction as generalizing i with
 | nil=>simp [ckh,tagV]
 | cons a as ih =>
  cases i with
  | zero=>simp [ckh]
  | succ i=>simpa [ckh] using ih i
theorem cj8:∀ (ks:List Kd) (cs:List C) (j:Nat),(czw ks cs j).length=ks.length
 | [],_,_=>rfl
 | k :: ks,cs,j=>by simp [czw,cj8 ks cs (j+1)]
theorem dzq:∀ (ks:List Kd) (cs:List C) (j i:Nat),i < ks.length→(czw ks cs j).getD i .unk=if aqm (ks.getD i .other) then .c (ks.getD i .other) (nrm (ks.getD i .other) (cg cs (j+i))) else .rg 0 (ks.getD i .other) (nrm (ks.getD i .other) (cg cs (j+i)))
 | [],_,_,i,hi=>by simp at hi
 | k :: ks,cs,j,0,_=>by simp [czw]
 | k :: ks,cs,j,i+1,hi=>by
  have:=dzq ks cs (j+1) i (by simpa using hi)
  simp only [czw,List.getD_cons_succ]
  rw [this,show j+1+i=j+(i+1) by omega]
theorem cz5:∀ (ps:List (Bool×List Kd)) (cs:List (List C)) (i:Nat),cs.length=ps.length→i < ps.length→(bjn ps cs).getD i (.ref .unk)=eyi (ps.getD i (false,[])) (cs.getD i [])
 | [],_,i,_,hi=>by simp at hi
 | _ :: _,[],i,h,_=>by simp at h
 | p :: ps,c :: cs,0,_,_=>by simp [bjn]
 | p :: ps,c :: cs,i+1,h,hi=>by simpa [bjn] using cz5 ps cs i (by simpa using h) (by simpa using hi)
theorem bj6:∀ (ps:List (Bool×List Kd)) (cs:List (List C)),cs.length=ps.length→(bjn ps cs).length=ps.length
 | [],[],_=>rfl
 | [],_ :: _,h=>by simp at h
 | _ :: _,[],h=>by simp at h
 | p :: ps,c :: cs,h=>by simp [bjn,bj6 ps cs (by simpa using h)]
theorem ezo {p:Bool×List Kd} {v:Value} {c:List C} {Q:Nat→Prop} {al':Nat→Prop} {σ0:Nat→RefI} (h:ArgRel P w al p v c) (hσ:σ0 0 = .reg w Q) (hq:∀ {k v x},RepC P w al k v x→RepC P w Q k v x):ARel P w al' σ0 v (fk1 p c):=by
 have one:∀ {k v x},RepC P w al k v x→ARel P w al' σ0 v (if aqm k then .c k (nrm k x) else .rg 0 k (nrm k x)):=by
  intro k v x h
  split
  ·rename_i hk;exact .c _ _ _ (h.nrm.scalar hk)
  ·exact .rg _ _ _ _ w Q hσ (hq h.nrm)
 obtain ⟨agg,ks⟩:=p
 cases agg with
 | true =>
  obtain ⟨us,rfl,hl,_,hr⟩:=h
  simp only [fk1,pack,if_true]
  refine .agg us _ (by rw [cj8];exact hl) (fun i hi=>?_)
  rw [cj8] at hi
  rw [dzq _ _ _ _ hi,Jn]
  exact one (hr i hi)
 | false =>
  obtain ⟨hk,hc,hr⟩:=h
  simp only [fk1,pack,jj,if_false]
  cases ks with
  | nil=>simp at hk
  | cons k ks=>simpa [czw] using one hr
theorem fkj {wb:Base} {hp:Nat→Blk} {w':World} {σr:Nat→RefI} {r:Nat} {Q':Nat→Prop} {n:Nat} {tm0:Nat→A} {tms0:Array Value} {N0:Nat} (hR:RelL P wb N0 σr ⟨tm0,hp⟩ tms0 w') (h1:∀ b,Al wb w' σr hp b→n≤b)
  (h2:∀ id t es,(hp id = .row t es∨hp id = .frz t es)→∀ b,aj4 (σr id) b→n≤b) (hQ:∀ b,n≤b→cqi w' b→Q' b) {σN:Nat→RefI} (hσ:σN r = .reg w' Q') {al':Nat→Prop} {v:Value} {a:A}
  (hx:ARel P w' (Al wb w' σr hp) σr v a):ARel P w' al' σN v (tagV r hp a):=by
 have rep:∀ {k v x},RepC P w' (fun b=>n≤b) k v x→RepC P w' Q' k v x:=fun h=>h.cells.mono (fun _ _=>rfl) (fun b hb=>hQ b hb.1 hb.2)
 have own:∀ {id ks off len v},ARel P w' (Al wb w' σr hp) σr v (.own id ks off len)→ARel P w' al' σN v (tagV r hp (.own id ks off len)):=by
  intro id ks off len v hx
  simp only [tagV]
  split
  ·rename_i t es he
   exact .rg _ _ _ _ w' Q' hσ (rep (awi (s:=⟨tm0,hp⟩) (al':=fun b=>n≤b) hR (show toCell hp _=_ by simp only [toCell,he]) hx h1 (fun i hi b hb=>by
    simp only [ajh,Jp] at hi;subst hi;exact h2 _ t es (.inl he) b hb)))
  ·rename_i t es he
   exact .rg _ _ _ _ w' Q' hσ (rep (awi (s:=⟨tm0,hp⟩) (al':=fun b=>n≤b) hR (show toCell hp _=_ by simp only [toCell,he]) hx h1 (fun i hi b hb=>by
    simp only [ajh,Jp] at hi;subst hi;exact h2 _ t es (.inr he) b hb)))
  ·exact .unk _
 induction hx with
 | c k v x h =>
  simp only [tagV]
  split
  ·rename_i hk;exact .c _ _ _ (h.scalar hk)
  ·exact .rg _ _ _ _ w' Q' hσ (rep (h.mono (fun _ _=>rfl) h1))
 | nilsl=>exact .nilsl
 | agg vs xs hl h ih =>
  simp only [tagV]
  refine .agg vs _ (by rw [byg];exact hl) (fun i hi=>?_)
  rw [byg] at hi
  rw [ezw];exact ih i hi
 | ownGone v id ks off len h=>exact own (.ownGone v id ks off len h)
 | ownNil id ks off t h ho=>exact own (.ownNil id ks off t h ho)
 | own0 id ks len b cap n t h hl=>exact own (.own0 id ks len b cap n t h hl)
 | ownOff id ks off len b cap n cap' t h ho hl hc=>exact own (.ownOff id ks off len b cap n cap' t h ho hl hc)
 | ownOff0 ad id ks off b cap n cap' t h ho hl=>exact own (.ownOff0 ad id ks off b cap n cap' t h ho hl)
 | _=>exact .unk _
theorem gq1 {wb:Base} {hp:Nat→Blk} {w':World} {σr:Nat→RefI} {r:Nat} {Q':Nat→Prop} {n:Nat} {tm0:Nat→A} {tms0:Array Value} {N0:Nat} (hR:RelL P wb N0 σr ⟨tm0,hp⟩ tms0 w') (h1:∀ b,Al wb w' σr hp b→n≤b)
  (h2:∀ id t es,(hp id = .row t es∨hp id = .frz t es)→∀ b,aj4 (σr id) b→n≤b) (hQ:∀ b,n≤b→cqi w' b→Q' b) {σN:Nat→RefI} (hσ:σN r = .reg w' Q') {al':Nat→Prop} {v:Value} {as:List A}
  (hx:ARel P w' (Al wb w' σr hp) σr v (byb as)):ARel P w' al' σN v (byb (ckh r hp as)):=by
 have tup:∀ as:List A,ARel P w' (Al wb w' σr hp) σr v (.tup as)→ARel P w' al' σN v (.tup (ckh r hp as)):=by
  intro as h
  cases h with
  | tup vs _ hl hh =>
   refine .tup vs _ (by rw [byg];exact hl) (fun i hi=>?_)
   rw [byg] at hi
   rw [ezw];exact fkj hR h1 h2 hQ hσ (hh i hi)
 cases as with
 | nil=>exact tup [] hx
 | cons a as =>
  cases as with
  | nil=>exact fkj hR h1 h2 hQ hσ hx
  | cons b as=>exact tup (a :: b :: as) hx
theorem fzt {f:FuncId} {ps:List (Bool×List Kd)} {css:List (List C)} {as:List Arg} {hs':List Blk} {res:List A} {acts:List A} {r:Nat} {vs:List Value} (h00:tyI P 0=none) (C0:aqg P f as [.reg] res (.reg :: hs')) (h:RelL P w0 N σ s tms w)
  (hcs:akl s.hp ps acts=some css) (has:as=bjn ps css) (hd:aqy (s.hp r)=true)
  (hvl:vs.length=acts.length) (hvs:∀ i,i < acts.length→ARel P w (Al w0 w σ s.hp) σ (vs.getD i undef) (acts.getD i .unk)) :
  Calls P f vs.toArray w (fun e w'=>∃ v,e = .returned v∧∃ σ',RelL P w0 N σ' ⟨s.tm,upd (freezeAll s.hp (ak9 acts)) r .reg⟩ tms w' ∧
   ARel P w' (Al w0 w' σ' (upd (freezeAll s.hp (ak9 acts)) r .reg)) σ' v (byb (ckh r (aje (.reg :: hs')) res))):=by
 subst has
 obtain ⟨l1,l2,hfit⟩:=byw hcs
 have hrows:∀ id,id∈ak9 acts→∃ t es,s.hp id = .row t es∨s.hp id = .frz t es:=by
  intro id hid
  obtain ⟨i,hi,hm⟩:=fjg hid
  exact cqq (hfit i (by omega)) id hm
 obtain ⟨hal1,hal2⟩:=bqr h (ak9 acts) hrows
 obtain ⟨hpF,hpFe⟩:∃ hpF,hpF=freezeAll s.hp (ak9 acts):=⟨_,rfl⟩
 rw [← hpFe] at hal1 hal2 ⊢
 have hz:RelL P w0 N σ ⟨s.tm,hpF⟩ tms w:=by rw [hpFe];exact h.freezeAll _
 have hdF:hpF r = .dead:=by
  have hd':=aqb hd
  rw [hpFe,az6]
  split
  ·rw [hd']
  ·exact hd'
 have hσd:σ r = .dead:=bzk (hz.blks r) hdF
 obtain ⟨Q,hQ⟩:∃ Q:Nat→Prop,Q=fun b=>Al w0 w σ hpF b∧cqi w b:=⟨_,rfl⟩
 have hQlt:∀ b,Q b→b < w.heap.size:=fun b hb=>by rw [hQ] at hb;exact hb.1.1
 have hQc:∀ b,Q b→cqi w b:=fun b hb=>by rw [hQ] at hb;exact hb.2
 obtain ⟨σ0,hσ0⟩:∃ σ0:Nat→RefI,σ0=fun j=>if j=0 then .reg w Q else .dead:=⟨_,rfl⟩
 have hσ00:σ0 0 = .reg w Q:=by rw [hσ0];rfl
 have hblk0:∀ j b,aj4 (σ0 j) b→j=0∧Q b:=by
  intro j b hb
  rw [hσ0] at hb
  by_cases hj:j=0
  ·simp only [hj,if_true,aj4] at hb;exact ⟨hj,hb⟩
  ·simp [hj,aj4] at hb
 have hargs:∀ i,i < (bjn ps css).length→ArgM P w (fun _=>False) σ0 ((bjn ps css).getD i (.ref .unk)) (vs.getD i undef):=by
  intro i hi
  rw [bj6 _ _ l2] at hi
  rw [cz5 _ _ _ l2 hi]
  have hA:=bze h00 h hal1 (hfit i hi) (hvs i (by omega)) (fun id hid b hb=>hal2 id (fw6 (i:=i) (by omega) hid) b hb)
  unfold eyi
  split
  ·rename_i hsc
   have hk:=dyh hsc
   show ArgRel P w _ _ _ _
   unfold ArgRel at hA ⊢
   split
   ·rename_i e
    rw [e] at hA
    obtain ⟨us,g1,g2,g3,g4⟩:=hA
    exact ⟨us,g1,g2,g3,fun j hj=>(g4 j hj).scalar (hk j hj)⟩
   ·rename_i e
    rw [e] at hA
    exact ⟨hA.1,hA.2.1,hA.2.2.scalar (hk 0 (by have:=hA.1;omega))⟩
  ·exact ezo hA hσ00 (fun h=>by rw [hQ];exact h.cells)
 refine (C0.calls w (fun _=>False) σ0 vs (fun b hb=>hb.elim) (fun j=>?_) (fun i j b hi hj=>by rw [(hblk0 i b hi).1,(hblk0 j b hj).1]) (by rw [bj6 _ _ l2];omega) hargs).mono ?_
 ·cases j with
  | zero =>
   refine ⟨w,Q,hσ00,fun b hb=>⟨hQlt b hb,?_⟩⟩
   obtain ⟨vs,t,z,h1⟩:=hQc b hb
   exact ⟨vs,t,z,h1,h1⟩
  | succ j =>
   show σ0 (j+1) = .dead
   rw [hσ0];simp
 rintro e w' ⟨v,rfl,hbel,σr,hBr,hinjr,hold,hv⟩
 refine ⟨v,rfl,?_⟩
 obtain ⟨W1,Q1,hr0,hr1⟩:=hBr 0
 have hr0':σr 0 = .reg w Q:=by
  rcases hold 0 (by rw [hσ00];simp) with e | e
  ·rw [e,hσ00]
  ·rw [hr0] at e;cases e.1
 rw [hr0'] at hr0
 cases hr0
 have hnsz:w0.n≤w.heap.size:=h.below.size
 have hB:Below w.heap.size w w':=⟨hbel.os,hbel.tape,hbel.output,hbel.size,fun k hk=>by
  by_cases hm:muOf σ0 k
  ·obtain ⟨j,hj⟩:=hm
   obtain ⟨_,vs,t,z,h1,h2⟩:=hr1 k (hblk0 j k hj).2
   rw [h1,h2]
  ·exact hbel.block k hk hm⟩
 have hwr:∀ b,Base.wr ⟨w,fun _=>False,muOf σ0,σ0,noMk,0⟩ b→w.heap.size≤b∨Q b:=by
  rintro b (h1 | ⟨j,hj⟩)
  ·exact .inl h1
  ·exact .inr (hblk0 j b hj).2
 have hAn:∀ b,Al ⟨w,fun _=>False,muOf σ0,σ0,noMk,0⟩ w' σr (aje (.reg :: hs')) b→w.heap.size≤b:=by
  intro b hb
  rcases hb.2.2 with h1 | h1
  ·rcases hwr b h1 with h2 | h2
   ·exact h2
   ·exact (hb.2.1 0 (by rw [hr0'];exact h2)).elim
  ·exact h1.elim
 have hOn:∀ id t es,(aje (.reg :: hs') id = .row t es∨aje (.reg :: hs') id = .frz t es)→∀ b,aj4 (σr id) b→w.heap.size≤b:=by
  intro id t es he b hb
  rcases hwr b (aj8 (hBr id) hb).2 with h2 | h2
  ·exact h2
  ·have e:=hinjr id 0 b hb (by rw [hr0'];exact h2)
   subst e
   rcases he with he | he <;> cases he
 have hRc:RelL P ⟨w,fun _=>False,muOf σ0,σ0,noMk,0⟩ 0 σr ⟨unkT,aje (.reg :: hs')⟩ #[] w' :=
  ⟨hbel,rfl,fun _=>.unk _,hBr,hinjr,fun id hid=>hold id hid,⟨JW _,fun k o hk=>by simp [noMk] at hk⟩⟩
 obtain ⟨Q',hQ'⟩:∃ Q':Nat→Prop,Q'=fun b=>w.heap.size≤b∧cqi w' b:=⟨_,rfl⟩
 refine ⟨upd σ r (.reg w' Q'),hz.change (h.below.then (hB.mono hnsz)) hB.size ?_ (fun b hb=>hB.block b hb.1) ?_ ?_ ?_,?_⟩
 ·intro b hb
  refine ⟨Nat.lt_of_lt_of_le hb.1 hB.size,fun id hid=>?_,hb.2.2⟩
  simp only [upd] at hid ⊢
  by_cases e:id=r
  ·simp only [e,if_true,aj4,hQ'] at hid
   have:=hid.1;have:=hb.1;omega
  ·simp only [e,if_false] at hid ⊢;exact hb.2.1 id hid
 ·intro id hid
  refine .inl ?_
  simp only [upd]
  split
  ·rename_i e;subst e;exact absurd hσd hid
  ·rfl
 ·intro id
  by_cases e:id=r
  ·subst e
   refine .inr ?_
   have e0:upd hpF id .reg id = .reg:=by simp [upd]
   rw [e0]
   refine ⟨w',Q',by simp [upd],fun b hb=>?_⟩
   rw [hQ'] at hb
   obtain ⟨vs,t,z,h1⟩:=hb.2
   exact ⟨.inl (Nat.le_trans hnsz hb.1),vs,t,z,h1,h1⟩
  ·exact .inl ⟨by simp [upd,e],by simp [upd,e],fun b hb=>hB.block b (aj8 (hz.blks id) hb).1⟩
 ·intro i j b hi hj
  simp only [upd] at hi hj
  by_cases e:i=r <;> by_cases e':j=r
  ·rw [e,e']
  ·simp only [e,if_true,aj4,hQ'] at hi
   simp only [e',if_false] at hj
   have:=(aj8 (hz.blks j) hj).1;have:=hi.1;omega
  ·simp only [e',if_true,aj4,hQ'] at hj
   simp only [e,if_false] at hi
   have:=(aj8 (hz.blks i) hi).1;have:=hj.1;omega
  ·simp only [e,if_false] at hi
   simp only [e',if_false] at hj
   exact hz.inj i j b hi hj
 ·exact gq1 (Q':=Q') hRc hAn hOn (fun b h1 h2=>by rw [hQ'];exact ⟨h1,h2⟩) (by simp [upd]) hv
structure hyg (P:Program) (g:FuncId) (acts:List A) (hp:Nat→Blk) (r:Nat) (val:A) (hp':Nat→Blk):Prop where
 ex:∃ ps css as res hs',aqg P g as [.reg] res (.reg :: hs')∧akl hp ps acts=some css∧as=bjn ps css∧aqy (hp r)=true∧val=byb (ckh r (aje (.reg :: hs')) res)∧hp'=upd (freezeAll hp (ak9 acts)) r .reg
def gqv (P:Program) (r:Nat) (o:Oper) (s:S) (K:S→Prop):Prop :=
 match o.guard,o.op with
 | none,.call c=>match c.callee with
  | .value f=>match aja s.tm f with
   | .fnv g []=>ajd s.tm o.op.operands.toList∧∃ val hp',hyg P g (c.args.toList.map (aja s.tm)) s.hp r val hp'∧K ⟨updD s.tm o.dst val,hp'⟩
   | _=>False
  | _=>False
 | _,_=>False
theorem gzi (h00:tyI P 0=none) (r:Nat):ay1 P (gqv P r):=by
 intro N ops o s K hok h
 unfold gqv at h
 split at h
 ·rename_i c hg ho
  split at h
  ·rename_i f hcal
   split at h
   ·rename_i g hf
    obtain ⟨hn,val,hp',⟨ps,css,as,res,hs',C0,h1,h2,h3,rfl,rfl⟩,hK⟩:=h
    intro w0 a w hR
    obtain ⟨hd,hop'⟩:=aqi hok
    refine ⟨fun _ K' Q hq=>?_,fun hw=>by rw [akr hg] at hw;cases hw⟩
    obtain ⟨σ,hR⟩:=hR
    have hmem:∀ x,(x=f∨x∈c.args.toList)→x∈o.op.operands:=by
     intro x hx
     rw [ho]
     simp only [jg,Call.operands,hcal]
     rcases hx with rfl | hx
     ·exact JK.2 (.inl (by simp))
     ·exact JK.2 (.inr (jB.1 hx))
    have hv:∀ x,(x=f∨x∈c.args.toList)→ARel P w (Al w0 w σ s.hp) σ (a.eval x) (aja s.tm x):=fun x hx =>
     aq9 hR (hop' x (hmem x hx)) (ajq hn x (jB.2 (hmem x hx)))
    have hfv:=hv f (.inl rfl)
    rw [hf] at hfv
    have hfe:a.eval f = .func (.func g) #[] #[]:=by
     generalize a.eval f=u at hfv
     cases hfv with
     | fnv _ _ vs hl hh =>
      have:vs=[]:=List.length_eq_zero_iff.1 hl
      rw [this]
    have hcm:=fzt (vs:=c.args.toList.map a.eval) h00 C0 hR h1 h2 h3 (by simp) (fun i hi=>by
     simp only [List.length_map] at hi
     have e1:(c.args.toList.map a.eval).getD i undef=a.eval c.args.toList[i]:=by simp [ja,show i < c.args.size by simpa using hi]
     have e2:(c.args.toList.map (aja s.tm)).getD i .unk=aja s.tm c.args.toList[i]:=by simp [ja,show i < c.args.size by simpa using hi]
     rw [e1,e2]
     exact hv _ (.inr (jw hi)))
    have hr:(execOp a.eval o).run P w = .ok (.enter g (c.args.toList.map a.eval).toArray) w:=by
     have henter:=C0.enter (c.args.toList.map a.eval).toArray w
     obtain ⟨callee,args,argTypes⟩:=c
     simp only at hcal
     subst hcal
     simp only [execOp,ho,Go.resolve,Sem.run_bind,hfe,Deferred.ofValue,Sem.run_pure,ju,invoke]
     have e2:(args.map a.eval)=(args.toList.map a.eval).toArray:=by rw [← Array.toList_map]
     simpa [e2] using henter
    unfold Oper.wp
    rw [hr]
    refine hcm.mono ?_
    rintro e w' ⟨v,rfl,σ',hR',hv'⟩
    exact hq _ _ _ (put_defers _ _ _) hK ⟨σ',Rel.putD hd hR' hv'⟩
   ·exact h.elim
  ·exact h.elim
 ·exact h.elim
end Go.AE
/-
 A call whose results become a region: the rule of a printed proof.
-/
namespace Go.AE
variable {P:Program} {N kp:Nat} {s s':S} {Γ:List Fn} {g:Option Nat} {o:Oper} {os:List (Option Nat×Oper)} {K:S→Prop}
theorem hyl {d:Option Nat} {f:Operand} {args:Array Operand} {argTypes:Array TypeId} {ty:TypeId} {pos:String} {after:Array Edge} {gf:FuncId} {as:List Arg} {res:List A} {hs':List Blk} {css:List (List C)}
  (h00:tyI P 0=none) (C0:aqg P gf as [.reg] res (.reg :: hs')) (r:Nat) (ps:List (Bool×List Kd)) (h:ajr P Γ os ⟨updD s.tm d (byb (ckh r (aje (.reg :: hs')) res)),upd (freezeAll s.hp (ak9 (args.toList.map (aja s.tm)))) r .reg⟩ K)
  (hf:aja s.tm f = .fnv gf []) (hn:ajd s.tm (Op.call ⟨.value f,args,argTypes⟩).operands.toList) (hc:akl s.hp ps (args.toList.map (aja s.tm))=some css) (ha:as=bjn ps css) (hd:aqy (s.hp r)=true) :
  ajr P Γ ((g,⟨d,.call ⟨.value f,args,argTypes⟩,ty,pos,after,none⟩) :: os) s K:=by
 refine opsE (gzi h00 r) fun K' hK=>?_
 simp only [gqv,hf]
 exact ⟨hn,_,_,⟨⟨ps,css,as,res,hs',C0,hc,ha,hd,rfl,rfl⟩⟩,hK _ h⟩
theorem oFCq {d:Option Nat} {f:Operand} {args:Array Operand} {argTypes:Array TypeId} {ty:TypeId} {pos:String} {after:Array Edge} {gf:FuncId} {as:List Arg} {res:List A} {hs':List Blk} {css:List (List C)}
  (C0:aqg P gf as [.reg] res (.reg :: hs')) (r:Nat) (ps:List (Bool×List Kd)) (h:ajr P Γ os ⟨updD s.tm d (byb (ckh r (aje (.reg :: hs')) res)),upd (freezeAll s.hp (ak9 (args.toList.map (aja s.tm)))) r .reg⟩ K)
  (h1:tyI P 0=none:=by exact h00) (hf:aja s.tm f = .fnv gf []:=by (simp only [z,seval,q];try rfl)) (hn:ajd s.tm (Op.call ⟨.value f,args,argTypes⟩).operands.toList:=by simp only [z,seval,q]) (hc:akl s.hp ps (args.toList.map (aja s.tm))=some css:=by (simp only [z,seval,q];try rfl)) (ha:as=bjn ps css:=by rfl) (hd:aqy (s.hp r)=true:=by simp only [z,seval,q]) :
  ajr P Γ ((g,⟨d,.call ⟨.value f,args,argTypes⟩,ty,pos,after,none⟩) :: os) s K:=hyl h1 C0 r ps h hf hn hc ha hd
end Go.AE
/-
 Regions whose plain cells are written: what stays is where their data lie.
-/
namespace Go.AE
open Go.RowKit (Below)
variable {P:Program} {w0:Base} {w:World} {N kp:Nat} {σ:Nat→RefI} {s:S} {tms:Array Value} {ρ:Operand→Value} {al:Nat→Prop} {Γ:List Fn}
theorem cjt (P:Program) (g o:Nat) (t:TypeId) (z:Nat×Nat):∀ (vs:List Value) (i:Nat) (cur:Array Value) (w:World),w.heap[g]? = some (.cells cur t z)→(∀ j,i≤j→j < i+vs.length→w.frozen? ⟨g,o+j,none⟩=false)→o+i+vs.length≤cur.size→(∀ v∈vs,v.oneCell'=true) →
  (storeCells ⟨g,o,none⟩ vs i).run P w = .ok () (w.setRow g (cur.toList.take (o+i) ++ vs ++ cur.toList.drop (o+i+vs.length)).toArray)
 | [],i,cur,w,hg,_,_,_=>by
  simp only [storeCells,List.append_nil,jW,Ji,List.take_append_drop,Array.toArray_toList]
  rw [setRow_self w g cur t z hg]
  rfl
 | v :: rest,i,cur,w,hg,hf,hl,h1=>by
  have hi:o+i < cur.size:=by simp at hl;omega
  have hadd:(⟨g,o,none⟩:Addr).add i=⟨g,o+i,none⟩:=by unfold Addr.add;split <;> simp_all
  have hcell:w.cell? ⟨g,o+i,none⟩=some cur[o+i]:=by simp [World.cell?,hg,hi]
  have hfro:w.frozen? ⟨g,o+i,none⟩=false:=hf i (Nat.le_refl _) (by simp)
  have hst:(store ((⟨g,o,none⟩:Addr).add i) v).run P w = .ok () (w.setRow g (cur.setIfInBounds (o+i) v)):=by
   rw [hadd,run_store P w _ v _ (h1 v (by simp)),hcell]
   simp [hfro,setCell_eq_setRow w g (o+i) cur t z v hg]
  have hg':=setRow_heap w g cur (cur.setIfInBounds (o+i) v) t z hg
  have hfz:∀ a,(w.setRow g (cur.setIfInBounds (o+i) v)).frozen? ⟨g,a,none⟩=w.frozen? ⟨g,a,none⟩:=by
   intro a;simp only [World.frozen?,hg,hg']
  have ih:=cjt P g o t z rest (i+1) (cur.setIfInBounds (o+i) v) (w.setRow g (cur.setIfInBounds (o+i) v)) hg' (fun j h1 h2=>by rw [hfz];exact hf j (by omega) (by simp;omega)) (by simp at hl ⊢;omega) (fun x hx=>h1 x (by simp [hx]))
  simp only [storeCells,Sem.run_bind,hst,ju,ih,setRow_setRow]
  congr 3
  have e:=list_seg_step cur.toList (o+i) v rest (by simp at hl ⊢;omega)
  simpa [Array.toList_setIfInBounds,Ju] using e
theorem ewe {t:TypeId} {T:TyI} (hT:tyI P t=some T) {v:Value} {n:Nat} (hn:v.cells.size=n) (hk:n=T.kinds.length) {b o:Nat} {cur:Array Value} {u:TypeId} {z:Nat×Nat} (hh:w.heap[b]? = some (.cells cur u z))
  (hf:∀ j,j < n→w.frozen? ⟨b,o+j,none⟩=false) (hfit:o+n≤cur.size) (h1:∀ j,j < n→(v.cells.getD j undef).oneCell'=true) :
  (Instr.storeAt t (.pointer (some ⟨b,o,none⟩)) v).run P w = .ok () (w.setRow b (aql cur.toList o v.cells.toList).toArray):=by
 have h:=cjt P b o u z v.cells.toList 0 cur w hh (fun j _ hj=>hf j (by simp at hj;omega)) (by simp;omega) (by
  intro x hx
  obtain ⟨j,hj,rfl⟩:=List.getElem_of_mem hx
  have:=h1 j (by simp at hj;omega)
  have hj':j < v.cells.size:=by simpa using hj
  simpa [Array.getD,hj'] using this)
 simp only [Ji] at h
 simp only [Instr.storeAt,Instr.sureAddr,pure_bind,storeVar,Sem.run_bind,bw8 hT,ju]
 rw [if_neg (by omega)]
 exact h
def isW:Blk→Bool
 | .reg=>true
 | .wob=>true
 | _=>false
theorem dwc {r:Nat} (h:RelL P w0 N σ s tms w) (hr:isW (s.hp r)=true):∃ W Q,σ r = .reg W Q∧∀ b,Q b→w0.wr b∧hw6 w W b:=by
 have hb:=h.blks r
 cases hk:s.hp r <;> rw [hk] at hr hb <;> simp [isW] at hr
 ·obtain ⟨W,Q,h1,h2⟩:=hb
  refine ⟨W,Q,h1,fun b hb=>⟨(h2 b hb).1,?_⟩⟩
  obtain ⟨_,vs,t,z,h3,h4⟩:=h2 b hb
  exact ⟨vs,vs,t,z,h3,h4,rfl,fun i=>.inl rfl⟩
 ·exact hb
theorem gwn {u:Value} {a:Option Addr} {l c:Nat} (h:SimV u (.slice a l c)):u = .slice a l c:=by
 rcases h with h | ⟨_,_,_,h⟩ | ⟨_,_,_,_,h,_⟩ | ⟨_,_,_,h,_⟩
 ·exact h
 ·cases h
 ·cases h
 ·cases h
theorem fkh {W:World} {b o:Nat} {v:Value} (h:hw6 w W b) (hc:ckk W ⟨b,o,none⟩=some v):∃ u,w.cell? ⟨b,o,none⟩=some u∧SimV u v∧w.frozen? ⟨b,o,none⟩=false:=by
 obtain ⟨vs',vs,t,z,h1,h2,h3,h4⟩:=h
 have hc':=bwk hc
 have hf:=fyd hc
 have hlt:o < vs.size∧vs.getD o undef=v:=by
  simp only [World.cell?,h2] at hc'
  simp at hc'
  obtain ⟨hlt,e⟩:=jv.1 hc'
  exact ⟨hlt,by simp [Array.getD,hlt,e]⟩
 refine ⟨vs'.getD o undef,?_,hlt.2 ▸ h4 o,?_⟩
 ·have hlt':o < vs'.size:=by omega
  simp [World.cell?,h1,Array.getD,hlt']
 ·simp only [World.frozen?,h1,h2] at hf ⊢
  exact hf
def byy:List Kd→List A→Bool
 | [],[]=>true
 | k :: ks,.c k' _ :: as=>aqm k && (k == k') && byy ks as
 | _,_=>false
theorem cwu:∀ {ks:List Kd} {as:List A},byy ks as=true→as.length=ks.length∧∀ j,j < ks.length→aqm (ks.getD j .other)=true∧∃ x,as.getD j .unk = .c (ks.getD j .other) x
 | [],[],_=>⟨rfl,fun j hj=>by simp at hj⟩
 | [],_ :: _,h=>by simp [byy] at h
 | _ :: _,[],h=>by simp [byy] at h
 | k :: ks,a :: as,h=>by
  cases a <;> simp [byy] at h
  rename_i k' x
  obtain ⟨⟨h1,rfl⟩,h2⟩:=h
  obtain ⟨l,hr⟩:=cwu h2
  refine ⟨by simp [l],fun j hj=>?_⟩
  cases j with
  | zero=>exact ⟨by simpa using h1,x,by simp⟩
  | succ j=>simpa using hr j (by simpa using hj)
def opW (P:Program) (o:Oper) (hp:Nat→Blk) (v:Operand→A):Option Out :=
 match o.op with
 | .indexAddr t x i=>match slE P t,v x,v i with
  | some (e,E),.rg r (.slice t') c,.c (.int _) n=>if isW (hp r) && (t' == e) then some ⟨0≤n.toInt∧n.toInt < (c.toSl.length:Int),True,.rp r E.kinds (eg c.toSl n.toInt.toNat) 0,hp,true⟩ else none
  | _,_,_=>none
 | .fieldAddr t x f=>match tyI P t,v x with
  | some T,.rp r ks cells off=>if isW (hp r) then (T.fields[f]?).map fun p=>⟨True,True,.rp r (ks.drop p.1) cells (off+p.1),hp,true⟩ else none
  | _,_=>none
 | .load t x=>match slE P t,v x with
  | some (e,_),.rp r ks cells off=>if isW (hp r) && (ks.headD .other == .slice e) then some ⟨True,True,.rg r (.slice e) (nrm (.slice e) (cg cells off)),hp,true⟩ else none
  | _,_=>none
 | .call c=>match c.callee with
  | .builtin .len=>match c.args.toList,c.argTypes.toList with
   | [x],[t]=>match v x,(slE P t).isSome with
    | .rg r (.slice _) cc,true=>if isW (hp r) then some ⟨True,(cc.toSl.length:Int)≤140737488355328,ki .i64 cc.toSl.length,hp,true⟩ else none
    | _,_=>none
   | _,_=>none
  | _=>none
 | .store t x y=>match tyI P t,v x with
  | some T,.rp r ks cells off=>if isW (hp r) && (byy (ks.take T.kinds.length) (ajg (v y)) && (decide (T.kinds.length≤ks.length))) then some ⟨True,True,.unk,upd hp r .wob,false⟩ else none
  | _,_=>none
 | _=>none
theorem fyn {k:Kd} {v:Value} {x:C} (hk:aqm k=true) (h:RepC P w al k v x):v.oneCell'=true∧v.cells = #[v]:=by
 cases h <;> first | (simp [aqm] at hk;done) | exact ⟨rfl,rfl⟩
theorem gyb {k:Kd} {u v:Value} {x y:C} {w1 w2:World} {a1 a2:Nat→Prop} (hk:aqm k=true) (h:RepC P w1 a1 k u x) (h':RepC P w2 a2 k v y):SimV u v:=by
 cases h <;> cases h' <;> first | (simp [aqm] at hk;done) | skip
 ·exact .inr (.inl ⟨_,_,rfl,rfl⟩)
 ·rename_i h1 h2;exact .inr (.inr (.inl ⟨_,_,_,rfl,rfl,h1⟩))
 ·rename_i h1 h2;exact .inr (.inr (.inr ⟨_,_,rfl,rfl,by simpa using h1⟩))
theorem SimV.trans {a b c:Value} (h1:SimV a b) (h2:SimV b c):SimV a c:=by
 rcases h1 with rfl | ⟨x,y,rfl,rfl⟩ | ⟨k,n,m,rfl,rfl,hr⟩ | ⟨x,y,rfl,rfl,hs⟩
 ·exact h2
 ·rcases h2 with rfl | ⟨x',y',e,rfl⟩ | ⟨_,_,_,e,_⟩ | ⟨_,_,e,_⟩
  ·exact .inr (.inl ⟨_,_,rfl,rfl⟩)
  ·exact .inr (.inl ⟨_,_,rfl,rfl⟩)
  ·cases e
  ·cases e
 ·rcases h2 with rfl | ⟨x',y',e,_⟩ | ⟨k',n',m',e,rfl,_⟩ | ⟨_,_,e,_⟩
  ·exact .inr (.inr (.inl ⟨_,_,_,rfl,rfl,hr⟩))
  ·cases e
  ·cases e;exact .inr (.inr (.inl ⟨_,_,_,rfl,rfl,hr⟩))
  ·cases e
 ·rcases h2 with rfl | ⟨x',y',e,_⟩ | ⟨k',n',m',e,_,_⟩ | ⟨_,_,e,rfl,_⟩
  ·exact .inr (.inr (.inr ⟨_,_,rfl,rfl,hs⟩))
  ·cases e
  ·cases e
  ·cases e;exact .inr (.inr (.inr ⟨_,_,rfl,rfl,hs⟩))
theorem gqc {ys:List A} {ks:List Kd} {y:A} {v:Value} (hc:ajg y=ys) (hs:byy ks ys=true) (h0:0 < ks.length) (hx:ARel P w al σ v y) :
  v.cells.size=ks.length∧∀ j,j < ks.length→∃ x,RepC P w al (ks.getD j .other) (v.cells.getD j undef) x:=by
 obtain ⟨l,hr⟩:=cwu hs
 cases hx with
 | agg us xs hl hh =>
  simp only [ajg] at hc
  subst hc
  simp only [Value.cells]
  refine ⟨by simp;omega,fun j hj=>?_⟩
  have h1:=hh j (by omega)
  obtain ⟨_,x,hx⟩:=hr j hj
  rw [hx] at h1
  have:us.toArray.getD j undef=us.getD j undef:=by simp [jh,ja]
  exact ⟨x,by rw [this];exact h1.c_inv⟩
 | c k v x h =>
  simp only [ajg] at hc
  subst hc
  simp only [List.length_cons,jW] at l
  have h1:=hr 0 h0
  simp only [List.getD_cons_zero] at h1
  obtain ⟨h2,x',h3⟩:=h1
  cases h3
  have:=fyn h2 h
  rw [this.2]
  refine ⟨by simp;omega,fun j hj=>?_⟩
  have:j=0:=by omega
  subst this
  exact ⟨x,by simpa using h⟩
 | _ =>
  exfalso
  simp only [ajg] at hc
  subst hc
  have h1:=hr 0 h0
  simp at h1
theorem gwl {o:Oper} {r:Out} {v:Operand→A} (h:RelL P w0 N σ s tms w) (hop:opW P o s.hp v=some r) (hv:∀ x,x∈o.op.operands→ARel P w (Al w0 w σ s.hp) σ (ρ x) (v x)) (hp:r.pre):OpOk P w0 N s tms o ρ w r:=by
 obtain ⟨dst,op,type,pos,after,guard⟩:=o
 cases op with
 | indexAddr t x i =>
  simp only [opW] at hop
  split at hop
  ·rename_i e E r0 t' c k n hs hvx hvi
   split at hop
   ·rename_i hc
    simp only [jf,beq_iff_eq] at hc
    obtain ⟨hw,rfl⟩:=hc
    simp only [jb] at hop;subst hop
    obtain ⟨W,Q,h1,h2⟩:=dwc h hw
    have hx:=hv x (by simp [jg])
    rw [hvx] at hx
    have hi:=hv i (by simp [jg])
    rw [hvi] at hi
    obtain ⟨hie,_⟩:=hi.int_inv
    obtain ⟨hu,hE⟩:=aqt hs
    dsimp only at hp
    generalize hvv:ρ x=vx at hx
    cases hx with
    | rgGone _ _ _ _ hg=>rw [h1] at hg;cases hg
    | rg _ _ _ _ W' Q' hσ hr =>
     rw [h1] at hσ;cases hσ
     rcases akx hr with ⟨a,cc,rfl,he⟩ | ⟨b,off,cap,E',f,rfl,hE',hal,hl,hcp,hel,hcell,hrep⟩
     ·rw [he] at hp;simp at hp;omega
     ·rw [hE] at hE';simp only [jb] at hE';subst hE'
      have hlt:n.toInt.toNat < c.toSl.length:=by omega
      have hr':=cq8 (w:=w) hu hE k n.toInt b off _ cap hp
      refine OpOk.pure h (v:=_) (ajf (by rw [hvv,hie];exact hr')) trivial rfl ?_
      refine .rp _ _ _ _ b _ W Q h1 hal (fun j=>f n.toInt.toNat j) (fun j hj=>?_) (fun j hj=>?_)
      ·rw [← hcell n.toInt.toNat hlt j hj,Ju]
      ·rw [Jn];exact hrep n.toInt.toNat hlt j hj
   ·cases hop
  ·cases hop
 | fieldAddr t x f =>
  simp only [opW] at hop
  split at hop
  ·rename_i T r0 ks cells off hT hvx
   split at hop
   ·rename_i hw
    cases hff:T.fields[f]? with
    | none=>simp [hff] at hop
    | some p =>
     simp only [hff,jY,jb] at hop;subst hop
     obtain ⟨W,Q,h1,h2⟩:=dwc h hw
     have hx:=hv x (by simp [jg])
     rw [hvx] at hx
     generalize hvv:ρ x=vx at hx
     cases hx with
     | rpGone _ _ _ _ _ hg=>rw [h1] at hg;cases hg
     | rp _ _ _ _ b o W' Q' hσ hal f' hcell hrep =>
      refine OpOk.pure h (v:=_) (ajf (by rw [hvv];exact (cju hT hff b o).1)) trivial rfl ?_
      refine .rp _ _ _ _ b _ W' Q' hσ hal (fun j=>f' (p.1+j)) (fun j hj=>?_) (fun j hj=>?_)
      ·have hj':p.1+j < ks.length:=by simp at hj;omega
       rw [← hcell _ hj',Ju]
      ·have hj':p.1+j < ks.length:=by simp at hj;omega
       rw [ayv]
       have:=hrep _ hj'
       rw [← Ju] at this
       exact this
   ·cases hop
  ·cases hop
 | load t x =>
  simp only [opW] at hop
  split at hop
  ·rename_i e E r0 ks cells off hs hvx
   split at hop
   ·rename_i hc
    simp only [jf,beq_iff_eq] at hc
    obtain ⟨hw,hk⟩:=hc
    simp only [jb] at hop;subst hop
    obtain ⟨W,Q,h1,h2⟩:=dwc h hw
    have hx:=hv x (by simp [jg])
    rw [hvx] at hx
    generalize hvv:ρ x=vx at hx
    -- the type that is loaded
    obtain ⟨by_,hT⟩:∃ q,tyI P t=some q∧q.kinds=[.slice e]∧q.agg=false:=by
     unfold slE at hs
     split at hs
     ·rename_i e' _ _ _ hT
      split at hs
      ·rename_i E' hE'
       simp only [jb,Prod.mk.injEq] at hs
       obtain ⟨rfl,rfl⟩:=hs
       exact ⟨_,hT,rfl,rfl⟩
      ·cases hs
     ·cases hs
    obtain ⟨hT,hk1,hk2⟩:=hT
    cases hx with
    | rpGone _ _ _ _ _ hg=>rw [h1] at hg;cases hg
    | rp _ _ _ _ b o W' Q' hσ hal f' hcell hrep =>
     rw [h1] at hσ;cases hσ
     have hlen:0 < ks.length:=by
      cases ks with
      | nil=>simp at hk
      | cons a l=>simp
     have hk0:ks.getD 0 .other = .slice e:=by
      cases ks with
      | nil=>simp at hk
      | cons a l=>simpa using hk
     have hr0:=hrep 0 hlen
     rw [hk0,Ji] at hr0
     obtain ⟨u,hu,hsim,_⟩:=fkh (h2 b hal).2 (hcell 0 hlen)
     have hsl:∃ a l c,f' 0 = .slice a l c:=by
      rcases akx hr0 with ⟨a,cc,he,_⟩ | ⟨_,_,_,_,_,he,_⟩
      ·exact ⟨_,_,_,he⟩
      ·exact ⟨_,_,_,he⟩
     obtain ⟨a,l,c,hsl⟩:=hsl
     rw [hsl] at hsim
     have hue:=gwn hsim
     subst hue
     have hld:=cjv (w:=w) hT b o (fun _=>.slice a l c) (fun j hj=>by
      rw [hk1] at hj
      have:j=0:=by simpa using hj
      subst this;exact hu)
     rw [hk2] at hld
     simp only [jj,if_false] at hld
     refine OpOk.pure h (v:=_) (ajf (by rw [hvv];exact hld)) trivial rfl ?_
     refine .rg _ _ _ _ W Q h1 ?_
     rw [← hsl];exact hr0.nrm
   ·cases hop
  ·cases hop
 | call c =>
  simp only [opW] at hop
  split at hop
  ·rename_i hcal
   split at hop
   ·rename_i x t hax hat
    split at hop
    ·rename_i r0 t' cc hvx hsl
     split at hop
     ·rename_i hw
      simp only [jb] at hop;subst hop
      obtain ⟨callee,args,argTypes⟩:=c
      simp only at hcal hax hat
      subst hcal
      have e1:=ajc hax
      have e2:=ajc hat
      subst e1 e2
      obtain ⟨W,Q,h1,h2⟩:=dwc h hw
      have hx:=hv x (by simp [jg,Call.operands])
      rw [hvx] at hx
      obtain ⟨⟨e,E⟩,hs⟩:=jZ.1 hsl
      obtain ⟨hu,_⟩:=aqt hs
      generalize hvv:ρ x=vx at hx
      cases hx with
      | rgGone _ _ _ _ hg=>rw [h1] at hg;cases hg
      | rg _ _ _ _ W' Q' hσ hr =>
       obtain ⟨a,c',rfl,hl⟩:=fql hr
       refine OpOk.pure h (ajf (x:=Builtin.len_ #[t] type (#[x].map ρ)) ?_) hl rfl (ARel.mk_int (dwu (by omega)))
       have:=run_len_slice (w:=w) hu type a cc.toSl.length c'
       simpa [hvv] using this
     ·cases hop
    ·cases hop
   ·cases hop
  ·cases hop
 | store t x y =>
  simp only [opW] at hop
  split at hop
  ·rename_i T r0 ks cells off hT hvx
   split at hop
   ·rename_i hc
    simp only [jf,decide_eq_true_eq] at hc
    obtain ⟨hw,hsc,hle⟩:=hc
    simp only [jb] at hop;subst hop
    obtain ⟨W,Q,h1,h2⟩:=dwc h hw
    have hx:=hv x (by simp [jg])
    rw [hvx] at hx
    have hy:=hv y (by simp [jg])
    generalize hvv:ρ x=vx at hx
    have h0:=az7 hT
    have hkl:(ks.take T.kinds.length).length=T.kinds.length:=by simp;omega
    obtain ⟨c1,c2⟩:=gqc rfl hsc (by omega) hy
    obtain ⟨_,c3⟩:=cwu hsc
    rw [hkl] at c1 c2 c3
    cases hx with
    | rpGone _ _ _ _ _ hg=>rw [h1] at hg;cases hg
    | rp _ _ _ _ b o W' Q' hσ hal f' hcell hrep =>
     rw [h1] at hσ;cases hσ
     obtain ⟨hB,vs',vs,ty,z,g1,g2,g3,g4⟩:=h2 b hal
     have cellat:∀ j,j < T.kinds.length→o+j < vs.size∧vs.getD (o+j) undef=f' j∧w.frozen? ⟨b,o+j,none⟩=false:=by
      intro j hj
      have hcj:=hcell j (by omega)
      obtain ⟨_,_,_,hnf⟩:=fkh (h2 b hal).2 hcj
      have hc':=bwk hcj
      simp only [World.cell?,g2] at hc'
      simp at hc'
      obtain ⟨hlt,e⟩:=jv.1 hc'
      exact ⟨hlt,by simp [Array.getD,hlt,e],hnf⟩
     have hfit:o+T.kinds.length≤vs'.size:=by
      have:=(cellat (T.kinds.length - 1) (by omega)).1
      omega
     have hone:∀ j,j < T.kinds.length→((ρ y).cells.getD j undef).oneCell'=true:=fun j hj=>by
      obtain ⟨xx,hxx⟩:=c2 j hj
      exact (fyn (c3 j hj).1 hxx).1
     have hrun:=ewe (w:=w) hT c1 rfl (b:=b) (o:=o) g1 (fun j hj=>(cellat j hj).2.2) hfit hone
     have hl:o+(ρ y).cells.toList.length≤vs'.toList.length:=by simp;omega
     refine .inr (.inl ⟨w.setRow b (aql vs'.toList o (ρ y).cells.toList).toArray,?_,rfl,trivial,σ,?_⟩)
     ·exact cqf (by rw [hvv];exact hrun)
     ·have hnr:∀ c,Al w0 w σ s.hp c→c≠b:=fun c hc e=>by
       have:=hc.2.1 r0 (by rw [h1,e];exact hal)
       cases hk:s.hp r0 <;> rw [hk] at hw this <;> simp [isW,ayn] at hw this
      have hother:∀ c,c≠b→(w.setRow b (aql vs'.toList o (ρ y).cells.toList).toArray).heap[c]? = w.heap[c]? := fun c hc=>setRow_other w b c _ hc
      refine h.change (h.below.trans ⟨by simp,by simp,by simp,by simp,fun c hc hn=>hother c (by
       rintro rfl
       rcases hB with hB | hB
       ·omega
       ·exact hn hB)⟩) (by simp) ?_ (fun c hc=>hother c (hnr c hc)) (fun _ _=>.inl rfl) (fun i=>?_) h.inj
      ·intro c hc
       refine ⟨by simpa using hc.1,fun i hi=>?_,hc.2.2⟩
       have hi':=hc.2.1 i hi
       simp only [upd]
       by_cases e:i=r0
       ·subst e
        cases hk:s.hp i <;> rw [hk] at hw hi' <;> simp [isW,ayn] at hw hi'
       ·simp only [e,if_false];exact hi'
      ·by_cases e:i=r0
       ·subst e
        refine .inr ?_
        have e0:upd s.hp i .wob i = .wob:=by simp [upd]
        dsimp only
        rw [e0]
        refine ⟨W,Q,h1,fun c hc=>⟨(h2 c hc).1,?_⟩⟩
        by_cases ec:c=b
        ·subst ec
         refine ⟨_,vs,ty,z,setRow_heap w c vs' _ ty z g1,g2,?_,fun i'=>?_⟩
         ·rw [List.size_toArray,ajw _ _ _ hl];simpa using g3
         ·have e0:(aql vs'.toList o (ρ y).cells.toList).toArray.getD i' undef=(aql vs'.toList o (ρ y).cells.toList).getD i' undef:=by
           simp [jh,ja]
          rw [e0,awa _ _ _ _ _ hl]
          split
          ·rename_i hin
           have hj:i' - o < T.kinds.length:=by simp at hin;omega
           obtain ⟨xx,hxx⟩:=c2 (i' - o) hj
           have hr':=hrep (i' - o) (by omega)
           have ek:(ks.take T.kinds.length).getD (i' - o) .other=ks.getD (i' - o) .other:=aq7 _ _ _ _ hj
           have hsc':=(c3 (i' - o) hj).1
           rw [ek] at hxx hsc'
           have hsim:=gyb hsc' hxx hr'
           have e1:(ρ y).cells.toList.getD (i' - o) undef=(ρ y).cells.getD (i' - o) undef:=by
            simp [jh,ja]
           have e2:vs.getD i' undef=f' (i' - o):=by
            have:=(cellat (i' - o) hj).2.1
            rw [← this];congr 1;simp at hin;omega
           rw [e1,e2];exact hsim
          ·have e1:vs'.toList.getD i' undef=vs'.getD i' undef:=by
            simp [jh,ja]
           rw [e1];exact g4 i'
        ·obtain ⟨_,q1,q2,q3,q4,q5,q6⟩:=h2 c hc
         exact ⟨q1,q2,q3,q4,by rw [hother c ec];exact q5,q6⟩
       ·exact .inl ⟨rfl,by simp [upd,e],fun c hc=>hother c (by
         rintro rfl
         exact e (h.inj i r0 c hc (by rw [h1];exact hal)))⟩
   ·cases hop
  ·cases hop
 | _=>simp [opW] at hop
def hww (P:Program) (o:Oper) (s:S) (K:S→Prop):Prop :=
 match o.guard with
 | none=>match opW P o s.hp (aja s.tm) with
  | some r=>ajd s.tm o.op.operands.toList∧r.pre∧(r.fact→K ⟨updD s.tm o.dst r.val,r.hp⟩)
  | none=>False
 | some _=>False
theorem aya:ay1 P (hww P):=by
 intro N ops o s K hok h
 unfold hww at h
 split at h
 ·rename_i hg
  split at h
  ·rename_i r hop
   obtain ⟨hn,hp,hK⟩:=h
   obtain ⟨_,ho⟩:=aqi hok
   exact bya hg hok r (fun w0 a w σ hR=>gwl hR hop (fun x hx=>aq9 hR (ho x hx) (ajq hn x (jB.2 hx))) hp) hK
  ·exact h.elim
 ·exact h.elim
end Go.AE
/-
 All that a state holds becomes one region (for functions that were handed all their data, and that write on them).
-/
namespace Go.AE
open Go.RowKit (Below)
variable {P:Program} {w0:Base} {w:World} {N kp:Nat} {σ:Nat→RefI} {s:S} {tms:Array Value} {ρ:Operand→Value} {al:Nat→Prop} {Γ:List Fn} {a b c:Code} {Q:Exit→S→Prop}
mutual
def colA (r:Nat) (hp:Nat→Blk):A→A
 | .c k x=>if aqm k then .c k x else .rg r k x
 | .agg xs=>.agg (gkr r hp xs)
 | .nilsl=>.nilsl
 | .own id ks off len=>match hp id with
  | .row t es=>.rg r (.slice t) (.slice ((es.drop off).take len))
  | .frz t es=>.rg r (.slice t) (.slice ((es.drop off).take len))
  | _=>.unk
 | .box id off=>match hp id with
  | .box _=>.box id off
  | _=>.unk
 | _=>.unk
def gkr (r:Nat) (hp:Nat→Blk):List A→List A
 | []=>[]
 | a :: as=>colA r hp a :: gkr r hp as
end
def colB (r:Nat) (hp:Nat→Blk):Blk→Blk
 | .row _ _=>.gone
 | .frz _ _=>.gone
 | .box cells=>.box (gkr r hp cells)
 | b=>b
def hyq (r:Nat) (hp:Nat→Blk):Nat→Blk:=fun id=>if id=r then .reg else colB r hp (hp id)
mutual
def rgOnly:A→Bool
 | .c k _=>aqm k
 | .rg _ _ _=>true
 | .agg xs=>eqc xs
 | .nilsl=>true
 | _=>false
def eqc:List A→Bool
 | []=>true
 | a :: as=>rgOnly a && eqc as
end
theorem dkp:∀ {as:List A},eqc as=true→∀ i,i < as.length→rgOnly (as.getD i .unk)=true
 | [],_,i,hi=>by simp at hi
 | a :: as,h,0,_=>by simp only [eqc,jf] at h;simpa using h.1
 | a :: as,h,i+1,hi=>by simp only [eqc,jf] at h;simpa using dkp h.2 i (by simpa using hi)
theorem ARel.rgOnly {al':Nat→Prop} {v:Value} {x:A} (h:ARel P w al σ v x) (hx:rgOnly x=true):ARel P w al' σ v x:=by
 induction h with
 | c k v x h=>exact .c _ _ _ (h.scalar (by simpa [Go.AE.rgOnly] using hx))
 | nilsl=>exact .nilsl
 | agg vs xs hl h ih=>exact .agg vs xs hl (fun i hi=>ih i hi (dkp (by simpa [Go.AE.rgOnly] using hx) i hi))
 | rg v id k x W Q h hr=>exact .rg v id k x W Q h hr
 | rgGone v id k x h=>exact .rgGone v id k x h
 | _=>simp [Go.AE.rgOnly] at hx
end Go.AE
/-
 Functions whose results are new: their contracts, out of what they do when all their data are a region.
-/
namespace Go.AE
open Go.RowKit (Below)
variable {P:Program} {w0:Base} {w:World} {N kp:Nat} {σ:Nat→RefI} {s:S} {tms:Array Value} {al:Nat→Prop}
theorem bq1 {A R:Type} [Inhabited R] {fid:FuncId} {ps:List (Bool×List Kd)} {dec:List (List C)→A} {enc:A→List (List C)} {F:A→Option R} {res:R→List Go.AE.A} {rows:R→List Blk}
  (henter:∀ args w,(callFunc fid args).run P w = .ok (.enter fid args) w)
  (H:∀ (a:A) (r:R),F a=some r→∃ as res',aqg P fid as [.reg] res' (.reg :: rows r)∧as=bjn ps (enc a)∧res'=cjs (· + 1) (res r)∧okMs (rows r).length (res r)=true∧(rows r).all fq2=true) :
  aj2 P (mkFn fid ps false dec enc F res rows):=by
 have key:∀ (w:World) (al:Nat→Prop) (vs:List Value) (cs:List (List C)),(∀ b,al b→b < w.heap.size)→vs.length=ps.length→cs.length=ps.length →
   (∀ i,i < ps.length→ArgRel P w al (ps.getD i (false,[])) (vs.getD i undef) (cs.getD i []))→((mkFn fid ps false dec enc F res rows).sem cs).pre →
   Calls P fid vs.toArray w (fun e w'=>∃ v,e = .returned v∧dwq P w (fun _=>False) w' v ((mkFn fid ps false dec enc F res rows).sem cs)):=by
  intro w al vs cs hal hvl hcl harg hpre
  obtain ⟨hc,hs⟩:=hpre
  obtain ⟨r,hF⟩:=jZ.1 hs
  have e1:(F (dec cs)).getD default=r:=by rw [hF];rfl
  have eres:((mkFn fid ps false dec enc F res rows).sem cs).res=res r:=by simp only [mkFn,e1]
  have erow:((mkFn fid ps false dec enc F res rows).sem cs).rows=rows r:=by simp only [mkFn,e1]
  obtain ⟨as,res',C0,has,hres,hok,hrw⟩:=H (dec cs) r hF
  rw [← hc] at has
  subst has hres
  obtain ⟨Q,hQ⟩:∃ Q:Nat→Prop,Q=fun b=>al b∧cqi w b:=⟨_,rfl⟩
  have hQlt:∀ b,Q b→b < w.heap.size:=fun b hb=>by rw [hQ] at hb;exact hal b hb.1
  have hQc:∀ b,Q b→cqi w b:=fun b hb=>by rw [hQ] at hb;exact hb.2
  obtain ⟨σ0,hσ0⟩:∃ σ0:Nat→RefI,σ0=fun j=>if j=0 then .reg w Q else .dead:=⟨_,rfl⟩
  have hσ00:σ0 0 = .reg w Q:=by rw [hσ0];rfl
  have hblk0:∀ j b,aj4 (σ0 j) b→j=0∧Q b:=by
   intro j b hb
   rw [hσ0] at hb
   by_cases hj:j=0
   ·simp only [hj,if_true,aj4] at hb;exact ⟨hj,hb⟩
   ·simp [hj,aj4] at hb
  have hargs:∀ i,i < (bjn ps cs).length→ArgM P w (fun _=>False) σ0 ((bjn ps cs).getD i (.ref .unk)) (vs.getD i undef):=by
   intro i hi
   rw [bj6 _ _ hcl] at hi
   rw [cz5 _ _ _ hcl hi]
   have hA:=harg i hi
   unfold eyi
   split
   ·rename_i hsc
    have hk:=dyh hsc
    show ArgRel P w _ _ _ _
    unfold ArgRel at hA ⊢
    split
    ·rename_i e
     rw [e] at hA
     obtain ⟨us,g1,g2,g3,g4⟩:=hA
     exact ⟨us,g1,g2,g3,fun j hj=>(g4 j hj).scalar (hk j hj)⟩
    ·rename_i e
     rw [e] at hA
     exact ⟨hA.1,hA.2.1,hA.2.2.scalar (hk 0 (by have:=hA.1;omega))⟩
   ·exact ezo hA hσ00 (fun h=>by rw [hQ];exact h.cells)
  refine (C0.calls w (fun _=>False) σ0 vs (fun b hb=>hb.elim) (fun j=>?_) (fun i j b hi hj=>by rw [(hblk0 i b hi).1,(hblk0 j b hj).1]) (by rw [bj6 _ _ hcl];omega) hargs).mono ?_
  ·cases j with
   | zero =>
    refine ⟨w,Q,hσ00,fun b hb=>⟨hQlt b hb,?_⟩⟩
    obtain ⟨vs,t,z,h1⟩:=hQc b hb
    exact ⟨vs,t,z,h1,h1⟩
   | succ j =>
    show σ0 (j+1) = .dead
    rw [hσ0];simp
  rintro e w' ⟨v,rfl,hbel,σr,hBr,hinjr,hold,hv⟩
  refine ⟨v,rfl,?_⟩
  obtain ⟨W1,Q1,hr0,hr1⟩:=hBr 0
  have hr0':σr 0 = .reg w Q:=by
   rcases hold 0 (by rw [hσ00];simp) with e | e
   ·rw [e,hσ00]
   ·rw [hr0] at e;cases e.1
  rw [hr0'] at hr0
  cases hr0
  have hB:Below w.heap.size w w':=⟨hbel.os,hbel.tape,hbel.output,hbel.size,fun k hk=>by
   by_cases hm:muOf σ0 k
   ·obtain ⟨j,hj⟩:=hm
    obtain ⟨_,vs,t,z,h1,h2⟩:=hr1 k (hblk0 j k hj).2
    rw [h1,h2]
   ·exact hbel.block k hk hm⟩
  have hwr:∀ b,Base.wr ⟨w,fun _=>False,muOf σ0,σ0,noMk,0⟩ b→w.heap.size≤b∨Q b:=by
   rintro b (h1 | ⟨j,hj⟩)
   ·exact .inl h1
   ·exact .inr (hblk0 j b hj).2
  have hAn:∀ b,Al ⟨w,fun _=>False,muOf σ0,σ0,noMk,0⟩ w' σr (aje (.reg :: rows r)) b→Al (djo w (fun _=>False)) w' (fun j=>σr (j+1)) (aje (rows r)) b:=by
   intro b hb
   refine ⟨hb.1,fun id hid=>hb.2.1 (id+1) hid,.inl (.inl ?_)⟩
   rcases hb.2.2 with h1 | h1
   ·rcases hwr b h1 with h2 | h2
    ·exact h2
    ·exact (hb.2.1 0 (by rw [hr0'];exact h2)).elim
   ·exact h1.elim
  unfold dwq
  rw [eres,erow]
  refine ⟨hB,fun b hb=>jE.1 hrw b hb,fun j=>σr (j+1),fun j=>?_,fun i j b hi hj=>by have:=hinjr (i+1) (j+1) b hi hj;omega,?_⟩
  ·have hb:=hBr (j+1)
   have e:aje (.reg :: rows r) (j+1)=aje (rows r) j:=rfl
   rw [e] at hb
   rcases jD j (rows r).length with hj | hj
   ·have e2:aje (rows r) j=(rows r)[j]:=by simp [aje,ja,hj]
    have hi:=jE.1 hrw _ (jw hj)
    have hren:aje (rows r) j=renB (fun x=>x) (aje (rows r) j):=by
     rw [e2];cases hx:(rows r)[j] <;> rw [hx] at hi <;> simp [fq2] at hi;rfl
    rw [hren] at hb
    refine hb.unren (m:=fun x=>x) (k:=0) (j:=j) (id:=j+1) (σ0:=fun j=>σr (j+1)) ?_ (fun b hbo hw=>?_) hAn rfl (fun i hi=>by omega)
    ·rw [e2];cases hx:(rows r)[j] <;> rw [hx] at hi <;> simp [fq2] at hi;rfl
    ·rcases hwr b hw with h2 | h2
     ·exact .inl h2
     ·have:=hinjr (j+1) 0 b hbo (by rw [hr0'];exact h2)
      omega
   ·have e2:aje (rows r) j = .dead:=by simp [aje,ja,jP hj]
    rw [e2] at hb ⊢;exact hb
  ·-- the results
   have one:∀ {v:Value} {a:Go.AE.A},okM (rows r).length a=true→ARel P w' (Al ⟨w,fun _=>False,muOf σ0,σ0,noMk,0⟩ w' σr (aje (.reg :: rows r))) σr v (renM (· + 1) a)→ARel P w' (Al (djo w (fun _=>False)) w' (fun j=>σr (j+1)) (aje (rows r))) (fun j=>σr (j+1)) v a :=
    fun ho h=>(dy9 h (σ0:=fun j=>σr (j+1)) (m:=(· + 1)) (k:=(rows r).length) (fun j _=>rfl) _ rfl ho).mono (fun _ _=>rfl) hAn (fun _ _=>.inl rfl)
   have tup:∀ as:List Go.AE.A,okMs (rows r).length as=true→ARel P w' (Al ⟨w,fun _=>False,muOf σ0,σ0,noMk,0⟩ w' σr (aje (.reg :: rows r))) σr v (.tup (cjs (· + 1) as))→ARel P w' (Al (djo w (fun _=>False)) w' (fun j=>σr (j+1)) (aje (rows r))) (fun j=>σr (j+1)) v (.tup as):=by
    intro as ho h
    cases h with
    | tup us _ hl hh =>
     rw [aq8] at hl
     refine .tup us _ hl (fun i hi=>one (dwf ho i) ?_)
     have:=hh i (by rw [aq8];exact hi)
     rw [bq0] at this;exact this
   generalize res r=as at hok hv
   cases as with
   | nil=>exact tup [] hok hv
   | cons a as =>
    cases as with
    | nil=>simp only [okMs,Bool.and_true] at hok;exact one hok hv
    | cons b as=>exact tup (a :: b :: as) hok hv
 refine ⟨henter,fun _=>key,fun w al vs cs h1 h2 h3 h4 h5=>(key w al vs cs h1 h2 h3 h4 h5).mono ?_⟩
 rintro e w' ⟨v,e1,hB,hrow,σr,hBr,hinj,hv⟩
 have ha:∀ b,Al (djo w (fun _=>False)) w' σr (aje ((mkFn fid ps false dec enc F res rows).sem cs).rows) b→Al (djo w al) w' σr (aje ((mkFn fid ps false dec enc F res rows).sem cs).rows) b:=by
  intro b hb
  refine ⟨hb.1,hb.2.1,?_⟩
  rcases hb.2.2 with h6 | h6
  ·exact .inl h6
  ·exact h6.elim
 refine ⟨v,e1,hB,hrow,σr,fun j=>?_,hinj,hv.mono (fun _ _=>rfl) ha (fun _ _=>.inl rfl)⟩
 have hb:=hBr j
 rcases jD j ((mkFn fid ps false dec enc F res rows).sem cs).rows.length with hj | hj
 ·have e:aje ((mkFn fid ps false dec enc F res rows).sem cs).rows j=((mkFn fid ps false dec enc F res rows).sem cs).rows[j]:=by simp [aje,ja,hj]
  have hi:=hrow _ (jw hj)
  rw [e] at hb ⊢
  cases hx:((mkFn fid ps false dec enc F res rows).sem cs).rows[j] <;> rw [hx] at hi hb <;> simp [fq2] at hi
  exact ajt.weaken hb (fun b hb=>hb) (.inl ha)
 ·have e:aje ((mkFn fid ps false dec enc F res rows).sem cs).rows j = .dead:=by simp [aje,ja,jP hj]
  rw [e] at hb ⊢;exact hb
end Go.AE
/-
 A slice built of what lies in a region: with its own block, it is a region again.
-/
namespace Go.AE
open Go.RowKit (Below)
variable {P:Program} {w0:Base} {w:World} {N kp:Nat} {σ:Nat→RefI} {s:S} {tms:Array Value} {ρ:Operand→Value} {al:Nat→Prop}
mutual
def ijb (r:Nat):A→A
 | .c k x=>if aqm k then .c k x else .unk
 | .rg id k x=>if id == r then .c k x else .unk
 | .agg xs=>.agg (hqb r xs)
 | .nilsl=>.nilsl
 | _=>.unk
def hqb (r:Nat):List A→List A
 | []=>[]
 | a :: as=>ijb r a :: hqb r as
end
end Go.AE
