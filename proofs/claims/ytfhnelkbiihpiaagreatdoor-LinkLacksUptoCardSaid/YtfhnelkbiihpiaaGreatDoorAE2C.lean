/- Text. -/
import Derived.Test.YtfhnelkbiihpiaaGreatDoorAE2
import Derived.RangeFuncNested
set_option linter.unusedVariables false
namespace Go.AE
open Go.RowKit (Below)
variable {P:Program} {w0:Base} {w w':World} {N:Nat} {σ σ':Nat→RefI} {s:S} {tm:Array Value} {al al':Nat→Prop}
theorem dkw {a:Addr} {v:Value} (h:w.cell? a=some v) (hw:∀ o,w.heap[a.block]? = some o→o.isCells=true→w'.heap[a.block]? = some o):w'.cell? a=some v:=by
 unfold World.cell? at h ⊢
 cases ho:w.heap[a.block]? with
 | none=>simp [ho] at h
 | some o =>
  have hc:o.isCells=true:=by cases o <;> simp_all [Obj.isCells]
  rw [hw o ho hc]
  rw [ho] at h;exact h
theorem czj {a:Addr} {v:Value} (h:bz3 w a=some v) (hw:∀ o,w.heap[a.block]? = some o→o.isCells=true→w'.heap[a.block]? = some o):bz3 w' a=some v:=by
 refine cjn (dkw (awl h) hw) ?_
 have hf:=ew7 h
 have hc:=awl h
 unfold World.frozen? at hf ⊢
 unfold World.cell? at hc
 cases ho:w.heap[a.block]? with
 | none=>simp [ho] at hc
 | some o =>
  have hcl:o.isCells=true:=by cases o <;> simp_all [Obj.isCells]
  rw [hw o ho hcl]
  rw [ho] at hf;exact hf
theorem RepC.monoC {k:Kd} {v:Value} {x:C} (h:RepC P w al k v x)
  (hw:∀ b o,al b→w.heap[b]? = some o→o.isCells=true→w'.heap[b]? = some o) (ha:∀ b,al b→al' b):RepC P w' al' k v x:=by
 induction h with
 | bool x=>exact .bool x
 | int k x h=>exact .int k x h
 | str x h=>exact .str x h
 | empty t x a cap h hz=>exact .empty t x a cap h hz
 | slice t x b off cap hz E hE hal hlen hcap hel f hcell hrep ih =>
  exact .slice t x b off cap hz E hE (ha b hal) hlen hcap hel f (fun i hi j hj=>czj (hcell i hi j hj) (fun o=>hw b o hal)) ih
 | arr t x vs n e E hA hn hl hel hrep ih=>exact .arr t x vs n e E hA hn hl hel ih
 | ptr t v x=>exact .ptr t v x
 | other v x=>exact .other v x
theorem ARel.monoC {v:Value} {a:A} (h:ARel P w al σ v a)
  (hw:∀ b o,al b→w.heap[b]? = some o→o.isCells=true→w'.heap[b]? = some o) (ha:∀ b,al b→al' b) (hs:∀ id,σ id≠.dead→σ' id=σ id∨(σ' id = .gone∧bqw (σ id))):ARel P w' al' σ' v a:=by
 induction h with
 | unk v=>exact .unk v
 | c k v x h=>exact .c k v x (h.monoC hw ha)
 | nilsl=>exact .nilsl
 | agg vs xs hl h ih=>exact .agg vs xs hl ih
 | tup vs xs hl h ih=>exact .tup vs xs hl ih
 | ownGone v id ks off len h=>exact .ownGone v id ks off len (by rcases hs id (by simp [h]) with e | e <;> simp [e,h])
 | eltGone v id sz ks i off h=>exact .eltGone v id sz ks i off (by rcases hs id (by simp [h]) with e | e <;> simp [e,h])
 | ownNil id ks off t h ho =>
  rcases hs id (by simp [h]) with e | e
  ·exact .ownNil id ks off t (e.trans h) ho
  ·exact .ownGone _ id ks off 0 e.1
 | own0 id ks len b cap n t h hl =>
  rcases hs id (by simp [h]) with e | e
  ·exact .own0 id ks len b cap n t (e.trans h) hl
  ·exact .ownGone _ id ks 0 len e.1
 | ownOff id ks off len b cap n cap' t h ho hl hc =>
  rcases hs id (by simp [h]) with e | e
  ·exact .ownOff id ks off len b cap n cap' t (e.trans h) ho hl hc
  ·exact .ownGone _ id ks off len e.1
 | ownOff0 a id ks off b cap n cap' t h ho hl =>
  rcases hs id (by simp [h]) with e | e
  ·exact .ownOff0 a id ks off b cap n cap' t (e.trans h) ho hl
  ·exact .ownGone _ id ks off 0 e.1
 | box id off b h =>
  rcases hs id (by simp [h]) with e | e
  ·exact .box id off b (e.trans h)
  ·rw [h] at e;exact e.2.elim
 | bsl id len b cap h =>
  rcases hs id (by simp [h]) with e | e
  ·exact .bsl id len b cap (e.trans h)
  ·rw [h] at e;exact e.2.elim
 | elt id ks0 ks i off b cap n t h hi hk =>
  rcases hs id (by simp [h]) with e | e
  ·exact .elt id ks0 ks i off b cap n t (e.trans h) hi hk
  ·exact .eltGone _ id _ ks i off e.1
 | pp ks cells off b o hal f hcell hrep =>
  exact .pp ks cells off b o (ha b hal) f (fun j hj=>czj (hcell j hj) (fun o=>hw b o hal)) (fun j hj=>(hrep j hj).monoC hw ha)
 | fnv f caps vs hl h ih=>exact .fnv f caps vs hl ih
 | fnb f caps vs hl h ih=>exact .fnb f caps vs hl ih
 | mref id b h =>
  rcases hs id (by simp [h]) with e | e
  ·exact .mref id b (e.trans h)
  ·exact .mrefGone _ id e.1
 | mrefGone v id h=>exact .mrefGone v id (by rcases hs id (by simp [h]) with e | e <;> simp [e,h])
 | itr id r b h =>
  rcases hs id (by simp [h]) with e | e
  ·exact .itr id r b (e.trans h)
  ·rw [h] at e;exact e.2.elim
 | whenT v a h ih=>exact .whenT v a ih
 | whenF a=>exact .whenF a
 | rg v id k x W Q h hr =>
  rcases hs id (by simp [h]) with e | e
  ·exact .rg v id k x W Q (e.trans h) hr
  ·exact .rgGone v id k x e.1
 | rgGone v id k x h=>exact .rgGone v id k x (by rcases hs id (by simp [h]) with e | e <;> simp [e,h])
 | rp id ks cells off b o W Q h hal f hcell hrep =>
  rcases hs id (by simp [h]) with e | e
  ·exact .rp id ks cells off b o W Q (e.trans h) hal f hcell hrep
  ·exact .rpGone _ id ks cells off e.1
 | rpGone v id ks cells off h=>exact .rpGone v id ks cells off (by rcases hs id (by simp [h]) with e | e <;> simp [e,h])
theorem ArgRel.monoC {p:Bool×List Kd} {v:Value} {c:List C} (h:ArgRel P w al p v c)
  (hw:∀ b o,al b→w.heap[b]? = some o→o.isCells=true→w'.heap[b]? = some o) (ha:∀ b,al b→al' b):ArgRel P w' al' p v c:=by
 unfold ArgRel at *
 split
 ·rename_i e
  rw [e] at h
  obtain ⟨us,h1,h2,h3,h4⟩:=h
  exact ⟨us,h1,h2,h3,fun j hj=>(h4 j hj).monoC hw ha⟩
 ·rename_i e
  rw [e] at h
  exact ⟨h.1,h.2.1,h.2.2.monoC hw ha⟩
theorem MRel.monoC {kk:Kd} {vp:Bool×List Kd} (hw:∀ b o,al b→w.heap[b]? = some o→o.isCells=true→w'.heap[b]? = some o) (ha:∀ b,al b→al' b) :
  ∀ {es:List MapEntry} {m:List (C×List C)},MRel P w al kk vp es m→MRel P w' al' kk vp es m
 | [],[],_=>trivial
 | [],_ :: _,h=>h.elim
 | _ :: _,[],h=>h.elim
 | _ :: _,_ :: _,h=>⟨h.1.monoC hw ha,h.2.1.monoC hw ha,h.2.2.monoC hw ha⟩
theorem dq7.monoC {kk:Kd} {vp:Bool×List Kd} {es:Array MapEntry} {seen:Array Nat} {cc:Prop} {cur:Option (C×List C)} (h:dq7 P w al kk vp es seen cc cur)
  (hw:∀ b o,al b→w.heap[b]? = some o→o.isCells=true→w'.heap[b]? = some o) (ha:∀ b,al b→al' b):dq7 P w' al' kk vp es seen cc cur:=by
 cases cur with
 | none=>trivial
 | some x =>
  obtain ⟨hc,e,h1,h2,h3,h4⟩:=h
  exact ⟨hc,e,h1,h2,h3.monoC hw ha,h4.monoC hw ha⟩
theorem BRel.monoC {B:Nat→Prop} {id:Nat} {k:Blk} (h:BRel P w B al σ id k)
  (hw:∀ b o,al b→w.heap[b]? = some o→o.isCells=true→w'.heap[b]? = some o) (ha:∀ b,al b→al' b)
  (hb:∀ b,aj0 (σ id) b→w'.heap[b]? = w.heap[b]?):BRel P w' B al' σ id k:=by
 have row:∀ {t:TypeId} {es:List (List C)},aq2 P w B al (σ id) t es→aq2 P w' B al' (σ id) t es:=by
  rintro t es ⟨E,hE,hby,h⟩
  refine ⟨E,hE,hby,h.imp (fun h=>h) ?_⟩
  rintro ⟨b,cap,cur,tg,hr,hB,hh,h1,h2,h3,h4,h5⟩
  exact ⟨b,cap,cur,tg,hr,hB,by rw [hb b (by simp [hr,aj0])];exact hh,h1,h2,h3,h4,fun i hi j hj=>(h5 i hi j hj).monoC hw ha⟩
 cases k with
 | dead=>exact h
 | gone=>exact h
 | box cells =>
  obtain ⟨b,vs,t,hr,hB,hh,hl,hc⟩:=h
  exact ⟨b,vs,t,hr,hB,by rw [hb b (by simp [hr,aj0])];exact hh,hl,fun j hj=>(hc j hj).monoC hw ha (fun _ _=>.inl rfl)⟩
 | row t es=>exact row h
 | frz t es=>exact row h
 | mp kk vp m =>
  obtain ⟨b,es,clock,hr,hB,hh,hk,hm⟩:=h
  exact ⟨b,es,clock,hr,hB,by rw [hb b (by simp [hr,aj0])];exact hh,hk,hm.monoC hw ha⟩
 | rl t es i j a =>
  obtain ⟨E,hE,hby,h⟩:=h
  refine ⟨E,hE,hby,h.imp (fun h=>h) ?_⟩
  rintro ⟨b,cap,cur,tg,hr,hB,hh,h1,h2,h3,h4,h5,h6⟩
  exact ⟨b,cap,cur,tg,hr,hB,by rw [hb b (by simp [hr,aj0])];exact hh,h1,h2,h3,h4,fun i hi j hj hn=>(h5 i hi j hj hn).monoC hw ha,fun hi=>⟨(h6 hi).1,(h6 hi).2.monoC hw ha (fun _ _=>.inl rfl)⟩⟩
 | it kk vp cur left =>
  obtain ⟨r,b,es,clock,since,seen,c0,hr,hB,hB2,hh,hh2,hk,⟨L,hL,hm⟩,hc⟩:=h
  exact ⟨r,b,es,clock,since,seen,c0,hr,hB,hB2,by rw [hb r (by simp [hr,aj0])];exact hh,by rw [hb b (by simp [hr,aj0])];exact hh2,hk,⟨L,hL,hm.monoC hw ha⟩,hc.monoC hw ha⟩
 | reg =>
  obtain ⟨W,Q,hr,hq⟩:=h
  refine ⟨W,Q,hr,fun b hb'=>?_⟩
  obtain ⟨h1,vs,t,z,h2,h3⟩:=hq b hb'
  exact ⟨h1,vs,t,z,by rw [hb b (by simp [hr,aj0,hb'])];exact h2,h3⟩
 | wob =>
  obtain ⟨W,Q,hr,hq⟩:=h
  refine ⟨W,Q,hr,fun b hb'=>?_⟩
  obtain ⟨h1,vs',vs,t,z,h2,h3⟩:=hq b hb'
  exact ⟨h1,vs',vs,t,z,by rw [hb b (by simp [hr,aj0,hb'])];exact h2,h3⟩
def Base.at (w0:Base) (m:Nat→Option Obj) (n:Nat):Base:={ w0 with mkd:=m,ms:=n }
theorem RelL.remark (h:RelL P w0 N σ s tm w) (m:Nat→Option Obj) (n:Nat) (hn:n≤w.heap.size) (hm:∀ k o,m k=some o→Al w0 w σ s.hp k∧w.heap[k]? = some o):RelL P (w0.at m n) N σ s tm w :=
 ⟨h.below,h.size,h.tms,h.blks,h.inj,h.keep,hn,hm⟩
theorem RelL.other (h:RelL P w0 N σ s tm w) (m:Nat→Option Obj) (n:Nat) (hn:n≤w'.heap.size)
  (hos:w'.os=w.os) (htape:w'.tape=w.tape) (hout:w'.output=w.output) (hsz:w.heap.size≤w'.heap.size)
  (hc:∀ (b:Nat) (o:Obj),w.heap[b]? = some o→o.isCells=true→w'.heap[b]? = some o) (hown:∀ id b,aj0 (σ id) b→w'.heap[b]? = w.heap[b]?) (hlow:∀ b,b < w0.n→w'.heap[b]? = w.heap[b]?)
  (hm:∀ k o,m k=some o→Al w0 w σ s.hp k∧w'.heap[k]? = some o):RelL P (w0.at m n) N σ s tm w':=by
 have hal:∀ b,Al w0 w σ s.hp b→Al w0 w' σ s.hp b:=fun b hb=>⟨Nat.lt_of_lt_of_le hb.1 hsz,hb.2⟩
 refine ⟨h.below.trans ⟨hos,htape,hout,hsz,fun k hk _=>hlow k hk⟩,h.size,fun k=>(h.tms k).monoC (fun b o _=>hc b o) hal (fun _ _=>.inl rfl),fun id=>?_,h.inj,h.keep,hn,fun k o hk=>⟨hal k (hm k o hk).1,(hm k o hk).2⟩⟩
 exact (h.blks id).monoC (fun b o _=>hc b o) hal (fun b hb=>hown id b hb)
def Ext (w0 w0':Base):Prop:=∃ m n,w0'=w0.at m n∧(∀ k o,w0.mkd k=some o→m k=some o)∧w0.ms≤n
theorem Ext.refl (w0:Base):Ext w0 w0:=⟨w0.mkd,w0.ms,rfl,fun _ _ h=>h,Nat.le_refl _⟩
theorem Ext.trans {a b c:Base} (h:Ext a b) (h':Ext b c):Ext a c:=by
 obtain ⟨m,n,rfl,h1,h2⟩:=h
 obtain ⟨m',n',rfl,h3,h4⟩:=h'
 exact ⟨m',n',rfl,fun k o hk=>h3 k o (h1 k o hk),Nat.le_trans h2 h4⟩
theorem Ext.sg {a b:Base} (h:Ext a b):b.sg=a.sg:=by obtain ⟨m,n,rfl,_⟩:=h;rfl
theorem Ext.n {a b:Base} (h:Ext a b):b.n=a.n:=by obtain ⟨m,n,rfl,_⟩:=h;rfl
theorem Ext.mk {a b:Base} (h:Ext a b) {k:Nat} {o:Obj} (hk:a.mkd k=some o):b.mkd k=some o:=by obtain ⟨m,n,rfl,h1,_⟩:=h;exact h1 k o hk
def mkDf (D:Nat):Deferred:={ target:=.collected D,args:=#[] }
def DfOk (w0:Base) (ds:List Deferred):Prop:=∃ Ds:List Nat,ds=Ds.map mkDf∧Ds.Nodup∧∀ D∈Ds,w0.n≤D∧w0.mkd D=some (.deferred (some []))
theorem DfOk.nil (w0:Base):DfOk w0 []:=⟨[],rfl,List.nodup_nil,fun _ h=>by cases h⟩
def RdOk (w0:Base) (r:Option Nat):Prop:=∀ l,r=some l→∃ r0,w0.mkd l=some (.loop r0)
theorem RdOk.none (w0:Base):RdOk w0 none:=fun l h=>by cases h
theorem RdOk.ext {a b:Base} (h:Ext a b) {r:Option Nat} (hd:RdOk a r):RdOk b r:=fun l e=>let ⟨r0,h0⟩:=hd l e;⟨r0,h.mk h0⟩
end Go.AE
