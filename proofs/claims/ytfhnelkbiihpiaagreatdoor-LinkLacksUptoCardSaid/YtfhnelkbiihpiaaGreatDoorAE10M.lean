/- Text. -/
import Derived.Test.YtfhnelkbiihpiaaGreatDoorAE9O
import Derived.MapKept
set_option linter.unusedSimpArgs false
set_option linter.unusedVariables false
open _root_.Bool renaming and_eq_true→jd,false_eq_true→jD
open _root_.List renaming mem_append→jf,getD_eq_getElem?_getD→jb,getElem_mem→jC,getElem?_eq_none→jE,mem_singleton→Jb
open _root_.Nat renaming lt_or_ge→js,lt_of_lt_of_le→jG,le_trans→j3,zero_add→jM
open _root_.Option.some renaming injEq→ja
open Go.Result renaming andThen→jJ
namespace Go.AE
open Go.RowKit (Below)
variable {P:Program} {w0:Base} {w:World} {N:Nat} {σ:Nat→RefI} {s:S} {tms:Array Value} {ρ:Operand→Value} {al:Nat→Prop}
def cwj (w:World) (al:Nat→Prop):Base:=⟨w,al,fun _=>False,fun _=>.dead,noMk,0⟩
theorem bq1 {w:World} {al:Nat→Prop} {b:Nat} (h:(cwj w al).wr b):w.heap.size≤b:=by
 rcases h with h | h
 ·exact h
 ·exact h.elim
def aja (rows:List Blk) (j:Nat):Blk:=rows.getD j .dead
def isRow:Blk→Bool
 | .row _ _=>true
 | _=>false
def cj1 (P:Program) (w:World) (al:Nat→Prop) (w':World) (v:Value) (sig:Sig):Prop :=
 Below w.heap.size w w'∧(∀ b,b∈sig.rows→isRow b=true)∧∃ σr:Nat→RefI,
  (∀ j,BRel P w' (cwj w al).wr (Al (cwj w al) w' σr (aja sig.rows)) σr j (aja sig.rows j)) ∧
  (∀ i j b,aj0 (σr i) b→aj0 (σr j) b→i=j) ∧
  ARel P w' (Al (cwj w al) w' σr (aja sig.rows)) σr v (ayh sig.res)
mutual
def aw0:A→Bool
 | .c k _=>aqo k
 | .agg xs=>akk xs
 | .own _ ks _ _=>ks.all aqo
 | .nilsl=>true
 | _=>false
def akk:List A→Bool
 | []=>true
 | a :: as=>aw0 a && akk as
end
structure aj9 (P:Program) (g:Fn):Prop where
 enter:∀ args w,(callFunc g.f args).run P w = .ok (.enter g.f args) w
 new:g.refs=false→∀ (w:World) (al:Nat→Prop) (vs:List Value) (cs:List (List C)),(∀ b,al b→b < w.heap.size)→vs.length=g.ps.length→cs.length=g.ps.length →
  (∀ i,i < g.ps.length→ArgRel P w al (g.ps.getD i (false,[])) (vs.getD i undef) (cs.getD i []))→(g.sem cs).pre →
  Calls P g.f vs.toArray w (fun e w'=>∃ v,e = .returned v∧cj1 P w (fun _=>False) w' v (g.sem cs))
 calls:∀ (w:World) (al:Nat→Prop) (vs:List Value) (cs:List (List C)),(∀ b,al b→b < w.heap.size)→vs.length=g.ps.length→cs.length=g.ps.length →
  (∀ i,i < g.ps.length→ArgRel P w al (g.ps.getD i (false,[])) (vs.getD i undef) (cs.getD i []))→(g.sem cs).pre →
  Calls P g.f vs.toArray w (fun e w'=>∃ v,e = .returned v∧cj1 P w al w' v (g.sem cs))
theorem cqy:∀ {Γ:List Fn} {f:FuncId} {g:Fn},cz1 Γ f=some g→g∈Γ∧g.f=f
 | [],f,g,h=>by cases h
 | x :: Γ,f,g,h=>by
  simp only [cz1] at h
  split at h
  ·rename_i e;simp only [ja] at h;subst h;exact ⟨by simp,e⟩
  ·obtain ⟨h1,h2⟩:=cqy h;exact ⟨by simp [h1],h2⟩
theorem bj9 {al':Nat→Prop} {p:Bool×List Kd} {a:A} {v:Value} {c:List C} (h00:tyI P 0=none) (h:RelL P w0 N σ s tms w) (h1:∀ b,Al w0 w σ s.hp b→al' b) (hf:azx s.hp p a=some c)
  (hx:ARel P w (Al w0 w σ s.hp) σ v a) (h2:∀ id,id∈(aje a).flatMap ajc→∀ b,aj0 (σ id) b→al' b):ArgRel P w al' p v c:=by
 have single:∀ k c0 k0,toCell s.hp a=some (k,c0)→aje a=[a]→p.1=false→p.2=[k0]→fitP k0 k=true→c=[c0]→ArgRel P w al' p v c:=by
  rintro k c0 k0 hto hca hp1 hp2 hfk rfl
  have hr:=awp h hto hx h1 (fun id hid=>h2 id (by rw [hca];simpa using hid))
  simp only [ArgRel,hp1,hp2]
  exact ⟨rfl,rfl,bz0 h00 hfk hr⟩
 cases a with
 | agg xs =>
  simp only [azx] at hf
  split at hf
  ·rename_i he
   split at hf
   ·rename_i ks' cs hto
    split at hf
    ·rename_i hok
     simp only [jd,beq_iff_eq] at hok
     simp only [ja] at hf;subst hf
     cases hx with
     | agg vs _ hl hh =>
      obtain ⟨l1,l2,hrep⟩:=ay0 h h1 hto hl hh h2
      obtain ⟨f1,f2⟩:=bwz hok.1
      simp only [ArgRel,he]
      refine ⟨vs,rfl,by rw [hl,← l1,hok.2],by rw [l2,← l1,hok.2],fun j hj=>?_⟩
      have hj':j < ks'.length:=by rw [hok.2];exact hj
      exact bz1 h00 (f2 j hj') (hrep j (by omega))
    ·cases hf
   ·cases hf
  ·cases hf
 | _ =>
  simp only [azx] at hf
  split at hf
  ·cases hf
  ·rename_i he
   split at hf
   ·rename_i hto hks
    split at hf
    ·rename_i hfk
     simp only [ja] at hf
     exact single _ _ _ hto rfl he hks hfk hf.symm
    ·cases hf
   ·cases hf
theorem bzg {hp:Nat→Blk} {p:Bool×List Kd} {a:A} {c:List C} (hf:azx hp p a=some c):∀ id,id∈(aje a).flatMap ajc→∃ t es,hp id = .row t es∨hp id = .frz t es:=by
 have single:∀ q,toCell hp a=some q→aje a=[a]→∀ id,id∈(aje a).flatMap ajc→∃ t es,hp id = .row t es∨hp id = .frz t es:=by
  intro q hto hca
  rw [hca]
  exact akg (q:=([q.1],[q.2])) (by simp [aqj,hto])
 cases a with
 | agg xs =>
  simp only [azx] at hf
  split at hf
  ·split at hf
   ·rename_i ks' cs hto;exact akg hto
   ·cases hf
  ·cases hf
 | _ =>
  simp only [azx] at hf
  split at hf
  ·cases hf
  ·split at hf
   ·rename_i k c0 k0 hto hks;exact single _ hto rfl
   ·cases hf
theorem bwf {hp:Nat→Blk}:∀ {ps:List (Bool×List Kd)} {as:List A} {cs:List (List C)},ak2 hp ps as=some cs →
  as.length=ps.length∧cs.length=ps.length∧∀ i,i < ps.length→azx hp (ps.getD i (false,[])) (as.getD i .unk)=some (cs.getD i [])
 | [],[],cs,h=>by simp only [ak2,ja] at h;subst h;exact ⟨rfl,rfl,fun i hi=>by simp at hi⟩
 | [],_ :: _,cs,h=>by simp [ak2] at h
 | _ :: _,[],cs,h=>by simp [ak2] at h
 | p :: ps,a :: as,cs,h=>by
  simp only [ak2] at h
  split at h
  ·rename_i x xs hx hxs
   simp only [ja] at h;subst h
   obtain ⟨h1,h2,h3⟩:=bwf hxs
   refine ⟨by simp [h1],by simp [h2],fun i hi=>?_⟩
   cases i with
   | zero=>simpa using hx
   | succ i=>simpa using h3 i (by simpa using hi)
  ·cases h
theorem eq3 {as:List A} {i:Nat} (hi:i < as.length) {id:Nat} (h:id∈(aje (as.getD i .unk)).flatMap ajc):id∈ak5 as:=by
 induction as generalizing i with
 | nil=>simp at hi
 | cons a as ih =>
  simp only [ak5]
  cases i with
  | zero=>exact jf.2 (.inl (by simpa using h))
  | succ i=>exact jf.2 (.inr (ih (by simpa using hi) (by simpa using h)))
theorem eq1 {as:List A} {id:Nat} (h:id∈ak5 as):∃ i,i < as.length∧id∈(aje (as.getD i .unk)).flatMap ajc:=by
 induction as with
 | nil=>simp [ak5] at h
 | cons a as ih =>
  simp only [ak5] at h
  rcases jf.1 h with h | h
  ·exact ⟨0,by simp,by simpa using h⟩
  ·obtain ⟨i,hi,hm⟩:=ih h
   exact ⟨i+1,by simpa using hi,by simpa using hm⟩
theorem bjy (d:Nat):∀ (bs:List Blk) (j:Nat) (hp:Nat→Blk) (id:Nat),addRows d j bs hp id=if key d j≤id∧id < key d j+bs.length then bs.getD (id - key d j) .dead else hp id
 | [],j,hp,id=>by simp only [addRows,List.length_nil];rw [if_neg (by omega)]
 | b :: bs,j,hp,id=>by
  simp only [addRows]
  rw [bjy d bs (j+1)]
  have hk:key d (j+1)=key d j+1:=by simp [key];omega
  rw [hk]
  simp only [List.length_cons,upd]
  by_cases h1:key d j+1≤id∧id < key d j+1+bs.length
  ·rw [if_pos h1,if_pos (by omega)]
   have:id - key d j=(id - (key d j+1))+1:=by omega
   rw [this,List.getD_cons_succ]
  ·rw [if_neg h1]
   by_cases h2:id=key d j
   ·subst h2;rw [if_pos rfl,if_pos (by omega)];simp
   ·rw [if_neg h2,if_neg (by omega)]
theorem bzs (d:Nat):∀ (bs:List Blk) (j:Nat) (hp:Nat→Blk),ay2 d j bs hp=true→∀ i,i < bs.length→hp (key d j+i) = .dead
 | [],j,hp,h,i,hi=>by simp at hi
 | b :: bs,j,hp,h,i,hi=>by
  simp only [ay2,jd] at h
  cases i with
  | zero=>exact ajw h.1
  | succ i =>
   have:=bzs d bs (j+1) hp h.2 i (by simpa using hi)
   have hk:key d (j+1)=key d j+1:=by simp [key];omega
   rw [hk] at this
   rw [← this];congr 1;omega
theorem bjh (d:Nat) (as:List A):(bkf d as).length=as.length:=by
 induction as with
 | nil=>rfl
 | cons a as ih=>simp [bkf,ih]
theorem czf (d:Nat) (as:List A) (i:Nat):(bkf d as).getD i .unk=renA d (as.getD i .unk):=by
 induction as generalizing i with
 | nil=>simp [bkf,renA]
 | cons a as ih =>
  cases i with
  | zero=>simp [bkf]
  | succ i=>simpa [bkf] using ih i
theorem eqd {σr σ':Nat→RefI} {d:Nat} {v:Value} {a:A} (h:ARel P w al σr v a) (hs:∀ j,σr j≠.dead→σ' (key d j)=σr j):ARel P w al σ' v (renA d a):=by
 induction h with
 | unk v=>exact .unk v
 | c k v x h=>exact .c k v x h
 | nilsl=>exact .nilsl
 | agg vs xs hl h ih =>
  simp only [renA]
  refine .agg vs _ (by rw [bjh];exact hl) (fun i hi=>?_)
  rw [bjh] at hi
  rw [czf];exact ih i hi
 | tup vs xs hl h ih=>exact .unk _
 | ownGone v id ks off len h=>exact .ownGone v _ ks off len (by rw [hs id (by simp [h]),h])
 | eltGone v id sz ks i off h=>exact .unk _
 | ownNil id ks off t h ho=>exact .ownNil _ ks off t (by rw [hs id (by simp [h]),h]) ho
 | own0 id ks len b cap n t h hl=>exact .own0 _ ks len b cap n t (by rw [hs id (by simp [h]),h]) hl
 | ownOff id ks off len b cap n cap' t h ho hl hc=>exact .ownOff _ ks off len b cap n cap' t (by rw [hs id (by simp [h]),h]) ho hl hc
 | ownOff0 a id ks off b cap n cap' t h ho hl=>exact .ownOff0 a _ ks off b cap n cap' t (by rw [hs id (by simp [h]),h]) ho hl
 | box id off b h=>exact .unk _
 | bsl id len b cap h=>exact .unk _
 | elt id ks0 ks i off b cap n t h hi hk=>exact .unk _
 | pp ks cells off b o hal f hcell hrep=>exact .unk _
 | fnv f caps vs hl h ih=>exact .unk _
 | fnb f caps vs hl h ih=>exact .unk _
 | mref id b h=>exact .unk _
 | mrefGone v id h=>exact .unk _
 | itr id r b h=>exact .unk _
 | whenT v a h ih=>exact .unk _
 | whenF a=>exact .unk _
 | rg v id k x W Q h hr=>exact .unk _
 | rgGone v id k x h=>exact .unk _
 | rp id ks cells off b o W Q h hal f hcell hrep=>exact .unk _
 | rpGone v id ks cells off h=>exact .unk _
theorem cy5 {σr σ':Nat→RefI} {d:Nat} {v:Value} {as:List A} (h:ARel P w al σr v (ayh as)) (hs:∀ j,σr j≠.dead→σ' (key d j)=σr j):ARel P w al σ' v (ayh (bkf d as)):=by
 have tup:∀ as:List A,ARel P w al σr v (.tup as)→ARel P w al σ' v (.tup (bkf d as)):=by
  intro as h
  cases h with
  | tup vs _ hl hh =>
   refine .tup vs _ (by rw [bjh];exact hl) (fun i hi=>?_)
   rw [bjh] at hi
   rw [czf];exact eqd (hh i hi) hs
 cases as with
 | nil=>exact tup [] h
 | cons a as =>
  cases as with
  | nil=>exact eqd h hs
  | cons b as=>exact tup (a :: b :: as) h
theorem bq9:∀ {as:List A},akk as=true→∀ i,i < as.length→aw0 (as.getD i .unk)=true
 | [],_,i,hi=>by simp at hi
 | a :: as,h,i,hi=>by
  simp only [akk,jd] at h
  cases i with
  | zero=>simpa using h.1
  | succ i=>simpa using bq9 h.2 i (by simpa using hi)
theorem ARel.scalar {al':Nat→Prop} {v:Value} {a:A} (h:ARel P w al σ v a) (hk:aw0 a=true):ARel P w al' σ v a:=by
 induction h with
 | unk v=>simp [aw0] at hk
 | c k v x h=>exact .c k v x (h.scalar (by simpa [aw0] using hk))
 | nilsl=>exact .nilsl
 | agg vs xs hl h ih=>exact .agg vs xs hl (fun i hi=>ih i hi (bq9 (by simpa [aw0] using hk) i hi))
 | tup vs xs hl h ih=>simp [aw0] at hk
 | ownGone v id ks off len h=>exact .ownGone v id ks off len h
 | eltGone v id sz ks i off h=>simp [aw0] at hk
 | ownNil id ks off t h ho=>exact .ownNil id ks off t h ho
 | own0 id ks len b cap n t h hl=>exact .own0 id ks len b cap n t h hl
 | ownOff id ks off len b cap n cap' t h ho hl hc=>exact .ownOff id ks off len b cap n cap' t h ho hl hc
 | ownOff0 a id ks off b cap n cap' t h ho hl=>exact .ownOff0 a id ks off b cap n cap' t h ho hl
 | box id off b h=>simp [aw0] at hk
 | bsl id len b cap h=>simp [aw0] at hk
 | elt id ks0 ks i off b cap n t h hi hk'=>simp [aw0] at hk
 | pp ks cells off b o hal f hcell hrep=>simp [aw0] at hk
 | fnv f caps vs hl h ih=>simp [aw0] at hk
 | fnb f caps vs hl h ih=>simp [aw0] at hk
 | mref id b h=>simp [aw0] at hk
 | mrefGone v id h=>simp [aw0] at hk
 | itr id r b h=>simp [aw0] at hk
 | whenT v a h ih=>simp [aw0] at hk
 | whenF a=>simp [aw0] at hk
 | rg v id k x W Q h hr=>simp [aw0] at hk
 | rgGone v id k x h=>simp [aw0] at hk
 | rp id ks cells off b o W Q h hal f hcell hrep=>simp [aw0] at hk
 | rpGone v id ks cells off h=>simp [aw0] at hk
theorem ARel.scalar_unTup {al':Nat→Prop} {v:Value} {as:List A} (h:ARel P w al σ v (ayh as)) (hk:akk as=true):ARel P w al' σ v (ayh as):=by
 have tup:∀ as:List A,akk as=true→ARel P w al σ v (.tup as)→ARel P w al' σ v (.tup as):=by
  intro as hk h
  cases h with
  | tup vs _ hl hh=>exact .tup vs _ hl (fun i hi=>(hh i hi).scalar (bq9 hk i hi))
 cases as with
 | nil=>exact tup [] hk h
 | cons a as =>
  cases as with
  | nil=>simp only [akk,Bool.and_true] at hk;exact ARel.scalar h hk
  | cons b as=>exact tup (a :: b :: as) hk h
theorem aq2.weaken {B B':Nat→Prop} {al':Nat→Prop} {r:RefI} {t:TypeId} {es:List (List C)} (h:aq2 P w B al r t es) (hB:∀ b,B b→B' b)
  (hr:(∀ b,al b→al' b)∨∃ E,tyI P t=some E∧E.kinds.all aqo=true):aq2 P w B' al' r t es:=by
 obtain ⟨E,hE,hby,h⟩:=h
 refine ⟨E,hE,hby,h.imp id ?_⟩
 rintro ⟨b,cap,cur,tg,e,hb,hh,h1,h2,h3,h4,h5⟩
 refine ⟨b,cap,cur,tg,e,hB b hb,hh,h1,h2,h3,h4,fun i hi j hj=>?_⟩
 rcases hr with hr | ⟨E',hE',hk⟩
 ·exact (h5 i hi j hj).mono (fun _ _=>rfl) hr
 ·rw [hE] at hE';simp only [ja] at hE';subst hE'
  exact (h5 i hi j hj).scalar (dwh hk j hj)
theorem bko {hp:Nat→Blk} {a:A} {q:Kd×C} (h:toCell hp a=some q):toCell (azl hp) a=some q:=by
 cases a with
 | own id ks off len =>
  simp only [toCell] at h ⊢
  have e:azl hp id=hp id:=by
   unfold azl
   rw [if_neg]
   intro e
   rw [bzv e] at h;cases h
  rw [e];exact h
 | _=>exact h
theorem bw8 {hp:Nat→Blk}:∀ {as:List A} {q:List Kd×List C},aqj hp as=some q→aqj (azl hp) as=some q
 | [],q,h=>h
 | a :: as,q,h=>by
  simp only [aqj] at h ⊢
  split at h
  ·rename_i k x ks xs h1 h2
   rw [bko h1,bw8 h2]
   exact h
  ·cases h
theorem ckw {hp:Nat→Blk} {p:Bool×List Kd} {a:A} {c:List C} (h:azx hp p a=some c):azx (azl hp) p a=some c:=by
 cases a with
 | agg xs =>
  simp only [azx] at h ⊢
  split at h
  ·split at h
   ·rename_i ks cs hk
    rw [bw8 hk];exact h
   ·cases h
  ·cases h
 | _ =>
  simp only [azx] at h ⊢
  split at h
  ·cases h
  ·split at h
   ·rename_i k c0 k0 h1 h2
    rw [bko h1,h2];exact h
   ·cases h
theorem cj1.scalar {w':World} {v:Value} {sig:Sig} (h:cj1 P w al w' v sig) (h1:akk sig.res=true) (h2:∀ b∈sig.rows,∃ t es E,b = .row t es∧tyI P t=some E∧E.kinds.all aqo=true):cj1 P w (fun _=>False) w' v sig:=by
 obtain ⟨hbel,hrow,σr,hB,hinj,hv⟩:=h
 refine ⟨hbel,hrow,σr,fun j=>?_,hinj,hv.scalar_unTup h1⟩
 have hb:=hB j
 rcases js j sig.rows.length with hj | hj
 ·have e:aja sig.rows j=sig.rows[j]:=by simp [aja,jb,hj]
  obtain ⟨t,es,E,e1,e2,e3⟩:=h2 _ (jC hj)
  rw [e,e1] at hb ⊢
  exact aq2.weaken hb (fun b hb=>hb) (.inr ⟨E,e2,e3⟩)
 ·have e:aja sig.rows j = .dead:=by simp [aja,jb,jE hj]
  rw [e] at hb ⊢;exact hb
theorem aj9.of {g:Fn} (enter:∀ args w,(callFunc g.f args).run P w = .ok (.enter g.f args) w)
  (scalar:g.refs=false→∀ cs,akk (g.sem cs).res=true∧∀ b∈(g.sem cs).rows,∃ t es E,b = .row t es∧tyI P t=some E∧E.kinds.all aqo=true)
  (calls:∀ (w:World) (al:Nat→Prop) (vs:List Value) (cs:List (List C)),(∀ b,al b→b < w.heap.size)→vs.length=g.ps.length→cs.length=g.ps.length →
   (∀ i,i < g.ps.length→ArgRel P w al (g.ps.getD i (false,[])) (vs.getD i undef) (cs.getD i []))→(g.sem cs).pre →
   Calls P g.f vs.toArray w (fun e w'=>∃ v,e = .returned v∧cj1 P w al w' v (g.sem cs))):aj9 P g :=
 ⟨enter,fun hr w al vs cs h1 h2 h3 h4 h5=>(calls w al vs cs h1 h2 h3 h4 h5).mono fun e w' ⟨v,e1,hR⟩=>⟨v,e1,hR.scalar (scalar hr cs).1 (scalar hr cs).2⟩,calls⟩
theorem dqd {g:Fn} {d:Nat} {vs:List Value} {cs:List (List C)} (C0:aj9 P g) (hr:g.refs=false) (h:RelL P w0 N σ s tms w) (hdead:ay2 d 0 (g.sem cs).rows s.hp=true) (hp:(g.sem cs).pre)
  (hvl:vs.length=g.ps.length) (l2:cs.length=g.ps.length) (hargs:∀ i,i < g.ps.length→ArgRel P w (fun b=>b < w.heap.size) (g.ps.getD i (false,[])) (vs.getD i undef) (cs.getD i [])) :
  Calls P g.f vs.toArray w (fun e w'=>∃ v,e = .returned v∧∃ σ',RelL P w0 N σ' ⟨s.tm,addRows d 0 (g.sem cs).rows s.hp⟩ tms w'∧ARel P w' (Al w0 w' σ' (addRows d 0 (g.sem cs).rows s.hp)) σ' v (ayh (bkf d (g.sem cs).res))):=by
 refine (C0.new hr w (fun b=>b < w.heap.size) vs cs (fun _ h=>h) hvl l2 hargs hp).mono ?_
 rintro e w' ⟨v,rfl,hbel,hisrow,σr,hB,hinj,hv⟩
 refine ⟨v,rfl,?_⟩
 have hk0:∀ j,key d j=key d 0+j:=fun j=>by simp [key]
 have hdeadF:∀ i,i < (g.sem cs).rows.length→s.hp (key d 0+i) = .dead:=fun i hi=>bzs d _ 0 _ hdead i hi
 obtain ⟨σ',hσ'⟩:∃ σ':Nat→RefI,σ'=fun id=>if key d 0≤id∧id < key d 0+(g.sem cs).rows.length then σr (id - key d 0) else σ id:=⟨_,rfl⟩
 have hσn:∀ j,j < (g.sem cs).rows.length→σ' (key d 0+j)=σr j:=by
  intro j hj;rw [hσ'];simp only [];rw [if_pos (by omega)];congr 1;omega
 have hσo:∀ id,¬ (key d 0≤id∧id < key d 0+(g.sem cs).rows.length)→σ' id=σ id:=by
  intro id hid;rw [hσ'];simp only [];rw [if_neg hid]
 have hpn:∀ j,j < (g.sem cs).rows.length→addRows d 0 (g.sem cs).rows s.hp (key d 0+j)=aja (g.sem cs).rows j:=by
  intro j hj;rw [bjy,if_pos (by omega)];unfold aja;congr 1;omega
 have hpo:∀ id,¬ (key d 0≤id∧id < key d 0+(g.sem cs).rows.length)→addRows d 0 (g.sem cs).rows s.hp id=s.hp id:=by
  intro id hid;rw [bjy,if_neg hid]
 have hrdead:∀ j,(g.sem cs).rows.length≤j→σr j = .dead:=by
  intro j hj
  have:=hB j
  have e:aja (g.sem cs).rows j = .dead:=by simp [aja,jb,jE hj]
  rw [e] at this;exact this
 have hrowOf:∀ j,j < (g.sem cs).rows.length→∃ t es,aja (g.sem cs).rows j = .row t es∧.row t es∈(g.sem cs).rows:=by
  intro j hj
  have hm:(g.sem cs).rows[j]∈(g.sem cs).rows:=jC hj
  have e:aja (g.sem cs).rows j=(g.sem cs).rows[j]:=by simp [aja,jb,hj]
  have:=hisrow _ hm
  rw [e]
  cases hx:(g.sem cs).rows[j] <;> rw [hx] at this hm <;> simp [isRow] at this
  exact ⟨_,_,rfl,hm⟩
 have hnewge:∀ j b,aj0 (σr j) b→w.heap.size≤b:=fun j b hb=>bq1 (aj3 (hB j) hb).2
 have hnsz:w0.n≤w.heap.size:=h.below.size
 have hal:∀ b,Al w0 w σ s.hp b→Al w0 w' σ' (addRows d 0 (g.sem cs).rows s.hp) b:=by
  intro b hb
  refine ⟨jG hb.1 hbel.size,fun id hid=>?_,hb.2.2⟩
  by_cases hn:key d 0≤id∧id < key d 0+(g.sem cs).rows.length
  ·have e:id=key d 0+(id - key d 0):=by omega
   rw [e,hσn _ (by omega)] at hid
   have:=hnewge _ _ hid
   have:=hb.1;omega
  ·rw [hσo id hn] at hid
   rw [hpo id hn];exact hb.2.1 id hid
 have halR:∀ b,Al (cwj w (fun _=>False)) w' σr (aja (g.sem cs).rows) b→Al w0 w' σ' (addRows d 0 (g.sem cs).rows s.hp) b:=by
  intro b hb
  have hge:w.heap.size≤b:=by
   rcases hb.2.2 with h3 | h3
   ·exact bq1 h3
   ·exact h3.elim
  refine ⟨hb.1,fun id hid=>?_,.inl (.inl (j3 hnsz hge))⟩
  by_cases hn:key d 0≤id∧id < key d 0+(g.sem cs).rows.length
  ·have e:id=key d 0+(id - key d 0):=by omega
   rw [e,hσn _ (by omega)] at hid
   rw [e,hpn _ (by omega)]
   exact hb.2.1 _ hid
  ·rw [hσo id hn] at hid
   have:=(aj3 (h.blks id) hid).1
   omega
 refine ⟨σ',h.change (h.below.then (hbel.mono hnsz)) hbel.size hal (fun b hb=>hbel.block b hb.1) ?_ ?_ ?_,?_⟩
 ·intro id hid
  refine .inl ?_
  by_cases hn:key d 0≤id∧id < key d 0+(g.sem cs).rows.length
  ·have e:id=key d 0+(id - key d 0):=by omega
   have hd:=hdeadF (id - key d 0) (by omega)
   rw [← e] at hd
   exact absurd (bj1 (h.blks id) hd) hid
  ·exact hσo id hn
 ·intro id
  by_cases hn:key d 0≤id∧id < key d 0+(g.sem cs).rows.length
  ·refine .inr ?_
   have e:id=key d 0+(id - key d 0):=by omega
   have hj:id - key d 0 < (g.sem cs).rows.length:=by omega
   obtain ⟨t,es,hrow,hmem⟩:=hrowOf _ hj
   have hBj:=hB (id - key d 0)
   rw [hrow] at hBj
   rw [e,hpn _ hj,hrow]
   simp only [BRel]
   rw [hσn _ hj]
   exact aq2.weaken hBj (fun b hb=>.inl (j3 hnsz (bq1 hb))) (.inl halR)
  ·exact .inl ⟨hσo id hn,hpo id hn,fun b hb=>hbel.block b (aj3 (h.blks id) hb).1⟩
 ·intro i j b hi hj
  by_cases hn:key d 0≤i∧i < key d 0+(g.sem cs).rows.length <;> by_cases hm:key d 0≤j∧j < key d 0+(g.sem cs).rows.length
  ·have e1:i=key d 0+(i - key d 0):=by omega
   have e2:j=key d 0+(j - key d 0):=by omega
   rw [e1,hσn _ (by omega)] at hi
   rw [e2,hσn _ (by omega)] at hj
   have:=hinj _ _ _ hi hj
   omega
  ·have e1:i=key d 0+(i - key d 0):=by omega
   rw [e1,hσn _ (by omega)] at hi
   rw [hσo j hm] at hj
   have:=hnewge _ _ hi
   have:=(aj3 (h.blks j) hj).1
   omega
  ·have e1:j=key d 0+(j - key d 0):=by omega
   rw [e1,hσn _ (by omega)] at hj
   rw [hσo i hn] at hi
   have:=hnewge _ _ hj
   have:=(aj3 (h.blks i) hi).1
   omega
  ·rw [hσo i hn] at hi
   rw [hσo j hm] at hj
   exact h.inj i j b hi hj
 ·refine cy5 (σr:=σr) (hv.mono (fun _ _=>rfl) halR (fun _ _=>.inl rfl)) (fun j hj=>?_)
  rw [hk0]
  have:j < (g.sem cs).rows.length:=by
   rcases js j (g.sem cs).rows.length with h' | h'
   ·exact h'
   ·exact absurd (hrdead j h') hj
  exact hσn j this
theorem dqp {Γ:List Fn} {f:FuncId} {d:Nat} {as:List A} {r:Out} {vs:List Value} (h00:tyI P 0=none) (hΓ:∀ g,g∈Γ→aj9 P g) (h:RelL P w0 N σ s tms w) (hf:dw9 Γ f d as s.hp=some r) (hp:r.pre)
  (hvl:vs.length=as.length) (hvs:∀ i,i < as.length→ARel P w (Al w0 w σ s.hp) σ (vs.getD i undef) (as.getD i .unk)) :
  (callFunc f vs.toArray).run P w = .ok (.enter f vs.toArray) w∧r.fact ∧
   Calls P f vs.toArray w (fun e w'=>∃ v,e = .returned v∧∃ σ',RelL P w0 N σ' ⟨s.tm,r.hp⟩ tms w'∧ARel P w' (Al w0 w' σ' r.hp) σ' v r.val):=by
 unfold dw9 at hf
 split at hf
 ·rename_i g hg
  obtain ⟨hgm,rfl⟩:=cqy hg
  have C0:=hΓ g hgm
  split at hf
  ·rename_i cs hcs
   split at hf
   ·rename_i hdead0
    have hdead:=(Bool.and_eq_true_iff.1 hdead0).2
    simp only [ja] at hf;subst hf
    by_cases hrf:g.refs=false
    ·obtain ⟨l1,l2,hfit⟩:=bwf hcs
     have e1:bq8 g.refs s.hp as=azy s.hp as:=by rw [hrf];rfl
     rw [e1,bqa] at l1
     rw [e1] at hfit
     have:=dqd (vs:=vs) C0 hrf h hdead hp (by omega) l2 (fun i hi=>by
      have hx:=cky h (hvs i (by omega))
      rw [← cwb] at hx
      exact bj9 (s:=⟨s.tm,azl s.hp⟩) h00 h.melt (fun b hb=>hb.1) (ckw (hfit i hi)) hx (fun id _ b hb=>(aj3 (h.melt.blks id) hb).1))
     refine ⟨C0.enter _ _,trivial,?_⟩
     simp only [hrf,jD,if_false]
     exact this
    have hcs:ak2 s.hp g.ps as=some cs:=by
     have:g.refs=true:=by simpa using hrf
     rw [this] at hcs;exact hcs
    obtain ⟨l1,l2,hfit⟩:=bwf hcs
    refine ⟨C0.enter _ _,trivial,?_⟩
    -- where the callee may look
    have hrows:∀ id,id∈ak5 as→∃ t es,s.hp id = .row t es∨s.hp id = .frz t es:=by
     intro id hid
     obtain ⟨i,hi,hm⟩:=eq1 hid
     exact bzg (hfit i (by omega)) id hm
    obtain ⟨hal1,hal2⟩:=bqs h (ak5 as) hrows
    obtain ⟨hpF,hpFe⟩:∃ hpF,hpF=(if g.refs then freezeAll s.hp (ak5 as) else s.hp):=⟨_,rfl⟩
    obtain ⟨al0,hal0e⟩:∃ al0,al0=(if g.refs then Al w0 w σ hpF else fun b=>b < w.heap.size):=⟨_,rfl⟩
    rw [← hpFe]
    have hz:RelL P w0 N σ ⟨s.tm,hpF⟩ tms w:=by rw [hpFe];split;exact h.freezeAll _;exact h
    have hlt:∀ b,al0 b→b < w.heap.size:=by
     intro b hb;rw [hal0e] at hb;split at hb
     ·exact hb.1
     ·exact hb
    have ha1:∀ b,Al w0 w σ s.hp b→al0 b:=by
     intro b hb
     rw [hal0e,hpFe]
     split
     ·exact hal1 b hb
     ·exact hb.1
    have ha2:∀ id,id∈ak5 as→∀ b,aj0 (σ id) b→al0 b:=by
     intro id hid b hb
     rw [hal0e,hpFe]
     split
     ·exact hal2 id hid b hb
     ·exact (aj3 (h.blks id) hb).1
    have hdeadF:∀ i,i < (g.sem cs).rows.length→hpF (key d 0+i) = .dead:=by
     intro i hi
     have hd:=bzs d _ 0 _ hdead i hi
     rw [hpFe];split
     ·rw [azm]
      split
      ·rw [hd]
      ·exact hd
     ·exact hd
    have hargs:∀ i,i < g.ps.length→ArgRel P w al0 (g.ps.getD i (false,[])) (vs.getD i undef) (cs.getD i []):=fun i hi =>
     bj9 h00 h ha1 (hfit i hi) (hvs i (by omega)) (fun id hid b hb=>ha2 id (eq3 (i:=i) (by omega) hid) b hb)
    refine (C0.calls w al0 vs cs hlt (by omega) l2 hargs hp).mono ?_
    rintro e w' ⟨v,rfl,hbel,hisrow,σr,hB,hinj,hv⟩
    refine ⟨v,rfl,?_⟩
    have hk0:∀ j,key d j=key d 0+j:=fun j=>by simp [key]
    obtain ⟨σ',hσ'⟩:∃ σ':Nat→RefI,σ'=fun id=>if key d 0≤id∧id < key d 0+(g.sem cs).rows.length then σr (id - key d 0) else σ id:=⟨_,rfl⟩
    have hσn:∀ j,j < (g.sem cs).rows.length→σ' (key d 0+j)=σr j:=by
     intro j hj;rw [hσ'];simp only [];rw [if_pos (by omega)];congr 1;omega
    have hσo:∀ id,¬ (key d 0≤id∧id < key d 0+(g.sem cs).rows.length)→σ' id=σ id:=by
     intro id hid;rw [hσ'];simp only [];rw [if_neg hid]
    have hpn:∀ j,j < (g.sem cs).rows.length→addRows d 0 (g.sem cs).rows hpF (key d 0+j)=aja (g.sem cs).rows j:=by
     intro j hj;rw [bjy,if_pos (by omega)];unfold aja;congr 1;omega
    have hpo:∀ id,¬ (key d 0≤id∧id < key d 0+(g.sem cs).rows.length)→addRows d 0 (g.sem cs).rows hpF id=hpF id:=by
     intro id hid;rw [bjy,if_neg hid]
    have hrdead:∀ j,(g.sem cs).rows.length≤j→σr j = .dead:=by
     intro j hj
     have:=hB j
     have e:aja (g.sem cs).rows j = .dead:=by simp [aja,jb,jE hj]
     rw [e] at this;exact this
    have hrowOf:∀ j,j < (g.sem cs).rows.length→∃ t es,aja (g.sem cs).rows j = .row t es∧.row t es∈(g.sem cs).rows:=by
     intro j hj
     have hm:(g.sem cs).rows[j]∈(g.sem cs).rows:=jC hj
     have e:aja (g.sem cs).rows j=(g.sem cs).rows[j]:=by simp [aja,jb,hj]
     have:=hisrow _ hm
     rw [e]
     cases hx:(g.sem cs).rows[j] <;> rw [hx] at this hm <;> simp [isRow] at this
     exact ⟨_,_,rfl,hm⟩
    have hnewge:∀ j b,aj0 (σr j) b→w.heap.size≤b:=fun j b hb=>bq1 (aj3 (hB j) hb).2
    have hnsz:w0.n≤w.heap.size:=h.below.size
    have hal:∀ b,Al w0 w σ hpF b→Al w0 w' σ' (addRows d 0 (g.sem cs).rows hpF) b:=by
     intro b hb
     refine ⟨jG hb.1 hbel.size,fun id hid=>?_,hb.2.2⟩
     by_cases hn:key d 0≤id∧id < key d 0+(g.sem cs).rows.length
     ·have e:id=key d 0+(id - key d 0):=by omega
      rw [e,hσn _ (by omega)] at hid
      have:=hnewge _ _ hid
      have:=hb.1;omega
     ·rw [hσo id hn] at hid
      rw [hpo id hn];exact hb.2.1 id hid
    -- the callee's data, where the caller sees it
    have halR:g.refs=true→∀ b,Al (cwj w al0) w' σr (aja (g.sem cs).rows) b→Al w0 w' σ' (addRows d 0 (g.sem cs).rows hpF) b:=by
     intro hr b hb
     refine ⟨hb.1,fun id hid=>?_,?_⟩
     ·by_cases hn:key d 0≤id∧id < key d 0+(g.sem cs).rows.length
      ·have e:id=key d 0+(id - key d 0):=by omega
       rw [e,hσn _ (by omega)] at hid
       rw [e,hpn _ (by omega)]
       exact hb.2.1 _ hid
      ·rw [hσo id hn] at hid
       rw [hpo id hn]
       have hlt':=(aj3 (hz.blks id) hid).1
       rcases hb.2.2 with h3 | h3
       ·have:w.heap.size≤b:=bq1 h3
        omega
       ·have:al0 b:=h3
        rw [hal0e,if_pos hr] at this
        exact this.2.1 id hid
     ·rcases hb.2.2 with h3 | h3
      ·exact .inl (.inl (j3 hnsz (bq1 h3)))
      ·have:al0 b:=h3
       rw [hal0e,if_pos hr] at this
       exact this.2.2
    refine ⟨σ',hz.change (h.below.then (hbel.mono hnsz)) hbel.size hal (fun b hb=>hbel.block b hb.1) ?_ ?_ ?_,?_⟩
    ·intro id hid
     refine .inl ?_
     by_cases hn:key d 0≤id∧id < key d 0+(g.sem cs).rows.length
     ·have e:id=key d 0+(id - key d 0):=by omega
      have hd:=hdeadF (id - key d 0) (by omega)
      rw [← e] at hd
      exact absurd (bj1 (hz.blks id) hd) hid
     ·exact hσo id hn
    ·intro id
     by_cases hn:key d 0≤id∧id < key d 0+(g.sem cs).rows.length
     ·refine .inr ?_
      have e:id=key d 0+(id - key d 0):=by omega
      have hj:id - key d 0 < (g.sem cs).rows.length:=by omega
      obtain ⟨t,es,hrow,hmem⟩:=hrowOf _ hj
      have hBj:=hB (id - key d 0)
      rw [hrow] at hBj
      dsimp only
      rw [e,hpn _ hj,hrow]
      simp only [BRel]
      rw [hσn _ hj]
      refine aq2.weaken hBj (fun b hb=>.inl (j3 hnsz (bq1 hb))) ?_
      cases hr:g.refs with
      | true=>exact .inl (halR hr)
      | false=>exact absurd hr hrf
     ·exact .inl ⟨hσo id hn,hpo id hn,fun b hb=>hbel.block b (aj3 (hz.blks id) hb).1⟩
    ·intro i j b hi hj
     by_cases hn:key d 0≤i∧i < key d 0+(g.sem cs).rows.length <;> by_cases hm:key d 0≤j∧j < key d 0+(g.sem cs).rows.length
     ·have e1:i=key d 0+(i - key d 0):=by omega
      have e2:j=key d 0+(j - key d 0):=by omega
      rw [e1,hσn _ (by omega)] at hi
      rw [e2,hσn _ (by omega)] at hj
      have:=hinj _ _ _ hi hj
      omega
     ·have e1:i=key d 0+(i - key d 0):=by omega
      rw [e1,hσn _ (by omega)] at hi
      rw [hσo j hm] at hj
      have:=hnewge _ _ hi
      have:=(aj3 (hz.blks j) hj).1
      omega
     ·have e1:j=key d 0+(j - key d 0):=by omega
      rw [e1,hσn _ (by omega)] at hj
      rw [hσo i hn] at hi
      have:=hnewge _ _ hj
      have:=(aj3 (hz.blks i) hi).1
      omega
     ·rw [hσo i hn] at hi
      rw [hσo j hm] at hj
      exact hz.inj i j b hi hj
    ·refine cy5 (σr:=σr) ?_ (fun j hj=>?_)
     ·cases hr:g.refs with
      | true=>exact hv.mono (fun _ _=>rfl) (halR hr) (fun _ _=>.inl rfl)
      | false=>exact absurd hr hrf
     ·rw [hk0]
      have:j < (g.sem cs).rows.length:=by
       rcases js j (g.sem cs).rows.length with h' | h'
       ·exact h'
       ·exact absurd (hrdead j h') hj
      exact hσn j this
   ·cases hf
  ·cases hf
 ·cases hf
end Go.AE
/-
 Maps with keys of strings or numbers.
-/
namespace Go.AE
open Go.RowKit (Below)
open Go.MapKept
variable {P:Program} {w0:Base} {w:World} {N:Nat} {σ:Nat→RefI} {s:S} {tms:Array Value} {ρ:Operand→Value} {al:Nat→Prop} {Γ:List Fn}
def ekg (kk:Kd) (d:TypeDesc):Prop:=(kk = .str∧d = .string)∨∃ q,kk = .int q∧d = .int q
theorem bkb {t e:TypeId} {kk:Kd} {E:TyI} (h:mapE P t=some (kk,e,E)):∃ k d,P.underlying t=some (.map k e)∧P.underlying k=some d∧tyI P e=some E∧ekg kk d:=by
 unfold mapE at h
 split at h
 ·rename_i k e' hu
  split at h
  ·rename_i hk hE
   simp only [ja,Prod.mk.injEq] at h
   obtain ⟨rfl,rfl,rfl⟩:=h
   exact ⟨k,_,hu,hk,hE,.inl ⟨rfl,rfl⟩⟩
  ·rename_i q _ hk hE
   simp only [ja,Prod.mk.injEq] at h
   obtain ⟨rfl,rfl,rfl⟩:=h
   exact ⟨k,_,hu,hk,hE,.inr ⟨q,rfl,rfl⟩⟩
  ·cases h
 ·cases h
theorem ej0 (x y:List UInt8):((⟨x.toArray⟩:ByteArray) == ⟨y.toArray⟩)=(x == y):=by
 rw [Bool.eq_iff_iff,bytes_beq]
 simp
theorem cjo {kk:Kd} {d:TypeDesc} {a b:Value} {x y:C} (hk:ekg kk d) (ha:RepC P w al kk a x) (hb:RepC P w al kk b y) :
  IsKey d a∧Instr.sameNow d a b=some (keyEq kk x y)∧(keyEq kk x y=true→b=a):=by
 rcases hk with ⟨rfl,rfl⟩ | ⟨q,rfl,rfl⟩
 ·cases ha with | str _ h1 =>
  cases hb with | str _ h2 =>
  refine ⟨trivial,by simp only [Instr.sameNow,keyEq,ej0],fun h=>?_⟩
  simp only [keyEq,beq_iff_eq] at h
  rw [h]
 ·cases ha with | int _ _ h1 =>
  cases hb with | int _ _ h2 =>
  refine ⟨rfl,by simp only [Instr.sameNow,keyEq,if_true],fun h=>?_⟩
  simp only [keyEq,beq_iff_eq] at h
  rw [h]
theorem cjv {kk:Kd} {d:TypeDesc} {vp:Bool×List Kd} {kv:Value} {k:C} (hk:ekg kk d) (hkv:RepC P w al kk kv k) :
  ∀ {es:List MapEntry} {m:List (C×List C)} (i:Nat),MRel P w al kk vp es m →
   (Instr.findNow d kv es i=some none∧mget kk k m=none∧(∀ c,mset kk k c m=m ++ [(k,c)])∧mdel kk k m=m) ∨
   ∃ j e c0,Instr.findNow d kv es i=some (some (i+j,e.val))∧es[j]? = some e∧e.key=kv∧ArgRel P w al vp e.val c0∧mget kk k m=some c0 ∧
    (∀ c,mset kk k c m=m.set j (k,c))∧mdel kk k m=m.eraseIdx j
 | [],[],i,h=>.inl ⟨rfl,rfl,fun _=>rfl,rfl⟩
 | [],_ :: _,i,h=>h.elim
 | _ :: _,[],i,h=>h.elim
 | e :: es,x :: m,i,h=>by
  obtain ⟨h1,h2,h3⟩:=cjo hk hkv h.1
  cases hq:keyEq kk k x.1 with
  | true =>
   rw [hq] at h2 h3
   exact .inr ⟨0,e,x.2,by simp [Instr.findNow,h2],rfl,h3 rfl,h.2.1,by simp [mget,hq],fun c=>by simp [mset,hq],by simp [mdel,hq]⟩
  | false =>
   rw [hq] at h2
   rcases cjv hk hkv (i+1) h.2.2 with ⟨a1,a2,a3,a4⟩ | ⟨j,e',c0,a1,a2,a3,a4,a5,a6,a7⟩
   ·exact .inl ⟨by simp [Instr.findNow,h2,a1],by simp [mget,hq,a2],fun c=>by simp [mset,hq,a3],by simp [mdel,hq,a4]⟩
   ·exact .inr ⟨j+1,e',c0,by simp [Instr.findNow,h2,a1];omega,by simpa using a2,a3,a4,by simp [mget,hq,a5],fun c=>by simp [mset,hq,a6],by simp [mdel,hq,a7]⟩
theorem MRel.append {kk:Kd} {vp:Bool×List Kd} {e:MapEntry} {x:C×List C} (h1:RepC P w al kk e.key x.1) (h2:ArgRel P w al vp e.val x.2) :
  ∀ {es:List MapEntry} {m:List (C×List C)},MRel P w al kk vp es m→MRel P w al kk vp (es ++ [e]) (m ++ [x])
 | [],[],_=>⟨h1,h2,trivial⟩
 | [],_ :: _,h=>h.elim
 | _ :: _,[],h=>h.elim
 | _ :: _,_ :: _,h=>⟨h.1,h.2.1,MRel.append h1 h2 h.2.2⟩
theorem MRel.set {kk:Kd} {vp:Bool×List Kd} {f:MapEntry→MapEntry} {x:C×List C} (h1:∀ e,RepC P w al kk (f e).key x.1) (h2:∀ e,ArgRel P w al vp (f e).val x.2) :
  ∀ {es:List MapEntry} {m:List (C×List C)} (j:Nat),MRel P w al kk vp es m→MRel P w al kk vp (es.modify j f) (m.set j x)
 | [],[],j,_=>by cases j <;> trivial
 | [],_ :: _,j,h=>h.elim
 | _ :: _,[],j,h=>h.elim
 | e :: _,_ :: _,0,h=>⟨h1 e,h2 e,h.2.2⟩
 | _ :: _,_ :: _,j+1,h=>⟨h.1,h.2.1,MRel.set h1 h2 j h.2.2⟩
theorem MRel.erase {kk:Kd} {vp:Bool×List Kd}:∀ {es:List MapEntry} {m:List (C×List C)} (j:Nat),MRel P w al kk vp es m→MRel P w al kk vp (es.eraseIdx j) (m.eraseIdx j)
 | [],[],j,_=>by cases j <;> trivial
 | [],_ :: _,j,h=>h.elim
 | _ :: _,[],j,h=>h.elim
 | e :: _,_ :: _,0,h=>h.2.2
 | _ :: _,_ :: _,j+1,h=>⟨h.1,h.2.1,MRel.erase j h.2.2⟩
theorem ayu {p:Bool×List Kd} {v:Value} {c:List C} (h:ArgRel P w al p v c):ARel P w al σ v (pack p.1 (aku p.2 c 0)):=by
 unfold ArgRel at h
 split at h
 ·rename_i hp
  obtain ⟨us,rfl,h1,h2,h3⟩:=h
  simp only [pack,hp,if_true]
  refine .agg us _ (by rw [azo];exact h1) (fun i hi=>?_)
  rw [azo] at hi
  rw [bqd _ _ _ _ hi,jM]
  exact .c _ _ _ (h3 i hi).nrm
 ·rename_i hp
  obtain ⟨h1,h2,h3⟩:=h
  simp only [pack,hp,jD,if_false]
  match hks:p.2,h1 with
  | [k0],_ =>
   rw [hks] at h3
   exact .c _ _ _ (RepC.nrm (k:=k0) h3)
theorem ez3 {e:TypeId} {E:TyI} (hE:tyI P e=some E):∃ z,(zeroValue e).run P w = .ok z w∧ArgRel P w al (E.agg,E.kinds) z (ajg E):=by
 obtain ⟨S⟩:=ajk hE
 obtain ⟨z1,z2⟩:=azr (P:=P) (w:=w) (al:=al) S.zfits
 refine ⟨S.z,by simp only [zeroValue,Sem.run_bind,run_typeInfo w S.info,Result.andThen_ok,S.zero,Sem.run_pure],?_⟩
 have hz:=S.zagg
 rw [← S.agg] at hz
 have hlen:(ajg E).length=E.kinds.length:=by simp [ajg]
 cases hzv:S.z with
 | agg cs =>
  rw [hzv] at hz z1 z2
  simp only [dwu] at hz
  simp only [ArgRel,hz]
  exact ⟨cs.toList,rfl,z1,hlen,z2⟩
 | _ =>
  rw [hzv] at hz z1 z2
  simp only [dwu] at hz
  simp only [ArgRel,hz]
  have h1:E.kinds.length=1:=by simpa [Value.cells] using z1.symm
  refine ⟨h1,by rw [hlen,h1],?_⟩
  simpa [Value.cells,ajg] using z2 0 (by omega)
theorem cju {v:Value} {id b:Nat} (h:ARel P w al σ v (.mref id)) (hs:σ id = .mp b):v = .map (some b):=by
 cases h with
 | mref _ b h=>rw [hs] at h;cases h;rfl
 | mrefGone v id h=>rw [hs] at h;cases h
 | itr id r b h=>rw [hs] at h;cases h
theorem ckg {t:TypeId} {id:Nat} {kk:Kd} {vp:Bool×List Kd} (h:RelL P w0 N σ s tms w) (hd:aqh (s.hp id)=true) :
  ∃ v' w',(Instr.makeMap t none).run P w = .ok v' w'∧∃ σ',RelL P w0 N σ' ⟨s.tm,upd s.hp id (.mp kk vp [])⟩ tms w'∧ARel P w' (Al w0 w' σ' (upd s.hp id (.mp kk vp []))) σ' v' (.mref id):=by
 refine ⟨.map (some w.heap.size),w.alloc (.map #[] 0),?_,upd σ id (.mp w.heap.size),?_,.mref id w.heap.size (by simp [upd])⟩
 ·simp [Instr.makeMap,jJ]
 ·refine h.alloc (ajw hd) (.map #[] 0) (.mp w.heap.size) _ (by simp [aj0];try (intro c hc;exact hc.symm)) (fun hal hheap hs=>?_)
  exact ⟨w.heap.size,#[],0,by simp [upd],.inl h.below.size,heap_alloc_new w _,⟨by simp,by simp⟩,trivial⟩
theorem djo {t:TypeId} {ok:Bool} {x y z:A} {vx vy:Value} (h:RelL P w0 N σ s tms w) (hf:bzk P t ok s.hp x y=some z)
  (hx:ARel P w (Al w0 w σ s.hp) σ vx x) (hy:ARel P w (Al w0 w σ s.hp) σ vy y) :
  ∃ v,(Instr.lookup t vx vy ok).run P w = .ok v w∧ARel P w (Al w0 w σ s.hp) σ v z:=by
 unfold bzk at hf
 split at hf
 ·rename_i kk e E id ky k hm
  obtain ⟨kt,d,hu,hkd,hE,hko⟩:=bkb hm
  split at hf
  ·rename_i hkk;subst hkk
   split at hf
   ·rename_i kk' vp m hb
    split at hf
    ·rename_i hk';subst hk'
     split at hf
     ·rename_i hvp;subst hvp
      simp only [ja] at hf
      have hB:=h.blks id
      rw [hb] at hB
      obtain ⟨b,es,clock,hσ,hBn,hh,hok,hmr⟩:=hB
      obtain rfl:=cju hx hσ
      have hkv:=hy.c_inv
      obtain ⟨hik,_,_⟩:=cjo hko hkv hkv
      obtain ⟨zv,hz,hza⟩:=ez3 (w:=w) (al:=Al w0 w σ s.hp) hE
      rcases cjv hko hkv 0 hmr with ⟨a1,a2,_,_⟩ | ⟨j,e',c0,a1,a2,a3,a4,a5,_,_⟩
      ·have hrun:(Instr.lookup t (.map (some b)) vy ok).run P w = .ok (if ok then .tuple #[zv,.bool false] else zv) w:=by
        simp [Instr.lookup,run_underlying hu,MapKept.run_getObj_map hh,MapKept.run_checkKey hkd hik,MapKept.run_findKey hkd a1,hz,jJ]
       refine ⟨_,hrun,?_⟩
       rw [a2] at hf
       subst hf
       cases ok with
       | false=>exact ayu hza
       | true =>
        refine .tup [zv,.bool false] _ rfl (fun i hi=>?_)
        match i,hi with
        | 0,_=>exact ayu hza
        | 1,_=>exact ARel.mk_bool _
      ·have hrun:(Instr.lookup t (.map (some b)) vy ok).run P w = .ok (if ok then .tuple #[e'.val,.bool true] else e'.val) w:=by
        simp [Instr.lookup,run_underlying hu,MapKept.run_getObj_map hh,MapKept.run_checkKey hkd hik,MapKept.run_findKey hkd a1,jJ]
       refine ⟨_,hrun,?_⟩
       rw [a5] at hf
       subst hf
       cases ok with
       | false=>exact ayu a4
       | true =>
        refine .tup [e'.val,.bool true] _ rfl (fun i hi=>?_)
        match i,hi with
        | 0,_=>exact ayu a4
        | 1,_=>exact ARel.mk_bool _
     ·cases hf
    ·cases hf
   ·cases hf
  ·cases hf
 ·cases hf
theorem cjl.push {es:Array MapEntry} {clock:Nat} (h:cjl es clock) (k v:Value):cjl (es.push { key:=k,val:=v,born:=clock }) (clock+1):=by
 refine ⟨fun x hx=>?_,?_⟩
 ·simp only [Array.toList_push,jf,Jb] at hx
  rcases hx with hx | rfl
  ·have:=h.1 x hx;omega
  ·simp
 ·simp only [Array.toList_push,List.map_append,List.map_cons,List.map_nil]
  refine List.nodup_append.2 ⟨h.2,by simp,fun a ha b hb=>?_⟩
  simp only [Jb] at hb
  obtain ⟨x,hx,rfl⟩:=List.mem_map.1 ha
  have:=h.1 x hx
  omega
theorem cjl.modify {es:Array MapEntry} {clock:Nat} (h:cjl es clock) (j:Nat) (k v:Value):cjl (es.modify j fun e=>{ e with key:=k,val:=v }) clock:=by
 have e:(es.modify j fun e=>{ e with key:=k,val:=v }).toList.map (·.born)=es.toList.map (·.born):=by
  rw [Array.toList_modify]
  generalize es.toList=l
  induction l generalizing j with
  | nil=>simp
  | cons a l ih =>
   cases j with
   | zero=>simp
   | succ j=>simp [ih]
 refine ⟨fun x hx=>?_,by rw [e];exact h.2⟩
 have:x.born∈es.toList.map (·.born):=by rw [← e];exact List.mem_map_of_mem hx
 obtain ⟨y,hy,hyx⟩:=List.mem_map.1 this
 have:=h.1 y hy
 omega
theorem cjl.erase {es:Array MapEntry} {clock:Nat} (h:cjl es clock) (j:Nat):cjl (es.eraseIdxIfInBounds j) clock:=by
 unfold Array.eraseIdxIfInBounds
 split
 ·refine ⟨fun x hx=>?_,?_⟩
  ·simp only [Array.toList_eraseIdx] at hx
   exact h.1 x (List.mem_of_mem_eraseIdx hx)
  ·simp only [Array.toList_eraseIdx]
   exact ((List.eraseIdx_sublist es.toList j).map (·.born)).nodup h.2
 ·exact h
theorem bk9 {id b clock clock':Nat} {kk:Kd} {vp:Bool×List Kd} {m m':List (C×List C)} {es es':Array MapEntry} (h:RelL P w0 N σ s tms w) (hb:s.hp id = .mp kk vp m) (hσ:σ id = .mp b)
  (hh:w.heap[b]? = some (.map es clock)) (hok:cjl es' clock') (hm:MRel P w (Al w0 w σ s.hp) kk vp es'.toList m') :
  RelL P w0 N σ ⟨s.tm,upd s.hp id (.mp kk vp m')⟩ tms { w with heap:=w.heap.setIfInBounds b (.map es' clock') }:=by
 obtain ⟨h1,h2⟩:=heap_set (o':=.map es' clock') hh
 refine h.write (b:=b) (by simp [hσ,aj0]) (by simp [hb,ake]) _ (by simp) rfl rfl rfl h2 (fun hal hheap=>?_)
 exact ⟨b,es',clock',hσ,(aj3 (h.blks id) (b:=b) (by simp [hσ,aj0])).2,h1,hok,hm.mono hheap hal⟩
theorem cyf {t:TypeId} {x y z:A} {vx vy vz:Value} {hp':Nat→Blk} (h00:tyI P 0=none) (h:RelL P w0 N σ s tms w) (hf:bzn P t s.hp x y z=some hp')
  (hx:ARel P w (Al w0 w σ s.hp) σ vx x) (hy:ARel P w (Al w0 w σ s.hp) σ vy y) (hz:ARel P w (Al w0 w σ s.hp) σ vz z) :
  ∃ w',(Instr.mapUpdate t vx vy vz).run P w = .ok () w'∧RelL P w0 N σ ⟨s.tm,hp'⟩ tms w':=by
 unfold bzn at hf
 split at hf
 ·rename_i kk e E id ky k hm
  obtain ⟨kt,d,hu,hkd,hE,hko⟩:=bkb hm
  split at hf
  ·rename_i hkk;subst hkk
   split at hf
   ·rename_i kk' vp m hb
    split at hf
    ·rename_i hk';subst hk'
     split at hf
     ·rename_i hvp
      split at hf
      ·rename_i c hc
       simp only [ja] at hf;subst hf
       have hids:=bzg hc
       obtain ⟨al1,al2⟩:=bqs h _ hids
       have hF:=h.freezeAll ((aje z).flatMap ajc)
       have hvz:ArgRel P w (Al w0 w σ (freezeAll s.hp ((aje z).flatMap ajc))) vp vz c:=bj9 h00 h al1 hc hz al2
       have hkv:RepC P w (Al w0 w σ (freezeAll s.hp ((aje z).flatMap ajc))) kk' vy k:=hy.c_inv.mono (fun _ _=>rfl) al1
       have hnid:freezeAll s.hp ((aje z).flatMap ajc) id = .mp kk' vp m:=by
        rw [azm,hb];split <;> rfl
       have hB:=hF.blks id
       rw [show S.hp ⟨s.tm,freezeAll s.hp ((aje z).flatMap ajc)⟩ id = .mp kk' vp m from hnid] at hB
       obtain ⟨b,es,clock,hσ,hBn,hh,hok,hmr⟩:=hB
       obtain rfl:=cju hx hσ
       obtain ⟨hik,_,_⟩:=cjo hko hkv hkv
       rcases cjv hko hkv 0 hmr with ⟨a1,a2,a3,_⟩ | ⟨j,e',c0,a1,a2,a3,a4,a5,a6,_⟩
       ·refine ⟨{ w with heap:=w.heap.setIfInBounds b (.map (es.push { key:=vy,val:=vz,born:=clock }) (clock+1)) },?_,?_⟩
        ·simp [Instr.mapUpdate,run_underlying hu,MapKept.run_getObj_map hh,MapKept.run_checkKey hkd hik,MapKept.run_findKey hkd a1,MapKept.run_setObj_map _ hh,jJ]
        ·rw [a3]
         refine bk9 hF hnid hσ hh (hok.push vy vz) ?_
         rw [Array.toList_push]
         exact MRel.append (e:={ key:=vy,val:=vz,born:=clock }) hkv hvz hmr
       ·have hj:es[j]? = some e':=by simpa using a2
        refine ⟨{ w with heap:=w.heap.setIfInBounds b (.map (es.modify (0+j) fun e=>{ e with key:=vy,val:=vz }) clock) },?_,?_⟩
        ·simp [Instr.mapUpdate,run_underlying hu,MapKept.run_getObj_map hh,MapKept.run_checkKey hkd hik,MapKept.run_findKey hkd a1,hj,a3,MapKept.run_keyThatStays hik,MapKept.run_setObj_map _ hh,jJ]
        ·rw [a6]
         refine bk9 hF hnid hσ hh (hok.modify _ vy vz) ?_
         rw [jM,Array.toList_modify]
         exact MRel.set (f:=fun e=>{ e with key:=vy,val:=vz }) (fun _=>hkv) (fun _=>hvz) j hmr
      ·cases hf
     ·cases hf
    ·cases hf
   ·cases hf
  ·cases hf
 ·cases hf
theorem cy7 {t ty:TypeId} {x y:A} {vx vy:Value} {hp':Nat→Blk} (h:RelL P w0 N σ s tms w) (hf:bzf P t s.hp x y=some hp')
  (hx:ARel P w (Al w0 w σ s.hp) σ vx x) (hy:ARel P w (Al w0 w σ s.hp) σ vy y) (ats:Array TypeId) (hat:ats[0]? = some t) :
  ∃ w',(Builtin.delete_ ats ty #[vx,vy]).run P w = .ok (.tuple #[]) w'∧RelL P w0 N σ ⟨s.tm,hp'⟩ tms w':=by
 unfold bzf at hf
 split at hf
 ·rename_i kk e E id ky k hm
  obtain ⟨kt,d,hu,hkd,hE,hko⟩:=bkb hm
  split at hf
  ·rename_i hkk;subst hkk
   split at hf
   ·rename_i kk' vp m hb
    split at hf
    ·rename_i hk';subst hk'
     simp only [ja] at hf;subst hf
     have hkv:=hy.c_inv
     have hB:=h.blks id
     rw [hb] at hB
     obtain ⟨b,es,clock,hσ,hBn,hh,hok,hmr⟩:=hB
     obtain rfl:=cju hx hσ
     obtain ⟨hik,_,_⟩:=cjo hko hkv hkv
     rcases cjv hko hkv 0 hmr with ⟨a1,a2,a3,a4⟩ | ⟨j,e',c0,a1,a2,a3,a4,a5,a6,a7⟩
     ·refine ⟨{ w with heap:=w.heap.setIfInBounds b (.map es clock) },?_,?_⟩
      ·simp [Builtin.delete_,hat,run_underlying hu,MapKept.run_getObj_map hh,MapKept.run_checkKey hkd hik,MapKept.run_findKey hkd a1,MapKept.run_setObj_map _ hh,jJ]
      ·rw [a4];exact bk9 h hb hσ hh hok hmr
     ·refine ⟨{ w with heap:=w.heap.setIfInBounds b (.map (es.eraseIdxIfInBounds (0+j)) clock) },?_,?_⟩
      ·simp [Builtin.delete_,hat,run_underlying hu,MapKept.run_getObj_map hh,MapKept.run_checkKey hkd hik,MapKept.run_findKey hkd a1,MapKept.run_setObj_map _ hh,jJ]
      ·rw [a7]
       refine bk9 h hb hσ hh (hok.erase _) ?_
       have hj:j < es.size:=by
        have:=(List.getElem?_eq_some_iff.1 a2).1;simpa using this
       have e1:(es.eraseIdxIfInBounds (0+j)).toList=es.toList.eraseIdx j:=by
        rw [jM]
        unfold Array.eraseIdxIfInBounds
        rw [dif_pos hj];simp
       rw [e1];exact MRel.erase j hmr
    ·cases hf
   ·cases hf
  ·cases hf
 ·cases hf
end Go.AE
