/- Text. -/
import Derived.Test.YtfhnelkbiihpiaaGreatDoorAE23B
set_option linter.unusedVariables false
open _root_.Array renaming replicate→j6,getD_eq_getD_getElem?→je
open _root_.List renaming getD_eq_getElem?_getD→jb,getElem?_eq_none→jE
open _root_.Nat renaming zero_le→Jo,lt_or_ge→js
namespace Go.AE
open Go.RowKit (Below)
variable {P:Program} {w0:Base} {w:World} {N:Nat} {σ:Nat→RefI} {s:S} {tms:Array Value} {ρ:Operand→Value} {al:Nat→Prop} {Γ:List Fn}
def argM:Arg→A
 | .dat p c=>argA p c
 | .ref a=>a
def dj7:List Arg→Nat→(Nat→A)
 | g :: gs,i=>upd (dj7 gs (i+1)) i (argM g)
 | [],_=>fun _=>.unk
theorem dzg:∀ (gs:List Arg) (i k:Nat),dj7 gs i k=if i≤k∧k < i+gs.length then argM (gs.getD (k - i) (.ref .unk)) else .unk
 | [],i,k=>by simp [dj7];intro h1 h2;omega
 | g :: gs,i,k=>by
  simp only [dj7,upd]
  rw [dzg gs (i+1) k]
  by_cases e:k=i
  ·subst e;simp
  ·rw [if_neg e]
   simp only [List.length_cons]
   by_cases h1:i+1≤k∧k < i+1+gs.length
   ·rw [if_pos h1,if_pos (by omega)]
    have:k - i=(k - (i+1))+1:=by omega
    rw [this,List.getD_cons_succ]
   ·rw [if_neg h1,if_neg (by omega)]
theorem dzq {as:List Arg} {hs:List Blk} {vs:List Value} (hal:∀ b,al b→b < w.heap.size∧∀ j,¬ aj0 (σ j) b) (hB:∀ j,BRel P w (fun b=>b < w.heap.size) al σ j (aja hs j))
  (hinj:∀ i j b,aj0 (σ i) b→aj0 (σ j) b→i=j) (hv:vs.length=as.length) (hN:as.length≤N) (hr:∀ i,i < as.length→ArgM P w al σ (as.getD i (.ref .unk)) (vs.getD i undef)) :
  Rel P ⟨w,al,muOf σ,σ,noMk,0⟩ N ⟨dj7 as 0,aja hs⟩ (vs.toArray ++ j6 (N - vs.toArray.size) undef) w:=by
 have hal':∀ b,al b→Al ⟨w,al,muOf σ,σ,noMk,0⟩ w σ (aja hs) b:=fun b hb=>⟨(hal b hb).1,fun id h=>absurd h ((hal b hb).2 id),.inr hb⟩
 refine ⟨σ,az1.refl _ _ _,by simp;omega,fun k=>?_,fun id=>?_,hinj,fun id h=>.inl rfl,⟨Jo _,fun k o h=>by cases h⟩⟩
 ·dsimp only
  rw [dzg]
  simp only [Jo,true_and,Nat.zero_add,Nat.sub_zero]
  split
  ·rename_i hk
   have e:(vs.toArray ++ j6 (N - vs.toArray.size) undef).getD k undef=vs.getD k undef:=by
    have:k < vs.length:=by omega
    simp [je,jb,Array.getElem?_append,this]
   rw [e]
   have:=hr k hk
   cases hg:as.getD k (.ref .unk) with
   | dat p c=>rw [hg] at this;exact (dz1 this).mono (fun _ _=>rfl) hal' (fun _ _=>.inl rfl)
   | ref a=>rw [hg] at this;exact ARel.mono this (fun _ _=>rfl) hal' (fun _ _=>.inl rfl)
  ·exact .unk _
 ·have:=hB id
  refine BRel.mono (w:=w) (al:=al) (σ:=σ) ?_ (fun _ _=>rfl) hal' (fun _ _=>.inl rfl) rfl (fun _ _=>rfl)
  have hw:∀ b,aj0 (σ id) b→Base.wr ⟨w,al,muOf σ,σ,noMk,0⟩ b:=fun b hb=>.inr ⟨id,hb⟩
  show BRel P w (Base.wr ⟨w,al,muOf σ,σ,noMk,0⟩) al σ id (aja hs id)
  generalize aja hs id=K at this ⊢
  cases K with
  | dead=>exact this
  | gone=>exact this
  | box cells=>obtain ⟨b,vs,t,hr,_,rest⟩:=this;exact ⟨b,vs,t,hr,hw b (by rw [hr];rfl),rest⟩
  | row t es =>
   obtain ⟨E,hE,hby,h⟩:=this
   refine ⟨E,hE,hby,h.imp (fun x=>x) ?_⟩
   rintro ⟨b,cap,cur,tg,e,_,rest⟩
   exact ⟨b,cap,cur,tg,e,hw b (by rw [e];exact .inl rfl),rest⟩
  | frz t es =>
   obtain ⟨E,hE,hby,h⟩:=this
   refine ⟨E,hE,hby,h.imp (fun x=>x) ?_⟩
   rintro ⟨b,cap,cur,tg,e,_,rest⟩
   exact ⟨b,cap,cur,tg,e,hw b (by rw [e];exact .inl rfl),rest⟩
  | mp kk vp m=>obtain ⟨b,es,clock,hr,_,rest⟩:=this;exact ⟨b,es,clock,hr,hw b (by rw [hr];rfl),rest⟩
  | rl t es i j a =>
   obtain ⟨E,hE,hby,h⟩:=this
   refine ⟨E,hE,hby,h.imp (fun x=>x) ?_⟩
   rintro ⟨b,cap,cur,tg,e,_,rest⟩
   exact ⟨b,cap,cur,tg,e,hw b (by rw [e];exact .inl rfl),rest⟩
  | it kk vp cur left=>obtain ⟨r,b,es,clock,since,seen,c0,hr,_,_,rest⟩:=this;exact ⟨r,b,es,clock,since,seen,c0,hr,hw r (by rw [hr];exact .inl rfl),hw b (by rw [hr];exact .inr rfl),rest⟩
  | reg=>obtain ⟨W,Q,hr,hq⟩:=this;exact ⟨W,Q,hr,fun b hb=>⟨hw b (by rw [hr];exact hb),(hq b hb).2⟩⟩
  | wob=>obtain ⟨W,Q,hr,hq⟩:=this;exact ⟨W,Q,hr,fun b hb=>⟨hw b (by rw [hr];exact hb),(hq b hb).2⟩⟩
mutual
def aq7 (P:Program) (ids:List (Option Nat)) (hs':List Blk) (hp:Nat→Blk):A→A→Prop
 | .c k x,act=>match toCell hp act with
  | some (k',y)=>fitP k k'=true∧y=x∧(ajc act).all (fun id=>ayf id ids)=true
  | none=>False
 | .nilsl,act=>act = .nilsl
 | .own j ks off len,act=>match act with
  | .own id ks' off' len'=>ids.getD j none=some id∧ks'=ks∧off'=off∧len'=len∧live hp id=true
  | .nilsl=>ids[j]? = some none∧off=0∧len=0∧(match hs'.getD j .dead with | .row t _=>(match tyI P t with | some E=>E.kinds=ks | none=>False) | _=>False)
  | _=>False
 | .box j off,act=>match act with
  | .box id off'=>ids.getD j none=some id∧off'=off
  | _=>False
 | .bsl j len,act=>match act with
  | .bsl id len'=>ids.getD j none=some id∧len'=len
  | _=>False
 | .mref j,act=>match act with
  | .mref id=>ids.getD j none=some id
  | _=>False
 | .elt j sz ks i off,act=>match act with
  | .elt id sz' ks' i' off'=>ids.getD j none=some id∧sz'=sz∧ks'=ks∧i'=i∧off'=off∧live hp id=true
  | _=>False
 | .agg es,act=>match act with
  | .agg as=>akv P ids hs' hp es as
  | _=>False
 | .fnv f es,act=>match act with
  | .fnv f' as=>f'=f∧akv P ids hs' hp es as
  | _=>False
 | .fnb f es,act=>match act with
  | .fnb f' as=>f'=f∧akv P ids hs' hp es as
  | _=>False
 | .rg j k x,act=>match act with
  | .rg id k' x'=>ids.getD j none=some id∧k'=k∧x'=x
  | _=>False
 | .unk,_=>True
 | _,_=>False
def akv (P:Program) (ids:List (Option Nat)) (hs':List Blk) (hp:Nat→Blk):List A→List A→Prop
 | [],[]=>True
 | e :: es,a :: as=>aq7 P ids hs' hp e a∧akv P ids hs' hp es as
 | _,_=>False
end
def blkM (P:Program) (ids:List (Option Nat)) (hs':List Blk) (hp:Nat→Blk):Option Nat→Blk→Prop
 | some id,.row t es=>hp id = .row t es
 | none,.row t es=>es=[]∧(tyI P t).isSome=true
 | some id,.frz t es=>hp id = .frz t es
 | some id,.gone=>hp id = .gone
 | some id,.box cells=>match hp id with | .box cells'=>akv P ids hs' hp cells cells' | _=>False
 | some id,.mp kk vp m=>hp id = .mp kk vp m
 | some id,.reg=>hp id = .reg
 | some id,.wob=>hp id = .wob
 | _,_=>False
def ck6 (P:Program) (ids:List (Option Nat)) (hs':List Blk) (hp:Nat→Blk):List (Option Nat)→List Blk→Prop
 | [],[]=>True
 | i :: is,b :: bs=>blkM P ids hs' hp i b∧ck6 P ids hs' hp is bs
 | _,_=>False
def by8:Nat→Nat→List (Option Nat)→Bool
 | _,0,_=>true
 | j,n+1,some i :: r=>i == j && by8 (j+1) n r
 | _,_,_=>false
def cqd (P:Program) (s:S) (results:List ResultVar) (ids:List (Option Nat)) (res:List A) (hs':List Blk):Prop :=
 match resA P s results with
 | some (p,as)=>p∧aky ids=true∧ck6 P ids hs' s.hp ids hs'∧akv P ids hs' s.hp res as
 | none=>False
theorem byc {hp:Nat→Blk} {ids0:List (Option Nat)} {hs0:List Blk}:∀ {ids:List (Option Nat)} {bs:List Blk},ck6 P ids0 hs0 hp ids bs→ids.length=bs.length∧∀ j,j < bs.length→∃ o,ids[j]? = some o∧blkM P ids0 hs0 hp o (bs.getD j .dead)
 | [],[],_=>⟨rfl,fun j hj=>by simp at hj⟩
 | [],_ :: _,h=>h.elim
 | _ :: _,[],h=>h.elim
 | i :: is,b :: bs,h=>by
  obtain ⟨h1,h2⟩:=h
  obtain ⟨l,hr⟩:=byc h2
  refine ⟨by simp [l],fun j hj=>?_⟩
  cases j with
  | zero=>exact ⟨i,rfl,by simpa using h1⟩
  | succ j=>simpa using hr j (by simpa using hj)
theorem czn:∀ {n j:Nat} {ids:List (Option Nat)},by8 j n ids=true→∀ i,i < n→ids[i]? = some (some (j+i))
 | 0,_,_,_,i,hi=>by omega
 | n+1,j,[],h,i,hi=>by simp [by8] at h
 | n+1,j,none :: r,h,i,hi=>by simp [by8] at h
 | n+1,j,some x :: r,h,i,hi=>by
  simp only [by8,Bool.and_eq_true,beq_iff_eq] at h
  obtain ⟨rfl,h⟩:=h
  cases i with
  | zero=>rfl
  | succ i =>
   have:=czn h i (by omega)
   rw [List.getElem?_cons_succ,this]
   congr 2;omega
section
variable {ids:List (Option Nat)} {hs':List Blk}
theorem aqc {j id:Nat} (h:ids.getD j none=some id):ajz P σ ids hs' j=σ id:=by
 have:ids[j]? = some (some id):=by
  rw [jb] at h
  cases hx:ids[j]? with
  | none=>rw [hx] at h;simp at h
  | some q=>rw [hx] at h;simp at h;rw [h]
 unfold ajz;rw [this]
theorem ej8 (h:RelL P w0 N σ s tms w) (hm:ck6 P ids hs' s.hp ids hs') :
  (∀ b,Al w0 w σ s.hp b→Al w0 w (ajz P σ ids hs') (aja hs') b) ∧
  (∀ id,ayf id ids=true→∀ b,aj0 (σ id) b→Al w0 w (ajz P σ ids hs') (aja hs') b):=by
 obtain ⟨hl,hs⟩:=byc hm
 have hj:∀ j b,aj0 (ajz P σ ids hs' j) b→∃ id,ids[j]? = some (some id)∧aj0 (σ id) b∧(ake (s.hp id)→ake (aja hs' j)):=by
  intro j b hb
  obtain ⟨id,h1,h2⟩:=azc hb
  have hlt:j < hs'.length:=by
   rcases js j ids.length with h' | h'
   ·omega
   ·rw [jE h'] at h1;cases h1
  obtain ⟨o,h3,h4⟩:=hs j hlt
  rw [h1] at h3
  simp only [Option.some.injEq] at h3;subst h3
  refine ⟨id,h1,h2,fun hf=>?_⟩
  show ake (hs'.getD j .dead)
  generalize hs'.getD j .dead=K at h4
  cases K with
  | frz t es=>trivial
  | row t es=>simp only [blkM] at h4;rw [h4] at hf;exact hf
  | gone=>simp only [blkM] at h4;rw [h4] at hf;exact hf
  | mp kk vp m=>simp only [blkM] at h4;rw [h4] at hf;exact hf
  | box cells =>
   simp only [blkM] at h4
   split at h4
   ·rename_i e;rw [e] at hf;exact hf
   ·exact h4.elim
  | dead=>simp [blkM] at h4
  | it kk vp c l=>simp [blkM] at h4
  | reg=>simp only [blkM] at h4;rw [h4] at hf;exact hf
  | wob=>simp only [blkM] at h4;rw [h4] at hf;exact hf
  | rl t es i j a=>simp [blkM] at h4
 refine ⟨fun b hb=>⟨hb.1,fun j hjb=>?_,hb.2.2⟩,fun id hn b hb=>⟨(aj3 (h.blks id) hb).1,fun j hjb=>?_,.inl (aj3 (h.blks id) hb).2⟩⟩
 ·obtain ⟨id,_,h2,h3⟩:=hj j b hjb
  exact h3 (hb.2.1 id h2)
 ·obtain ⟨id',h1,h2,h3⟩:=hj j b hjb
  have e:=h.inj id' id b h2 hb
  subst e
  exact absurd h1 (ak7 hn j)
mutual
theorem cyg (h00:tyI P 0=none) (h:RelL P w0 N σ s tms w) (hm:ck6 P ids hs' s.hp ids hs'):∀ (e a:A) (v:Value),aq7 P ids hs' s.hp e a→ARel P w (Al w0 w σ s.hp) σ v a→ARel P w (Al w0 w (ajz P σ ids hs') (aja hs')) (ajz P σ ids hs') v e
 | .c k x,a,v,ht,hx=>by
  simp only [aq7] at ht
  obtain ⟨ha1,ha2⟩:=ej8 h hm
  split at ht
  ·rename_i k' y hto
   obtain ⟨hf,rfl,hn⟩:=ht
   rw [List.all_eq_true] at hn
   have:=awp h hto hx ha1 (fun id hid=>ha2 id (hn id hid))
   exact .c _ _ _ (bz0 h00 hf this)
  ·exact ht.elim
 | .nilsl,a,v,ht,hx=>by
  simp only [aq7] at ht
  subst ht;cases hx;exact .nilsl
 | .own j ks off len,a,v,ht,hx=>by
  simp only [aq7] at ht
  split at ht
  ·rename_i id ks' off' len'
   obtain ⟨hr,rfl,rfl,rfl,hl⟩:=ht
   have hσ:=aqc (P:=P) (σ:=σ) (hs':=hs') hr
   have hg:=(aze h hl).1
   cases hx with
   | ownGone _ _ _ _ _ hgg=>exact absurd hgg hg
   | ownNil _ _ _ t hh ho=>exact .ownNil _ _ _ t (hσ.trans hh) ho
   | own0 _ _ _ b cap n t hh hle=>exact .own0 _ _ _ b cap n t (hσ.trans hh) hle
   | ownOff _ _ _ _ b cap n cap' t hh ho hle hc=>exact .ownOff _ _ _ _ b cap n cap' t (hσ.trans hh) ho hle hc
   | ownOff0 ad _ _ _ b cap n cap' t hh ho hle=>exact .ownOff0 ad _ _ _ b cap n cap' t (hσ.trans hh) ho hle
  ·obtain ⟨hr,rfl,rfl,hk⟩:=ht
   cases hx
   split at hk
   ·rename_i t es hrow
    split at hk
    ·rename_i E hE
     subst hk
     have hrow':hs'[j]? = some (.row t es):=by
      rw [jb] at hrow
      cases hx:hs'[j]? with
      | none=>rw [hx] at hrow;simp at hrow
      | some q=>rw [hx] at hrow;simp at hrow;rw [hrow]
     exact .ownNil _ _ _ t (by unfold ajz;rw [hr,hrow'];simp [hE]) rfl
    ·exact hk.elim
   ·exact hk.elim
  ·exact ht.elim
 | .box j off,a,v,ht,hx=>by
  simp only [aq7] at ht
  split at ht
  ·obtain ⟨hr,rfl⟩:=ht
   have hσ:=aqc (P:=P) (σ:=σ) (hs':=hs') hr
   cases hx with
   | box _ _ b hh=>exact .box _ _ b (hσ.trans hh)
  ·exact ht.elim
 | .bsl j len,a,v,ht,hx=>by
  simp only [aq7] at ht
  split at ht
  ·obtain ⟨hr,rfl⟩:=ht
   have hσ:=aqc (P:=P) (σ:=σ) (hs':=hs') hr
   cases hx with
   | bsl _ _ b cap hh=>exact .bsl _ _ b cap (hσ.trans hh)
  ·exact ht.elim
 | .mref j,a,v,ht,hx=>by
  simp only [aq7] at ht
  split at ht
  ·have hσ:=aqc (P:=P) (σ:=σ) (hs':=hs') ht
   cases hx with
   | mref _ b hh=>exact .mref _ b (hσ.trans hh)
   | mrefGone _ _ hh=>exact .mrefGone _ _ (hσ.trans hh)
   | itr _ r b hh=>exact .itr _ r b (hσ.trans hh)
  ·exact ht.elim
 | .elt j sz ks i off,a,v,ht,hx=>by
  simp only [aq7] at ht
  split at ht
  ·obtain ⟨hr,rfl,rfl,rfl,rfl,hl⟩:=ht
   have hσ:=aqc (P:=P) (σ:=σ) (hs':=hs') hr
   have hg:=(aze h hl).1
   cases hx with
   | eltGone _ _ _ _ _ _ hgg=>exact absurd hgg hg
   | elt _ ks0 _ _ _ b cap n t hh hi hk=>exact .elt _ ks0 _ _ _ b cap n t (hσ.trans hh) hi hk
  ·exact ht.elim
 | .agg es,a,v,ht,hx=>by
  simp only [aq7] at ht
  split at ht
  ·rename_i as
   cases hx with
   | agg us _ hlu hu =>
    obtain ⟨l',hr'⟩:=azq h00 h hm es as us ht hlu hu
    exact .agg us es (by rw [hlu,l']) hr'
  ·exact ht.elim
 | .fnv f es,a,v,ht,hx=>by
  simp only [aq7] at ht
  split at ht
  ·rename_i f' as
   obtain ⟨rfl,ht⟩:=ht
   cases hx with
   | fnv _ _ us hlu hu =>
    obtain ⟨l',hr'⟩:=azq h00 h hm es as us ht hlu hu
    exact .fnv _ es us (by rw [hlu,l']) hr'
  ·exact ht.elim
 | .fnb f es,a,v,ht,hx=>by
  simp only [aq7] at ht
  split at ht
  ·rename_i f' as
   obtain ⟨rfl,ht⟩:=ht
   cases hx with
   | fnb _ _ us hlu hu =>
    obtain ⟨l',hr'⟩:=azq h00 h hm es as us ht hlu hu
    exact .fnb _ es us (by rw [hlu,l']) hr'
  ·exact ht.elim
 | .unk,a,v,ht,hx=>.unk v
 | .tup es,a,v,ht,hx=>by simp [aq7] at ht
 | .pp ks cells off,a,v,ht,hx=>by simp [aq7] at ht
 | .when g e,a,v,ht,hx=>by simp [aq7] at ht
 | .rg j k x,a,v,ht,hx=>by
  simp only [aq7] at ht
  split at ht
  ·obtain ⟨hr,rfl,rfl⟩:=ht
   have hσ:=aqc (P:=P) (σ:=σ) (hs':=hs') hr
   cases hx with
   | rg _ _ _ _ W Q hh hq=>exact .rg _ _ _ _ W Q (hσ.trans hh) hq
   | rgGone _ _ _ _ hh=>exact .rgGone _ _ _ _ (hσ.trans hh)
  ·exact ht.elim
 | .rp _ _ _ _,a,v,ht,hx=>by simp [aq7] at ht
theorem azq (h00:tyI P 0=none) (h:RelL P w0 N σ s tms w) (hm:ck6 P ids hs' s.hp ids hs'):∀ (es as:List A) (vs:List Value),akv P ids hs' s.hp es as→vs.length=as.length →
  (∀ i,i < as.length→ARel P w (Al w0 w σ s.hp) σ (vs.getD i undef) (as.getD i .unk))→es.length=as.length∧∀ i,i < es.length→ARel P w (Al w0 w (ajz P σ ids hs') (aja hs')) (ajz P σ ids hs') (vs.getD i undef) (es.getD i .unk)
 | [],[],vs,_,_,_=>⟨rfl,fun i hi=>by simp at hi⟩
 | [],_ :: _,vs,ht,_,_=>by simp [akv] at ht
 | _ :: _,[],vs,ht,_,_=>by simp [akv] at ht
 | e :: es,a :: as,[],ht,hl,hx=>by simp at hl
 | e :: es,a :: as,v :: vs,ht,hl,hx=>by
  simp only [akv] at ht
  obtain ⟨t1,t2⟩:=ht
  obtain ⟨l,hr⟩:=azq h00 h hm es as vs t2 (by simpa using hl) (fun i hi=>by have:=hx (i+1) (by simp;omega);simpa using this)
  have h0:ARel P w (Al w0 w σ s.hp) σ v a:=hx 0 (by simp)
  have h1:=cyg h00 h hm e a v t1 h0
  refine ⟨by simp [l],fun i hi=>?_⟩
  cases i with
  | succ i=>simpa using hr i (by simpa using hi)
  | zero=>exact h1
end
theorem cz7 {w1:World} {al1:Nat→Prop} {σ1:Nat→RefI} {results:List ResultVar} {res:List A} {k:Nat} (h00:tyI P 0=none) (h:Rel P ⟨w1,al1,muOf σ1,σ1,noMk,0⟩ N s tms w) (hk:∀ j,k≤j→σ1 j = .dead) (hpre:by8 0 k ids=true) (hr:cqd P s results ids res hs') :
  ∃ vs:List Value,(results.mapM (resVar P tms)).run P w = .ok vs w∧ResM P w1 al1 σ1 w (tupV vs) res hs':=by
 obtain ⟨σ,hR⟩:=h
 unfold cqd at hr
 split at hr
 ·rename_i p as hres
  obtain ⟨hp,hnd,hm,hma⟩:=hr
  obtain ⟨vs,h1,h2,_,h3⟩:=bjt hR hres hp
  obtain ⟨ha1,ha2⟩:=ej8 hR hm
  obtain ⟨hl,hs⟩:=byc hm
  obtain ⟨l,hv⟩:=azq h00 hR hm res as vs hma h2 h3
  refine ⟨vs,h1,hR.below,ajz P σ ids hs',fun j=>?_,fun i j b hi hj=>?_,fun j hj=>?_,cy0 (by omega) hv⟩
  ·rcases js j hs'.length with hj | hj
   ·obtain ⟨o,h4,h5⟩:=hs j hj
    have e:aja hs' j=hs'.getD j .dead:=rfl
    have e':hs'[j]? = some (hs'.getD j .dead):=by simp [jb,hj]
    rw [e]
    generalize hs'.getD j .dead=K at h5 e'
    cases o with
    | none =>
     cases K <;> simp [blkM] at h5
     rename_i t es
     obtain ⟨rfl,hE⟩:=h5
     obtain ⟨E,hE⟩:=Option.isSome_iff_exists.1 hE
     have hσ:ajz P σ ids hs' j = .rown t E.kinds:=by unfold ajz;rw [h4,e'];simp [hE]
     simp only [BRel]
     rw [hσ]
     exact ⟨E,hE,by simp,.inl ⟨rfl,rfl⟩⟩
    | some id =>
     have hσ:ajz P σ ids hs' j=σ id:=by unfold ajz;rw [h4]
     have hb:=hR.blks id
     cases K with
     | dead=>simp [blkM] at h5
     | gone=>simp only [blkM] at h5;rw [h5] at hb;simp only [BRel] at hb ⊢;rw [hσ];exact hb
     | row t es=>simp only [blkM] at h5;rw [h5] at hb;simp only [BRel] at hb ⊢;rw [hσ];exact aq2.mono hb (fun _ _=>rfl) ha1 (fun _ _=>rfl)
     | frz t es=>simp only [blkM] at h5;rw [h5] at hb;simp only [BRel] at hb ⊢;rw [hσ];exact aq2.mono hb (fun _ _=>rfl) ha1 (fun _ _=>rfl)
     | mp kk vp m =>
      simp only [blkM] at h5;rw [h5] at hb
      obtain ⟨bb,es,clock,q1,q2,q3,q5,q4⟩:=hb
      exact ⟨bb,es,clock,hσ.trans q1,q2,q3,q5,q4.mono (fun _ _=>rfl) ha1⟩
     | it kk vp c l=>simp [blkM] at h5
     | reg=>simp only [blkM] at h5;rw [h5] at hb;simp only [BRel] at hb ⊢;rw [hσ];exact hb
     | wob=>simp only [blkM] at h5;rw [h5] at hb;simp only [BRel] at hb ⊢;rw [hσ];exact hb
     | rl t es i j a=>simp [blkM] at h5
     | box cells =>
      simp only [blkM] at h5
      split at h5
      ·rename_i cells' hc
       rw [hc] at hb
       obtain ⟨bb,us,t,q1,q2,q3,q4,q5⟩:=hb
       obtain ⟨l',hr'⟩:=azq h00 hR hm cells cells' us.toList h5 (by simpa using q4) (fun i hi=>by
        have:=q5 i hi
        simpa [je,jb] using this)
       refine ⟨bb,us,t,hσ.trans q1,q2,q3,by rw [q4,l'],fun i hi=>?_⟩
       have:=hr' i hi
       simpa [je,jb] using this
      ·exact h5.elim
   ·have e:aja hs' j = .dead:=by simp [aja,jb,jE hj]
    rw [e]
    simp only [BRel]
    unfold ajz
    rw [jE (by omega:ids.length≤j)]
  ·obtain ⟨id,h4,h5⟩:=azc hi
   obtain ⟨id',h6,h7⟩:=azc hj
   have:=hR.inj id id' b h5 h7
   subst this
   exact bqb hnd i j id h4 h6
  ·have hlt:j < k:=by
    rcases js j k with h' | h'
    ·exact h'
    ·exact absurd (hk j h') hj
   have h4:=czn hpre j hlt
   have hσ:ajz P σ ids hs' j=σ j:=by unfold ajz;rw [h4];simp
   rw [hσ]
   exact hR.keep j hj
 ·exact hr.elim
end
def RetM (P:Program) (k:Nat) (rs:List ResultVar) (res:List A) (hs':List Blk):Exit→S→Prop:=fun e s=>match e with
 | .normal=>∃ ids,by8 0 k ids=true∧cqd P s rs ids res hs'
 | .ret=>∃ ids,by8 0 k ids=true∧cqd P s rs ids res hs'
 | _=>False
theorem bku {f:FuncId} {fn:Func} {as:List Arg} {hs hs':List Blk} {res:List A} (c:Code) (h00:tyI P 0=none) (hf:P.funcs[f]? = some fn) (hb:fn.body=some c) (henter:∀ args w,(callFunc f args).run P w = .ok (.enter f args) w)
  (hN:as.length≤fn.ntmps) (hle:hs.length≤hs'.length) (h:Sm P fn.ntmps hs.length c ⟨dj7 as 0,aja hs⟩ (RetM P hs.length fn.results.toList res hs')):bjw P f as hs res hs':=by
 refine ⟨henter,hle,fun w al σ vs hal hB hinj hv hargs=>?_⟩
 have hk:∀ j,hs.length≤j→σ j = .dead:=by
  intro j hj
  have:=hB j
  have e:aja hs j = .dead:=by simp [aja,jb,jE hj]
  rw [e] at this;exact this
 refine dz5 (w0:=⟨w,al,muOf σ,σ,noMk,0⟩) hf hb hk (dzq hal hB hinj hv hN hargs) h (fun e s' tmps w' hR hq=>?_)
 cases e with
 | normal =>
  obtain ⟨ids,hp,hr⟩:=hq
  obtain ⟨vs,h1,h2⟩:=cz7 h00 hR hk hp hr
  exact ⟨.inl rfl,_,run_results h1,_,rfl,h2⟩
 | ret =>
  obtain ⟨ids,hp,hr⟩:=hq
  obtain ⟨vs,h1,h2⟩:=cz7 h00 hR hk hp hr
  exact ⟨.inr rfl,_,run_results h1,_,rfl,h2⟩
 | _=>exact hq.elim
end Go.AE
