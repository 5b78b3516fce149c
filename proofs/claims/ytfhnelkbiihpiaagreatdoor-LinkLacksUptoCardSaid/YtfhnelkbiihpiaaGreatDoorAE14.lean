/- Text. -/
import Derived.Test.YtfhnelkbiihpiaaGreatDoorAE13
import Derived.Test.YtfhnelkbiihpiaaGreatDoorAE2C
set_option linter.unusedVariables false
open _root_.List renaming getD_cons_succ→jS,getD_eq_getElem?_getD→jb,getElem?_cons_zero→jZ,getElem?_eq_none→jE
open _root_.Option.some renaming injEq→ja
open _root_.Prod.mk renaming injEq→jj
open Go.Result renaming andThen_ok→jl
open Go.Sem renaming run_bind→jn,run_pure→jy
namespace Go.AE
open Go.RowKit (Below)
variable {P:Program} {w0:Base} {w:World} {N:Nat} {σ:Nat→RefI} {s:S} {tms:Array Value} {ρ:Operand→Value} {al:Nat→Prop} {Γ:List Fn}
theorem dz1 {p:Bool×List Kd} {v:Value} {c:List C} (h:ArgRel P w al p v c):ARel P w al σ v (argA p c):=by
 obtain ⟨agg,ks⟩:=p
 cases agg with
 | true =>
  obtain ⟨us,rfl,hl,_,hr⟩:=h
  simp only [argA,pack,if_true]
  refine .agg us _ (by rw [azo];exact hl) (fun i hi=>?_)
  rw [azo] at hi
  rw [bqd _ _ _ _ hi,Nat.zero_add]
  exact .c _ _ _ (hr i hi).nrm
 | false =>
  obtain ⟨hk,hc,hr⟩:=h
  simp only [argA,pack,Bool.false_eq_true,if_false]
  cases ks with
  | nil=>simp at hk
  | cons k ks=>simpa [aku] using ARel.c (P:=P) (w:=w) (al:=al) (σ:=σ) _ _ _ hr.nrm
theorem dj5:∀ (ps:List (Bool×List Kd)) (cs:List (List C)) (i k:Nat),cs.length=ps.length→bkq ps cs i k=if i≤k∧k < i+ps.length then argA (ps.getD (k - i) (false,[])) (cs.getD (k - i) []) else .unk
 | [],[],i,k,_=>by simp [bkq];intro h1 h2;omega
 | [],_ :: _,i,k,h=>by simp at h
 | _ :: _,[],i,k,h=>by simp at h
 | p :: ps,c :: cs,i,k,h=>by
  simp only [bkq,upd]
  rw [dj5 ps cs (i+1) k (by simpa using h)]
  by_cases e:k=i
  ·subst e;simp
  ·rw [if_neg e]
   simp only [List.length_cons]
   by_cases h1:i+1≤k∧k < i+1+ps.length
   ·rw [if_pos h1,if_pos (by omega)]
    have:k - i=(k - (i+1))+1:=by omega
    rw [this,jS,jS]
   ·rw [if_neg h1,if_neg (by omega)]
theorem dy5 {ps:List (Bool×List Kd)} {cs:List (List C)} {vs:List Value} (hal:∀ b,al b→b < w.heap.size) (hv:vs.length=ps.length) (hc:cs.length=ps.length) (hN:ps.length≤N)
  (hr:∀ i,i < ps.length→ArgRel P w al (ps.getD i (false,[])) (vs.getD i undef) (cs.getD i [])) :
  Rel P (cwj w al) N ⟨bkq ps cs 0,fun _=>.dead⟩ (vs.toArray ++ Array.replicate (N - vs.toArray.size) undef) w:=by
 refine ⟨fun _=>.dead,az1.refl _ _ _,by simp;omega,fun k=>?_,fun id=>rfl,fun id id' b h=>by simp [aj0] at h,fun id h=>absurd rfl h,⟨Nat.zero_le _,fun k o h=>by cases h⟩⟩
 dsimp only
 rw [dj5 _ _ _ _ hc]
 simp only [Nat.zero_le,true_and,Nat.zero_add,Nat.sub_zero]
 split
 ·rename_i hk
  have e:(vs.toArray ++ Array.replicate (N - vs.toArray.size) undef).getD k undef=vs.getD k undef:=by
   have:k < vs.length:=by omega
   simp [Array.getD_eq_getD_getElem?,jb,Array.getElem?_append,this]
  rw [e]
  exact (dz1 (hr k hk)).mono (fun _ _=>rfl) (fun b hb=>⟨hal b hb,fun id h=>by simp [aj0] at h,.inr hb⟩) (fun _ _=>.inl rfl)
 ·exact .unk _
def resVar (P:Program) (tmps:Array Value):ResultVar→Sem Value
 | .tmp t=>pure (tmps.getD t undef)
 | .cell a t=>do loadVar t (← asAddr (tmps.getD a undef))
theorem dy6 {T:TyI} {hp:Nat→Blk} {x:A} {p:Prop} {z:A} {v:Value} (h:bqo T hp x=some (p,z)) (hR:RelL P w0 N σ s tms w) (hhp:hp=s.hp) (hx:ARel P w (Al w0 w σ s.hp) σ v x):∃ a,v = .pointer (some a):=by
 subst hhp
 unfold bqo at h
 split at h
 ·rename_i id off
  split at h
  ·rename_i cells hb
   have hl:live s.hp id=true:=by simp [live,hb]
   cases hx with
   | box _ _ b hg=>exact ⟨_,rfl⟩
  ·cases h
 ·rename_i id sz ks i off
  have hl:live s.hp id=true:=by
   unfold live
   split at h
   ·rename_i hb;simp [hb]
   ·rename_i hb;simp [hb]
   ·cases h
  cases hx with
  | eltGone _ _ _ _ _ _ hg=>exact absurd hg (aze hR hl).1
  | elt _ _ _ _ _ _ _ _ _ _ _ _=>exact ⟨_,rfl⟩
 ·cases hx;exact ⟨_,rfl⟩
 ·cases h
theorem bjt (h:RelL P w0 N σ s tms w):∀ {rs:List ResultVar} {p:Prop} {as:List A},resA P s rs=some (p,as)→p→∃ vs:List Value,(rs.mapM (resVar P tms)).run P w = .ok vs w∧vs.length=as.length∧as.length=rs.length∧∀ i,i < as.length→ARel P w (Al w0 w σ s.hp) σ (vs.getD i undef) (as.getD i .unk)
 | [],p,as,hr,hp=>by
  simp only [resA,ja,jj] at hr
  obtain ⟨rfl,rfl⟩:=hr
  exact ⟨[],rfl,rfl,rfl,fun i hi=>by simp at hi⟩
 | .tmp t :: rs,p,as,hr,hp=>by
  simp only [resA] at hr
  split at hr
  ·rename_i q as' hr'
   simp only [ja,jj] at hr
   obtain ⟨rfl,rfl⟩:=hr
   obtain ⟨vs,h1,h2,h2',h3⟩:=bjt h hr' hp
   refine ⟨tms.getD t undef :: vs,?_,by simp [h2],by simp [h2'],fun i hi=>?_⟩
   ·simp only [List.mapM_cons,jn,resVar,jy,jl,h1]
   ·cases i with
    | zero=>simpa using h.tms t
    | succ i=>simpa using h3 i (by simpa using hi)
  ·cases hr
 | .cell a t :: rs,p,as,hr,hp=>by
  simp only [resA] at hr
  split at hr
  ·rename_i T hT
   split at hr
   ·rename_i q z p' as' hl hr'
    simp only [ja,jj] at hr
    obtain ⟨rfl,rfl⟩:=hr
    obtain ⟨vs,h1,h2,h2',h3⟩:=bjt h hr' hp.2
    obtain ⟨u,hru,hu⟩:=cqj h hT hl hp.1 (h.tms a)
    obtain ⟨ad,had⟩:=dy6 hl h rfl (h.tms a)
    refine ⟨u :: vs,?_,by simp [h2],by simp [h2'],fun i hi=>?_⟩
    ·rw [had] at hru
     simp only [Instr.loadAt,Instr.sureAddr,pure_bind] at hru
     simp only [List.mapM_cons,jn,resVar,had,asAddr,jy,jl,hru,h1]
    ·cases i with
     | zero=>simpa using hu
     | succ i=>simpa using h3 i (by simpa using hi)
   ·cases hr
  ·split at hr
   ·rename_i q z p' as' hl hr'
    simp only [ja,jj] at hr
    obtain ⟨rfl,rfl⟩:=hr
    obtain ⟨vs,h1,h2,h2',h3⟩:=bjt h hr' hp.2
    obtain ⟨ad,u,had,hru,hu⟩:=bkt h hl hp.1 (h.tms a)
    refine ⟨u :: vs,?_,by simp [h2],by simp [h2'],fun i hi=>?_⟩
    ·rw [had] at hru
     simp only [Instr.loadAt,Instr.sureAddr,pure_bind] at hru
     simp only [List.mapM_cons,jn,resVar,had,asAddr,jy,jl,hru,h1]
    ·cases i with
     | zero=>simpa using hu
     | succ i=>simpa using h3 i (by simpa using hi)
   ·cases hr
def ajz (P:Program) (σ:Nat→RefI) (ret:List (Option Nat)) (rows:List Blk) (j:Nat):RefI :=
 match ret[j]?,rows[j]? with
 | some (some id),_=>σ id
 | some none,some (.row t _)=>(match tyI P t with | some E=>.rown t E.kinds | none=>.dead)
 | _,_=>.dead
theorem bjk {hp:Nat→Blk}:∀ {ret:List (Option Nat)} {rows:List Blk},az3 P hp ret rows→ret.length=rows.length∧∀ j,j < rows.length→∃ t es,rows[j]? = some (.row t es) ∧
  ((∃ id,ret[j]? = some (some id)∧hp id = .row t es)∨(ret[j]? = some none∧es=[]∧∃ E,tyI P t=some E))
 | [],[],_=>⟨rfl,fun j hj=>by simp at hj⟩
 | [],_ :: _,h=>h.elim
 | _ :: _,[],h=>h.elim
 | r :: ret,b :: rows,h=>by
  obtain ⟨h1,h2⟩:=h
  obtain ⟨l,hs⟩:=bjk h2
  refine ⟨by simp [l],fun j hj=>?_⟩
  cases j with
  | zero =>
   cases r with
   | some id =>
    cases b with
    | row t es=>exact ⟨t,es,rfl,.inl ⟨id,rfl,h1⟩⟩
    | _=>exact h1.elim
   | none =>
    cases b with
    | row t es =>
     obtain ⟨e,hE⟩:=h1
     cases hT:tyI P t with
     | none=>rw [hT] at hE;cases hE
     | some E=>exact ⟨t,es,rfl,.inr ⟨rfl,e,E,hT⟩⟩
    | _=>exact h1.elim
  | succ j=>simpa using hs j (by simpa using hj)
theorem ak7 {id:Nat}:∀ {ret:List (Option Nat)},ayf id ret=true→∀ j:Nat,ret[j]?≠some (some id)
 | [],_,j=>by simp
 | some x :: xs,h,j=>by
  simp only [ayf,Bool.and_eq_true,Bool.not_eq_true',beq_eq_false_iff_ne] at h
  cases j with
  | zero=>simp;exact h.1
  | succ j=>simpa using ak7 h.2 j
 | none :: xs,h,j=>by
  simp only [ayf] at h
  cases j with
  | zero=>simp
  | succ j=>simpa using ak7 h j
theorem bqb:∀ {ret:List (Option Nat)},aky ret=true→∀ (i j id:Nat),ret[i]? = some (some id)→ret[j]? = some (some id)→i=j
 | [],_,i,j,id,hi,_=>by simp at hi
 | r :: xs,h,i,j,id,hi,hj=>by
  have hx:aky xs=true∧∀ x,r=some x→ayf x xs=true:=by
   cases r with
   | some x=>simp only [aky,Bool.and_eq_true] at h;exact ⟨h.2,fun y e=>by simp only [ja] at e;subst e;exact h.1⟩
   | none=>exact ⟨h,fun y e=>by cases e⟩
  cases i with
  | zero =>
   cases j with
   | zero=>rfl
   | succ j =>
    simp only [jZ,ja] at hi
    simp only [List.getElem?_cons_succ] at hj
    exact absurd hj (ak7 (hx.2 id hi) j)
  | succ i =>
   cases j with
   | zero =>
    simp only [jZ,ja] at hj
    simp only [List.getElem?_cons_succ] at hi
    exact absurd hi (ak7 (hx.2 id hj) i)
   | succ j =>
    simp only [List.getElem?_cons_succ] at hi hj
    rw [bqb hx.1 i j id hi hj]
theorem azc {ret:List (Option Nat)} {rows:List Blk} {j b:Nat} (h:aj0 (ajz P σ ret rows j) b):∃ id,ret[j]? = some (some id)∧aj0 (σ id) b:=by
 unfold ajz at h
 split at h
 ·rename_i id hj;exact ⟨id,hj,h⟩
 ·split at h <;> simp [aj0] at h
 ·simp [aj0] at h
theorem ezj {ret:List (Option Nat)} {rows:List Blk} (h:RelL P w0 N σ s tms w) (hm:az3 P s.hp ret rows) :
  (∀ b,Al w0 w σ s.hp b→Al w0 w (ajz P σ ret rows) (aja rows) b) ∧
  (∀ id,ayf id ret=true→∀ b,aj0 (σ id) b→Al w0 w (ajz P σ ret rows) (aja rows) b):=by
 obtain ⟨hl,hs⟩:=bjk hm
 have hj:∀ j b,aj0 (ajz P σ ret rows j) b→∃ id t es,ret[j]? = some (some id)∧aj0 (σ id) b∧s.hp id = .row t es:=by
  intro j b hb
  obtain ⟨id,h1,h2⟩:=azc hb
  have hlt:j < rows.length:=by
   rcases Nat.lt_or_ge j ret.length with h' | h'
   ·omega
   ·rw [jE h'] at h1;cases h1
  obtain ⟨t,es,_,h3⟩:=hs j hlt
  rcases h3 with ⟨id',h4,h5⟩ | ⟨h4,_⟩
  ·rw [h1] at h4;simp only [ja] at h4;subst h4;exact ⟨id,t,es,h1,h2,h5⟩
  ·rw [h1] at h4;cases h4
 refine ⟨fun b hb=>⟨hb.1,fun j hjb=>?_,hb.2.2⟩,fun id hn b hb=>⟨(aj3 (h.blks id) hb).1,fun j hjb=>?_,.inl (aj3 (h.blks id) hb).2⟩⟩
 ·obtain ⟨id,t,es,_,h2,h3⟩:=hj j b hjb
  have:=hb.2.1 id h2
  rw [h3] at this;exact this.elim
 ·obtain ⟨id',t,es,h1,h2,h3⟩:=hj j b hjb
  have e:=h.inj id' id b h2 hb
  subst e
  exact absurd h1 (ak7 hn j)
theorem djk {ret:List (Option Nat)} {rows:List Blk} {e a:A} {v:Value} (h00:tyI P 0=none) (h:RelL P w0 N σ s tms w) (hm:az3 P s.hp ret rows) (ht:bkr P rows ret s.hp e a) (hx:ARel P w (Al w0 w σ s.hp) σ v a) :
  ARel P w (Al w0 w (ajz P σ ret rows) (aja rows)) (ajz P σ ret rows) v e:=by
 obtain ⟨ha1,ha2⟩:=ezj h hm
 unfold bkr at ht
 split at ht
 ·rename_i k x
  split at ht
  ·rename_i k' y hto
   obtain ⟨hf,rfl,hn⟩:=ht
   rw [List.all_eq_true] at hn
   have:=awp h hto hx ha1 (fun id hid=>ha2 id (hn id hid))
   exact .c _ _ _ (bz0 h00 hf this)
  ·exact ht.elim
 ·rename_i j ks off len
  split at ht
  ·rename_i id ks' off' len'
   obtain ⟨hr,rfl,rfl,rfl,hl⟩:=ht
   have hr':ret[j]? = some (some id):=by
    rw [jb] at hr
    cases hx:ret[j]? with
    | none=>rw [hx] at hr;simp at hr
    | some q=>rw [hx] at hr;simp at hr;rw [hr]
   have hσ:ajz P σ ret rows j=σ id:=by unfold ajz;rw [hr']
   have hg:=(aze h hl).1
   cases hx with
   | ownGone _ _ _ _ _ hgg=>exact absurd hgg hg
   | ownNil _ _ _ t hh ho=>exact .ownNil _ _ _ t (hσ.trans hh) ho
   | own0 _ _ _ b cap n t hh hle=>exact .own0 _ _ _ b cap n t (hσ.trans hh) hle
   | ownOff _ _ _ _ b cap n cap' t hh ho hle hc=>exact .ownOff _ _ _ _ b cap n cap' t (hσ.trans hh) ho hle hc
   | ownOff0 a _ _ _ b cap n cap' t hh ho hle=>exact .ownOff0 a _ _ _ b cap n cap' t (hσ.trans hh) ho hle
  ·obtain ⟨hr,rfl,rfl,hk⟩:=ht
   cases hx
   split at hk
   ·rename_i t es hrow
    split at hk
    ·rename_i E hE
     subst hk
     have hrow':rows[j]? = some (.row t es):=by
      rw [jb] at hrow
      cases hx:rows[j]? with
      | none=>rw [hx] at hrow;simp at hrow
      | some q=>rw [hx] at hrow;simp at hrow;rw [hrow]
     exact .ownNil _ _ _ t (by unfold ajz;rw [hr,hrow'];simp [hE]) rfl
    ·exact hk.elim
   ·exact hk.elim
  ·exact ht.elim
 ·subst ht;cases hx;exact .nilsl
 ·exact ht.elim
theorem bjl {ret:List (Option Nat)} {rows:List Blk} (h00:tyI P 0=none) (h:RelL P w0 N σ s tms w) (hm:az3 P s.hp ret rows):∀ (es as:List A) (vs:List Value),azz P rows ret s.hp es as→vs.length=as.length →
  (∀ i,i < as.length→ARel P w (Al w0 w σ s.hp) σ (vs.getD i undef) (as.getD i .unk))→es.length=as.length∧∀ i,i < es.length→ARel P w (Al w0 w (ajz P σ ret rows) (aja rows)) (ajz P σ ret rows) (vs.getD i undef) (es.getD i .unk)
 | [],[],vs,_,_,_=>⟨rfl,fun i hi=>by simp at hi⟩
 | [],_ :: _,vs,ht,_,_=>by simp [azz] at ht
 | _ :: _,[],vs,ht,_,_=>by simp [azz] at ht
 | e :: es,a :: as,[],ht,hl,hx=>by simp at hl
 | e :: es,a :: as,v :: vs,ht,hl,hx=>by
  unfold azz at ht
  obtain ⟨t1,t2⟩:=ht
  obtain ⟨l,hr⟩:=bjl h00 h hm es as vs t2 (by simpa using hl) (fun i hi=>by have:=hx (i+1) (by simp;omega);simpa using this)
  have h0:ARel P w (Al w0 w σ s.hp) σ v a:=hx 0 (by simp)
  refine ⟨by simp [l],fun i hi=>?_⟩
  cases i with
  | succ i=>simpa using hr i (by simpa using hi)
  | zero =>
   show ARel P w (Al w0 w (ajz P σ ret rows) (aja rows)) (ajz P σ ret rows) v e
   split at t1
   ·rename_i es'
    split at t1
    ·rename_i as'
     cases h0 with
     | agg us _ hlu hu =>
      obtain ⟨l',hr'⟩:=bjl h00 h hm es' as' us t1 hlu hu
      exact .agg us es' (by rw [hlu,l']) hr'
    ·exact t1.elim
   ·exact djk h00 h hm t1 h0
def tupV:List Value→Value
 | [v]=>v
 | vs=>.tuple vs.toArray
theorem cy0 {vs:List Value} {es:List A} (hl:vs.length=es.length) (h:∀ i,i < es.length→ARel P w al σ (vs.getD i undef) (es.getD i .unk)) :
  ARel P w al σ (tupV vs) (ayh es):=by
 match vs,es,hl with
 | [],[],_=>exact .tup [] [] rfl (fun i hi=>by simp at hi)
 | [v],[e],_=>exact h 0 (by simp)
 | v :: u :: vs,e :: f :: es,hl=>exact .tup _ _ hl h
theorem run_results {fn:Func} {vs:List Value} (h:(fn.results.toList.mapM (resVar P tms)).run P w = .ok vs w) :
  (results fn tms).run P w = .ok (tupV vs) w:=by
 have h1:(fn.results.mapM (resVar P tms)).run P w = .ok vs.toArray w:=by
  rw [Array.mapM_eq_mapM_toList,Sem.run_map,h];rfl
 have h2:results fn tms=(do let vs ← fn.results.mapM (resVar P tms);pure (if h:vs.size=1 then vs[0] else .tuple vs)):=by
  unfold results
  congr 1
 rw [h2]
 simp only [jn,h1,jl,jy]
 congr 1
 match vs with
 | []=>rfl
 | [v]=>rfl
 | v :: u :: vs=>simp [tupV]
theorem djz {w1:World} {al1:Nat→Prop} {results:List ResultVar} {ret:List (Option Nat)} {sig:Sig} (h00:tyI P 0=none) (h:Rel P (cwj w1 al1) N s tms w) (hr:cjd P s results ret sig) :
  ∃ vs:List Value,(results.mapM (resVar P tms)).run P w = .ok vs w∧cj1 P w1 al1 w (tupV vs) sig:=by
 obtain ⟨σ,hR⟩:=h
 unfold cjd at hr
 split at hr
 ·rename_i p as hres
  obtain ⟨hp,hnd,hm,hma⟩:=hr
  obtain ⟨vs,h1,h2,_,h3⟩:=bjt hR hres hp
  obtain ⟨ha1,ha2⟩:=ezj hR hm
  obtain ⟨hl,hs⟩:=bjk hm
  obtain ⟨l,hv⟩:=bjl h00 hR hm sig.res as vs hma h2 h3
  refine ⟨vs,h1,az1.below hR.below,fun b hb=>?_,ajz P σ ret sig.rows,fun j=>?_,fun i j b hi hj=>?_,cy0 (by omega) hv⟩
  ·obtain ⟨j,hj,rfl⟩:=List.getElem_of_mem hb
   obtain ⟨t,es,h4,_⟩:=hs j hj
   rw [List.getElem?_eq_getElem hj] at h4
   simp only [ja] at h4
   rw [h4];rfl
  ·rcases Nat.lt_or_ge j sig.rows.length with hj | hj
   ·obtain ⟨t,es,h4,h5⟩:=hs j hj
    have e:aja sig.rows j = .row t es:=by simp [aja,jb,h4]
    rw [e]
    simp only [BRel]
    rcases h5 with ⟨id,h6,h7⟩ | ⟨h6,h7,E,hE⟩
    ·have hσ:ajz P σ ret sig.rows j=σ id:=by unfold ajz;rw [h6]
     rw [hσ]
     have:=hR.blks id
     rw [h7] at this
     exact aq2.mono this (fun _ _=>rfl) ha1 (fun _ _=>rfl)
    ·have hσ:ajz P σ ret sig.rows j = .rown t E.kinds:=by unfold ajz;rw [h6,h4];simp [hE]
     rw [hσ,h7]
     exact ⟨E,hE,by simp,.inl ⟨rfl,rfl⟩⟩
   ·have e:aja sig.rows j = .dead:=by simp [aja,jb,jE hj]
    rw [e]
    simp only [BRel]
    unfold ajz
    rw [jE (by omega:ret.length≤j)]
  ·obtain ⟨id,h4,h5⟩:=azc hi
   obtain ⟨id',h6,h7⟩:=azc hj
   have:=hR.inj id id' b h5 h7
   subst this
   exact bqb hnd i j id h4 h6
 ·exact hr.elim
end Go.AE
