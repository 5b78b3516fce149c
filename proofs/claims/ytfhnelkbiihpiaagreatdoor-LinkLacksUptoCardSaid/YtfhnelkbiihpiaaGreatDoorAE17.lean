/- Text. -/
import Derived.Test.YtfhnelkbiihpiaaGreatDoorAE16
import Derived.RangeFuncLeaves
set_option linter.unusedVariables false
open _root_.Bool renaming and_eq_true→jd
open _root_.Option.some renaming injEq→ja
open _root_.Prod.mk renaming injEq→jj
namespace Go.AE
open Go.RowKit (Below)
variable {P:Program} {w0:Base} {w:World} {N kp:Nat} {σ:Nat→RefI} {s:S} {tms:Array Value} {al:Nat→Prop} {Γ:List Fn}
def lkT:List (Nat×A)→Nat→A
 | [],_=>.unk
 | (i,a) :: r,k=>if k=i then a else lkT r k
abbrev HL:=List (Nat×Option Nat×Blk)
def lkH:HL→Nat→Option (Option Nat×Blk)
 | [],_=>none
 | (i,o,b) :: r,k=>if k=i then some (o,b) else lkH r k
def lkB (h:HL) (k:Nat):Blk:=match lkH h k with | some (_,b)=>b | none=>.dead
def stL (L:List (Nat×A)) (h:HL):S:=⟨lkT L,lkB h⟩
def corr (h:HL) (old new:Nat):Prop:=(match lkH h new with | some (some o,_)=>o=old | _=>False)
def ekr (P:Program) (h:HL) (new:Nat) (ks:List Kd):Prop:=(match lkH h new with | some (none,.row t _)=>(match tyI P t with | some E=>ks=E.kinds | none=>False) | some (none,.rl t _ _ _ _)=>(match tyI P t with | some E=>ks=E.kinds | none=>False) | _=>False)
mutual
def sub (P:Program) (h:HL) (hp:Nat→Blk):A→A→Prop
 | _,.unk=>True
 | .own id ks off len,.c k x=>(match hp id with | .frz t es=>k = .slice t∧x = .slice ((es.drop off).take len) | _=>False)
 | .c k x,.c k' x'=>k=k'∧x=x'
 | .nilsl,.nilsl=>True
 | .nilsl,.c (.slice _) x=>x.toSl=[]
 | .nilsl,.own id ks off len=>ekr P h id ks∧off=0∧len=0
 | .agg xs,.agg ys=>subs P h hp xs ys
 | .fnv f xs,.fnv f' ys=>f=f'∧subs P h hp xs ys
 | .fnb f xs,.fnb f' ys=>f=f'∧subs P h hp xs ys
 | .own id ks off len,.own id' ks' off' len'=>corr h id id'∧ks=ks'∧off=off'∧len=len'
 | .box id off,.box id' off'=>corr h id id'∧off=off'
 | .bsl id len,.bsl id' len'=>corr h id id'∧len=len'
 | .elt id sz ks i off,.elt id' sz' ks' i' off'=>corr h id id'∧sz=sz'∧ks=ks'∧i=i'∧off=off'
 | .mref id,.mref id'=>corr h id id'
 | .pp ks cells off,.pp ks' cells' off'=>ks=ks'∧cells=cells'∧off=off'
 | .rg id k x,.rg id' k' x'=>corr h id id'∧k=k'∧x=x'
 | .rp id ks cells off,.rp id' ks' cells' off'=>corr h id id'∧ks=ks'∧cells=cells'∧off=off'
 | _,_=>False
def subs (P:Program) (h:HL) (hp:Nat→Blk):List A→List A→Prop
 | [],[]=>True
 | a :: as,b :: bs=>sub P h hp a b∧subs P h hp as bs
 | _,_=>False
end
def kdAt (P:Program) (t:TypeId) (j:Nat):Kd:=match tyI P t with | some E=>E.kinds.getD j .other | none=>.other
def subB (P:Program) (h:HL) (hp:Nat→Blk):Blk→Blk→Prop
 | .box xs,.box ys=>subs P h hp xs ys
 | .row t es,.row t' es'=>t=t'∧es=es'
 | .row t es,.frz t' es'=>t=t'∧es=es'
 | .frz t es,.frz t' es'=>t=t'∧es=es'
 | .mp kk vp m,.mp kk' vp' m'=>kk=kk'∧vp=vp'∧m=m'
 | .it kk vp _ l,.it kk' vp' none l'=>kk=kk'∧vp=vp'∧l=l'
 | .rl t es i j a,.rl t' es' i' j' a'=>t=t'∧es=es'∧(es'=[]∨(i=i'∧j=j'∧sub P h hp a a'))
 | .rl t es i j a,.row t' es'=>t=t'∧es=es'∧(es'=[]∨sub P h hp a (.c (kdAt P t j) (cg (eg es i) j)))
 | .rl t es i j a,.frz t' es'=>t=t'∧es=es'∧(es'=[]∨sub P h hp a (.c (kdAt P t j) (cg (eg es i) j)))
 | .gone,.gone=>True
 | .reg,.reg=>True
 | .reg,.wob=>True
 | .wob,.wob=>True
 | _,_=>False
def dj2 (P:Program) (h:HL) (hp:Nat→Blk) (tm:Nat→A):List (Nat×A)→Prop
 | []=>True
 | (i,a) :: r=>sub P h hp (tm i) a∧dj2 P h hp tm r
def bz5 (P:Program) (h:HL) (hp:Nat→Blk):HL→Prop
 | []=>True
 | (_,some o,b) :: r=>subB P h hp (hp o) b∧bz5 P h hp r
 | (_,none,.row t es) :: r=>es=[]∧(tyI P t).isSome=true∧bz5 P h hp r
 | (_,none,.rl t es _ _ _) :: r=>es=[]∧(tyI P t).isSome=true∧bz5 P h hp r
 | _ :: _=>False
def czb (o:Nat):HL→Bool
 | []=>true
 | (_,some o',_) :: r=>!(o == o') && czb o r
 | (_,none,_) :: r=>czb o r
def bqz:HL→Bool
 | []=>true
 | (_,some o,_) :: r=>czb o r && bqz r
 | (_,none,_) :: r=>bqz r
theorem dw3:∀ {h:HL} {k:Nat} {q:Option Nat×Blk},lkH h k=some q→(k,q.1,q.2)∈h
 | [],_,_,h=>by simp [lkH] at h
 | (i,o,b) :: r,k,q,h=>by
  simp only [lkH] at h
  split at h
  ·rename_i e
   simp only [ja] at h;subst h;subst e
   exact .head _
  ·exact .tail _ (dw3 h)
theorem bwv:∀ {h:HL} {o:Nat},czb o h=true→∀ i b,(i,some o,b) ∉ h
 | [],_,_,i,b,hm=>by simp at hm
 | (j,some o',c) :: r,o,h,i,b,hm=>by
  simp only [czb,jd,Bool.not_eq_true',beq_eq_false_iff_ne] at h
  rcases List.mem_cons.1 hm with e | hm
  ·simp only [jj,ja] at e
   exact h.1 e.2.1
  ·exact bwv h.2 i b hm
 | (j,none,c) :: r,o,h,i,b,hm=>by
  simp only [czb] at h
  rcases List.mem_cons.1 hm with e | hm
  ·simp at e
  ·exact bwv h i b hm
theorem dz9:∀ {h:HL},bqz h=true→∀ {i j o:Nat} {b c:Blk},lkH h i=some (some o,b)→lkH h j=some (some o,c)→i=j
 | [],_,_,_,_,_,_,h1,_=>by simp [lkH] at h1
 | (k,o',b') :: r,hok,i,j,o,b,c,h1,h2=>by
  simp only [lkH] at h1 h2
  by_cases e1:i=k <;> by_cases e2:j=k
  ·rw [e1,e2]
  ·simp only [e1,if_true,ja,jj] at h1
   simp only [e2,if_false] at h2
   obtain ⟨rfl,rfl⟩:=h1
   simp only [bqz,jd] at hok
   exact absurd (dw3 h2) (bwv hok.1 _ _)
  ·simp only [e2,if_true,ja,jj] at h2
   simp only [e1,if_false] at h1
   obtain ⟨rfl,rfl⟩:=h2
   simp only [bqz,jd] at hok
   exact absurd (dw3 h1) (bwv hok.1 _ _)
  ·simp only [e1,if_false] at h1
   simp only [e2,if_false] at h2
   have hok':bqz r=true:=by
    cases o' with
    | none=>simpa [bqz] using hok
    | some x=>simp only [bqz,jd] at hok;exact hok.2
   exact dz9 hok' h1 h2
def newσ (P:Program) (h:HL) (σ:Nat→RefI) (k:Nat):RefI :=
 match lkH h k with
 | some (some o,_)=>σ o
 | some (none,.row t _)=>(match tyI P t with | some E=>.rown t E.kinds | none=>.dead)
 | some (none,.rl t _ _ _ _)=>(match tyI P t with | some E=>.rown t E.kinds | none=>.dead)
 | _=>.dead
theorem aqs {h:HL} {old new:Nat} (hc:corr h old new):newσ P h σ new=σ old:=by
 unfold corr at hc
 unfold newσ
 split at hc
 ·rename_i o b hl;rw [hl];simp only;rw [hc]
 ·exact hc.elim
theorem bwj {h:HL} {hp:Nat→Blk}:∀ {xs ys:List A},subs P h hp xs ys→xs.length=ys.length∧∀ j,j < ys.length→sub P h hp (xs.getD j .unk) (ys.getD j .unk)
 | [],[],_=>⟨rfl,fun j hj=>by simp at hj⟩
 | [],_ :: _,hs=>by simp [subs] at hs
 | _ :: _,[],hs=>by simp [subs] at hs
 | x :: xs,y :: ys,hs=>by
  simp only [subs] at hs
  obtain ⟨h1,h2⟩:=bwj hs.2
  refine ⟨by simp [h1],fun j hj=>?_⟩
  cases j with
  | zero=>simpa using hs.1
  | succ j=>simpa using h2 j (by simpa using hj)
theorem czw {h:HL} {hp:Nat→Blk} {al al':Nat→Prop} (ha:∀ b,al b→al' b) (hfz:∀ v id ks off len t es,hp id = .frz t es→ARel P w al σ v (.own id ks off len)→RepC P w al' (.slice t) v (.slice ((es.drop off).take len)))
  {v:Value} {a:A} (hx:ARel P w al σ v a):∀ {a':A},sub P h hp a a'→ARel P w al' (newσ P h σ) v a':=by
 have fz:∀ v id ks off len k x,ARel P w al σ v (.own id ks off len)→sub P h hp (.own id ks off len) (.c k x)→ARel P w al' (newσ P h σ) v (.c k x):=by
  intro v id ks off len k x hx hs
  simp only [sub] at hs
  split at hs
  ·rename_i t' es hb
   obtain ⟨rfl,rfl⟩:=hs
   exact .c _ _ _ (hfz v id ks off len _ es hb hx)
  ·exact hs.elim
 induction hx with
 | unk v=>intro a' hs;cases a' <;> simp [sub] at hs <;> exact .unk _
 | c k v x hr =>
  intro a' hs
  cases a' <;> simp [sub] at hs
  ·exact .unk _
  ·obtain ⟨rfl,rfl⟩:=hs
   exact .c _ _ _ (hr.mono (fun _ _=>rfl) ha)
 | nilsl =>
  intro a' hs
  cases a' with
  | unk=>exact .unk _
  | c k x =>
   cases k <;> simp [sub] at hs
   exact .c _ _ _ (.empty _ _ none 0 hs (fun _=>⟨rfl,rfl⟩))
  | nilsl=>exact .nilsl
  | own id ks off len =>
   simp only [sub] at hs
   obtain ⟨h1,rfl,rfl⟩:=hs
   unfold ekr at h1
   split at h1
   ·rename_i t es hl
    split at h1
    ·rename_i E hE
     subst h1
     exact .ownNil _ _ _ t (by simp [newσ,hl,hE]) rfl
    ·exact False.elim h1
   ·rename_i t es i j a hl
    split at h1
    ·rename_i E hE
     subst h1
     exact .ownNil _ _ _ t (by simp [newσ,hl,hE]) rfl
    ·exact False.elim h1
   ·exact False.elim h1
  | _=>simp [sub] at hs
 | agg vs xs hl hh ih =>
  intro a' hs
  cases a' with
  | unk=>exact .unk _
  | agg ys =>
   simp only [sub] at hs
   obtain ⟨h1,h2⟩:=bwj hs
   exact .agg vs ys (by omega) (fun i hi=>ih i (by omega) (h2 i hi))
  | _=>simp [sub] at hs
 | tup vs xs hl hh ih=>intro a' hs;cases a' <;> simp [sub] at hs;exact .unk _
 | ownGone v id ks off len hg =>
  intro a' hs
  by_cases hc':∃ k x,a' = .c k x
  ·obtain ⟨k,x,rfl⟩:=hc';exact fz _ _ _ _ _ _ _ (.ownGone v id ks off len hg) hs
  cases a' <;> (try exact absurd ⟨_,_,rfl⟩ hc') <;> simp [sub] at hs
  ·exact .unk _
  ·obtain ⟨h1,rfl,rfl,rfl⟩:=hs
   exact .ownGone _ _ _ _ _ (by rw [aqs h1,hg])
 | eltGone v id sz ks i off hg =>
  intro a' hs
  cases a' <;> simp [sub] at hs
  ·exact .unk _
  ·obtain ⟨h1,rfl,rfl,rfl,rfl⟩:=hs
   exact .eltGone _ _ _ _ _ _ (by rw [aqs h1,hg])
 | ownNil id ks off t hg ho =>
  intro a' hs
  by_cases hc':∃ k x,a' = .c k x
  ·obtain ⟨k,x,rfl⟩:=hc';exact fz _ _ _ _ _ _ _ (.ownNil id ks off t hg ho) hs
  cases a' <;> (try exact absurd ⟨_,_,rfl⟩ hc') <;> simp [sub] at hs
  ·exact .unk _
  ·obtain ⟨h1,rfl,rfl,rfl⟩:=hs
   exact .ownNil _ _ _ t (by rw [aqs h1,hg]) ho
 | own0 id ks len b cap n t hg hl =>
  intro a' hs
  by_cases hc':∃ k x,a' = .c k x
  ·obtain ⟨k,x,rfl⟩:=hc';exact fz _ _ _ _ _ _ _ (.own0 id ks len b cap n t hg hl) hs
  cases a' <;> (try exact absurd ⟨_,_,rfl⟩ hc') <;> simp [sub] at hs
  ·exact .unk _
  ·obtain ⟨h1,rfl,rfl,rfl⟩:=hs
   exact .own0 _ _ _ b cap n t (by rw [aqs h1,hg]) hl
 | ownOff id ks off len b cap n cap' t hg ho hl hc =>
  intro a' hs
  by_cases hc':∃ k x,a' = .c k x
  ·obtain ⟨k,x,rfl⟩:=hc';exact fz _ _ _ _ _ _ _ (.ownOff id ks off len b cap n cap' t hg ho hl hc) hs
  cases a' <;> (try exact absurd ⟨_,_,rfl⟩ hc') <;> simp [sub] at hs
  ·exact .unk _
  ·obtain ⟨h1,rfl,rfl,rfl⟩:=hs
   exact .ownOff _ _ _ _ b cap n cap' t (by rw [aqs h1,hg]) ho hl hc
 | ownOff0 a id ks off b cap n cap' t hg ho hl =>
  intro a' hs
  by_cases hc':∃ k x,a' = .c k x
  ·obtain ⟨k,x,rfl⟩:=hc';exact fz _ _ _ _ _ _ _ (.ownOff0 a id ks off b cap n cap' t hg ho hl) hs
  cases a' <;> (try exact absurd ⟨_,_,rfl⟩ hc') <;> simp [sub] at hs
  ·exact .unk _
  ·obtain ⟨h1,rfl,rfl,rfl⟩:=hs
   exact .ownOff0 _ _ _ _ b cap n cap' t (by rw [aqs h1,hg]) ho hl
 | box id off b hg =>
  intro a' hs
  cases a' <;> simp [sub] at hs
  ·exact .unk _
  ·obtain ⟨h1,rfl⟩:=hs
   exact .box _ _ b (by rw [aqs h1,hg])
 | bsl id len b cap hg =>
  intro a' hs
  cases a' <;> simp [sub] at hs
  ·exact .unk _
  ·obtain ⟨h1,rfl⟩:=hs
   exact .bsl _ _ b cap (by rw [aqs h1,hg])
 | elt id ks0 ks i off b cap n t hg hi hk =>
  intro a' hs
  cases a' <;> simp [sub] at hs
  ·exact .unk _
  ·obtain ⟨h1,rfl,rfl,rfl,rfl⟩:=hs
   exact .elt _ ks0 _ _ _ b cap n t (by rw [aqs h1,hg]) hi hk
 | pp ks cells off b o hal f hcell hrep =>
  intro a' hs
  cases a' <;> simp [sub] at hs
  ·exact .unk _
  ·obtain ⟨rfl,rfl,rfl⟩:=hs
   exact .pp _ _ _ b o (ha b hal) f hcell (fun j hj=>(hrep j hj).mono (fun _ _=>rfl) ha)
 | fnv f caps vs hl hh ih =>
  intro a' hs
  cases a' with
  | unk=>exact .unk _
  | fnv f' ys =>
   simp only [sub] at hs
   obtain ⟨rfl,hs⟩:=hs
   obtain ⟨h1,h2⟩:=bwj hs
   exact .fnv f ys vs (by omega) (fun i hi=>ih i (by omega) (h2 i hi))
  | _=>simp [sub] at hs
 | fnb f caps vs hl hh ih =>
  intro a' hs
  cases a' with
  | unk=>exact .unk _
  | fnb f' ys =>
   simp only [sub] at hs
   obtain ⟨rfl,hs⟩:=hs
   obtain ⟨h1,h2⟩:=bwj hs
   exact .fnb f ys vs (by omega) (fun i hi=>ih i (by omega) (h2 i hi))
  | _=>simp [sub] at hs
 | mref id b hg =>
  intro a' hs
  cases a' <;> simp [sub] at hs
  ·exact .unk _
  ·exact .mref _ b (by rw [aqs hs,hg])
 | mrefGone v id hg =>
  intro a' hs
  cases a' <;> simp [sub] at hs
  ·exact .unk _
  ·exact .mrefGone _ _ (by rw [aqs hs,hg])
 | itr id r b hg =>
  intro a' hs
  cases a' <;> simp [sub] at hs
  ·exact .unk _
  ·exact .itr _ r b (by rw [aqs hs,hg])
 | whenT v a hh ih=>intro a' hs;cases a' <;> simp [sub] at hs;exact .unk _
 | whenF a=>intro a' hs;cases a' <;> simp [sub] at hs;exact .unk _
 | rg v id k x W Q hg hr =>
  intro a' hs
  cases a' <;> simp [sub] at hs
  ·exact .unk _
  ·obtain ⟨h1,rfl,rfl⟩:=hs
   exact .rg _ _ _ _ W Q (by rw [aqs h1,hg]) hr
 | rgGone v id k x hg =>
  intro a' hs
  cases a' <;> simp [sub] at hs
  ·exact .unk _
  ·obtain ⟨h1,rfl,rfl⟩:=hs
   exact .rgGone _ _ _ _ (by rw [aqs h1,hg])
 | rp id ks cells off b o W Q hg hal f hcell hrep =>
  intro a' hs
  cases a' <;> simp [sub] at hs
  ·exact .unk _
  ·obtain ⟨h1,rfl,rfl,rfl⟩:=hs
   exact .rp _ _ _ _ b o W Q (by rw [aqs h1,hg]) hal f hcell hrep
 | rpGone v id ks cells off hg =>
  intro a' hs
  cases a' <;> simp [sub] at hs
  ·exact .unk _
  ·obtain ⟨h1,rfl,rfl,rfl⟩:=hs
   exact .rpGone _ _ _ _ _ (by rw [aqs h1,hg])
theorem czh {h:HL} {hp:Nat→Blk} {tm:Nat→A}:∀ {L:List (Nat×A)},dj2 P h hp tm L→∀ k,sub P h hp (tm k) (lkT L k)
 | [],_,k=>by simp [lkT,sub]
 | (i,a) :: r,hs,k=>by
  simp only [dj2] at hs
  simp only [lkT]
  split
  ·rename_i e;subst e;exact hs.1
  ·exact czh hs.2 k
theorem bjr {h:HL} {hp:Nat→Blk}:∀ {l:HL},bz5 P h hp l→∀ {k:Nat} {o:Option Nat} {b:Blk},lkH l k=some (o,b)→(match o with | some o=>subB P h hp (hp o) b | none=>∃ t,(b = .row t []∨∃ i j a,b = .rl t [] i j a)∧(tyI P t).isSome=true)
 | [],_,k,o,b,hl=>by simp [lkH] at hl
 | (i,some o',b') :: r,hs,k,o,b,hl=>by
  simp only [bz5] at hs
  simp only [lkH] at hl
  split at hl
  ·simp only [ja,jj] at hl
   obtain ⟨rfl,rfl⟩:=hl
   exact hs.1
  ·exact bjr hs.2 hl
 | (i,none,b') :: r,hs,k,o,b,hl=>by
  cases b' with
  | row t es =>
   simp only [bz5] at hs
   simp only [lkH] at hl
   split at hl
   ·simp only [ja,jj] at hl
    obtain ⟨rfl,rfl⟩:=hl
    exact ⟨t,.inl (by rw [hs.1]),hs.2.1⟩
   ·exact bjr hs.2.2 hl
  | rl t es i j a =>
   simp only [bz5] at hs
   simp only [lkH] at hl
   split at hl
   ·simp only [ja,jj] at hl
    obtain ⟨rfl,rfl⟩:=hl
    exact ⟨t,.inr ⟨i,j,a,by rw [hs.1]⟩,hs.2.1⟩
   ·exact bjr hs.2.2 hl
  | _=>simp [bz5] at hs
def czq:Nat→HL→Bool
 | 0,_=>true
 | n+1,h=>(match lkH h n with | some (some o,_)=>o == n | _=>false) && czq n h
theorem cw6 {h:HL}:∀ {kp:Nat},czq kp h=true→∀ j,j < kp→∃ b,lkH h j=some (some j,b)
 | 0,_,j,hj=>by omega
 | n+1,hk,j,hj=>by
  simp only [czq,jd] at hk
  by_cases e:j=n
  ·subst e
   have:=hk.1
   split at this
   ·rename_i o b hl
    simp only [beq_iff_eq] at this
    subst this;exact ⟨b,hl⟩
   ·cases this
  ·exact cw6 hk.2 j (by omega)
theorem ejn {L:List (Nat×A)} {h:HL} (hkp:czq kp h=true) (ho:bqz h=true) (hL:dj2 P h s.hp s.tm L) (hH:bz5 P h s.hp h):Weak P kp s (stL L h):=by
 intro w0 N tms w hk hR
 obtain ⟨σ,hR⟩:=hR
 have hal:∀ b,Al w0 w σ s.hp b→Al w0 w (newσ P h σ) (lkB h) b:=by
  intro b hb
  refine ⟨hb.1,fun id hid=>?_,hb.2.2⟩
  unfold newσ at hid
  split at hid
  ·rename_i o k hl
   have hf:=hb.2.1 o hid
   have:=bjr hH hl
   simp only [lkB,hl]
   simp only at this
   unfold ake at hf
   split at hf
   ·rename_i t es he
    rw [he] at this
    cases k <;> simp [subB] at this
    simp [ake]
   ·exact hf.elim
  ·rename_i t es hl
   split at hid <;> simp [aj0] at hid
  ·split at hid <;> simp [aj0] at hid
  ·simp [aj0] at hid
 have hfz:∀ v id ks off len t es,s.hp id = .frz t es→ARel P w (Al w0 w σ s.hp) σ v (.own id ks off len)→RepC P w (Al w0 w (newσ P h σ) (lkB h)) (.slice t) v (.slice ((es.drop off).take len)):=by
  intro v id ks off len t es hb hx
  refine awp hR (by simp [toCell,hb]) hx hal (fun id' hid b hb'=>hal b ?_)
  simp only [ajc,List.mem_singleton] at hid
  subst hid
  have hbb:=aj3 (hR.blks id') hb'
  exact ⟨hbb.1,fun i hi=>by rw [hR.inj i id' b hi hb',hb];trivial,.inl hbb.2⟩
 refine ⟨newσ P h σ,hR.below,hR.size,fun k=>czw hal hfz (hR.tms k) (czh hL k),fun id=>?_,fun i j b hi hj=>?_,fun id hid=>?_,⟨hR.marks.1,fun k o hk=>⟨hal k (hR.marks.2 k o hk).1,(hR.marks.2 k o hk).2⟩⟩⟩
 rotate_left
 rotate_left
 ·have hlt:id < kp:=by
   rcases Nat.lt_or_ge id kp with h' | h'
   ·exact h'
   ·exact absurd (hk id h') hid
  obtain ⟨b,hb⟩:=cw6 hkp id hlt
  have e:newσ P h σ id=σ id:=by simp [newσ,hb]
  rw [e];exact hR.keep id hid
 ·show BRel P w w0.wr (Al w0 w (newσ P h σ) (lkB h)) (newσ P h σ) id (lkB h id)
  cases hl:lkH h id with
  | none=>simp [lkB,hl,BRel,newσ]
  | some q =>
   obtain ⟨o,b⟩:=q
   have hb:=bjr hH hl
   have e:lkB h id=b:=by simp [lkB,hl]
   rw [e]
   cases o with
   | none =>
    obtain ⟨t,hbt,ht⟩:=hb
    obtain ⟨E,hE⟩:=Option.isSome_iff_exists.1 ht
    rcases hbt with rfl | ⟨i,j,a,rfl⟩
    ·exact ⟨E,hE,by simp,.inl ⟨by simp [newσ,hl,hE],rfl⟩⟩
    ·exact ⟨E,hE,by simp,.inl ⟨by simp [newσ,hl,hE],rfl⟩⟩
   | some o =>
    simp only at hb
    have hσ:newσ P h σ id=σ o:=by simp [newσ,hl]
    have hO:=hR.blks o
    generalize s.hp o=k at hb hO
    cases k with
    | dead=>cases b <;> simp [subB] at hb
    | gone =>
     cases b <;> simp [subB] at hb
     simpa [BRel,hσ] using hO
    | box cells =>
     cases b <;> simp [subB] at hb
     obtain ⟨bb,vs,t,h1,h2,h3,h4,h5⟩:=hO
     obtain ⟨l1,l2⟩:=bwj hb
     exact ⟨bb,vs,t,by rw [hσ,h1],h2,h3,by rw [h4,l1],fun j hj=>czw hal hfz (h5 j (by omega)) (l2 j hj)⟩
    | row t es =>
     cases b <;> simp [subB] at hb
     ·obtain ⟨rfl,rfl⟩:=hb
      show aq2 P w w0.wr _ (newσ P h σ id) t es
      rw [hσ];exact aq2.mono hO (fun _ _=>rfl) hal (fun _ _=>rfl)
     ·obtain ⟨rfl,rfl⟩:=hb
      show aq2 P w w0.wr _ (newσ P h σ id) t es
      rw [hσ];exact aq2.mono hO (fun _ _=>rfl) hal (fun _ _=>rfl)
    | frz t es =>
     cases b <;> simp [subB] at hb
     obtain ⟨rfl,rfl⟩:=hb
     show aq2 P w w0.wr _ (newσ P h σ id) t es
     rw [hσ];exact aq2.mono hO (fun _ _=>rfl) hal (fun _ _=>rfl)
    | mp kk vp m =>
     cases b <;> simp [subB] at hb
     obtain ⟨rfl,rfl,rfl⟩:=hb
     obtain ⟨bb,es,clock,h1,h2,h3,h5,h4⟩:=hO
     exact ⟨bb,es,clock,by rw [hσ,h1],h2,h3,h5,h4.mono (fun _ _=>rfl) hal⟩
    | rl t es i j a =>
     have row:∀ {t':TypeId} {es':List (List C)},t=t'∧es=es'∧(es'=[]∨sub P h s.hp a (.c (kdAt P t j) (cg (eg es i) j)))→aq2 P w w0.wr (Al w0 w (newσ P h σ) (lkB h)) (newσ P h σ id) t' es':=by
      rintro t' es' ⟨rfl,rfl,ha⟩
      rw [hσ]
      obtain ⟨E,hE,hby,h1⟩:=hO
      refine ⟨E,hE,hby,h1.imp (fun x=>x) ?_⟩
      rintro ⟨bb,cap,cur,tg,e,hb,hh,k1,k2,k3,k4,k5,k6⟩
      refine ⟨bb,cap,cur,tg,e,hb,hh,k1,k2,k3,k4,fun i' hi' j' hj'=>?_⟩
      by_cases hij:i'=i∧j'=j
      ·obtain ⟨rfl,rfl⟩:=hij
       rcases ha with rfl | ha
       ·simp at hi'
       ·have h2:=czw hal hfz (k6 hi').2 ha
        have hk:kdAt P t j'=E.kinds.getD j' .other:=by simp [kdAt,hE]
        rw [hk] at h2
        exact h2.c_inv
      ·exact (k5 i' hi' j' hj' hij).mono (fun _ _=>rfl) hal
     cases b with
     | row t' es'=>simp only [subB] at hb;exact row hb
     | frz t' es'=>simp only [subB] at hb;exact row hb
     | rl t' es' i' j' a' =>
      simp only [subB] at hb
      obtain ⟨rfl,rfl,ha⟩:=hb
      show cqx P w w0.wr _ _ (newσ P h σ id) t es i' j' a'
      rw [hσ]
      obtain ⟨E,hE,hby,h1⟩:=hO
      refine ⟨E,hE,hby,h1.imp (fun x=>x) ?_⟩
      rintro ⟨bb,cap,cur,tg,er,hBb,hh,k1,k2,k3,k4,k5,k6⟩
      rcases ha with rfl | ⟨rfl,rfl,ha⟩
      ·exact ⟨bb,cap,cur,tg,er,hBb,hh,k1,k2,k3,k4,fun i' hi'=>by simp at hi',fun hi'=>by simp at hi'⟩
      ·exact ⟨bb,cap,cur,tg,er,hBb,hh,k1,k2,k3,k4,fun i' hi' j' hj' hn=>(k5 i' hi' j' hj' hn).mono (fun _ _=>rfl) hal,fun hi'=>⟨(k6 hi').1,czw hal hfz (k6 hi').2 ha⟩⟩
     | _=>simp [subB] at hb
    | it kk vp cur left =>
     cases b with
     | it kk' vp' cur' left' =>
      cases cur' with
      | none =>
       simp only [subB] at hb
       obtain ⟨rfl,rfl,rfl⟩:=hb
       obtain ⟨r,bb,es,clock,since,seen,c0,h1,h2,h3,h4,h5,h6,⟨L,hL,hm⟩,_⟩:=hO
       exact ⟨r,bb,es,clock,since,seen,c0,by rw [hσ,h1],h2,h3,h4,h5,h6,⟨L,hL,hm.mono (fun _ _=>rfl) hal⟩,trivial⟩
      | some q=>simp [subB] at hb
     | _=>simp [subB] at hb
    | reg =>
     obtain ⟨W,Q,h1,h2⟩:=hO
     cases b with
     | reg=>exact ⟨W,Q,by rw [hσ,h1],h2⟩
     | wob=>exact ⟨W,Q,by rw [hσ,h1],fun b hb=>⟨(h2 b hb).1,by obtain ⟨_,vs,t,z,h3,h4⟩:=h2 b hb;exact ⟨vs,vs,t,z,h3,h4,rfl,fun i=>.inl rfl⟩⟩⟩
     | _=>simp [subB] at hb
    | wob =>
     cases b <;> simp [subB] at hb
     obtain ⟨W,Q,h1,h2⟩:=hO
     exact ⟨W,Q,by rw [hσ,h1],h2⟩
 ·unfold newσ at hi hj
  split at hi
  ·rename_i o k hl
   split at hj
   ·rename_i o' k' hl'
    have:=hR.inj o o' b hi hj
    subst this
    exact dz9 ho hl hl'
   ·split at hj <;> simp [aj0] at hj
   ·split at hj <;> simp [aj0] at hj
   ·simp [aj0] at hj
  ·split at hi <;> simp [aj0] at hi
  ·split at hi <;> simp [aj0] at hi
  ·simp [aj0] at hi
def Sm (P:Program) (N kp:Nat) (c:Code) (s:S) (Q:Exit→S→Prop):Prop :=
 ∀ (r:Option Nat) (w0:Base) (Q':Exit→Act→World→Prop) (a:Act) (w:World),(∀ id,kp≤id→w0.sg id = .dead)→RdOk w0 r→DfOk w0 a.defers→Rel P w0 N s a.tmps w →
  (∀ w1 e s' a' w',Ext w0 w1→DfOk w1 a'.defers→Rel P w1 N s' a'.tmps w'→Q e s'→Q' e a' w')→cwp r P c Q' a w
variable {Q:Exit→S→Prop} {a b c:Code}
theorem Sm.of (h00:tyI P 0=none) (hm:P.follows .mixedOrders=true) (hΓ:∀ g,g∈Γ→aj9 P g) (hok:codeOk N c=true) (h:wpA P Γ c s Q):Sm P N kp c s Q :=
 fun r w0 Q' a w _ hr hd hR hQ=>ej6 h00 hm hΓ r c s Q Q' a w hok h hR (fun e s' a' w' h1 h2 h3=>hQ w0 e s' a' w' (Ext.refl _) (h1 ▸ hd) h2 h3)
theorem Sm.weak {s':S} (hw:Weak P kp s s') (h:Sm P N kp c s' Q):Sm P N kp c s Q :=
 fun r w0 Q' a w hk hr hd hR hQ=>h r w0 Q' a w hk hr hd (hw _ _ _ _ hk hR) hQ
theorem Sm.mono {Q2:Exit→S→Prop} (h:Sm P N kp c s Q) (hq:∀ e s,Q e s→Q2 e s):Sm P N kp c s Q2 :=
 fun r w0 Q' a w hk hr hd hR hQ=>h r w0 Q' a w hk hr hd hR (fun w1 e s' a' w' h0 h1 h2 h3=>hQ w1 e s' a' w' h0 h1 h2 (hq e s' h3))
theorem Ext.hk {w0 w1:Base} (h:Ext w0 w1) (hk:∀ id,kp≤id→w0.sg id = .dead):∀ id,kp≤id→w1.sg id = .dead:=by rw [h.sg];exact hk
theorem Sm.seq (h:Sm P N kp a s fun e s'=>match e with | .normal=>Sm P N kp b s' Q | e=>Q e s'):Sm P N kp (.seq a b) s Q:=by
 intro r w0 Q' act w hk hr hd hR hQ
 refine ezc (h r w0 _ act w hk hr hd hR (fun w1 e s' a' w' hx hd' hR' hq=>?_))
 cases e <;> first | exact hq r w1 Q' a' w' (hx.hk hk) (hr.ext hx) hd' hR' (fun w2 e s2 a2 w2' hx2=>hQ w2 e s2 a2 w2' (hx.trans hx2)) | exact hQ _ _ _ _ _ hx hd' hR' hq
theorem Sm.seqK (h:∀ K:S→Prop,(∀ s',Sm P N kp b s' Q→K s')→Sm P N kp a s (fun e s'=>match e with | .normal=>K s' | e=>Q e s')):Sm P N kp (.seq a b) s Q :=
 Sm.seq (h (fun s'=>Sm P N kp b s' Q) (fun _ h=>h))
theorem Sm.cut {X:Type} (st:X→S) (I:X→Prop) (h:Sm P N kp a s fun e s'=>match e with | .normal=>∃ x,I x∧Weak P kp s' (st x) | e=>Q e s') (h2:∀ x,I x→Sm P N kp b (st x) Q):Sm P N kp (.seq a b) s Q :=
 Sm.seq (h.mono fun e s' hq=>by
  cases e <;> first | (obtain ⟨x,hI,hw⟩:=hq;exact (h2 x hI).weak hw) | exact hq)
theorem Sm.block {id:Nat} (h:Sm P N kp c s fun e s'=>match e with | .exit id'=>if id'=id then Q .normal s' else Q (.exit id') s' | e=>Q e s'):Sm P N kp (.block id c) s Q:=by
 intro r w0 Q' act w hk hr hd hR hQ
 refine dzc (h r w0 _ act w hk hr hd hR (fun w1 e s' a' w' hx hd' hR' hq=>?_))
 cases e with
 | exit id' =>
  simp only [Exit.inBlock] at hq ⊢
  split
  ·rename_i e;rw [if_pos e] at hq;exact hQ _ _ _ _ _ hx hd' hR' hq
  ·rename_i e;rw [if_neg e] at hq;exact hQ _ _ _ _ _ hx hd' hR' hq
 | _=>exact hQ _ _ _ _ _ hx hd' hR' hq
theorem Sm.loop {X:Type} (st:X→S) (I:X→Prop) (μ:X→Nat) (x0:X) (h0:I x0) (hw:Weak P kp s (st x0))
  (hr:∀ x,I x→Sm P N kp c (st x) fun e s'=>match e with | .normal=>∃ x',I x'∧μ x' < μ x∧Weak P kp s' (st x') | e=>Q e s'):Sm P N kp (.loop c) s Q:=by
 intro r w0 Q' act w hk hrd hd hR hQ
 refine ejy (fun n a w=>∃ w1,Ext w0 w1∧DfOk w1 a.defers∧∃ x,I x∧μ x=n∧Rel P w1 N (st x) a.tmps w) ⟨μ x0,w0,Ext.refl _,hd,x0,h0,rfl,hw _ _ _ _ hk hR⟩ ?_
 rintro n a w ⟨w1,hx,hd,x,hI,hn,hR⟩
 refine hr x hI r w1 _ a w (hx.hk hk) (hrd.ext hx) hd hR (fun w2 e s' a' w' hx2 hd' hR' hq=>?_)
 cases e with
 | normal =>
  obtain ⟨x',hI',hlt,hw'⟩:=hq
  exact ⟨μ x',by omega,w2,hx.trans hx2,hd',x',hI',rfl,hw' _ _ _ _ ((hx.trans hx2).hk hk) hR'⟩
 | _=>exact hQ _ _ _ _ _ (hx.trans hx2) hd' hR' hq
theorem Sm.cond {t:Operand} (hok:bwh t=true) (x:C) (hx:opdA s.tm t = .c .bool x) (h1:x.toBool=true→Sm P N kp a s Q) (h2:x.toBool=false→Sm P N kp b s Q):Sm P N kp (.cond t a b) s Q:=by
 intro r w0 Q' act w hk hr hd hR hQ
 obtain ⟨σ,hR'⟩:=hR
 have hc:=cw2 hR' hok
 rw [hx] at hc
 exact bkd hc.bool_inv (fun ht=>h1 ht r w0 Q' act w hk hr hd ⟨σ,hR'⟩ hQ) (fun hf=>h2 hf r w0 Q' act w hk hr hd ⟨σ,hR'⟩ hQ)
theorem bys {n:Nat} {fn:Func} {tmps:Array Value} {R:Ending→World→Prop}:∀ (Ds:List Nat) (w0:Base) (w:World),Ds.Nodup→(∀ D∈Ds,w0.n≤D∧w0.mkd D=some (.deferred (some [])))→Rel P w0 N s tmps w →
  (∀ w',Rel P (w0.at noMk 0) N s tmps w'→∃ v,(results fn tmps).run P w' = .ok v w'∧R (.returned v) w')→LeavesInM Fence.wide n P fn tmps R (Ds.map mkDf) .returning w
 | [],w0,w,_,_,hR,hfin=>by
  obtain ⟨σ,hR⟩:=hR
  exact hfin w ⟨σ,hR.remark noMk 0 (Nat.zero_le _) (fun k o h=>by cases h)⟩
 | D :: Ds,w0,w,hnd,hD,hR,hfin=>by
  obtain ⟨σ,hR⟩:=hR
  obtain ⟨hD1,hD2⟩:=hD D (.head _)
  obtain ⟨hal,hh⟩:=hR.marks.2 D _ hD2
  rw [List.nodup_cons] at hnd
  have hlt:=(Array.getElem?_eq_some_iff.1 hh).1
  have hoth:∀ b,b≠D→(w.putObj D (.deferred none)).heap[b]? = w.heap[b]? := fun b hb=>World.putObj_heap_other hb
  have hno:∀ id,¬ aj0 (σ id) D:=by
   intro id hb
   have hf:=hal.2.1 id hb
   have hB:=hR.blks id
   unfold ake at hf
   split at hf
   ·rename_i t es he
    rw [he] at hB
    obtain ⟨E,_,_,hB⟩:=hB
    rcases hB with ⟨hr,_⟩ | ⟨b',cap,cur,tg,hr,_,hc,_⟩
    ·rw [hr] at hb;exact hb.elim
    ·rw [hr] at hb
     rcases hb with hb | hb
     ·subst hb;rw [hh] at hc;cases hc
     ·exact hb.elim
   ·exact hf.elim
  have hR2:=hR.other (w':=w.putObj D (.deferred none)) (fun k=>if k=D then none else w0.mkd k) w0.ms (by rw [World.putObj_size];exact hR.marks.1) rfl rfl rfl (by rw [World.putObj_size];exact Nat.le_refl _)
   (fun b o hb hc=>by
    by_cases e:b=D
    ·subst e;rw [hh] at hb;cases hb;cases hc
    ·rw [hoth b e];exact hb)
   (fun id b hb=>hoth b (fun e=>hno id (e ▸ hb)))
   (fun b hb=>hoth b (by omega))
   (fun k o hk=>by
    by_cases e:k=D
    ·simp [e] at hk
    ·simp only [e,if_false] at hk
     exact ⟨(hR.marks.2 k o hk).1,(hoth k e).trans (hR.marks.2 k o hk).2⟩)
  refine ⟨by simp,.inl ⟨D,_,rfl,run_takeDeferred hh,?_⟩⟩
  refine bys Ds (w0.at (fun k=>if k=D then none else w0.mkd k) w0.ms) _ hnd.2 (fun D' hD'=>⟨(hD D' (.tail _ hD')).1,?_⟩) ⟨σ,hR2⟩ hfin
  have hne:D'≠D:=fun e=>hnd.1 (e ▸ hD')
  show (if D'=D then none else w0.mkd D')=_
  rw [if_neg hne];exact (hD D' (.tail _ hD')).2
theorem dz5 {fn:Func} {f:FuncId} {args:Array Value} {R:Ending→World→Prop} {Qe:Exit→S→Prop} (hf:P.funcs[f]? = some fn) (hb:fn.body=some c) (hk:∀ id,kp≤id→w0.sg id = .dead)
  (hR:Rel P w0 fn.ntmps s (args ++ Array.replicate (fn.ntmps - args.size) undef) w) (h:Sm P fn.ntmps kp c s Qe)
  (hQ:∀ e s' tmps w',Rel P (w0.at noMk 0) fn.ntmps s' tmps w'→Qe e s'→(e = .normal∨e = .ret)∧∃ v,(results fn tmps).run P w' = .ok v w'∧R (.returned v) w'):Calls P f args w R:=by
 refine callsIn_wide.1 (callsIn_of_wp_marks (n:=8) hf hb trivial ?_ rfl)
 refine h none w0 _ { tmps:=args ++ Array.replicate (fn.ntmps - args.size) undef,defers:=[] } w hk (RdOk.none _) (DfOk.nil _) hR (fun w1 e s' a' w' hx hd' hR' hq=>?_)
 obtain ⟨Ds,hDs,hnd,hD⟩:=hd'
 obtain ⟨m,n,rfl,_,_⟩:=hx
 have he:(e = .normal∨e = .ret):=by
  obtain ⟨σ,hR'⟩:=hR'
  exact (hQ e s' _ w' ⟨σ,(hR'.remark noMk 0 (Nat.zero_le _) (fun k o h=>by cases h))⟩ hq).1
 have hL:=bys (n:=8) (fn:=fn) (R:=R) Ds _ w' hnd hD hR' (fun w2 hR2=>(hQ e s' _ w2 hR2 hq).2)
 rw [← hDs] at hL
 rcases he with rfl | rfl
 ·exact hL
 ·exact hL
def Ret (P:Program) (rs:List ResultVar) (sig:Sig):Exit→S→Prop:=fun e s=>match e with
 | .normal=>∃ ret,cjd P s rs ret sig
 | .ret=>∃ ret,cjd P s rs ret sig
 | _=>False
theorem dq1 {g:Fn} {fn:Func} {c:Code} (h00:tyI P 0=none) (hf:P.funcs[g.f]? = some fn) (hb:fn.body=some c) (henter:∀ args w,(callFunc g.f args).run P w = .ok (.enter g.f args) w)
  (hN:g.ps.length≤fn.ntmps)
  (hscalar:g.refs=false→∀ cs,akk (g.sem cs).res=true∧∀ b∈(g.sem cs).rows,∃ t es E,b = .row t es∧tyI P t=some E∧E.kinds.all aqo=true)
  (h:∀ cs:List (List C),cs.length=g.ps.length→(∀ i,i < g.ps.length→(cs.getD i []).length=(g.ps.getD i (false,[])).2.length)→(g.sem cs).pre →
   Sm P fn.ntmps 0 c ⟨bkq g.ps cs 0,fun _=>.dead⟩ (Ret P fn.results.toList (g.sem cs))):aj9 P g:=by
 refine aj9.of henter hscalar (fun w al vs cs hal hv hc hargs hpre=>?_)
 have hlen:∀ i,i < g.ps.length→(cs.getD i []).length=(g.ps.getD i (false,[])).2.length:=by
  intro i hi
  have:=hargs i hi
  unfold ArgRel at this
  split at this
  ·obtain ⟨us,_,_,h3,_⟩:=this;exact h3
  ·obtain ⟨h1,h2,_⟩:=this;omega
 refine dz5 (w0:=cwj w al) hf hb (fun _ _=>rfl) (dy5 hal hv hc hN hargs) (h cs hc hlen hpre) (fun e s' tmps w' hR hq=>?_)
 cases e with
 | normal =>
  obtain ⟨ret,hr⟩:=hq
  obtain ⟨vs,h1,h2⟩:=djz h00 hR hr
  exact ⟨.inl rfl,_,run_results h1,_,rfl,h2⟩
 | ret =>
  obtain ⟨ret,hr⟩:=hq
  obtain ⟨vs,h1,h2⟩:=djz h00 hR hr
  exact ⟨.inr rfl,_,run_results h1,_,rfl,h2⟩
 | _=>exact hq.elim
theorem Ret.ofR {rs:List ResultVar} {sig:Sig} {e:Exit} (ret:List (Option Nat)) (he:e = .normal∨e = .ret) (h:cjd P s rs ret sig):Ret P rs sig e s:=by
 rcases he with rfl | rfl <;> exact ⟨ret,h⟩
def ek1 (P:Program) (rs:List ResultVar) (ret:List (Option Nat)) (sig:Sig):Exit→S→Prop:=fun e s=>match e with
 | .normal=>cjd P s rs ret sig
 | .ret=>cjd P s rs ret sig
 | _=>False
end Go.AE
