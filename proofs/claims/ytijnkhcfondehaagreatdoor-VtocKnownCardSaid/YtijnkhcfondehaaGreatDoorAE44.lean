/- Text. -/
import Derived.Test.YtijnkhcfondehaaGreatDoorAE41
set_option linter.unusedSimpArgs false
set_option linter.unusedVariables false
open _root_.Array renaming getD_eq_getD_getElem?→jf,length_toList→jt,mem_toList_iff→jx
open _root_.Bool renaming and_eq_true→jg
open _root_.List renaming nil_append→JC,getD_eq_getElem?_getD→ja,getElem?_set_ne→Jb,length_set→Jl,size_toArray→jD,getElem?_eq_none→jI,mem_singleton→Jw
open _root_.Nat renaming add_mul→js,mul_le_mul_right→jh,lt_or_ge→jz,lt_of_lt_of_le→jZ
open Go.Op renaming operands→je
open _root_.Option.some renaming injEq→jb
namespace Go.AE
open Go.RowKit (Below)
variable {P:Program} {w0:Base} {w:World} {N:Nat} {σ:Nat→RefI} {s:S} {tms:Array Value} {ρ:Operand→Value} {al:Nat→Prop}
def ewg:List A→Option (Nat×A)
 | []=>none
 | a :: as=>match a with
  | .own id ks off len=>some (0,.own id ks off len)
  | _=>(ewg as).map fun p=>(p.1+1,p.2)
theorem eq3:∀ {xs:List A} {j:Nat} {a:A} {id:Nat},ewg xs=some (j,a)→xs.flatMap ajf=[id] →
  j < xs.length∧xs.getD j .unk=a∧(∃ ks off len,a = .own id ks off len)∧∀ i,i < xs.length→i≠j→ajf (xs.getD i .unk)=[]
 | x :: xs,j,a,id,h,hf=>by
  by_cases hx:∃ i2 ks off len,x = .own i2 ks off len
  ·obtain ⟨i2,ks,off,len,rfl⟩:=hx
   simp only [ewg,jb,Prod.mk.injEq] at h
   obtain ⟨rfl,rfl⟩:=h
   simp only [List.flatMap_cons,ajf,List.cons_append,JC,List.cons.injEq] at hf
   obtain ⟨rfl,hf⟩:=hf
   refine ⟨by simp,rfl,⟨_,_,_,rfl⟩,fun i hi hn=>?_⟩
   cases i with
   | zero=>exact absurd rfl hn
   | succ i =>
    simp only [List.getD_cons_succ]
    have hi':i < xs.length:=by simpa using hi
    have:=List.flatMap_eq_nil_iff.1 hf (xs[i]) (List.getElem_mem hi')
    simpa [ja,hi'] using this
  ·have hfx:ajf x=[]:=by
    cases x <;> first | rfl | exact absurd ⟨_,_,_,_,rfl⟩ hx
   have h':(ewg xs).map (fun p=>(p.1+1,p.2))=some (j,a):=by
    cases x <;> first | exact h | exact absurd ⟨_,_,_,_,rfl⟩ hx
   rw [List.flatMap_cons,hfx,JC] at hf
   cases ho:ewg xs with
   | none=>rw [ho] at h';cases h'
   | some p =>
    rw [ho] at h'
    simp only [Option.map_some,jb,Prod.mk.injEq] at h'
    obtain ⟨h1,h2⟩:=h'
    obtain ⟨k1,k2,k3,k4⟩:=eq3 (j:=p.1) (a:=p.2) ho hf
    subst h1 h2
    refine ⟨by simp;omega,by simpa using k2,k3,fun i hi hn=>?_⟩
    cases i with
    | zero=>exact hfx
    | succ i=>simpa using k4 i (by simpa using hi) (by omega)
theorem dk3 {hp:Nat→Blk}:∀ {xs:List A} {ks:List Kd} {cs:List C},aq6 hp xs=some (ks,cs)→∀ j,j < xs.length→toCell hp (xs.getD j .unk)=some (ks.getD j .other,cg cs j)
 | [],_,_,_,j,hj=>by simp at hj
 | x :: xs,ks,cs,h,j,hj=>by
  simp only [aq6] at h
  split at h
  ·rename_i k c ks' cs' hk hks
   simp only [jb,Prod.mk.injEq] at h
   obtain ⟨rfl,rfl⟩:=h
   cases j with
   | zero=>simpa using hk
   | succ j=>simpa using dk3 hks j (by simpa using hj)
  ·cases h
theorem ewm {cur:Array Value} {vs:List Value} {k cap i off i' j':Nat} (hsz:cur.size=cap * k) (hi:i < cap) (hoff:off+vs.length≤k) (hj:j' < k) :
  (aq4 cur.toList (i * k+off) vs).toArray.getD (i' * k+j') undef=if i'=i∧off≤j'∧j' < off+vs.length then vs.getD (j' - off) undef else cur.getD (i' * k+j') undef:=by
 have hrow:i * k+k≤cur.size:=by
  rw [hsz]
  calc i * k+k=(i+1) * k:=by rw [js];omega
   _≤cap * k:=jh _ (by omega)
 have hl:i * k+off+vs.length≤cur.toList.length:=by simp;omega
 have e0:(aq4 cur.toList (i * k+off) vs).toArray.getD (i' * k+j') undef=(aq4 cur.toList (i * k+off) vs).getD (i' * k+j') undef:=by
  simp [jf,ja]
 have oldv:cur.toList.getD (i' * k+j') undef=cur.getD (i' * k+j') undef:=by
  simp [jf,ja]
 rw [e0,aw3 _ _ _ _ _ hl,oldv]
 by_cases e:i'=i
 ·subst e
  by_cases h1:off≤j'∧j' < off+vs.length
  ·rw [if_pos (by omega),if_pos ⟨rfl,h1⟩]
   congr 1;omega
  ·rw [if_neg (by omega),if_neg (fun h=>h1 h.2)]
 ·have hne:¬ (i * k+off≤i' * k+j'∧i' * k+j' < i * k+off+vs.length):=by
   rcases jz i' i with hlt | hge
   ·have:(i'+1) * k≤i * k:=jh _ hlt
    rw [js] at this;omega
   ·have:(i+1) * k≤i' * k:=jh _ (by omega)
    rw [js] at this;omega
  rw [if_neg hne,if_neg (fun h=>e h.1)]
theorem gw7 {es:List (List C)} {xs:List C} {k i off i' j':Nat} (hel:∀ i,i < es.length→(eg es i).length=k) (hi:i < es.length) (hoff:off+xs.length≤k) :
  cg (eg (es.set i (ajt (eg es i) off xs)) i') j'=if i'=i∧off≤j'∧j' < off+xs.length then cg xs (j' - off) else cg (eg es i') j':=by
 by_cases e:i'=i
 ·subst e
  have e1:eg (es.set i' (ajt (eg es i') off xs)) i'=ajt (eg es i') off xs:=by simp [eg,ja,hi]
  rw [e1]
  have e2:cg (aq4 (eg es i') off xs) j'=if off≤j'∧j' < off+xs.length then cg xs (j' - off) else cg (eg es i') j':=aw3 _ _ _ _ _ (by rw [hel i' hi];omega)
  unfold ajt
  rw [e2]
  by_cases h1:off≤j'∧j' < off+xs.length
  ·rw [if_pos h1,if_pos ⟨rfl,h1⟩]
  ·rw [if_neg h1,if_neg (fun h=>h1 h.2)]
 ·have e1:eg (es.set i (ajt (eg es i) off xs)) i'=eg es i':=by simp [eg,ja,Jb (Ne.symm e)]
  rw [e1,if_neg (fun h=>e h.1)]
theorem ejf {es:List (List C)} {xs:List C} {k i off:Nat} (hel:∀ i,i < es.length→(eg es i).length=k) (hi:i < es.length) (hoff:off+xs.length≤k) :
  ∀ i',i' < (es.set i (ajt (eg es i) off xs)).length→(eg (es.set i (ajt (eg es i) off xs)) i').length=k:=by
 intro i' hi'
 rw [Jl] at hi'
 by_cases e:i'=i
 ·subst e
  have e1:eg (es.set i' (ajt (eg es i') off xs)) i'=ajt (eg es i') off xs:=by simp [eg,ja,hi]
  rw [e1]
  unfold ajt
  rw [ajr _ _ _ (by rw [hel i' hi];omega),hel i' hi]
 ·have e1:eg (es.set i (ajt (eg es i) off xs)) i'=eg es i':=by simp [eg,ja,Jb (Ne.symm e)]
  rw [e1,hel i' hi']
def dqq (P:Program) (t:TypeId) (hp:Nat→Blk) (x y:A):Option Out :=
 match tyI P t,x,aq6 hp (ajd y) with
 | some T,.elt id _ ks i off,some (ks',xs)=>if (ajd y).length == T.kinds.length && ayi hp y then
   match hp id,(ajd y).flatMap ajf,ewg (ajd y) with
   | .rl u es i0 j0 a0,fz,_=>some ⟨i≠i0∧i < es.length∧cyk ks ks'=true,True,.unk,upd (freezeAll hp fz) id (.rl u (es.set i (ajt (eg es i) off xs)) i0 j0 a0),false⟩
   | .row u es,[id2],some (j,a)=>if !(id == id2) && live hp id2 then some ⟨i < es.length∧cyk ks ks'=true,True,.unk,upd hp id (.rl u (es.set i (ajt (eg es i) off xs)) i (off+j) a),false⟩ else none
   | _,_,_=>none
  else none
 | _,_,_=>none
theorem eqb {o:Oper} {r:Out} {t:TypeId} {x y:Operand} {a b:A} (h00:tyI P 0=none) (h:RelL P w0 N σ s tms w) (hf:dqq P t s.hp a b=some r) (ho:o.op = .store t x y) (hp:r.pre)
  (hx:ARel P w (Al w0 w σ s.hp) σ (ρ x) a) (hy:ARel P w (Al w0 w σ s.hp) σ (ρ y) b):OpOk P w0 N s tms o ρ w r:=by
 unfold dqq at hf
 split at hf
 ·rename_i T id sz ks i off ks' xs hT hto
  split at hf
  ·rename_i hc
   simp only [jg,beq_iff_eq] at hc
   obtain ⟨hlen,hbx⟩:=hc
   obtain ⟨hs,hcs⟩:=bjq h hbx hy
   have hs':(ρ y).cells.toList.length=(ajd b).length:=by simpa using hs
   have hcs':∀ j,j < (ajd b).length→ARel P w (Al w0 w σ s.hp) σ ((ρ y).cells.toList.getD j undef) ((ajd b).getD j .unk):=fun j hj=>by
    have:=hcs j hj
    simpa [jf,ja] using this
   obtain ⟨l1,l2,hrepT⟩:=az9 (al':=fun _=>True) h (fun _ _=>trivial) hto hs' hcs' (fun _ _ _ _=>trivial)
   have hrun:∀ {b' cap cur tg u} {E:TyI} {n:Nat},ρ x = .pointer (some ⟨b',i * E.kinds.length+off,none⟩)→tyI P u=some E→w.heap[b']? = some (.cells cur tg (0,0))→ks=E.kinds.drop off→i < cap→cur.size=cap * E.kinds.length→cyk ks ks'=true →
     off+xs.length≤E.kinds.length∧(∀ j,j < (ajd b).length→fitK (E.kinds.getD (off+j) .other) (ks'.getD j .other)=true)∧(Instr.storeAt t (ρ x) (ρ y)).run P w = .ok () (w.setRow b' (aq4 cur.toList (i * E.kinds.length+off) (ρ y).cells.toList).toArray):=by
    intro b' cap cur tg u E n hv hE hh hks hi hsz hfk
    obtain ⟨f1,f2⟩:=bzl hfk
    have hkl:ks.length=E.kinds.length - off:=by rw [hks];simp
    have hoff:off+xs.length≤E.kinds.length:=by
     rcases jz off E.kinds.length with ho | ho
     ·omega
     ·have:0 < (ajd b).length:=by rw [hlen];exact awp hT
      omega
    have hrow:i * E.kinds.length+E.kinds.length≤cur.size:=by
     rw [hsz]
     calc i * E.kinds.length+E.kinds.length=(i+1) * E.kinds.length:=by rw [js];omega
      _≤cap * E.kinds.length:=jh _ (by omega)
    refine ⟨hoff,fun j hj=>?_,?_⟩
    ·have h2:=f2 j (by omega)
     have e3:ks.getD j .other=E.kinds.getD (off+j) .other:=by rw [hks,akt]
     rwa [e3] at h2
    ·have hone:∀ j,j < (ajd b).length→((ρ y).cells.getD j undef).oneCell'=true:=fun j hj=>by
      have:=fje (f2 j (by omega)) (hrepT j hj)
      simpa [jf,ja] using this
     rw [hv]
     exact bq8 hT hs hlen (b:=b') (o:=i * E.kinds.length+off) hh (by omega) hone
   split at hf
   ·-- a row with a lent cell, another element
    rename_i u es i0 j0 a0 hb
    simp only [jb] at hf;subst hf
    obtain ⟨hne,hi,hfk⟩:=hp
    obtain ⟨E,b',cap,cur,tg,hE,hg,hv,_,hwr,hh,hcap,hcm,hsz,hby,hel,k5,k6⟩:=eww h hb hx
    have hks:ks=E.kinds.drop off:=by
     revert hx
     generalize ρ x=vx
     intro hx
     cases hx with
     | eltGone _ _ _ _ _ _ hg'=>rw [hg] at hg';cases hg'
     | elt _ ks0 _ _ _ b cap n t'' hg' hin hks =>
      rw [hg] at hg';simp only [RefI.row.injEq] at hg'
      obtain ⟨_,_,_,rfl,_⟩:=hg'
      exact hks
    obtain ⟨hoff,hfit,hst⟩:=hrun (n:=0) hv hE hh hks (jZ hi hcap) hsz hfk
    obtain ⟨hal1,hal2⟩:=bj2 h ((ajd b).flatMap ajf) (azy hto)
    obtain ⟨_,_,hrep⟩:=az9 (al':=Al w0 w σ (freezeAll s.hp ((ajd b).flatMap ajf))) h hal1 hto hs' hcs' hal2
    have hz:=h.freezeAll ((ajd b).flatMap ajf)
    have hidz:freezeAll s.hp ((ajd b).flatMap ajf) id = .rl u es i0 j0 a0:=by
     rw [aww];split <;> rw [hb]
    refine .inr (.inl ⟨w.setRow b' (aq4 cur.toList (i * E.kinds.length+off) (ρ y).cells.toList).toArray,?_,rfl,trivial,σ,?_⟩)
    ·simp only [execOp,ho]
     exact cw5 hst
    ·refine hz.write (b:=b') (by simp [hg,aj5]) (by simp [hidz,akb]) _ (by simp) (by simp) (by simp) (by simp) (fun c hc=>setRow_other w b' c _ hc) (fun hal hheap=>?_)
     have hl:i * E.kinds.length+off+(ρ y).cells.toList.length≤cur.toList.length:=by
      have:(i+1) * E.kinds.length≤cap * E.kinds.length:=jh _ (by omega)
      rw [js] at this
      simp only [jt]
      rw [← jt,hs',← l2];omega
     refine ⟨E,hE,by simpa using hby,.inr ⟨b',cap,_,tg,by rw [hg,Jl],hwr,setRow_heap w b' cur _ _ _ hh,by simpa using hcap,hcm,?_,ejf hel hi hoff,?_,?_⟩⟩
     ·rw [jD,ajr _ _ _ hl];simpa using hsz
     ·intro i' hi' j' hj' hn
      rw [Jl] at hi'
      rw [ewm hsz (by omega) (by rw [hs',← l2];exact hoff) hj',gw7 hel hi hoff,hs',← l2]
      by_cases e:i'=i∧off≤j'∧j' < off+xs.length
      ·rw [if_pos e,if_pos e]
       have h1:=hrep (j' - off) (by omega)
       have h2:=bjm h00 (hfit (j' - off) (by omega)) h1
       have e4:off+(j' - off)=j':=by omega
       rw [e4] at h2
       exact h2.mono hheap hal
      ·rw [if_neg e,if_neg e]
       exact ((k5 i' hi' j' hj' hn).mono (fun _ _=>rfl) hal1).mono hheap hal
     ·intro h0
      rw [Jl] at h0
      obtain ⟨hj,hr⟩:=k6 h0
      refine ⟨hj,?_⟩
      rw [ewm hsz (by omega) (by rw [hs',← l2];exact hoff) hj,if_neg (fun e=>hne e.1.symm)]
      exact (hr.mono (fun _ _=>rfl) hal1 (fun _ _=>.inl rfl)).mono hheap hal (fun _ _=>.inl rfl)
   ·-- a row, whose cell is lent now
    rename_i u es id2 j a0 hb hfi hown
    split at hf
    ·rename_i hd
     simp only [jg,Bool.not_eq_true',beq_eq_false_iff_ne] at hd
     obtain ⟨hne,hlv⟩:=hd
     simp only [jb] at hf;subst hf
     obtain ⟨hi,hfk⟩:=hp
     obtain ⟨o1,o2,⟨okk,ooff,olen,rfl⟩,o4⟩:=eq3 hown hfi
     have hB:=h.blks id
     rw [hb] at hB
     obtain ⟨vx,hvx⟩:∃ vx,ρ x=vx:=⟨_,rfl⟩
     rw [hvx] at hx
     cases hx with
     | eltGone _ _ _ _ _ _ hg =>
      obtain ⟨E,_,_,hB⟩:=hB
      rcases hB with ⟨hB,_⟩ | ⟨_,_,_,_,hB,_⟩ <;> rw [hB] at hg <;> cases hg
     | elt _ ks0 _ _ _ b' cap n t'' hg hin hks =>
      try obtain rfl:=ak0 hB hg
      obtain ⟨rfl,rfl,⟨E,hE,rfl⟩,hB0,cur,tg,hh,hsz,hec,hcm,hlen',hel,hcell⟩:=awh hB hg
      obtain ⟨E',hE',hby,_⟩:=hB
      rw [hE] at hE';simp only [jb] at hE';subst hE'
      obtain ⟨hoff,hfit,hst⟩:=hrun (n:=0) hvx hE hh hks (jZ hi hec) hsz hfk
      have hrep:∀ q,q < (ajd b).length→q≠j→RepC P w (Al w0 w σ s.hp) (ks'.getD q .other) ((ρ y).cells.toList.getD q undef) (cg xs q):=fun q hq hn =>
       awy h (dk3 hto q hq) (hcs' q hq) (fun _ x=>x) (fun id hid=>by rw [o4 q hq hn] at hid;cases hid)
      refine .inr (.inl ⟨w.setRow b' (aq4 cur.toList (i * E.kinds.length+off) (ρ y).cells.toList).toArray,?_,rfl,trivial,σ,?_⟩)
      ·simp only [execOp,ho]
       exact cw5 hst
      ·refine h.write (b:=b') (by simp [hg,aj5]) (by simp [hb,akb]) _ (by simp) (by simp) (by simp) (by simp) (fun c hc=>setRow_other w b' c _ hc) (fun hal hheap=>?_)
       have hl:i * E.kinds.length+off+(ρ y).cells.toList.length≤cur.toList.length:=by
        have:(i+1) * E.kinds.length≤cap * E.kinds.length:=jh _ (by omega)
        rw [js] at this
        simp only [jt]
        rw [← jt,hs',← l2];omega
       refine ⟨E,hE,by simpa using hby,.inr ⟨b',cap,_,tg,by rw [hg,Jl],hB0,setRow_heap w b' cur _ _ _ hh,by simpa using hec,hcm,?_,ejf hel hi hoff,?_,?_⟩⟩
       ·rw [jD,ajr _ _ _ hl];simpa using hsz
       ·intro i' hi' j' hj' hn
        rw [Jl] at hi'
        rw [ewm hsz (by omega) (by rw [hs',← l2];exact hoff) hj',gw7 hel hi hoff,hs',← l2]
        by_cases e:i'=i∧off≤j'∧j' < off+xs.length
        ·rw [if_pos e,if_pos e]
         have h1:=hrep (j' - off) (by omega) (fun e'=>hn ⟨e.1,by omega⟩)
         have h2:=bjm h00 (hfit (j' - off) (by omega)) h1
         have e4:off+(j' - off)=j':=by omega
         rw [e4] at h2
         exact h2.mono hheap hal
        ·rw [if_neg e,if_neg e]
         exact ((hcell i' hi' j' hj').2.2).mono hheap hal
       ·intro h0
        refine ⟨by omega,?_⟩
        rw [ewm hsz (by omega) (by rw [hs',← l2];exact hoff) (by omega),if_pos ⟨rfl,by omega,by rw [hs'];omega⟩]
        have:=hcs' j o1
        rw [o2] at this
        have e4:off+j - off=j:=by omega
        rw [e4]
        exact this.mono hheap hal (fun _ _=>.inl rfl)
    ·cases hf
   ·cases hf
  ·cases hf
 ·cases hf
def bqi (P:Program) (t:TypeId) (f:Nat) (hp:Nat→Blk) (x:A):Option Out :=
 match tyI P t,x with
 | some T,.elt id sz ks i off=>match hp id,T.fields[f]? with
  | .rl _ _ _ _ _,some p=>some ⟨True,True,.elt id sz (ks.drop p.1) i (off+p.1),hp,true⟩
  | _,_=>none
 | _,_=>none
theorem ezn {o:Oper} {r:Out} {t:TypeId} {x:Operand} {f:Nat} {a:A} (h:RelL P w0 N σ s tms w) (hf:bqi P t f s.hp a=some r) (ho:o.op = .fieldAddr t x f) (hx:ARel P w (Al w0 w σ s.hp) σ (ρ x) a):OpOk P w0 N s tms o ρ w r:=by
 unfold bqi at hf
 split at hf
 ·rename_i T id sz ks i off hT
  split at hf
  ·rename_i t0 es i0 j0 a0 p hb hff
   simp only [jb] at hf;subst hf
   obtain ⟨E,b',cap,cur,tg,hE,hg,hv,_⟩:=eww h hb hx
   have hks:ks=E.kinds.drop off∧i < es.length∧sz=E.kinds.length:=by
    revert hx
    generalize ρ x=vx
    intro hx
    cases hx with
    | eltGone _ _ _ _ _ _ hg'=>rw [hg] at hg';cases hg'
    | elt _ ks0 _ _ _ b cap n t'' hg' hin hks =>
     rw [hg] at hg';simp only [RefI.row.injEq] at hg'
     obtain ⟨_,_,_,rfl,rfl,_⟩:=hg'
     exact ⟨hks,hin,rfl⟩
   obtain ⟨hk1,hk2,rfl⟩:=hks
   refine OpOk.pure h (v:=.pointer (some ⟨b',i * E.kinds.length+off+p.1,none⟩)) ?_ trivial rfl ?_
   ·simp only [execOp,ho]
    rw [hv]
    exact aje (cwe hT hff b' _).1
   ·rw [Nat.add_assoc]
    have:=ARel.elt (P:=P) (w:=w) (al:=Al w0 w σ s.hp) (σ:=σ) id E.kinds (ks.drop p.1) i (off+p.1) b' cap es.length t0 hg hk2 (by rw [hk1,List.drop_drop])
    exact this
  ·cases hf
 ·cases hf
def nilL (hp:Nat→Blk) (x:A):Option Out :=
 match x with
 | .elt id sz ks i off=>match hp id with
  | .rl _ _ _ _ _=>some ⟨True,True,.elt id sz ks i off,hp,true⟩
  | _=>none
 | _=>none
theorem fz0 {o:Oper} {r:Out} {x:Operand} {a:A} (h:RelL P w0 N σ s tms w) (hf:nilL s.hp a=some r) (ho:o.op = .nilCheck x) (hx:ARel P w (Al w0 w σ s.hp) σ (ρ x) a):OpOk P w0 N s tms o ρ w r:=by
 unfold nilL at hf
 split at hf
 ·rename_i id sz ks i off
  split at hf
  ·rename_i t0 es i0 j0 a0 hb
   simp only [jb] at hf;subst hf
   obtain ⟨E,b',cap,cur,tg,hE,hg,hv,_⟩:=eww h hb hx
   refine OpOk.pure (v:=ρ x) h ?_ trivial rfl hx
   simp only [execOp,ho,hv]
   rfl
  ·cases hf
 ·cases hf
def opRL (P:Program) (o:Oper) (hp:Nat→Blk) (v:Operand→A):Option Out :=
 match o.op with
 | .store t x y=>dqq P t hp (v x) (v y)
 | .fieldAddr t x f=>bqi P t f hp (v x)
 | .nilCheck x=>nilL hp (v x)
 | _=>none
def bj3 (P:Program) (o:Oper) (s:S) (K:S→Prop):Prop :=
 match o.guard with
 | none=>match opRL P o s.hp (aj8 s.tm) with
  | some r=>ajc s.tm o.op.operands.toList∧r.pre∧(r.fact→K ⟨updD s.tm o.dst r.val,r.hp⟩)
  | none=>False
 | some _=>False
theorem aw1 (h00:tyI P 0=none):az4 P (bj3 P):=by
 intro N ops o s K hok h
 unfold bj3 at h
 split at h
 ·rename_i hg
  split at h
  ·rename_i r hop
   obtain ⟨hn,hp,hK⟩:=h
   obtain ⟨_,ho⟩:=aq2 hok
   refine bqo hg hok r (fun w0 a w σ hR=>?_) hK
   have hv:=fun x (hx:x∈o.op.operands)=>ajs hR (ho x hx) (ajk hn x (jx.2 hx))
   cases hoo:o.op with
   | store t x y=>simp only [opRL,hoo] at hop;exact eqb h00 hR hop hoo hp (hv x (by rw [hoo];simp [je])) (hv y (by rw [hoo];simp [je]))
   | fieldAddr t x f=>simp only [opRL,hoo] at hop;exact ezn hR hop hoo (hv x (by rw [hoo];simp [je]))
   | nilCheck x=>simp only [opRL,hoo] at hop;exact fz0 hR hop hoo (hv x (by rw [hoo];simp [je]))
   | _=>simp [opRL,hoo] at hop
  ·exact h.elim
 ·exact h.elim
end Go.AE
/-
 Rows with a lent cell among what a function hands back.
-/
namespace Go.AE
open Go.RowKit (Below)
variable {P:Program} {w0:Base} {w:World} {N kp:Nat} {σ:Nat→RefI} {s:S} {tms:Array Value} {ρ:Operand→Value}
def bzt (hp:Nat→Blk) (id:Nat):Bool:=match hp id with
 | .row _ _=>true
 | .rl _ _ _ _ _=>true
 | _=>false
theorem eq8 {id:Nat} (h:RelL P w0 N σ s tms w) (hl:bzt s.hp id=true):σ id≠.gone:=by
 have hB:=h.blks id
 unfold bzt at hl
 split at hl
 ·rename_i t es hb
  rw [hb] at hB
  obtain ⟨E,_,_,hB⟩:=hB
  rcases hB with ⟨hB,_⟩ | ⟨_,_,_,_,hB,_⟩ <;> simp [hB]
 ·rename_i t es i j a hb
  rw [hb] at hB
  obtain ⟨E,_,_,hB⟩:=hB
  rcases hB with ⟨hB,_⟩ | ⟨_,_,_,_,hB,_⟩ <;> simp [hB]
 ·cases hl
theorem byl {K:Nat} (id:Nat) (h:bzt s.hp id=true):Weak P K s ⟨s.tm,upd s.hp id .gone⟩:=by
 rintro w0 N tms w _ ⟨σ,hR⟩
 refine ⟨_,hR.lose id ?_⟩
 have hB:=hR.blks id
 unfold bzt at h
 split at h
 ·rename_i t es hb
  rw [hb] at hB
  obtain ⟨E,_,_,hB⟩:=hB
  rcases hB with ⟨hB,_⟩ | ⟨_,_,_,_,hB,_⟩ <;> rw [hB] <;> exact trivial
 ·rename_i t es i j a hb
  rw [hb] at hB
  obtain ⟨E,_,_,hB⟩:=hB
  rcases hB with ⟨hB,_⟩ | ⟨_,_,_,_,hB,_⟩ <;> rw [hB] <;> exact trivial
 ·cases h
mutual
def ak3 (P:Program) (ids:List (Option Nat)) (hs':List Blk) (hp:Nat→Blk):A→A→Prop
 | .c k x,act=>match toCell hp act with
  | some (k',y)=>fitP k k'=true∧y=x∧(ajf act).all (fun id=>bjd id ids)=true
  | none=>False
 | .nilsl,act=>act = .nilsl
 | .own j ks off len,act=>match act with
  | .own id ks' off' len'=>ids.getD j none=some id∧ks'=ks∧off'=off∧len'=len∧bzt hp id=true
  | .nilsl=>ids[j]? = some none∧off=0∧len=0∧(match hs'.getD j .dead with | .row t _=>(match tyI P t with | some E=>E.kinds=ks | none=>False) | _=>False)
  | _=>False
 | .box j off,act=>match act with
  | .box id off'=>ids.getD j none=some id∧off'=off
  | _=>False
 | .bsl j len,act=>match act with
  | .bsl id len'=>ids.getD j none=some id∧len'=len
  | _=>False
 | .mref j,act=>match act with
  | .mref id=>ids.getD j none=some id
  | _=>False
 | .elt j sz ks i off,act=>match act with
  | .elt id sz' ks' i' off'=>ids.getD j none=some id∧sz'=sz∧ks'=ks∧i'=i∧off'=off∧live hp id=true
  | _=>False
 | .agg es,act=>match act with
  | .agg as=>ay0 P ids hs' hp es as
  | _=>False
 | .fnv f es,act=>match act with
  | .fnv f' as=>f'=f∧ay0 P ids hs' hp es as
  | _=>False
 | .rg j k x,act=>match act with
  | .rg id k' x'=>ids.getD j none=some id∧k'=k∧x'=x
  | _=>False
 | .unk,_=>True
 | _,_=>False
def ay0 (P:Program) (ids:List (Option Nat)) (hs':List Blk) (hp:Nat→Blk):List A→List A→Prop
 | [],[]=>True
 | e :: es,a :: as=>ak3 P ids hs' hp e a∧ay0 P ids hs' hp es as
 | _,_=>False
end
def blkL (P:Program) (ids:List (Option Nat)) (hs':List Blk) (hp:Nat→Blk):Option Nat→Blk→Prop
 | some id,.row t es=>hp id = .row t es
 | none,.row t es=>es=[]∧(tyI P t).isSome=true
 | some id,.frz t es=>hp id = .frz t es
 | some id,.gone=>hp id = .gone
 | some id,.box cells=>match hp id with | .box cells'=>ay0 P ids hs' hp cells cells' | _=>False
 | some id,.mp kk vp m=>hp id = .mp kk vp m
 | some id,.reg=>hp id = .reg
 | some id,.wob=>hp id = .wob
 | some id,.rl t es i j a=>match hp id with | .rl t' es' i' j' a'=>t'=t∧es'=es∧i'=i∧j'=j∧ak3 P ids hs' hp a a' | _=>False
 | _,_=>False
def dyf (P:Program) (ids:List (Option Nat)) (hs':List Blk) (hp:Nat→Blk):List (Option Nat)→List Blk→Prop
 | [],[]=>True
 | i :: is,b :: bs=>blkL P ids hs' hp i b∧dyf P ids hs' hp is bs
 | _,_=>False
def cwk (P:Program) (s:S) (results:List ResultVar) (ids:List (Option Nat)) (res:List A) (hs':List Blk):Prop :=
 match resA P s results with
 | some (p,as)=>p∧akv ids=true∧dyf P ids hs' s.hp ids hs'∧ay0 P ids hs' s.hp res as
 | none=>False
theorem dqu {hp:Nat→Blk} {ids0:List (Option Nat)} {hs0:List Blk}:∀ {ids:List (Option Nat)} {bs:List Blk},dyf P ids0 hs0 hp ids bs→ids.length=bs.length∧∀ j,j < bs.length→∃ o,ids[j]? = some o∧blkL P ids0 hs0 hp o (bs.getD j .dead)
 | [],[],_=>⟨rfl,fun j hj=>by simp at hj⟩
 | [],_ :: _,h=>h.elim
 | _ :: _,[],h=>h.elim
 | i :: is,b :: bs,h=>by
  obtain ⟨h1,h2⟩:=h
  obtain ⟨l,hr⟩:=dqu h2
  refine ⟨by simp [l],fun j hj=>?_⟩
  cases j with
  | zero=>exact ⟨i,rfl,by simpa using h1⟩
  | succ j=>simpa using hr j (by simpa using hj)
section
variable {ids:List (Option Nat)} {hs':List Blk}
theorem fzw (h:RelL P w0 N σ s tms w) (hm:dyf P ids hs' s.hp ids hs') :
  (∀ b,Al w0 w σ s.hp b→Al w0 w (ajq P σ ids hs') (ajh hs') b) ∧
  (∀ id,bjd id ids=true→∀ b,aj5 (σ id) b→Al w0 w (ajq P σ ids hs') (ajh hs') b):=by
 obtain ⟨hl,hs⟩:=dqu hm
 have hj:∀ j b,aj5 (ajq P σ ids hs' j) b→∃ id,ids[j]? = some (some id)∧aj5 (σ id) b∧(akb (s.hp id)→akb (ajh hs' j)):=by
  intro j b hb
  obtain ⟨id,h1,h2⟩:=awd hb
  have hlt:j < hs'.length:=by
   rcases jz j ids.length with h' | h'
   ·omega
   ·rw [jI h'] at h1;cases h1
  obtain ⟨o,h3,h4⟩:=hs j hlt
  rw [h1] at h3
  simp only [jb] at h3;subst h3
  refine ⟨id,h1,h2,fun hf=>?_⟩
  show akb (hs'.getD j .dead)
  generalize hs'.getD j .dead=K at h4
  cases K with
  | frz t es=>trivial
  | row t es=>simp only [blkL] at h4;rw [h4] at hf;exact hf
  | gone=>simp only [blkL] at h4;rw [h4] at hf;exact hf
  | mp kk vp m=>simp only [blkL] at h4;rw [h4] at hf;exact hf
  | box cells =>
   simp only [blkL] at h4
   split at h4
   ·rename_i e;rw [e] at hf;exact hf
   ·exact h4.elim
  | dead=>simp [blkL] at h4
  | it kk vp c l=>simp [blkL] at h4
  | reg=>simp only [blkL] at h4;rw [h4] at hf;exact hf
  | wob=>simp only [blkL] at h4;rw [h4] at hf;exact hf
  | rl t es i j a =>
   simp only [blkL] at h4
   split at h4
   ·rename_i e;rw [e] at hf;exact hf
   ·exact h4.elim
 refine ⟨fun b hb=>⟨hb.1,fun j hjb=>?_,hb.2.2⟩,fun id hn b hb=>⟨(aj7 (h.blks id) hb).1,fun j hjb=>?_,.inl (aj7 (h.blks id) hb).2⟩⟩
 ·obtain ⟨id,_,h2,h3⟩:=hj j b hjb
  exact h3 (hb.2.1 id h2)
 ·obtain ⟨id',h1,h2,h3⟩:=hj j b hjb
  have e:=h.inj id' id b h2 hb
  subst e
  exact absurd h1 (akn hn j)
mutual
theorem dwd (h00:tyI P 0=none) (h:RelL P w0 N σ s tms w) (hm:dyf P ids hs' s.hp ids hs'):∀ (e a:A) (v:Value),ak3 P ids hs' s.hp e a→ARel P w (Al w0 w σ s.hp) σ v a→ARel P w (Al w0 w (ajq P σ ids hs') (ajh hs')) (ajq P σ ids hs') v e
 | .c k x,a,v,ht,hx=>by
  simp only [ak3] at ht
  obtain ⟨ha1,ha2⟩:=fzw h hm
  split at ht
  ·rename_i k' y hto
   obtain ⟨hf,rfl,hn⟩:=ht
   rw [List.all_eq_true] at hn
   have:=awy h hto hx ha1 (fun id hid=>ha2 id (hn id hid))
   exact .c _ _ _ (cw9 h00 hf this)
  ·exact ht.elim
 | .nilsl,a,v,ht,hx=>by
  simp only [ak3] at ht
  subst ht;cases hx;exact .nilsl
 | .own j ks off len,a,v,ht,hx=>by
  simp only [ak3] at ht
  split at ht
  ·rename_i id ks' off' len'
   obtain ⟨hr,rfl,rfl,rfl,hl⟩:=ht
   have hσ:=aqa (P:=P) (σ:=σ) (hs':=hs') hr
   have hg:=eq8 h hl
   cases hx with
   | ownGone _ _ _ _ _ hgg=>exact absurd hgg hg
   | ownNil _ _ _ t hh ho=>exact .ownNil _ _ _ t (hσ.trans hh) ho
   | own0 _ _ _ b cap n t hh hle=>exact .own0 _ _ _ b cap n t (hσ.trans hh) hle
   | ownOff _ _ _ _ b cap n cap' t hh ho hle hc=>exact .ownOff _ _ _ _ b cap n cap' t (hσ.trans hh) ho hle hc
   | ownOff0 ad _ _ _ b cap n cap' t hh ho hle=>exact .ownOff0 ad _ _ _ b cap n cap' t (hσ.trans hh) ho hle
  ·obtain ⟨hr,rfl,rfl,hk⟩:=ht
   cases hx
   split at hk
   ·rename_i t es hrow
    split at hk
    ·rename_i E hE
     subst hk
     have hrow':hs'[j]? = some (.row t es):=by
      rw [ja] at hrow
      cases hx:hs'[j]? with
      | none=>rw [hx] at hrow;simp at hrow
      | some q=>rw [hx] at hrow;simp at hrow;rw [hrow]
     exact .ownNil _ _ _ t (by unfold ajq;rw [hr,hrow'];simp [hE]) rfl
    ·exact hk.elim
   ·exact hk.elim
  ·exact ht.elim
 | .box j off,a,v,ht,hx=>by
  simp only [ak3] at ht
  split at ht
  ·obtain ⟨hr,rfl⟩:=ht
   have hσ:=aqa (P:=P) (σ:=σ) (hs':=hs') hr
   cases hx with
   | box _ _ b hh=>exact .box _ _ b (hσ.trans hh)
  ·exact ht.elim
 | .bsl j len,a,v,ht,hx=>by
  simp only [ak3] at ht
  split at ht
  ·obtain ⟨hr,rfl⟩:=ht
   have hσ:=aqa (P:=P) (σ:=σ) (hs':=hs') hr
   cases hx with
   | bsl _ _ b cap hh=>exact .bsl _ _ b cap (hσ.trans hh)
  ·exact ht.elim
 | .mref j,a,v,ht,hx=>by
  simp only [ak3] at ht
  split at ht
  ·have hσ:=aqa (P:=P) (σ:=σ) (hs':=hs') ht
   cases hx with
   | mref _ b hh=>exact .mref _ b (hσ.trans hh)
   | mrefGone _ _ hh=>exact .mrefGone _ _ (hσ.trans hh)
   | itr _ r b hh=>exact .itr _ r b (hσ.trans hh)
  ·exact ht.elim
 | .elt j sz ks i off,a,v,ht,hx=>by
  simp only [ak3] at ht
  split at ht
  ·obtain ⟨hr,rfl,rfl,rfl,rfl,hl⟩:=ht
   have hσ:=aqa (P:=P) (σ:=σ) (hs':=hs') hr
   have hg:=(azr h hl).1
   cases hx with
   | eltGone _ _ _ _ _ _ hgg=>exact absurd hgg hg
   | elt _ ks0 _ _ _ b cap n t hh hi hk=>exact .elt _ ks0 _ _ _ b cap n t (hσ.trans hh) hi hk
  ·exact ht.elim
 | .agg es,a,v,ht,hx=>by
  simp only [ak3] at ht
  split at ht
  ·rename_i as
   cases hx with
   | agg us _ hlu hu =>
    obtain ⟨l',hr'⟩:=akz h00 h hm es as us ht hlu hu
    exact .agg us es (by rw [hlu,l']) hr'
  ·exact ht.elim
 | .fnv f es,a,v,ht,hx=>by
  simp only [ak3] at ht
  split at ht
  ·rename_i f' as
   obtain ⟨rfl,ht⟩:=ht
   cases hx with
   | fnv _ _ us hlu hu =>
    obtain ⟨l',hr'⟩:=akz h00 h hm es as us ht hlu hu
    exact .fnv _ es us (by rw [hlu,l']) hr'
  ·exact ht.elim
 | .unk,a,v,ht,hx=>.unk v
 | .tup es,a,v,ht,hx=>by simp [ak3] at ht
 | .pp ks cells off,a,v,ht,hx=>by simp [ak3] at ht
 | .when g e,a,v,ht,hx=>by simp [ak3] at ht
 | .rg j k x,a,v,ht,hx=>by
  simp only [ak3] at ht
  split at ht
  ·obtain ⟨hr,rfl,rfl⟩:=ht
   have hσ:=aqa (P:=P) (σ:=σ) (hs':=hs') hr
   cases hx with
   | rg _ _ _ _ W Q hh hq=>exact .rg _ _ _ _ W Q (hσ.trans hh) hq
   | rgGone _ _ _ _ hh=>exact .rgGone _ _ _ _ (hσ.trans hh)
  ·exact ht.elim
 | .rp _ _ _ _,a,v,ht,hx=>by simp [ak3] at ht
theorem akz (h00:tyI P 0=none) (h:RelL P w0 N σ s tms w) (hm:dyf P ids hs' s.hp ids hs'):∀ (es as:List A) (vs:List Value),ay0 P ids hs' s.hp es as→vs.length=as.length →
  (∀ i,i < as.length→ARel P w (Al w0 w σ s.hp) σ (vs.getD i undef) (as.getD i .unk))→es.length=as.length∧∀ i,i < es.length→ARel P w (Al w0 w (ajq P σ ids hs') (ajh hs')) (ajq P σ ids hs') (vs.getD i undef) (es.getD i .unk)
 | [],[],vs,_,_,_=>⟨rfl,fun i hi=>by simp at hi⟩
 | [],_ :: _,vs,ht,_,_=>by simp [ay0] at ht
 | _ :: _,[],vs,ht,_,_=>by simp [ay0] at ht
 | e :: es,a :: as,[],ht,hl,hx=>by simp at hl
 | e :: es,a :: as,v :: vs,ht,hl,hx=>by
  simp only [ay0] at ht
  obtain ⟨t1,t2⟩:=ht
  obtain ⟨l,hr⟩:=akz h00 h hm es as vs t2 (by simpa using hl) (fun i hi=>by have:=hx (i+1) (by simp;omega);simpa using this)
  have h0:ARel P w (Al w0 w σ s.hp) σ v a:=hx 0 (by simp)
  have h1:=dwd h00 h hm e a v t1 h0
  refine ⟨by simp [l],fun i hi=>?_⟩
  cases i with
  | succ i=>simpa using hr i (by simpa using hi)
  | zero=>exact h1
end
theorem ejs {w1:World} {al1:Nat→Prop} {σ1:Nat→RefI} {results:List ResultVar} {res:List A} {k:Nat} (h00:tyI P 0=none) (h:Rel P ⟨w1,al1,muOf σ1,σ1,noMk,0⟩ N s tms w) (hk:∀ j,k≤j→σ1 j = .dead) (hpre:cju 0 k ids=true) (hr:cwk P s results ids res hs') :
  ∃ vs:List Value,(results.mapM (czv P tms)).run P w = .ok vs w∧ResM P w1 al1 σ1 w (tupV vs) res hs':=by
 obtain ⟨σ,hR⟩:=h
 unfold cwk at hr
 split at hr
 ·rename_i p as hres
  obtain ⟨hp,hnd,hm,hma⟩:=hr
  obtain ⟨vs,h1,h2,_,h3⟩:=bjo hR hres hp
  obtain ⟨ha1,ha2⟩:=fzw hR hm
  obtain ⟨hl,hs⟩:=dqu hm
  obtain ⟨l,hv⟩:=akz h00 hR hm res as vs hma h2 h3
  refine ⟨vs,h1,hR.below,ajq P σ ids hs',fun j=>?_,fun i j b hi hj=>?_,fun j hj=>?_,dkd (by omega) hv⟩
  ·rcases jz j hs'.length with hj | hj
   ·obtain ⟨o,h4,h5⟩:=hs j hj
    have e:ajh hs' j=hs'.getD j .dead:=rfl
    have e':hs'[j]? = some (hs'.getD j .dead):=by simp [ja,hj]
    rw [e]
    generalize hs'.getD j .dead=K at h5 e'
    cases o with
    | none =>
     cases K <;> simp [blkL] at h5
     rename_i t es
     obtain ⟨rfl,hE⟩:=h5
     obtain ⟨E,hE⟩:=Option.isSome_iff_exists.1 hE
     have hσ:ajq P σ ids hs' j = .rown t E.kinds:=by unfold ajq;rw [h4,e'];simp [hE]
     simp only [BRel]
     rw [hσ]
     exact ⟨E,hE,by simp,.inl ⟨rfl,rfl⟩⟩
    | some id =>
     have hσ:ajq P σ ids hs' j=σ id:=by unfold ajq;rw [h4]
     have hb:=hR.blks id
     cases K with
     | dead=>simp [blkL] at h5
     | gone=>simp only [blkL] at h5;rw [h5] at hb;simp only [BRel] at hb ⊢;rw [hσ];exact hb
     | row t es=>simp only [blkL] at h5;rw [h5] at hb;simp only [BRel] at hb ⊢;rw [hσ];exact ajo.mono hb (fun _ _=>rfl) ha1 (fun _ _=>rfl)
     | frz t es=>simp only [blkL] at h5;rw [h5] at hb;simp only [BRel] at hb ⊢;rw [hσ];exact ajo.mono hb (fun _ _=>rfl) ha1 (fun _ _=>rfl)
     | mp kk vp m =>
      simp only [blkL] at h5;rw [h5] at hb
      obtain ⟨bb,es,clock,q1,q2,q3,q5,q4⟩:=hb
      exact ⟨bb,es,clock,hσ.trans q1,q2,q3,q5,q4.mono (fun _ _=>rfl) ha1⟩
     | it kk vp c l=>simp [blkL] at h5
     | reg=>simp only [blkL] at h5;rw [h5] at hb;simp only [BRel] at hb ⊢;rw [hσ];exact hb
     | wob=>simp only [blkL] at h5;rw [h5] at hb;simp only [BRel] at hb ⊢;rw [hσ];exact hb
     | rl t es i j a =>
      simp only [blkL] at h5
      split at h5
      ·rename_i t' es' i' j' a' hc
       rw [hc] at hb
       obtain ⟨rfl,rfl,rfl,rfl,hma'⟩:=h5
       obtain ⟨E,hE,hby,hb⟩:=hb
       simp only [BRel]
       rw [hσ]
       refine ⟨E,hE,hby,hb.imp (fun x=>x) ?_⟩
       rintro ⟨b,cap,cur,tg,q1,q2,q3,q4,q5,q6,q7,q8,q9⟩
       exact ⟨b,cap,cur,tg,q1,q2,q3,q4,q5,q6,q7,fun i hi j hj hn=>(q8 i hi j hj hn).mono (fun _ _=>rfl) ha1,fun hi=>⟨(q9 hi).1,dwd h00 hR hm _ _ _ hma' (q9 hi).2⟩⟩
      ·exact h5.elim
     | box cells =>
      simp only [blkL] at h5
      split at h5
      ·rename_i cells' hc
       rw [hc] at hb
       obtain ⟨bb,us,t,q1,q2,q3,q4,q5⟩:=hb
       obtain ⟨l',hr'⟩:=akz h00 hR hm cells cells' us.toList h5 (by simpa using q4) (fun i hi=>by
        have:=q5 i hi
        simpa [jf,ja] using this)
       refine ⟨bb,us,t,hσ.trans q1,q2,q3,by rw [q4,l'],fun i hi=>?_⟩
       have:=hr' i hi
       simpa [jf,ja] using this
      ·exact h5.elim
   ·have e:ajh hs' j = .dead:=by simp [ajh,ja,jI hj]
    rw [e]
    simp only [BRel]
    unfold ajq
    rw [jI (by omega:ids.length≤j)]
  ·obtain ⟨id,h4,h5⟩:=awd hi
   obtain ⟨id',h6,h7⟩:=awd hj
   have:=hR.inj id id' b h5 h7
   subst this
   exact bji hnd i j id h4 h6
  ·have hlt:j < k:=by
    rcases jz j k with h' | h'
    ·exact h'
    ·exact absurd (hk j h') hj
   have h4:=dqd hpre j hlt
   have hσ:ajq P σ ids hs' j=σ j:=by unfold ajq;rw [h4];simp
   rw [hσ]
   exact hR.keep j hj
 ·exact hr.elim
end
def RetL (P:Program) (k:Nat) (rs:List ResultVar) (res:List A) (hs':List Blk):Exit→S→Prop:=fun e s=>match e with
 | .normal=>∃ ids,cju 0 k ids=true∧cwk P s rs ids res hs'
 | .ret=>∃ ids,cju 0 k ids=true∧cwk P s rs ids res hs'
 | _=>False
theorem dq5 {f:FuncId} {fn:Func} {as:List Arg} {hs hs':List Blk} {res:List A} (c:Code) (h00:tyI P 0=none) (hf:P.funcs[f]? = some fn) (hb:fn.body=some c) (henter:∀ args w,(callFunc f args).run P w = .ok (.enter f args) w)
  (hN:as.length≤fn.ntmps) (hle:hs.length≤hs'.length) (h:Sm P fn.ntmps hs.length c ⟨eqh as 0,ajh hs⟩ (RetL P hs.length fn.results.toList res hs')):awi P f as hs res hs':=by
 refine ⟨henter,hle,fun w al σ vs hal hB hinj hv hargs=>?_⟩
 have hk:∀ j,hs.length≤j→σ j = .dead:=by
  intro j hj
  have:=hB j
  have e:ajh hs j = .dead:=by simp [ajh,ja,jI hj]
  rw [e] at this;exact this
 refine eqk (w0:=⟨w,al,muOf σ,σ,noMk,0⟩) hf hb hk (ejx hal hB hinj hv hN hargs) h (fun e s' tmps w' hR hq=>?_)
 cases e with
 | normal =>
  obtain ⟨ids,hp,hr⟩:=hq
  obtain ⟨vs,h1,h2⟩:=ejs h00 hR hk hp hr
  exact ⟨.inl rfl,_,ayd h1,_,rfl,h2⟩
 | ret =>
  obtain ⟨ids,hp,hr⟩:=hq
  obtain ⟨vs,h1,h2⟩:=ejs h00 hR hk hp hr
  exact ⟨.inr rfl,_,ayd h1,_,rfl,h2⟩
 | _=>exact hq.elim
theorem RetL.mk {k:Nat} {rs:List ResultVar} {res:List A} {hs':List Blk} {e:Exit} (he:e = .normal∨e = .ret) (ids:List (Option Nat)) (hp:cju 0 k ids=true) (h:cwk P s rs ids res hs'):RetL P k rs res hs' e s:=by
 rcases he with rfl | rfl <;> exact ⟨ids,hp,h⟩
def oneL (hp:Nat→Blk) (a:A):Bool:=oneA hp a || (match a with | .own id _ _ _=>bzt hp id | _=>false)
def cji (hp:Nat→Blk):List A→Bool
 | []=>true
 | a :: as=>oneL hp a && cji hp as
def cw4 (hp:Nat→Blk):A→Bool
 | .agg _=>true
 | a=>oneL hp a
theorem ej8 {a:A} {v:Value} (h:RelL P w0 N σ s tms w) (ho:oneL s.hp a=true) (hx:ARel P w (Al w0 w σ s.hp) σ v a):v.oneCell'=true:=by
 unfold oneL at ho
 rw [Bool.or_eq_true] at ho
 rcases ho with ho | ho
 ·exact dqb h ho hx
 ·split at ho
  ·have hl:=eq8 h ho
   cases hx <;> first | rfl | (rename_i hg;exact absurd hg hl)
  ·cases ho
theorem dwl {hp:Nat→Blk}:∀ {as:List A},cji hp as=true→∀ j,j < as.length→oneL hp (as.getD j .unk)=true
 | [],_,j,hj=>by simp at hj
 | a :: as,h,j,hj=>by
  simp only [cji,jg] at h
  cases j with
  | zero=>simpa using h.1
  | succ j=>simpa using dwl h.2 j (by simpa using hj)
theorem fwu {a:A} {v:Value} (h:RelL P w0 N σ s tms w) (hb:cw4 s.hp a=true) (hx:ARel P w (Al w0 w σ s.hp) σ v a) :
  v.cells.size=(ajd a).length∧∀ j,j < (ajd a).length→ARel P w (Al w0 w σ s.hp) σ (v.cells.getD j undef) ((ajd a).getD j .unk):=by
 have one:oneL s.hp a=true→ajd a=[a]→v.cells.size=(ajd a).length∧∀ j,j < (ajd a).length→ARel P w (Al w0 w σ s.hp) σ (v.cells.getD j undef) ((ajd a).getD j .unk):=by
  intro ho hc
  rw [hc,dz4 (ej8 h ho hx)]
  refine ⟨rfl,fun j hj=>?_⟩
  have:j=0:=by simp at hj;omega
  subst this
  exact hx
 cases a with
 | agg xs =>
  cases hx with
  | agg vs _ hl hh =>
   refine ⟨by simpa [Value.cells,ajd] using hl,fun j hj=>?_⟩
   have:=hh j hj
   simpa [Value.cells,ajd,jf,ja] using this
 | _=>exact one hb rfl
theorem fwt {t:TypeId} {T:TyI} {id off:Nat} {cells:List A} {a:A} {v vp:Value} (h:RelL P w0 N σ s tms w) (hT:tyI P t=some T) (hb:s.hp id = .box cells) (hfit:off+(ajd a).length≤cells.length)
  (hone:cji s.hp (ajd a)=true) (hlen:(ajd a).length=T.kinds.length) (hp:ARel P w (Al w0 w σ s.hp) σ vp (.box id off)) (hx:ARel P w (Al w0 w σ s.hp) σ v a) (hbx:cw4 s.hp a=true) :
  ∃ w',(Instr.storeAt t vp v).run P w = .ok () w'∧RelL P w0 N σ ⟨s.tm,upd s.hp id (.box (aq4 cells off (ajd a)))⟩ tms w':=by
 have hB:=h.blks id
 rw [hb] at hB
 obtain ⟨b,vs,u,hr,hB0,hh,hsz,hc⟩:=hB
 obtain ⟨hs,hcs⟩:=fwu h hbx hx
 cases hp with
 | box _ _ b' hg =>
  rw [hr] at hg;simp only [RefI.box.injEq] at hg;subst hg
  have hone':∀ j,j < (ajd a).length→(v.cells.getD j undef).oneCell'=true:=fun j hj=>ej8 h (dwl hone j hj) (hcs j hj)
  refine ⟨_,bq8 hT hs hlen hh (by omega) hone',?_⟩
  refine h.write (b:=b) (by simp [hr,aj5]) (by simp [hb,akb]) _ (by simp) (by simp) (by simp) (by simp) (fun c hc=>setRow_other w b c _ hc) (fun hal hheap=>?_)
  have hl:off+v.cells.toList.length≤vs.toList.length:=by simp;omega
  refine ⟨b,_,u,hr,hB0,setRow_heap w b vs _ u _ hh,?_,fun j hj=>?_⟩
  ·rw [jD,ajr _ _ _ hl,ajr _ _ _ hfit];simpa using hsz
  ·rw [ajr _ _ _ hfit] at hj
   have e:(aq4 vs.toList off v.cells.toList).toArray.getD j undef=(aq4 vs.toList off v.cells.toList).getD j undef:=by
    simp [jf,ja]
   rw [e,aw3 _ _ _ _ _ hl,aw3 _ _ _ _ _ hfit]
   have hs':v.cells.toList.length=(ajd a).length:=by simpa using hs
   rw [hs']
   split
   ·have:=(hcs (j - off) (by omega)).mono hheap hal (fun _ _=>.inl rfl)
    simpa [jf,ja] using this
   ·have:=(hc j hj).mono hheap hal (fun _ _=>.inl rfl)
    simpa [jf,ja] using this
def dyg (P:Program) (t:TypeId) (hp:Nat→Blk) (x y:A):Option Out :=
 match tyI P t,x with
 | some T,.box id off=>match hp id with
  | .box cells=>if (ajd y).length == T.kinds.length && (cw4 hp y && cji hp (ajd y)) then some ⟨off+(ajd y).length≤cells.length,True,.unk,upd hp id (.box (aq4 cells off (ajd y))),false⟩ else none
  | _=>none
 | _,_=>none
def ekk (P:Program) (o:Oper) (s:S) (K:S→Prop):Prop :=
 match o.guard,o.op with
 | none,.store t x y=>match dyg P t s.hp (aj8 s.tm x) (aj8 s.tm y) with
  | some r=>ajc s.tm o.op.operands.toList∧r.pre∧(r.fact→K ⟨updD s.tm o.dst r.val,r.hp⟩)
  | none=>False
 | _,_=>False
theorem dyd:az4 P (ekk P):=by
 intro N ops o s K hok h
 unfold ekk at h
 split at h
 ·rename_i t x y hg hoo
  split at h
  ·rename_i r hop
   obtain ⟨hn,hp,hK⟩:=h
   obtain ⟨_,ho⟩:=aq2 hok
   refine bqo hg hok r (fun w0 a w σ hR=>?_) hK
   have hv:=fun x (hx:x∈o.op.operands)=>ajs hR (ho x hx) (ajk hn x (jx.2 hx))
   have hx:=hv x (by rw [hoo];simp [je])
   have hy:=hv y (by rw [hoo];simp [je])
   unfold dyg at hop
   split at hop
   ·rename_i T id off hT hxe
    split at hop
    ·rename_i cells hb
     split at hop
     ·rename_i hc
      simp only [jg,beq_iff_eq] at hc
      obtain ⟨h1,h2,h3⟩:=hc
      simp only [jb] at hop;subst hop
      rw [hxe] at hx
      obtain ⟨w',hr,hR'⟩:=fwt hR hT hb hp h3 h1 hx hy h2
      refine .inr (.inl ⟨w',?_,rfl,trivial,σ,hR'⟩)
      simp only [execOp,hoo]
      exact cw5 hr
     ·cases hop
    ·cases hop
   ·cases hop
  ·exact h.elim
 ·exact h.elim
theorem ekp {K id id2 i j len:Nat} {t u:TypeId} {es es2:List (List C)} {ks:List Kd} (hb:s.hp id = .rl t es i j (.own id2 ks 0 len)) (hb2:s.hp id2 = .row u es2) (hd:cg (eg es i) j = .slice (es2.take len)) (hkd:kdAt P t j = .slice u) :
  Weak P K s ⟨s.tm,upd (freeze1 s.hp id2) id (.row t es)⟩:=by
 rintro w0 N tms w _ ⟨σ,h⟩
 have hne:id≠id2:=by intro e;rw [e,hb2] at hb;cases hb
 have hz:=h.freeze id2
 have hz2:freeze1 s.hp id2=upd s.hp id2 (.frz u es2):=by unfold freeze1;rw [hb2]
 have hidz:freeze1 s.hp id2 id = .rl t es i j (.own id2 ks 0 len):=by rw [hz2];simp [upd,hne,hb]
 have hal1:∀ c,Al w0 w σ s.hp c→Al w0 w σ (freeze1 s.hp id2) c:=(bj2 h [id2] (fun q hq=>by
  simp only [Jw] at hq;subst hq;exact ⟨u,es2,.inl hb2⟩)).1
 have hal2:∀ b,aj5 (σ id2) b→Al w0 w σ (freeze1 s.hp id2) b:=fun b hb'=>(bj2 h [id2] (fun q hq=>by
  simp only [Jw] at hq;subst hq;exact ⟨u,es2,.inl hb2⟩)).2 id2 (by simp) b hb'
 have hal:∀ c,Al w0 w σ (freeze1 s.hp id2) c→Al w0 w σ (upd (freeze1 s.hp id2) id (.row t es)) c:=by
  intro c hc
  refine ⟨hc.1,fun q hq=>?_,hc.2.2⟩
  have:=hc.2.1 q hq
  by_cases e:q=id
  ·subst e;rw [hidz] at this;exact this.elim
  ·simp only [upd,e,if_false];exact this
 refine ⟨σ,hz.change hz.below (Nat.le_refl _) hal (fun _ _=>rfl) (fun _ _=>.inl rfl) (fun q=>?_) (fun a b c ha hb=>hz.inj a b c ha hb)⟩
 by_cases e:q=id
 ·subst e
  refine .inr ?_
  have hB:=h.blks q
  rw [hb] at hB
  obtain ⟨E,hE,hby,hB⟩:=hB
  have e0:upd (freeze1 s.hp id2) q (.row t es) q = .row t es:=by simp [upd]
  rw [e0]
  refine ⟨E,hE,hby,hB.imp (fun x=>x) ?_⟩
  rintro ⟨b,cap,cur,tg,q1,q2,q3,q4,q5,q6,q7,q8,q9⟩
  refine ⟨b,cap,cur,tg,q1,q2,q3,q4,q5,q6,q7,fun i' hi' j' hj'=>?_⟩
  by_cases e:i'=i∧j'=j
  ·obtain ⟨rfl,rfl⟩:=e
   have hc:=awy (al':=Al w0 w σ (freeze1 s.hp id2)) h (k:=.slice u) (x:=.slice (es2.take len)) (by simp [toCell,hb2]) (q9 hi').2 hal1 (fun id' hid' b hb'=>by
    simp only [ajf,Jw] at hid';subst hid';exact hal2 b hb')
   have hk:E.kinds.getD j' .other = .slice u:=by
    have:=hkd;unfold kdAt at this;rw [hE] at this;exact this
   rw [hk,hd]
   exact hc.mono (fun _ _=>rfl) hal
  ·exact ((q8 i' hi' j' hj' e).mono (fun _ _=>rfl) hal1).mono (fun _ _=>rfl) hal
 ·exact .inl ⟨rfl,by simp [upd,e],fun _ _=>rfl⟩
end Go.AE
/-
 A field of a structure's value.
-/
namespace Go.AE
open Go.RowKit (Below)
variable {P:Program} {w0:Base} {w:World} {N kp:Nat} {σ:Nat→RefI} {s:S} {tms:Array Value} {ρ:Operand→Value}
end Go.AE
