/- Text. -/
import Derived.Test.YtijnkhcfondehaaGreatDoorAE6
set_option linter.unusedVariables false
open _root_.Array renaming getD_eq_getD_getElem?→ji
open _root_.List renaming mem_cons→jR,getD_eq_getElem?_getD→ja,length_set→j6,getElem?_set_ne→JG
open _root_.Nat renaming lt_or_ge→jv,add_mul→jD,mul_le_mul_right→jl
namespace Go.AE
open Go.RowKit (Below)
variable {P:Program} {w0:Base} {w:World} {N:Nat} {σ:Nat→RefI} {s:S} {tms:Array Value} {ρ:Operand→Value} {al:Nat→Prop}
theorem ej5 {id:Nat}:∀ {l:List Nat},dwr id l=true→id ∉ l
 | [],_=>by simp
 | x :: xs,h=>by
  simp only [dwr,Bool.and_eq_true,Bool.not_eq_true',beq_eq_false_iff_ne] at h;simp only [jR,not_or];exact ⟨fun e=>h.1 e.symm,ej5 h.2⟩
theorem ak8 (ids:List Nat):∀ (hp:Nat→Blk) (id:Nat),freezeAll hp ids id=if id∈ids then (match hp id with | .row t es=>.frz t es | b=>b) else hp id:=by
 induction ids with
 | nil=>intro hp id;simp [freezeAll]
 | cons x xs ih =>
  intro hp id;simp only [freezeAll];rw [ih]
  have hf:freeze1 hp x id=if id=x then (match hp id with | .row t es=>.frz t es | b=>b) else hp id:=by
   by_cases e:id=x
   ·subst e;rw [if_pos rfl];cases hx:hp id <;> simp [freeze1,hx,upd]
   ·rw [if_neg e];cases hx:hp x <;> simp [freeze1,hx,upd,e]
  rw [hf];by_cases e:id=x
  ·subst e;simp only [jR,true_or,if_true]
   split
   ·cases hp id <;> rfl
   ·rfl
  ·simp only [e,if_false,jR,false_or]
theorem bwk (h:RelL P w0 N σ s tms w) (ids:List Nat) (hrows:∀ id,id∈ids→∃ t es,s.hp id = .row t es∨s.hp id = .frz t es) :
  (∀ b,Al w0 w σ s.hp b→Al w0 w σ (freezeAll s.hp ids) b)∧(∀ id,id∈ids→∀ b,aj3 (σ id) b→Al w0 w σ (freezeAll s.hp ids) b):=by
 refine ⟨fun b hb=>⟨hb.1,fun id hid=>?_,hb.2.2⟩,fun id hid b hb=>⟨(aj7 (h.blks id) hb).1,fun id' hid'=>?_,.inl (aj7 (h.blks id) hb).2⟩⟩
 ·have:=hb.2.1 id hid
  rw [ak8]
  split
  ·cases hs:s.hp id <;> simp [hs,ayq] at this ⊢
  ·exact this
 ·have e:=h.inj id' id b hid' hb;subst e;rw [ak8,if_pos hid];obtain ⟨t,es,hh | hh⟩:=hrows id' hid <;> simp [hh,ayq]
theorem ayh {hp:Nat→Blk}:∀ {xs:List A} {q:List Kd×List C},aqy hp xs=some q→∀ id,id∈xs.flatMap ajg→∃ t es,hp id = .row t es∨hp id = .frz t es
 | [],_,_,id,hid=>by simp at hid
 | x :: xs,q,h,id,hid=>by
  simp only [aqy] at h
  split at h
  ·rename_i k c ks cs hk hks;simp only [List.flatMap_cons,List.mem_append] at hid;rcases hid with hid | hid
   ·cases x <;> simp [ajg] at hid
    subst hid;simp only [toCell] at hk
    split at hk
    ·rename_i t es hh;exact ⟨t,es,.inl hh⟩
    ·rename_i t es hh;exact ⟨t,es,.inr hh⟩
    ·cases hk
   ·exact ayh hks id hid
  ·cases h
theorem gqp {t:TypeId} {T:TyI} {id sz i off:Nat} {ks ks':List Kd} {u:TypeId} {es:List (List C)} {xs:List C} {a:A} {v vp:Value} (h00:tyI P 0=none) (h:RelL P w0 N σ s tms w) (hT:tyI P t=some T) (hb:s.hp id = .row u es)
  (hto:aqy s.hp (aje a)=some (ks',xs)) (hn:dwr id ((aje a).flatMap ajg)=true) (hi:i < es.length) (hfk:cyh ks ks'=true) (hlen:(aje a).length=T.kinds.length)
  (hp:ARel P w (Al w0 w σ s.hp) σ vp (.elt id sz ks i off)) (hx:ARel P w (Al w0 w σ s.hp) σ v a) (hbx:bqr s.hp a=true) :
  ∃ w',(Instr.storeAt t vp v).run P w = .ok () w'∧RelL P w0 N σ ⟨s.tm,upd (freezeAll s.hp ((aje a).flatMap ajg)) id (.row u (es.set i (aqu (eg es i) off xs)))⟩ tms w':=by
 have hB:=h.blks id;rw [hb] at hB;obtain ⟨hs,hcs⟩:=bze h hbx hx;obtain ⟨hal1,hal2⟩:=bwk h ((aje a).flatMap ajg) (ayh hto);have hs':v.cells.toList.length=(aje a).length:=by simpa using hs
 obtain ⟨l1,l2,hrep⟩:=akl h hal1 hto hs' (fun j hj=>by
  have:=hcs j hj
  simpa [ji,ja] using this) hal2
 obtain ⟨f1,f2⟩:=byx hfk;have hz:=h.freezeAll ((aje a).flatMap ajg);have hidz:freezeAll s.hp ((aje a).flatMap ajg) id = .row u es:=by rw [ak8,if_neg (ej5 hn)];exact hb
 cases hp with
 | eltGone _ _ _ _ _ _ hg =>
  obtain ⟨E,_,_,hB⟩:=hB;rcases hB with ⟨hB,_⟩ | ⟨_,_,_,_,hB,_⟩ <;> rw [hB] at hg <;> cases hg
 | elt _ ks0 _ _ _ b cap n t'' hg hin hks =>
  try obtain rfl:=ayk hB hg
  obtain ⟨rfl,rfl,⟨E,hE,rfl⟩,hB0,cur,tg,hh,hsz,hec,hcm,hlen',hel,hcell⟩:=azm hB hg;have hkl:ks.length=E.kinds.length - off:=by rw [hks];simp
  have hoff:off+xs.length≤E.kinds.length:=by
   have h1:ks'.length≤ks.length:=f1;rcases jv off E.kinds.length with ho | ho
   ·omega
   ·have:0 < (aje a).length:=by rw [hlen];exact ak1 hT
    omega
  have hrow:i * E.kinds.length+E.kinds.length≤cur.size:=by
   rw [hsz]
   calc i * E.kinds.length+E.kinds.length=(i+1) * E.kinds.length:=by rw [jD];omega
    _≤cap * E.kinds.length:=jl _ (by omega)
  have hone:∀ j,j < (aje a).length→(v.cells.getD j undef).oneCell'=true:=fun j hj=>by
   have:=fw1 (f2 j (by omega)) (hrep j hj)
   simpa [ji,ja] using this
  refine ⟨_,bzw hT hs hlen (b:=b) (o:=i * E.kinds.length+off) hh (by omega) hone,?_⟩;refine hz.write (b:=b) (by simp [hg,aj3]) (by simp [hidz,ayq]) _ (by simp) (by simp) (by simp) (by simp) (fun c hc=>setRow_other w b c _ hc) (fun hal hheap=>?_);have hl:i * E.kinds.length+off+v.cells.toList.length≤cur.toList.length:=by simp;omega
  obtain ⟨E',hE',hby,_⟩:=hB;rw [hE] at hE';simp only [Option.some.injEq] at hE';subst hE';refine ⟨E,hE,by simpa using hby,.inr ⟨b,cap,_,tg,by rw [hg,j6],hB0,setRow_heap w b cur _ _ _ hh,by simpa using hec,hcm,?_,?_,?_⟩⟩
  ·rw [List.size_toArray,aq3 _ _ _ hl];simpa using hsz
  ·intro i' hi';rw [j6] at hi';by_cases e:i'=i
   ·subst e
    have:eg (es.set i' (aqu (eg es i') off xs)) i'=aqu (eg es i') off xs:=by simp [eg,ja,hi']
    rw [this,aq3 _ _ _ (by rw [hel i' hi'];omega),hel i' hi']
   ·have:eg (es.set i (aqu (eg es i) off xs)) i'=eg es i':=by simp [eg,ja,JG (Ne.symm e)]
    rw [this,hel i' hi']
  ·intro i' hi' j hj;rw [j6] at hi'
   have e0:(aqu cur.toList (i * E.kinds.length+off) v.cells.toList).toArray.getD (i' * E.kinds.length+j) undef=(aqu cur.toList (i * E.kinds.length+off) v.cells.toList).getD (i' * E.kinds.length+j) undef:=by
    simp [ji,ja]
   rw [e0,az8 _ _ _ _ _ hl,hs'];have old:RepC P w (Al w0 w σ s.hp) (E.kinds.getD j .other) (cur.getD (i' * E.kinds.length+j) undef) (cg (eg es i') j):=(hcell i' hi' j hj).2.2;have old':=(old.mono (fun _ _=>rfl) hal1).mono hheap hal
   have oldv:cur.toList.getD (i' * E.kinds.length+j) undef=cur.getD (i' * E.kinds.length+j) undef:=by
    simp [ji,ja]
   by_cases e:i'=i
   ·subst e;have e1:eg (es.set i' (aqu (eg es i') off xs)) i'=aqu (eg es i') off xs:=by simp [eg,ja,hi']
    rw [e1];have e2:cg (aqu (eg es i') off xs) j=if off≤j∧j < off+xs.length then cg xs (j - off) else cg (eg es i') j:=az8 _ _ _ _ _ (by rw [hel i' hi'];omega)
    rw [e2,l2];by_cases hj':off≤j∧j < off+(aje a).length
    ·rw [if_pos (by omega),if_pos hj'];have h1:=hrep (j - off) (by omega);have h2:=bza h00 (f2 (j - off) (by omega)) h1;have e3:ks.getD (j - off) .other=E.kinds.getD j .other:=by rw [hks,bjs];congr 1;omega
     rw [e3] at h2;have e4:i' * E.kinds.length+j - (i' * E.kinds.length+off)=j - off:=by omega
     rw [e4];exact h2.mono hheap hal
    ·rw [if_neg (by omega),if_neg hj',oldv];exact old'
   ·have e1:eg (es.set i (aqu (eg es i) off xs)) i'=eg es i':=by simp [eg,ja,JG (Ne.symm e)]
    rw [e1]
    have hne:¬ (i * E.kinds.length+off≤i' * E.kinds.length+j∧i' * E.kinds.length+j < i * E.kinds.length+off+(aje a).length):=by
     rcases jv i' i with hlt | hge
     ·have:(i'+1) * E.kinds.length≤i * E.kinds.length:=jl _ hlt
      rw [jD] at this;omega
     ·have:(i+1) * E.kinds.length≤i' * E.kinds.length:=jl _ (by omega)
      rw [jD] at this;omega
    rw [if_neg hne,oldv];exact old'
end Go.AE
