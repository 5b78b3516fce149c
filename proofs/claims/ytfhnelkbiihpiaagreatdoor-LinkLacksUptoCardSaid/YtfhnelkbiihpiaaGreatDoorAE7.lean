/- Text. -/
import Derived.Test.YtfhnelkbiihpiaaGreatDoorAE6
set_option linter.unusedVariables false
open _root_.Array renaming getD_eq_getD_getElem?→je
open _root_.List renaming mem_cons→jv,getD_eq_getElem?_getD→jb,getElem?_set_ne→Jv
open _root_.Nat renaming lt_or_ge→js,add_mul→jo,mul_le_mul_right→jk
namespace Go.AE
open Go.RowKit (Below)
variable {P:Program} {w0:Base} {w:World} {N:Nat} {σ:Nat→RefI} {s:S} {tms:Array Value} {ρ:Operand→Value} {al:Nat→Prop}
theorem cz5 {id:Nat}:∀ {l:List Nat},cjj id l=true→id ∉ l
 | [],_=>by simp
 | x :: xs,h=>by
  simp only [cjj,Bool.and_eq_true,Bool.not_eq_true',beq_eq_false_iff_ne] at h
  simp only [jv,not_or]
  exact ⟨fun e=>h.1 e.symm,cz5 h.2⟩
theorem azm (ids:List Nat):∀ (hp:Nat→Blk) (id:Nat),freezeAll hp ids id=if id∈ids then (match hp id with | .row t es=>.frz t es | b=>b) else hp id:=by
 induction ids with
 | nil=>intro hp id;simp [freezeAll]
 | cons x xs ih =>
  intro hp id
  simp only [freezeAll]
  rw [ih]
  have hf:freeze1 hp x id=if id=x then (match hp id with | .row t es=>.frz t es | b=>b) else hp id:=by
   by_cases e:id=x
   ·subst e
    rw [if_pos rfl]
    cases hx:hp id <;> simp [freeze1,hx,upd]
   ·rw [if_neg e]
    cases hx:hp x <;> simp [freeze1,hx,upd,e]
  rw [hf]
  by_cases e:id=x
  ·subst e
   simp only [jv,true_or,if_true]
   split
   ·cases hp id <;> rfl
   ·rfl
  ·simp only [e,if_false,jv,false_or]
theorem bqs (h:RelL P w0 N σ s tms w) (ids:List Nat) (hrows:∀ id,id∈ids→∃ t es,s.hp id = .row t es∨s.hp id = .frz t es) :
  (∀ b,Al w0 w σ s.hp b→Al w0 w σ (freezeAll s.hp ids) b)∧(∀ id,id∈ids→∀ b,aj0 (σ id) b→Al w0 w σ (freezeAll s.hp ids) b):=by
 refine ⟨fun b hb=>⟨hb.1,fun id hid=>?_,hb.2.2⟩,fun id hid b hb=>⟨(aj3 (h.blks id) hb).1,fun id' hid'=>?_,.inl (aj3 (h.blks id) hb).2⟩⟩
 ·have:=hb.2.1 id hid
  rw [azm]
  split
  ·cases hs:s.hp id <;> simp [hs,ake] at this ⊢
  ·exact this
 ·have e:=h.inj id' id b hid' hb
  subst e
  rw [azm,if_pos hid]
  obtain ⟨t,es,hh | hh⟩:=hrows id' hid <;> simp [hh,ake]
theorem akg {hp:Nat→Blk}:∀ {xs:List A} {q:List Kd×List C},aqj hp xs=some q→∀ id,id∈xs.flatMap ajc→∃ t es,hp id = .row t es∨hp id = .frz t es
 | [],_,_,id,hid=>by simp at hid
 | x :: xs,q,h,id,hid=>by
  simp only [aqj] at h
  split at h
  ·rename_i k c ks cs hk hks
   simp only [List.flatMap_cons,List.mem_append] at hid
   rcases hid with hid | hid
   ·cases x <;> simp [ajc] at hid
    subst hid
    simp only [toCell] at hk
    split at hk
    ·rename_i t es hh;exact ⟨t,es,.inl hh⟩
    ·rename_i t es hh;exact ⟨t,es,.inr hh⟩
    ·cases hk
   ·exact akg hks id hid
  ·cases h
theorem dks {t:TypeId} {T:TyI} {id sz i off:Nat} {ks ks':List Kd} {u:TypeId} {es:List (List C)} {xs:List C} {a:A} {v vp:Value} (h00:tyI P 0=none) (h:RelL P w0 N σ s tms w) (hT:tyI P t=some T) (hb:s.hp id = .row u es)
  (hto:aqj s.hp (aje a)=some (ks',xs)) (hn:cjj id ((aje a).flatMap ajc)=true) (hi:i < es.length) (hfk:cqh ks ks'=true) (hlen:(aje a).length=T.kinds.length)
  (hp:ARel P w (Al w0 w σ s.hp) σ vp (.elt id sz ks i off)) (hx:ARel P w (Al w0 w σ s.hp) σ v a) (hbx:ayb s.hp a=true) :
  ∃ w',(Instr.storeAt t vp v).run P w = .ok () w'∧RelL P w0 N σ ⟨s.tm,upd (freezeAll s.hp ((aje a).flatMap ajc)) id (.row u (es.set i (awg (eg es i) off xs)))⟩ tms w':=by
 have hB:=h.blks id
 rw [hb] at hB
 obtain ⟨hs,hcs⟩:=bjs h hbx hx
 obtain ⟨hal1,hal2⟩:=bqs h ((aje a).flatMap ajc) (akg hto)
 have hs':v.cells.toList.length=(aje a).length:=by simpa using hs
 obtain ⟨l1,l2,hrep⟩:=ay0 h hal1 hto hs' (fun j hj=>by
  have:=hcs j hj
  simpa [je,jb] using this) hal2
 obtain ⟨f1,f2⟩:=bwz hfk
 have hz:=h.freezeAll ((aje a).flatMap ajc)
 have hidz:freezeAll s.hp ((aje a).flatMap ajc) id = .row u es:=by rw [azm,if_neg (cz5 hn)];exact hb
 cases hp with
 | eltGone _ _ _ _ _ _ hg =>
  obtain ⟨E,_,_,hB⟩:=hB
  rcases hB with ⟨hB,_⟩ | ⟨_,_,_,_,hB,_⟩ <;> rw [hB] at hg <;> cases hg
 | elt _ ks0 _ _ _ b cap n t'' hg hin hks =>
  try obtain rfl:=akj hB hg
  obtain ⟨rfl,rfl,⟨E,hE,rfl⟩,hB0,cur,tg,hh,hsz,hec,hcm,hlen',hel,hcell⟩:=awe hB hg
  have hkl:ks.length=E.kinds.length - off:=by rw [hks];simp
  have hoff:off+xs.length≤E.kinds.length:=by
   have h1:ks'.length≤ks.length:=f1
   rcases js off E.kinds.length with ho | ho
   ·omega
   ·have:0 < (aje a).length:=by rw [hlen];exact az2 hT
    omega
  have hrow:i * E.kinds.length+E.kinds.length≤cur.size:=by
   rw [hsz]
   calc i * E.kinds.length+E.kinds.length=(i+1) * E.kinds.length:=by rw [jo];omega
    _≤cap * E.kinds.length:=jk _ (by omega)
  have hone:∀ j,j < (aje a).length→(v.cells.getD j undef).oneCell'=true:=fun j hj=>by
   have:=eww (f2 j (by omega)) (hrep j hj)
   simpa [je,jb] using this
  refine ⟨_,bzm hT hs hlen (b:=b) (o:=i * E.kinds.length+off) hh (by omega) hone,?_⟩
  refine hz.write (b:=b) (by simp [hg,aj0]) (by simp [hidz,ake]) _ (by simp) (by simp) (by simp) (by simp) (fun c hc=>setRow_other w b c _ hc) (fun hal hheap=>?_)
  have hl:i * E.kinds.length+off+v.cells.toList.length≤cur.toList.length:=by simp;omega
  obtain ⟨E',hE',hby,_⟩:=hB
  rw [hE] at hE';simp only [Option.some.injEq] at hE';subst hE'
  refine ⟨E,hE,by simpa using hby,.inr ⟨b,cap,_,tg,by rw [hg,List.length_set],hB0,setRow_heap w b cur _ _ _ hh,by simpa using hec,hcm,?_,?_,?_⟩⟩
  ·rw [List.size_toArray,aqt _ _ _ hl];simpa using hsz
  ·intro i' hi'
   rw [List.length_set] at hi'
   by_cases e:i'=i
   ·subst e
    have:eg (es.set i' (awg (eg es i') off xs)) i'=awg (eg es i') off xs:=by simp [eg,jb,hi']
    rw [this,aqt _ _ _ (by rw [hel i' hi'];omega),hel i' hi']
   ·have:eg (es.set i (awg (eg es i) off xs)) i'=eg es i':=by simp [eg,jb,Jv (Ne.symm e)]
    rw [this,hel i' hi']
  ·intro i' hi' j hj
   rw [List.length_set] at hi'
   have e0:(awg cur.toList (i * E.kinds.length+off) v.cells.toList).toArray.getD (i' * E.kinds.length+j) undef=(awg cur.toList (i * E.kinds.length+off) v.cells.toList).getD (i' * E.kinds.length+j) undef:=by
    simp [je,jb]
   rw [e0,ak4 _ _ _ _ _ hl,hs']
   have old:RepC P w (Al w0 w σ s.hp) (E.kinds.getD j .other) (cur.getD (i' * E.kinds.length+j) undef) (cg (eg es i') j):=(hcell i' hi' j hj).2.2
   have old':=(old.mono (fun _ _=>rfl) hal1).mono hheap hal
   have oldv:cur.toList.getD (i' * E.kinds.length+j) undef=cur.getD (i' * E.kinds.length+j) undef:=by
    simp [je,jb]
   by_cases e:i'=i
   ·subst e
    have e1:eg (es.set i' (awg (eg es i') off xs)) i'=awg (eg es i') off xs:=by simp [eg,jb,hi']
    rw [e1]
    have e2:cg (awg (eg es i') off xs) j=if off≤j∧j < off+xs.length then cg xs (j - off) else cg (eg es i') j:=ak4 _ _ _ _ _ (by rw [hel i' hi'];omega)
    rw [e2,l2]
    by_cases hj':off≤j∧j < off+(aje a).length
    ·rw [if_pos (by omega),if_pos hj']
     have h1:=hrep (j - off) (by omega)
     have h2:=bz1 h00 (f2 (j - off) (by omega)) h1
     have e3:ks.getD (j - off) .other=E.kinds.getD j .other:=by rw [hks,akx];congr 1;omega
     rw [e3] at h2
     have e4:i' * E.kinds.length+j - (i' * E.kinds.length+off)=j - off:=by omega
     rw [e4]
     exact h2.mono hheap hal
    ·rw [if_neg (by omega),if_neg hj',oldv]
     exact old'
   ·have e1:eg (es.set i (awg (eg es i) off xs)) i'=eg es i':=by simp [eg,jb,Jv (Ne.symm e)]
    rw [e1]
    have hne:¬ (i * E.kinds.length+off≤i' * E.kinds.length+j∧i' * E.kinds.length+j < i * E.kinds.length+off+(aje a).length):=by
     rcases js i' i with hlt | hge
     ·have:(i'+1) * E.kinds.length≤i * E.kinds.length:=jk _ hlt
      rw [jo] at this;omega
     ·have:(i+1) * E.kinds.length≤i' * E.kinds.length:=jk _ (by omega)
      rw [jo] at this;omega
    rw [if_neg hne,oldv]
    exact old'
end Go.AE
