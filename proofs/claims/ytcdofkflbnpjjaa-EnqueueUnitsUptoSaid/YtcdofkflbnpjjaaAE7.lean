/- Text. -/
import Derived.Test.YtcdofkflbnpjjaaAE6
set_option linter.unusedVariables false
namespace Go.AE
open Go.RowKit (Below)
variable {P:Program} {w0:Base} {w:World} {N:Nat} {σ:Nat→RefI} {s:S} {tms:Array Value} {ρ:Operand→Value} {al:Nat→Prop}
theorem notIn_spec {id:Nat}:∀ {l:List Nat},notIn id l=true→id ∉ l
  | [],_=>by simp
  | x :: xs,h=>by
    simp only [notIn,Bool.and_eq_true,Bool.not_eq_true',beq_eq_false_iff_ne] at h
    simp only [List.mem_cons,not_or]
    exact ⟨fun e=>h.1 e.symm,notIn_spec h.2⟩
theorem freezeAll_at (ids:List Nat):∀ (hp:Nat→Blk) (id:Nat),freezeAll hp ids id=if id∈ids then (match hp id with | .row t es=>.frz t es | b=>b) else hp id:=by
  induction ids with
  | nil=>intro hp id;simp [freezeAll]
  | cons x xs ih =>
    intro hp id
    simp only [freezeAll]
    rw [ih]
    have hf:freeze1 hp x id=if id=x then (match hp id with | .row t es=>.frz t es | b=>b) else hp id:=by
      by_cases e:id=x
      · subst e
        rw [if_pos rfl]
        cases hx:hp id <;> simp [freeze1,hx,upd]
      · rw [if_neg e]
        cases hx:hp x <;> simp [freeze1,hx,upd,e]
    rw [hf]
    by_cases e:id=x
    · subst e
      simp only [List.mem_cons,true_or,if_true]
      split
      · cases hp id <;> rfl
      · rfl
    · simp only [e,if_false,List.mem_cons,false_or]
theorem al_freeze (h:RelL P w0 N σ s tms w) (ids:List Nat) (hrows:∀ id,id∈ids→∃ t es,s.hp id = .row t es∨s.hp id = .frz t es) :
    (∀ b,Al w0 w σ s.hp b→Al w0 w σ (freezeAll s.hp ids) b)∧(∀ id,id∈ids→∀ b,blockOf (σ id) b→Al w0 w σ (freezeAll s.hp ids) b):=by
  refine ⟨fun b hb=>⟨hb.1,fun id hid=>?_,hb.2.2⟩,fun id hid b hb=>⟨(block_lt_of_bref (h.blks id) hb).1,fun id' hid'=>?_,.inl (block_lt_of_bref (h.blks id) hb).2⟩⟩
  · have:=hb.2.1 id hid
    rw [freezeAll_at]
    split
    · cases hs:s.hp id <;> simp [hs,isFrz] at this ⊢
    · exact this
  · have e:=h.inj id' id b hid' hb
    subst e
    rw [freezeAll_at,if_pos hid]
    obtain ⟨t,es,hh | hh⟩:=hrows id' hid <;> simp [hh,isFrz]
theorem toKCells_rows {hp:Nat→Blk}:∀ {xs:List A} {q:List Kd×List C},toKCells hp xs=some q→∀ id,id∈xs.flatMap frozenIds→∃ t es,hp id = .row t es∨hp id = .frz t es
  | [],_,_,id,hid=>by simp at hid
  | x :: xs,q,h,id,hid=>by
    simp only [toKCells] at h
    split at h
    · rename_i k c ks cs hk hks
      simp only [List.flatMap_cons,List.mem_append] at hid
      rcases hid with hid | hid
      · cases x <;> simp [frozenIds] at hid
        subst hid
        simp only [toCell] at hk
        split at hk
        · rename_i t es hh;exact ⟨t,es,.inl hh⟩
        · rename_i t es hh;exact ⟨t,es,.inr hh⟩
        · cases hk
      · exact toKCells_rows hks id hid
    · cases h
theorem store_elt {t:TypeId} {T:TyI} {id sz i off:Nat} {ks ks':List Kd} {u:TypeId} {es:List (List C)} {xs:List C} {a:A} {v vp:Value} (h00:tyI P 0=none) (h:RelL P w0 N σ s tms w) (hT:tyI P t=some T) (hb:s.hp id = .row u es)
    (hto:toKCells s.hp (cellsA a)=some (ks',xs)) (hn:notIn id ((cellsA a).flatMap frozenIds)=true) (hi:i < es.length) (hfk:fitKs ks ks'=true) (hlen:(cellsA a).length=T.kinds.length)
    (hp:ARel P w (Al w0 w σ s.hp) σ vp (.elt id sz ks i off)) (hx:ARel P w (Al w0 w σ s.hp) σ v a) (hbx:boxable s.hp a=true) :
    ∃ w',(Instr.storeAt t vp v).run P w = .ok () w'∧RelL P w0 N σ ⟨s.tm,upd (freezeAll s.hp ((cellsA a).flatMap frozenIds)) id (.row u (es.set i (splice (eg es i) off xs)))⟩ tms w':=by
  have hB:=h.blks id
  rw [hb] at hB
  obtain ⟨hs,hcs⟩:=cellsA_rel h hbx hx
  obtain ⟨hal1,hal2⟩:=al_freeze h ((cellsA a).flatMap frozenIds) (toKCells_rows hto)
  have hs':v.cells.toList.length=(cellsA a).length:=by simpa using hs
  obtain ⟨l1,l2,hrep⟩:=toKCells_sound h hal1 hto hs' (fun j hj=>by
    have:=hcs j hj
    simpa [Array.getD_eq_getD_getElem?,List.getD_eq_getElem?_getD] using this) hal2
  obtain ⟨f1,f2⟩:=fitKs_spec hfk
  have hz:=h.freezeAll ((cellsA a).flatMap frozenIds)
  have hidz:freezeAll s.hp ((cellsA a).flatMap frozenIds) id = .row u es:=by rw [freezeAll_at,if_neg (notIn_spec hn)];exact hb
  cases hp with
  | eltGone _ _ _ _ _ _ hg =>
    obtain ⟨E,_,_,hB⟩:=hB
    rcases hB with ⟨hB,_⟩ | ⟨_,_,_,_,hB,_⟩ <;> rw [hB] at hg <;> cases hg
  | elt _ ks0 _ _ _ b cap n t'' hg hin hks =>
    try obtain rfl:=row_flat hB hg
    obtain ⟨rfl,rfl,⟨E,hE,rfl⟩,hB0,cur,tg,hh,hsz,hec,hcm,hlen',hel,hcell⟩:=row_cell hB hg
    have hkl:ks.length=E.kinds.length - off:=by rw [hks];simp
    have hoff:off+xs.length≤E.kinds.length:=by
      have h1:ks'.length≤ks.length:=f1
      rcases Nat.lt_or_ge off E.kinds.length with ho | ho
      · omega
      · have:0 < (cellsA a).length:=by rw [hlen];exact kinds_pos hT
        omega
    have hrow:i * E.kinds.length+E.kinds.length≤cur.size:=by
      rw [hsz]
      calc i * E.kinds.length+E.kinds.length=(i+1) * E.kinds.length:=by rw [Nat.add_mul];omega
        _≤cap * E.kinds.length:=Nat.mul_le_mul_right _ (by omega)
    have hone:∀ j,j < (cellsA a).length→(v.cells.getD j undef).oneCell'=true:=fun j hj=>by
      have:=fitK_one (f2 j (by omega)) (hrep j hj)
      simpa [Array.getD_eq_getD_getElem?,List.getD_eq_getElem?_getD] using this
    refine ⟨_,run_storeAt hT hs hlen (b:=b) (o:=i * E.kinds.length+off) hh (by omega) hone,?_⟩
    refine hz.write (b:=b) (by simp [hg,blockOf]) (by simp [hidz,isFrz]) _ (by simp) (by simp) (by simp) (by simp) (fun c hc=>setRow_other w b c _ hc) (fun hal hheap=>?_)
    have hl:i * E.kinds.length+off+v.cells.toList.length≤cur.toList.length:=by simp;omega
    obtain ⟨E',hE',hby,_⟩:=hB
    rw [hE] at hE';simp only [Option.some.injEq] at hE';subst hE'
    refine ⟨E,hE,by simpa using hby,.inr ⟨b,cap,_,tg,by rw [hg,List.length_set],hB0,setRow_heap w b cur _ _ _ hh,by simpa using hec,hcm,?_,?_,?_⟩⟩
    · rw [List.size_toArray,splice_length _ _ _ hl];simpa using hsz
    · intro i' hi'
      rw [List.length_set] at hi'
      by_cases e:i'=i
      · subst e
        have:eg (es.set i' (splice (eg es i') off xs)) i'=splice (eg es i') off xs:=by simp [eg,List.getD_eq_getElem?_getD,hi']
        rw [this,splice_length _ _ _ (by rw [hel i' hi'];omega),hel i' hi']
      · have:eg (es.set i (splice (eg es i) off xs)) i'=eg es i':=by simp [eg,List.getD_eq_getElem?_getD,List.getElem?_set_ne (Ne.symm e)]
        rw [this,hel i' hi']
    · intro i' hi' j hj
      rw [List.length_set] at hi'
      have e0:(splice cur.toList (i * E.kinds.length+off) v.cells.toList).toArray.getD (i' * E.kinds.length+j) undef=(splice cur.toList (i * E.kinds.length+off) v.cells.toList).getD (i' * E.kinds.length+j) undef:=by
        simp [Array.getD_eq_getD_getElem?,List.getD_eq_getElem?_getD]
      rw [e0,splice_getD _ _ _ _ _ hl,hs']
      have old:RepC P w (Al w0 w σ s.hp) (E.kinds.getD j .other) (cur.getD (i' * E.kinds.length+j) undef) (cg (eg es i') j):=(hcell i' hi' j hj).2.2
      have old':=(old.mono (fun _ _=>rfl) hal1).mono hheap hal
      have oldv:cur.toList.getD (i' * E.kinds.length+j) undef=cur.getD (i' * E.kinds.length+j) undef:=by
        simp [Array.getD_eq_getD_getElem?,List.getD_eq_getElem?_getD]
      by_cases e:i'=i
      · subst e
        have e1:eg (es.set i' (splice (eg es i') off xs)) i'=splice (eg es i') off xs:=by simp [eg,List.getD_eq_getElem?_getD,hi']
        rw [e1]
        have e2:cg (splice (eg es i') off xs) j=if off≤j∧j < off+xs.length then cg xs (j - off) else cg (eg es i') j:=splice_getD _ _ _ _ _ (by rw [hel i' hi'];omega)
        rw [e2,l2]
        by_cases hj':off≤j∧j < off+(cellsA a).length
        · rw [if_pos (by omega),if_pos hj']
          have h1:=hrep (j - off) (by omega)
          have h2:=fitK_sound h00 (f2 (j - off) (by omega)) h1
          have e3:ks.getD (j - off) .other=E.kinds.getD j .other:=by rw [hks,getD_drop'];congr 1;omega
          rw [e3] at h2
          have e4:i' * E.kinds.length+j - (i' * E.kinds.length+off)=j - off:=by omega
          rw [e4]
          exact h2.mono hheap hal
        · rw [if_neg (by omega),if_neg hj',oldv]
          exact old'
      · have e1:eg (es.set i (splice (eg es i) off xs)) i'=eg es i':=by simp [eg,List.getD_eq_getElem?_getD,List.getElem?_set_ne (Ne.symm e)]
        rw [e1]
        have hne:¬ (i * E.kinds.length+off≤i' * E.kinds.length+j∧i' * E.kinds.length+j < i * E.kinds.length+off+(cellsA a).length):=by
          rcases Nat.lt_or_ge i' i with hlt | hge
          · have:(i'+1) * E.kinds.length≤i * E.kinds.length:=Nat.mul_le_mul_right _ hlt
            rw [Nat.add_mul] at this;omega
          · have:(i+1) * E.kinds.length≤i' * E.kinds.length:=Nat.mul_le_mul_right _ (by omega)
            rw [Nat.add_mul] at this;omega
        rw [if_neg hne,oldv]
        exact old'
end Go.AE
