/- Text. -/
import Derived.Test.YtcdofkflbnpjjaaAE25
set_option linter.unusedVariables false
namespace Go.AE
open Go.RowKit (Below)
variable {P:Program} {w0:Base} {w:World} {N kp:Nat} {σ:Nat→RefI} {s:S} {tms:Array Value} {ρ:Operand→Value} {al:Nat→Prop} {Γ:List Fn}
def nilZ (hp:Nat→Blk):A→Option Out
  | .box id off=>some ⟨True,True,.box id off,hp,true⟩
  | .elt id sz ks i off=>if live hp id then some ⟨True,True,.elt id sz ks i off,hp,true⟩ else none
  | .pp ks cells off=>some ⟨True,True,.pp ks cells off,hp,true⟩
  | _=>none
def rangeZ (P:Program) (d:Option Nat) (t:TypeId) (hp:Nat→Blk) (x:A):Option Out :=
  match d,mapE P t,x with
  | some d,some _,.mref id=>match hp id with
    | .mp kk vp m=>if isDead (hp (key d 0)) then some ⟨True,True,.mref (key d 0),upd (upd hp id .gone) (key d 0) (.it kk vp none m),false⟩ else none
    | _=>none
  | _,_,_=>none
def entryZ (hp:Nat→Blk):A→Option Out
  | .mref id=>match hp id with
    | .it kk vp (some c) _=>some ⟨True,True,.tup [.c kk c.1,pack vp.1 (ppVals vp.2 c.2 0)],hp,true⟩
    | _=>none
  | _=>none
def opZ (P:Program) (o:Oper) (hp:Nat→Blk) (v:Operand→A):Option Out :=
  match o.op with
  | .nilCheck x=>nilZ hp (v x)
  | .range t x=>rangeZ P o.dst t hp (v x)
  | .entry x=>entryZ hp (v x)
  | _=>none
def stepZ (P:Program) (o:Oper) (s:S) (K:S→Prop):Prop :=
  match o.guard with
  | none=>match opZ P o s.hp (plainTm s.tm) with
    | some r=>allNeeds s.tm o.op.operands.toList∧r.pre∧(r.fact→K ⟨updD s.tm o.dst r.val,r.hp⟩)
    | none=>False
  | some _=>False
theorem nilZ_sound {o:Oper} {x:Operand} {a:A} {r:Out} (h:RelL P w0 N σ s tms w) (hf:nilZ s.hp a=some r) (ho:o.op = .nilCheck x) (hx:ARel P w (Al w0 w σ s.hp) σ (ρ x) a):OpOk P w0 N s tms o ρ w r:=by
  have go:∀ p,ρ x = .pointer (some p)→r.fact→r.hp=s.hp→r.val=a→OpOk P w0 N s tms o ρ w r:=by
    intro p hp hf hh hv
    refine OpOk.pure (v:=ρ x) h ?_ hf hh (by rw [hv];exact hx)
    simp only [execOp,ho,hp]
    rfl
  unfold nilZ at hf
  split at hf
  · simp only [Option.some.injEq] at hf;subst hf
    generalize hv:ρ x=v at hx
    cases hx with | box id off b hs=>exact go _ hv trivial rfl rfl
  · rename_i id sz ks i off
    split at hf
    · rename_i hl
      simp only [Option.some.injEq] at hf;subst hf
      have hg:=(live_spec h hl).1
      generalize hv:ρ x=v at hx
      cases hx with
      | eltGone _ _ _ _ _ _ hs=>exact absurd hs hg
      | elt _ _ _ _ _ b cap n t hs hi hk=>exact go _ hv trivial rfl rfl
    · cases hf
  · simp only [Option.some.injEq] at hf;subst hf
    generalize hv:ρ x=v at hx
    cases hx with | pp _ _ _ b o _ _ _ _=>exact go _ hv trivial rfl rfl
  · cases hf
theorem it_ref {v:Value} {id r b:Nat} (h:ARel P w al σ v (.mref id)) (hs:σ id = .it r b):v = .pointer (some ⟨r,0,none⟩):=by
  cases h with
  | mref _ b' h=>rw [hs] at h;cases h
  | mrefGone v id h=>rw [hs] at h;cases h
  | itr id r b h=>rw [hs] at h;cases h;rfl
theorem rangeZ_sound {o:Oper} {t:TypeId} {x:Operand} {a:A} {r:Out} (h:RelL P w0 N σ s tms w) (hf:rangeZ P o.dst t s.hp a=some r) (ho:o.op = .range t x) (hx:ARel P w (Al w0 w σ s.hp) σ (ρ x) a):OpOk P w0 N s tms o ρ w r:=by
  unfold rangeZ at hf
  split at hf
  · rename_i d q id hd hm
    obtain ⟨kk0,e,E⟩:=q
    obtain ⟨k,d',hu,_⟩:=mapE_spec hm
    split at hf
    · rename_i kk vp m hb
      split at hf
      · rename_i hdead
        simp only [Option.some.injEq] at hf;subst hf
        have hB:=h.blks id
        rw [hb] at hB
        obtain ⟨b,es,clock,hσ,hBn,hh,hok,hmr⟩:=hB
        have hv:=mref_inv hx hσ
        have hrun:=run_range_map (P:=P) w t k e b es clock hu hh
        have hkd:=isDead_spec hdead
        have hσk:=bref_dead (h.blks (key d 0)) hkd
        have hne:id≠key d 0:=by intro e;rw [e,hkd] at hb;cases hb
        have hlt:b < w.heap.size:=(Array.getElem?_eq_some_iff.1 hh).1
        refine .inl ⟨.pointer (some ⟨w.heap.size,0,none⟩),w.alloc (.mapIter (some b) clock #[] clock),?_,trivial,upd (upd σ id .gone) (key d 0) (.it w.heap.size b),?_,.itr _ w.heap.size b (by simp [upd])⟩
        · simp only [execOp,ho]
          rw [hv]
          exact run_value hrun
        have hnf:∀ c,Al w0 w σ s.hp c→c≠b:=fun c hc e=>by
          subst e
          have:=hc.2.1 id (by rw [hσ];rfl)
          simp [hb,isFrz] at this
        have hal:∀ c,Al w0 w σ s.hp c→Al w0 (w.alloc (.mapIter (some b) clock #[] clock)) (upd (upd σ id .gone) (key d 0) (.it w.heap.size b)) (upd (upd s.hp id .gone) (key d 0) (.it kk vp none m)) c:=by
          intro c hc
          refine ⟨Nat.lt_of_lt_of_le hc.1 (by simp),fun i hi=>?_,hc.2.2⟩
          by_cases e1:i=key d 0
          · simp only [upd,e1,if_true,blockOf] at hi
            rcases hi with hi | hi
            · have:=hc.1;omega
            · exact absurd hi.symm (hnf c hc)
          · by_cases e2:i=id
            · simp [upd,e2,hne,blockOf] at hi
            · simp only [upd,e1,e2,if_false] at hi ⊢;exact hc.2.1 i hi
        have hheap:∀ c,c < w.heap.size→(w.alloc (.mapIter (some b) clock #[] clock)).heap[c]? = w.heap[c]? := fun c hc=>Below.heap_alloc w _ c hc
        refine h.change (h.below.then ((Below.refl _ _).alloc h.below.size _)) (by simp) hal (fun c hc=>hheap c hc.1) (fun i hi=>?_) (fun i=>?_) ?_
        · by_cases e1:i=key d 0
          · subst e1;exact absurd hσk hi
          · by_cases e2:i=id
            · subst e2
              exact .inr ⟨by simp [upd,hne],by rw [hσ];trivial⟩
            · exact .inl (by simp [upd,e1,e2])
        · by_cases e1:i=key d 0
          · subst e1
            refine .inr ?_
            show BRel P _ _ _ _ (key d 0) (upd (upd s.hp id .gone) (key d 0) (.it kk vp none m) (key d 0))
            have e0:upd (upd s.hp id .gone) (key d 0) (.it kk vp none m) (key d 0) = .it kk vp none m:=by simp [upd]
            rw [e0]
            refine ⟨w.heap.size,b,es,clock,clock,#[],clock,by simp [upd],.inl h.below.size,hBn,heap_alloc_new w _,(hheap b hlt).trans hh,⟨hok,hok.1,Nat.le_refl _,Nat.le_refl _⟩,⟨es.toList,?_,hmr.mono (fun c hc=>hheap c hc.1) hal⟩,trivial⟩
            have:leftOf es #[]=es:=by simp [leftOf]
            rw [this]
          · by_cases e2:i=id
            · subst e2
              exact .inr (by simp [upd,hne,BRel])
            · exact .inl ⟨by simp [upd,e1,e2],by simp [upd,e1,e2],fun c hc=>hheap c (block_lt_of_bref (h.blks i) hc).1⟩
        · intro i j c hi hj
          have key1:∀ i,blockOf (upd (upd σ id .gone) (key d 0) (.it w.heap.size b) i) c→(i=key d 0∧(c=w.heap.size∨c=b))∨(i≠key d 0∧i≠id∧blockOf (σ i) c):=by
            intro i hi
            by_cases e1:i=key d 0
            · simp only [upd,e1,if_true,blockOf] at hi
              exact .inl ⟨e1,hi.imp Eq.symm Eq.symm⟩
            · by_cases e2:i=id
              · simp [upd,e2,hne,blockOf] at hi
              · simp only [upd,e1,e2,if_false] at hi
                exact .inr ⟨e1,e2,hi⟩
          have old:∀ i,i≠id→blockOf (σ i) c→¬ (c=w.heap.size∨c=b):=by
            intro i hne' hi2 hc
            rcases hc with hc | hc
            · have:=(block_lt_of_bref (h.blks i) hi2).1;omega
            · exact hne' (h.inj i id c hi2 (by rw [hσ,hc];rfl))
          rcases key1 i hi with ⟨a1,a2⟩ | ⟨a1,a2,a3⟩ <;> rcases key1 j hj with ⟨b1,b2⟩ | ⟨b1,b2,b3⟩
          · rw [a1,b1]
          · exact absurd a2 (old j b2 b3)
          · exact absurd b2 (old i a2 a3)
          · exact h.inj i j c a3 b3
      · cases hf
    · cases hf
  · cases hf
theorem entryZ_sound {o:Oper} {x:Operand} {a:A} {r:Out} (h:RelL P w0 N σ s tms w) (hf:entryZ s.hp a=some r) (ho:o.op = .entry x) (hx:ARel P w (Al w0 w σ s.hp) σ (ρ x) a):OpOk P w0 N s tms o ρ w r:=by
  unfold entryZ at hf
  split at hf
  · rename_i id
    split at hf
    · rename_i kk vp c l hb
      simp only [Option.some.injEq] at hf;subst hf
      have hB:=h.blks id
      rw [hb] at hB
      obtain ⟨r,b,es,clock,since,seen,c0,hσ,_,_,hr,hm,⟨hok,_,_⟩,_,⟨rfl,e,he,hbk,hk,hv⟩⟩:=hB
      have hpv:=it_ref hx hσ
      have hseen:∃ s0:Array Nat,seen=s0.push e.born:=Array.back?_eq_some_iff.1 hbk
      obtain ⟨s0,rfl⟩:=hseen
      have hrun:=run_entry_at (P:=P) w r b since s0 es c0 e hr hm he hok.2
      refine OpOk.pure (v:=.tuple #[e.key,e.val]) h ?_ trivial rfl ?_
      · simp only [execOp,ho]
        rw [hpv]
        exact run_value hrun
      · refine .tup [e.key,e.val] _ rfl (fun i hi=>?_)
        match i,hi with
        | 0,_=>exact .c _ _ _ hk
        | 1,_=>exact argRel_pack hv
    · cases hf
  · cases hf
theorem opZ_sound {o:Oper} {r:Out} {v:Operand→A} (h:RelL P w0 N σ s tms w) (hop:opZ P o s.hp v=some r) (hv:∀ x,x∈o.op.operands→ARel P w (Al w0 w σ s.hp) σ (ρ x) (v x)):OpOk P w0 N s tms o ρ w r:=by
  unfold opZ at hop
  split at hop
  · rename_i x ho;exact nilZ_sound h hop ho (hv x (by rw [ho];simp [Op.operands]))
  · rename_i t x ho;exact rangeZ_sound h hop ho (hv x (by rw [ho];simp [Op.operands]))
  · rename_i x ho;exact entryZ_sound h hop ho (hv x (by rw [ho];simp [Op.operands]))
  · cases hop
theorem stepZ_ok:StepSound P (stepZ P):=by
  intro N ops o s K hok h
  unfold stepZ at h
  split at h
  · rename_i hg
    split at h
    · rename_i r hop
      obtain ⟨hn,hp,hK⟩:=h
      obtain ⟨_,ho⟩:=operOk_spec hok
      exact stepOk_of hg hok r (fun w0 a w σ hR=>opZ_sound hR hop (fun x hx=>plain_sound hR (ho x hx) (allNeeds_spec hn x (Array.mem_toList_iff.2 hx)))) hK
    · exact h.elim
  · exact h.elim
def stepL (o:Oper) (s:S) (K:S→Prop):Prop :=
  match o.guard,o.op with
  | none,.next x false=>match plainTm s.tm x with
    | .mref id=>match s.hp id with
      | .it kk vp _ l=>allNeeds s.tm [x]∧(l=[]→K ⟨updD s.tm o.dst (.tup [kb false]),s.hp⟩)∧(∀ e l',l.Perm (e :: l')→K ⟨updD s.tm o.dst (.tup [kb true,.unk,.unk]),upd s.hp id (.it kk vp (some e) l')⟩)
      | _=>False
    | _=>False
  | _,_=>False
theorem MRel.perm {kk:Kd} {vp:Bool×List Kd} {L:List MapEntry} {l:List (C×List C)} (h:MRel P w al kk vp L l):L.length=l.length∧∀ i (h1:i < L.length) (h2:i < l.length),RepC P w al kk L[i].key l[i].1∧ArgRel P w al vp L[i].val l[i].2:=by
  induction L generalizing l with
  | nil=>cases l with
    | nil=>exact ⟨rfl,fun i h=>by simp at h⟩
    | cons=>exact h.elim
  | cons a L ih=>cases l with
    | nil=>exact h.elim
    | cons b l =>
      obtain ⟨h1,h2,h3⟩:=h
      obtain ⟨e,hr⟩:=ih h3
      refine ⟨by simp [e],fun i hi hj=>?_⟩
      cases i with
      | zero=>exact ⟨h1,h2⟩
      | succ i=>exact hr i (by simpa using hi) (by simpa using hj)
theorem MRel.pick {kk:Kd} {vp:Bool×List Kd}:∀ {L:List MapEntry} {l:List (C×List C)},MRel P w al kk vp L l→∀ {e:MapEntry},e∈L→∃ c l' L',l.Perm (c :: l')∧L.Perm (e :: L')∧RepC P w al kk e.key c.1∧ArgRel P w al vp e.val c.2∧MRel P w al kk vp L' l'
  | [],_,_,e,he=>by simp at he
  | _ :: _,[],h,_,_=>h.elim
  | a :: L,b :: l,h,e,he=>by
    rcases List.mem_cons.1 he with rfl | he
    · exact ⟨b,l,L,.refl _,.refl _,h.1,h.2.1,h.2.2⟩
    · obtain ⟨c,l',L',p1,p2,r1,r2,r3⟩:=MRel.pick h.2.2 he
      exact ⟨c,b :: l',a :: L',(p1.cons b).trans (.swap _ _ _),(p2.cons a).trans (.swap _ _ _),r1,r2,h.1,h.2.1,r3⟩
theorem left_push {es:Array MapEntry} {seen:Array Nat} {e:MapEntry} (hn:(es.toList.map (·.born)).Nodup) (he:e∈(leftOf es seen).toList):(leftOf es seen).toList.Perm (e :: (leftOf es (seen.push e.born)).toList):=by
  simp only [leftOf,Array.toList_filter] at he ⊢
  generalize es.toList=l at hn he ⊢
  induction l with
  | nil=>simp at he
  | cons a l ih =>
    simp only [List.map_cons,List.nodup_cons] at hn
    rcases List.mem_filter.1 he with ⟨hm,hs⟩
    rcases List.mem_cons.1 hm with rfl | hm
    · have e1:List.filter (fun x=>!(seen.push e.born).contains x.born) l=List.filter (fun x=>!seen.contains x.born) l:=by
        refine List.filter_congr fun x hx=>?_
        have:x.born≠e.born:=fun h=>hn.1 (by rw [← h];exact List.mem_map_of_mem hx)
        simp [this]
      have e2:List.filter (fun x=>!(seen.push e.born).contains x.born) (e :: l)=List.filter (fun x=>!(seen.push e.born).contains x.born) l:=by
        rw [List.filter_cons_of_neg];simp
      have e3:List.filter (fun x=>!seen.contains x.born) (e :: l)=e :: List.filter (fun x=>!seen.contains x.born) l:=List.filter_cons_of_pos (by simpa using hs)
      rw [e2,e1,e3]
    · have hne:a.born≠e.born:=fun h=>hn.1 (by rw [h];exact List.mem_map_of_mem hm)
      have ih':=ih hn.2 (List.mem_filter.2 ⟨hm,hs⟩)
      by_cases ha:seen.contains a.born=true
      · have h1:(seen.push e.born).contains a.born=true:=by
          simp only [Array.contains_iff_mem,Array.mem_push] at ha ⊢;exact .inl ha
        rw [List.filter_cons_of_neg (by simp only [ha];simp),List.filter_cons_of_neg (by simp only [h1];simp)]
        exact ih'
      · have h1:(seen.push e.born).contains a.born=false:=by
          rw [Bool.eq_false_iff]
          intro h
          simp only [Array.contains_iff_mem,Array.mem_push] at ha h
          rcases h with h | h
          · exact ha h
          · exact hne h
        simp only [Bool.not_eq_true] at ha
        rw [List.filter_cons_of_pos (by simp only [ha];rfl),List.filter_cons_of_pos (by simp only [h1];rfl)]
        exact (ih'.cons a).trans (.swap _ _ _)
theorem stepL_ok:StepSound P stepL:=by
  intro N ops o s K hok h
  unfold stepL at h
  split at h
  · rename_i x hg ho
    split at h
    · rename_i id hx
      split at h
      · rename_i kk vp cur l hb
        obtain ⟨hn,h1,h2⟩:=h
        intro w0 a w hR
        obtain ⟨hd,hop⟩:=operOk_spec hok
        refine ⟨fun _ K' Q hq=>?_,fun hw=>by rw [wanted_none hg] at hw;cases hw⟩
        obtain ⟨σ,hR⟩:=hR
        have hcv:=plain_sound hR (hop x (by rw [ho];simp [Op.operands])) (allNeeds_spec hn x (by simp))
        rw [hx] at hcv
        have hB:=hR.blks id
        rw [hb] at hB
        obtain ⟨r,b,es,clock,since,seen,c0,hσ,hBr,hBb,hr,hm,⟨hmk,hold,hsc,hsk⟩,⟨L,hL,hmr⟩,hcur⟩:=hB
        have hpv:=it_ref hcv hσ
        unfold Oper.wp
        rcases run_next_at (P:=P) w o.type r b since c0 seen es clock hr hm hold hsc with ⟨hz,hrun⟩ | ⟨e,he,w1,hw1,hrun⟩
        · have hl:l=[]:=by
            have h3:=hmr.perm.1
            have h4:=hL.length_eq
            have h5:(leftOf es seen).toList.length=0:=by simpa using hz
            exact List.eq_nil_of_length_eq_zero (by omega)
          have hrun':(execOp a.eval o).run P w = .ok (.value (.tuple #[.bool false])) w:=by
            simp only [execOp,ho]
            rw [hpv]
            exact run_value hrun
          rw [hrun']
          refine hq _ _ _ (put_defers _ _ _) (h1 hl) ⟨σ,Rel.putD hd hR ?_⟩
          exact .tup [.bool false] _ rfl (fun i hi=>by
            match i,hi with
            | 0,_=>exact ARel.mk_bool _)
        · have hrun':(execOp a.eval o).run P w = .ok (.value (.tuple #[.bool true,e.key,e.val])) (Go.ChangeMaps.setBlock w1 r (.mapIter (some b) since (seen.push e.born) clock)):=by
            simp only [execOp,ho]
            rw [hpv]
            exact run_value hrun
          rw [hrun']
          obtain ⟨c,l',L',p1,p2,r1,r2,r3⟩:=hmr.pick (hL.mem_iff.2 he)
          have hrb:r≠b:=by
            intro e;subst e;rw [hr] at hm;cases hm
          have hbel:∃ w2,w2=Go.ChangeMaps.setBlock w1 r (.mapIter (some b) since (seen.push e.born) clock)∧w2.heap.size=w.heap.size∧w2.os=w.os∧w2.tape=w.tape∧w2.output=w.output∧w2.heap[r]? = some (.mapIter (some b) since (seen.push e.born) clock)∧∀ k,k≠r→w2.heap[k]? = w.heap[k]? := by
            have hlt:=(Array.getElem?_eq_some_iff.1 hr).1
            refine ⟨_,rfl,?_⟩
            have hh:w1.heap=w.heap∧w1.os=w.os∧w1.tape=w.tape∧w1.output=w.output:=by rcases hw1 with rfl | rfl <;> exact ⟨rfl,rfl,rfl,rfl⟩
            obtain ⟨h3,h4,h5,h6⟩:=hh
            refine ⟨?_,h4,h5,h6,?_,fun k hk=>?_⟩
            · show (w1.heap.setIfInBounds r _).size=_
              rw [Array.size_setIfInBounds,h3]
            · show (w1.heap.setIfInBounds r _)[r]? = _
              rw [h3,Array.getElem?_setIfInBounds_self_of_lt hlt]
            · show (w1.heap.setIfInBounds r _)[k]? = _
              rw [Array.getElem?_setIfInBounds_ne (by omega),h3]
          obtain ⟨w2,hw2,hsz,hos,htp,hout,hrr,hoth⟩:=hbel
          rw [← hw2]
          have hW:RelL P w0 N σ ⟨s.tm,upd s.hp id (.it kk vp (some c) l')⟩ a.tmps w2:=by
            refine hR.write (b:=r) (by rw [hσ];exact .inl rfl) (by simp [hb,isFrz]) _ hsz hos htp hout hoth (fun hal hheap=>?_)
            refine ⟨r,b,es,clock,since,seen.push e.born,clock,hσ,hBr,hBb,hrr,(hoth b (Ne.symm hrb)).trans hm,⟨hmk,hold,hsk,hsk⟩,⟨L',?_,r3.mono hheap hal⟩,⟨rfl,e,?_,by simp,r1.mono hheap hal,r2.mono hheap hal⟩⟩
            · have q1:=left_push hmk.2 he
              have q2:(e :: L').Perm (e :: (leftOf es (seen.push e.born)).toList):=(p2.symm.trans hL).trans q1
              exact q2.cons_inv
            · have h9:e∈(leftOf es seen).toList:=he
              simp only [leftOf,Array.toList_filter,List.mem_filter] at h9;exact h9.1
          refine hq _ _ _ (put_defers _ _ _) (h2 c l' p1) ⟨σ,Rel.putD hd hW ?_⟩
          exact .tup [.bool true,e.key,e.val] _ rfl (fun i hi=>by
            match i,hi with
            | 0,_=>exact ARel.mk_bool _
            | 1,_=>exact .unk _
            | 2,_=>exact .unk _)
      · exact h.elim
    · exact h.elim
  · exact h.elim
end Go.AE
