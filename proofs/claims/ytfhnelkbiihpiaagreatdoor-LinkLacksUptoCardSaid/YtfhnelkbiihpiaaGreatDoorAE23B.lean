/- Text. -/
import Derived.Test.YtfhnelkbiihpiaaGreatDoorAE22
set_option linter.unusedSimpArgs false
set_option linter.unusedVariables false
open _root_.Bool renaming and_eq_true→jd
open _root_.List renaming mem_cons→jv,mem_append→jf,getD_cons_succ→jS,getD_cons_zero→j8,getD_eq_getElem?_getD→jb,getElem?_eq_none→jE
namespace Go.AE
open Go.RowKit (Below)
variable {P:Program} {w0:Base} {w:World} {N:Nat} {σ:Nat→RefI} {s:S} {tms:Array Value} {ρ:Operand→Value} {al:Nat→Prop} {Γ:List Fn}
mutual
def renM (m:Nat→Nat):A→A
 | .own id ks off len=>.own (m id) ks off len
 | .box id off=>.box (m id) off
 | .bsl id len=>.bsl (m id) len
 | .elt id sz ks i off=>.elt (m id) sz ks i off
 | .mref id=>.mref (m id)
 | .agg xs=>.agg (bj8 m xs)
 | .fnv f xs=>.fnv f (bj8 m xs)
 | .fnb f xs=>.fnb f (bj8 m xs)
 | .c k x=>.c k x
 | .nilsl=>.nilsl
 | .pp ks cells off=>.pp ks cells off
 | .rg id k x=>.rg (m id) k x
 | .rp id ks cells off=>.rp (m id) ks cells off
 | _=>.unk
def bj8 (m:Nat→Nat):List A→List A
 | []=>[]
 | a :: as=>renM m a :: bj8 m as
end
mutual
def okM (k:Nat):A→Bool
 | .own id _ _ _=>decide (id < k)
 | .box id _=>decide (id < k)
 | .bsl id _=>decide (id < k)
 | .elt id _ _ _ _=>decide (id < k)
 | .mref id=>decide (id < k)
 | .agg xs=>okMs k xs
 | .fnv _ xs=>okMs k xs
 | .fnb _ xs=>okMs k xs
 | .c _ _=>true
 | .nilsl=>true
 | .pp _ _ _=>true
 | .unk=>true
 | .rg id _ _=>decide (id < k)
 | .rp id _ _ _=>decide (id < k)
 | _=>false
def okMs (k:Nat):List A→Bool
 | []=>true
 | a :: as=>okM k a && okMs k as
end
def renB (m:Nat→Nat):Blk→Blk
 | .rl t es i j a=>.rl t es i j (renM m a)
 | .box cells=>.box (bj8 m cells)
 | b=>b
def okB (k:Nat):Blk→Bool
 | .box cells=>okMs k cells
 | .row _ _=>true
 | .mp _ _ _=>true
 | .rl _ _ _ _ a=>okM k a
 | .reg=>true
 | .wob=>true
 | _=>false
theorem aji (m:Nat→Nat) (as:List A):(bj8 m as).length=as.length:=by
 induction as with
 | nil=>rfl
 | cons a as ih=>simp [bj8,ih]
theorem azp (m:Nat→Nat) (as:List A) (i:Nat):(bj8 m as).getD i .unk=renM m (as.getD i .unk):=by
 induction as generalizing i with
 | nil=>simp [bj8,renM]
 | cons a as ih =>
  cases i with
  | zero=>simp [bj8]
  | succ i=>simpa [bj8] using ih i
theorem bk2 {k:Nat} {as:List A} (h:okMs k as=true) (i:Nat):okM k (as.getD i .unk)=true:=by
 induction as generalizing i with
 | nil=>simp [okM]
 | cons a as ih =>
  simp only [okMs,jd] at h
  cases i with
  | zero=>simpa using h.1
  | succ i=>simpa using ih h.2 i
theorem cjp {σr σ':Nat→RefI} {m:Nat→Nat} {v:Value} {a:A} (h:ARel P w al σr v a) (hs:∀ j,σr j≠.dead→σ' (m j)=σr j):ARel P w al σ' v (renM m a):=by
 induction h with
 | unk v=>exact .unk v
 | c k v x h=>exact .c k v x h
 | nilsl=>exact .nilsl
 | agg vs xs hl h ih =>
  simp only [renM]
  refine .agg vs _ (by rw [aji];exact hl) (fun i hi=>?_)
  rw [aji] at hi
  rw [azp];exact ih i hi
 | tup vs xs hl h ih=>exact .unk _
 | ownGone v id ks off len h=>exact .ownGone v _ ks off len (by rw [hs id (by simp [h]),h])
 | eltGone v id sz ks i off h=>exact .eltGone v _ sz ks i off (by rw [hs id (by simp [h]),h])
 | ownNil id ks off t h ho=>exact .ownNil _ ks off t (by rw [hs id (by simp [h]),h]) ho
 | own0 id ks len b cap n t h hl=>exact .own0 _ ks len b cap n t (by rw [hs id (by simp [h]),h]) hl
 | ownOff id ks off len b cap n cap' t h ho hl hc=>exact .ownOff _ ks off len b cap n cap' t (by rw [hs id (by simp [h]),h]) ho hl hc
 | ownOff0 a id ks off b cap n cap' t h ho hl=>exact .ownOff0 a _ ks off b cap n cap' t (by rw [hs id (by simp [h]),h]) ho hl
 | box id off b h=>exact .box _ off b (by rw [hs id (by simp [h]),h])
 | bsl id len b cap h=>exact .bsl _ len b cap (by rw [hs id (by simp [h]),h])
 | elt id ks0 ks i off b cap n t h hi hk=>exact .elt _ ks0 ks i off b cap n t (by rw [hs id (by simp [h]),h]) hi hk
 | pp ks cells off b o hal f hcell hrep=>exact .pp ks cells off b o hal f hcell hrep
 | fnv f caps vs hl h ih =>
  simp only [renM]
  refine .fnv f _ vs (by rw [aji];exact hl) (fun i hi=>?_)
  rw [aji] at hi
  rw [azp];exact ih i hi
 | fnb f caps vs hl h ih =>
  simp only [renM]
  refine .fnb f _ vs (by rw [aji];exact hl) (fun i hi=>?_)
  rw [aji] at hi
  rw [azp];exact ih i hi
 | mref id b h=>exact .mref _ b (by rw [hs id (by simp [h]),h])
 | mrefGone v id h=>exact .mrefGone _ _ (by rw [hs id (by simp [h]),h])
 | itr id r b h=>exact .itr _ r b (by rw [hs id (by simp [h]),h])
 | whenT v a h ih=>exact .unk _
 | whenF a=>exact .unk _
 | rg v id k x W Q h hr=>exact .rg v _ k x W Q (by rw [hs id (by simp [h]),h]) hr
 | rgGone v id k x h=>exact .rgGone v _ k x (by rw [hs id (by simp [h]),h])
 | rp id ks cells off b o W Q h hal f hcell hrep=>exact .rp _ ks cells off b o W Q (by rw [hs id (by simp [h]),h]) hal f hcell hrep
 | rpGone v id ks cells off h=>exact .rpGone v _ ks cells off (by rw [hs id (by simp [h]),h])
theorem dk4 {σr σ':Nat→RefI} {m:Nat→Nat} {v:Value} {as:List A} (h:ARel P w al σr v (ayh as)) (hs:∀ j,σr j≠.dead→σ' (m j)=σr j):ARel P w al σ' v (ayh (bj8 m as)):=by
 have tup:∀ as:List A,ARel P w al σr v (.tup as)→ARel P w al σ' v (.tup (bj8 m as)):=by
  intro as h
  cases h with
  | tup vs _ hl hh =>
   refine .tup vs _ (by rw [aji];exact hl) (fun i hi=>?_)
   rw [aji] at hi
   rw [azp];exact cjp (hh i hi) hs
 cases as with
 | nil=>exact tup [] h
 | cons a as =>
  cases as with
  | nil=>exact cjp h hs
  | cons b as=>exact tup (a :: b :: as) h
theorem ckd {σ0:Nat→RefI} {m:Nat→Nat} {k:Nat} {v:Value} {b:A} (h:ARel P w al σ v b) (hs:∀ j,j < k→σ0 j=σ (m j)):∀ a,b=renM m a→okM k a=true→ARel P w al σ0 v a:=by
 induction h with
 | unk v=>intro a e ho;cases a <;> simp [renM] at e <;> first | exact .unk _ | simp [okM] at ho
 | c k v x h=>intro a e ho;cases a <;> simp [renM] at e;obtain ⟨rfl,rfl⟩:=e;exact .c _ v _ h
 | nilsl=>intro a e ho;cases a <;> simp [renM] at e;exact .nilsl
 | agg vs xs hl h ih =>
  intro a e ho
  cases a <;> simp [renM] at e
  subst e
  rw [aji] at hl
  refine .agg vs _ hl (fun i hi=>?_)
  exact ih i (by rw [aji];exact hi) _ (azp _ _ _) (bk2 (by simpa [okM] using ho) i)
 | tup vs xs hl h ih=>intro a e ho;cases a <;> simp [renM] at e
 | ownGone v id ks off len h =>
  intro a e ho
  cases a <;> simp [renM] at e
  obtain ⟨rfl,rfl,rfl,rfl⟩:=e
  exact .ownGone v _ _ _ _ (by rw [hs _ (by simpa [okM] using ho)];exact h)
 | eltGone v id sz ks i off h =>
  intro a e ho
  cases a <;> simp [renM] at e
  obtain ⟨rfl,rfl,rfl,rfl,rfl⟩:=e
  exact .eltGone v _ _ _ _ _ (by rw [hs _ (by simpa [okM] using ho)];exact h)
 | ownNil id ks off t h h0 =>
  intro a e ho
  cases a <;> simp [renM] at e
  obtain ⟨rfl,rfl,rfl,rfl⟩:=e
  exact .ownNil _ _ _ t (by rw [hs _ (by simpa [okM] using ho)];exact h) h0
 | own0 id ks len b cap n t h hl =>
  intro a e ho
  cases a <;> simp [renM] at e
  obtain ⟨rfl,rfl,rfl,rfl⟩:=e
  exact .own0 _ _ _ b cap n t (by rw [hs _ (by simpa [okM] using ho)];exact h) hl
 | ownOff id ks off len b cap n cap' t h h0 hl hc =>
  intro a e ho
  cases a <;> simp [renM] at e
  obtain ⟨rfl,rfl,rfl,rfl⟩:=e
  exact .ownOff _ _ _ _ b cap n cap' t (by rw [hs _ (by simpa [okM] using ho)];exact h) h0 hl hc
 | ownOff0 ad id ks off b cap n cap' t h h0 hl =>
  intro a e ho
  cases a <;> simp [renM] at e
  obtain ⟨rfl,rfl,rfl,rfl⟩:=e
  exact .ownOff0 ad _ _ _ b cap n cap' t (by rw [hs _ (by simpa [okM] using ho)];exact h) h0 hl
 | box id off b h =>
  intro a e ho
  cases a <;> simp [renM] at e
  obtain ⟨rfl,rfl⟩:=e
  exact .box _ _ b (by rw [hs _ (by simpa [okM] using ho)];exact h)
 | bsl id len b cap h =>
  intro a e ho
  cases a <;> simp [renM] at e
  obtain ⟨rfl,rfl⟩:=e
  exact .bsl _ _ b cap (by rw [hs _ (by simpa [okM] using ho)];exact h)
 | elt id ks0 ks i off b cap n t h hi hk =>
  intro a e ho
  cases a <;> simp [renM] at e
  obtain ⟨rfl,e2,rfl,rfl,rfl⟩:=e
  subst e2
  exact .elt _ ks0 _ _ _ b cap n t (by rw [hs _ (by simpa [okM] using ho)];exact h) hi hk
 | pp ks cells off b o hal f hcell hrep =>
  intro a e ho
  cases a <;> simp [renM] at e
  obtain ⟨rfl,rfl,rfl⟩:=e
  exact .pp _ _ _ b o hal f hcell hrep
 | fnv f caps vs hl h ih =>
  intro a e ho
  cases a <;> simp [renM] at e
  obtain ⟨rfl,e⟩:=e
  subst e
  rw [aji] at hl
  refine .fnv f _ vs hl (fun i hi=>?_)
  exact ih i (by rw [aji];exact hi) _ (azp _ _ _) (bk2 (by simpa [okM] using ho) i)
 | fnb f caps vs hl h ih =>
  intro a e ho
  cases a <;> simp [renM] at e
  obtain ⟨rfl,e⟩:=e
  subst e
  rw [aji] at hl
  refine .fnb f _ vs hl (fun i hi=>?_)
  exact ih i (by rw [aji];exact hi) _ (azp _ _ _) (bk2 (by simpa [okM] using ho) i)
 | mref id b h =>
  intro a e ho
  cases a <;> simp [renM] at e
  subst e
  exact .mref _ b (by rw [hs _ (by simpa [okM] using ho)];exact h)
 | mrefGone v id h =>
  intro a e ho
  cases a <;> simp [renM] at e
  subst e
  exact .mrefGone _ _ (by rw [hs _ (by simpa [okM] using ho)];exact h)
 | itr id r b h =>
  intro a e ho
  cases a <;> simp [renM] at e
  subst e
  exact .itr _ r b (by rw [hs _ (by simpa [okM] using ho)];exact h)
 | whenT v a h ih=>intro a e ho;cases a <;> simp [renM] at e
 | whenF a=>intro a e ho;cases a <;> simp [renM] at e
 | rg v id k x W Q h hr =>
  intro a e ho
  cases a <;> simp [renM] at e
  obtain ⟨rfl,rfl,rfl⟩:=e
  exact .rg v _ _ _ W Q (by rw [hs _ (by simpa [okM] using ho)];exact h) hr
 | rgGone v id k x h =>
  intro a e ho
  cases a <;> simp [renM] at e
  obtain ⟨rfl,rfl,rfl⟩:=e
  exact .rgGone v _ _ _ (by rw [hs _ (by simpa [okM] using ho)];exact h)
 | rp id ks cells off b o W Q h hal f hcell hrep =>
  intro a e ho
  cases a <;> simp [renM] at e
  obtain ⟨rfl,rfl,rfl,rfl⟩:=e
  exact .rp _ _ _ _ b o W Q (by rw [hs _ (by simpa [okM] using ho)];exact h) hal f hcell hrep
 | rpGone v id ks cells off h =>
  intro a e ho
  cases a <;> simp [renM] at e
  obtain ⟨rfl,rfl,rfl,rfl⟩:=e
  exact .rpGone v _ _ _ _ (by rw [hs _ (by simpa [okM] using ho)];exact h)
inductive Arg where
 | dat (p:Bool×List Kd) (c:List C)
 | ref (a:A)
def ArgM (P:Program) (w:World) (al:Nat→Prop) (σ:Nat→RefI):Arg→Value→Prop
 | .dat p c,v=>ArgRel P w al p v c
 | .ref a,v=>ARel P w al σ v a
def muOf (σ:Nat→RefI) (b:Nat):Prop:=∃ j,aj0 (σ j) b
structure ResM (P:Program) (w:World) (al:Nat→Prop) (σ:Nat→RefI) (w':World) (v:Value) (res:List A) (hs':List Blk):Prop where
 below:az1 w.heap.size (muOf σ) w w'
 rel:∃ σ':Nat→RefI,(∀ j,BRel P w' (Base.wr ⟨w,al,muOf σ,σ,noMk,0⟩) (Al ⟨w,al,muOf σ,σ,noMk,0⟩ w' σ' (aja hs')) σ' j (aja hs' j)) ∧
  (∀ i j b,aj0 (σ' i) b→aj0 (σ' j) b→i=j) ∧
  (∀ j,σ j≠.dead→σ' j=σ j∨(σ' j = .gone∧bqw (σ j))) ∧
  ARel P w' (Al ⟨w,al,muOf σ,σ,noMk,0⟩ w' σ' (aja hs')) σ' v (ayh res)
structure bjw (P:Program) (f:FuncId) (as:List Arg) (hs:List Blk) (res:List A) (hs':List Blk):Prop where
 enter:∀ args w,(callFunc f args).run P w = .ok (.enter f args) w
 le:hs.length≤hs'.length
 calls:∀ (w:World) (al:Nat→Prop) (σ:Nat→RefI) (vs:List Value),(∀ b,al b→b < w.heap.size∧∀ j,¬ aj0 (σ j) b) →
  (∀ j,BRel P w (fun b=>b < w.heap.size) al σ j (aja hs j))→(∀ i j b,aj0 (σ i) b→aj0 (σ j) b→i=j) →
  vs.length=as.length→(∀ i,i < as.length→ArgM P w al σ (as.getD i (.ref .unk)) (vs.getD i undef)) →
  Calls P f vs.toArray w (fun e w'=>∃ v,e = .returned v∧ResM P w al σ w' v res hs')
def mL (ids:List Nat) (j:Nat):Nat:=ids.getD j 0
def ekq (d:Nat):Nat→Nat→List Nat
 | _,0=>[]
 | j,n+1=>key d j :: ekq d (j+1) n
def putAll:List Nat→List Blk→(Nat→Blk)→(Nat→Blk)
 | i :: is,b :: bs,hp=>putAll is bs (upd hp i b)
 | _,_,hp=>hp
def aq1 (hp:Nat→Blk) (m:Nat→Nat) (k:Nat):List Arg→List A→Prop
 | [],[]=>True
 | .dat p c :: gs,a :: as=>azx hp p a=some c∧aq1 hp m k gs as
 | .ref a0 :: gs,a :: as=>a=renM m a0∧okM k a0=true∧aq1 hp m k gs as
 | _,_=>False
def aqw:List Arg→List A→List Nat
 | .dat _ _ :: gs,a :: as=>(aje a).flatMap ajc ++ aqw gs as
 | _ :: gs,_ :: as=>aqw gs as
 | _,_=>[]
def bja (hp:Nat→Blk) (m:Nat→Nat) (k:Nat):List Nat→List Blk→Prop
 | [],[]=>True
 | i :: is,b :: bs=>hp i=renB m b∧okB k b=true∧bja hp m k is bs
 | _,_=>False
def ak6 (hp:Nat→Blk):List Nat→Bool
 | []=>true
 | i :: is=>aqh (hp i) && ak6 hp is
def disj (ids:List Nat):List Nat→Bool
 | []=>true
 | i :: is=>cjj i ids && disj ids is
def bqg:List Nat→Bool
 | []=>true
 | i :: is=>cjj i is && bqg is
theorem cqk {id:Nat}:∀ {l:List Nat},cjj id l=true↔id ∉ l
 | []=>by simp [cjj]
 | x :: xs=>by
  simp only [cjj,jd,Bool.not_eq_true',beq_eq_false_iff_ne,cqk,jv,not_or]
  exact ⟨fun h=>⟨fun e=>h.1 e.symm,h.2⟩,fun h=>⟨fun e=>h.1 e.symm,h.2⟩⟩
theorem cww:∀ {l:List Nat},bqg l=true→l.Nodup
 | [],_=>.nil
 | x :: xs,h=>by
  simp only [bqg,jd,cqk] at h
  exact List.nodup_cons.2 ⟨h.1,cww h.2⟩
theorem dwv {ids:List Nat}:∀ {l:List Nat},disj ids l=true→∀ i∈l,i ∉ ids
 | [],_,i,hi=>by simp at hi
 | x :: xs,h,i,hi=>by
  simp only [disj,jd,cqk] at h
  rcases jv.1 hi with rfl | hi
  ·exact h.1
  ·exact dwv h.2 i hi
theorem cw1 {hp:Nat→Blk}:∀ {l:List Nat},ak6 hp l=true→∀ i∈l,hp i = .dead
 | [],_,i,hi=>by simp at hi
 | x :: xs,h,i,hi=>by
  simp only [ak6,jd] at h
  rcases jv.1 hi with rfl | hi
  ·exact ajw h.1
  ·exact cw1 h.2 i hi
theorem cqb {hp:Nat→Blk} {m:Nat→Nat} {k:Nat}:∀ {is:List Nat} {bs:List Blk},bja hp m k is bs→is.length=bs.length∧∀ j,j < bs.length→hp (is.getD j 0)=renB m (bs.getD j .dead)∧okB k (bs.getD j .dead)=true
 | [],[],_=>⟨rfl,fun j hj=>by simp at hj⟩
 | [],_ :: _,h=>h.elim
 | _ :: _,[],h=>h.elim
 | i :: is,b :: bs,h=>by
  obtain ⟨h1,h2,h3⟩:=h
  obtain ⟨l,hr⟩:=cqb h3
  refine ⟨by simp [l],fun j hj=>?_⟩
  cases j with
  | zero=>exact ⟨by simpa using h1,by simpa using h2⟩
  | succ j=>simpa using hr j (by simpa using hj)
theorem bq2 {hp:Nat→Blk} {m:Nat→Nat} {k:Nat}:∀ {gs:List Arg} {as:List A},aq1 hp m k gs as→as.length=gs.length∧∀ i,i < gs.length→match gs.getD i (.ref .unk) with
  | .dat p c=>azx hp p (as.getD i .unk)=some c∧∀ id,id∈(aje (as.getD i .unk)).flatMap ajc→id∈aqw gs as
  | .ref a0=>as.getD i .unk=renM m a0∧okM k a0=true
 | [],[],_=>⟨rfl,fun i hi=>by simp at hi⟩
 | [],_ :: _,h=>by simp [aq1] at h
 | g :: _,[],h=>by cases g <;> simp [aq1] at h
 | .dat p c :: gs,a :: as,h=>by
  simp only [aq1] at h
  obtain ⟨l,hr⟩:=bq2 h.2
  refine ⟨by simp [l],fun i hi=>?_⟩
  cases i with
  | zero=>exact ⟨h.1,fun id hid=>jf.2 (.inl (by simpa using hid))⟩
  | succ i =>
   have:=hr i (by simpa using hi)
   simp only [jS] at this ⊢
   split
   ·rename_i p' c' e
    rw [e] at this
    exact ⟨this.1,fun id hid=>jf.2 (.inr (this.2 id hid))⟩
   ·rename_i a0 e
    rw [e] at this;exact this
 | .ref a0 :: gs,a :: as,h=>by
  simp only [aq1] at h
  obtain ⟨l,hr⟩:=bq2 h.2.2
  refine ⟨by simp [l],fun i hi=>?_⟩
  cases i with
  | zero=>exact ⟨h.1,h.2.1⟩
  | succ i=>simpa [aqw] using hr i (by simpa using hi)
theorem by3 {hp:Nat→Blk} {m:Nat→Nat} {k:Nat}:∀ {gs:List Arg} {as:List A},aq1 hp m k gs as→∀ id,id∈aqw gs as→∃ t es,hp id = .row t es∨hp id = .frz t es
 | [],[],_,id,hid=>by simp [aqw] at hid
 | [],_ :: _,h,_,_=>by simp [aq1] at h
 | g :: _,[],h,_,_=>by cases g <;> simp [aq1] at h
 | .dat p c :: gs,a :: as,h,id,hid=>by
  simp only [aq1] at h
  simp only [aqw] at hid
  rcases jf.1 hid with hid | hid
  ·exact bzg h.1 id hid
  ·exact by3 h.2 id hid
 | .ref a0 :: gs,a :: as,h,id,hid=>by
  simp only [aq1] at h
  exact by3 h.2.2 id (by simpa [aqw] using hid)
theorem by0:∀ {is:List Nat} {bs:List Blk} {hp:Nat→Blk} {id:Nat},id ∉ is→putAll is bs hp id=hp id
 | [],bs,hp,id,_=>by simp [putAll]
 | i :: is,[],hp,id,_=>by simp [putAll]
 | i :: is,b :: bs,hp,id,h=>by
  simp only [jv,not_or] at h
  simp only [putAll]
  rw [by0 h.2]
  simp [upd,h.1]
theorem dju:∀ {is:List Nat} {bs:List Blk} {hp:Nat→Blk} {j:Nat},is.Nodup→is.length=bs.length→j < is.length→putAll is bs hp (is.getD j 0)=bs.getD j .dead
 | [],bs,hp,j,_,_,hj=>by simp at hj
 | i :: is,[],hp,j,_,hl,_=>by simp at hl
 | i :: is,b :: bs,hp,j,hn,hl,hj=>by
  obtain ⟨h1,h2⟩:=List.nodup_cons.1 hn
  simp only [putAll]
  cases j with
  | zero=>rw [j8,j8,by0 h1];simp [upd]
  | succ j =>
   simp only [jS]
   exact dju h2 (by simpa using hl) (by simpa using hj)
end Go.AE
/-
 Calls that are handed blocks of the caller's own: at the caller.
-/
namespace Go.AE
open Go.RowKit (Below)
variable {P:Program} {w0:Base} {w:World} {N:Nat} {σ:Nat→RefI} {s:S} {tms:Array Value} {ρ:Operand→Value} {al:Nat→Prop} {Γ:List Fn}
theorem cjq {l:List Nat} {j:Nat} (h:j < l.length):l.getD j 0∈l:=by
 have:l.getD j 0=l[j]:=by simp [jb,h]
 rw [this];exact List.getElem_mem h
theorem ewm {l:List Nat} {i:Nat} (h:i∈l):∃ j,j < l.length∧l.getD j 0=i:=by
 obtain ⟨j,hj,rfl⟩:=List.getElem_of_mem h
 exact ⟨j,hj,by simp [jb,hj]⟩
theorem dk5 {l:List Nat} (h:l.Nodup) {i j:Nat} (hi:i < l.length) (hj:j < l.length) (e:l.getD i 0=l.getD j 0):i=j:=by
 have e1:l.getD i 0=l[i]:=by simp [jb,hi]
 have e2:l.getD j 0=l[j]:=by simp [jb,hj]
 rw [e1,e2] at e
 exact (List.getElem_inj h).1 e
theorem dz7 {m:Nat→Nat} {K:Blk}:ake (renB m K)↔ake K:=by cases K <;> simp [renB,ake]
theorem BRel.ren {w':World} {B B':Nat→Prop} {al al':Nat→Prop} {σr σ':Nat→RefI} {m:Nat→Nat} {j id:Nat} {K:Blk} (h:BRel P w' B al σr j K) (hB:∀ b,B b→B' b) (ha:∀ b,al b→al' b) (hid:σ' id=σr j)
  (hs:∀ i,σr i≠.dead→σ' (m i)=σr i):BRel P w' B' al' σ' id (renB m K):=by
 cases K with
 | dead=>exact hid.trans h
 | gone=>exact hid.trans h
 | box cells =>
  obtain ⟨b,vs,t,hr,hb,hh,hl,hc⟩:=h
  refine ⟨b,vs,t,hid.trans hr,hB b hb,hh,by rw [aji];exact hl,fun i hi=>?_⟩
  rw [aji] at hi
  rw [azp]
  exact cjp ((hc i hi).mono (fun _ _=>rfl) ha (fun _ _=>.inl rfl)) hs
 | row t es =>
  simp only [renB,BRel] at h ⊢
  rw [hid]
  exact aq2.weaken h hB (.inl ha)
 | frz t es =>
  simp only [renB,BRel] at h ⊢
  rw [hid]
  exact aq2.weaken h hB (.inl ha)
 | mp kk vp mm =>
  obtain ⟨b,es,clock,hr,hb,hh,hk,hm⟩:=h
  exact ⟨b,es,clock,hid.trans hr,hB b hb,hh,hk,hm.mono (fun _ _=>rfl) ha⟩
 | rl t es i j a =>
  obtain ⟨E,hE,hby,h⟩:=h
  simp only [renB,BRel]
  rw [hid]
  refine ⟨E,hE,hby,h.imp (fun x=>x) ?_⟩
  rintro ⟨b,cap,cur,tg,e,hb,hh,h1,h2,h3,h4,h5,h6⟩
  exact ⟨b,cap,cur,tg,e,hB b hb,hh,h1,h2,h3,h4,fun i hi j hj hn=>(h5 i hi j hj hn).mono (fun _ _=>rfl) ha,fun hi=>⟨(h6 hi).1,cjp ((h6 hi).2.mono (fun _ _=>rfl) ha (fun _ _=>.inl rfl)) hs⟩⟩
 | it kk vp cur left =>
  obtain ⟨r,b,es,clock,since,seen,c0,hr,hb,hb2,hh,hh2,hk,⟨L,hL,hm⟩,hc⟩:=h
  exact ⟨r,b,es,clock,since,seen,c0,hid.trans hr,hB r hb,hB b hb2,hh,hh2,hk,⟨L,hL,hm.mono (fun _ _=>rfl) ha⟩,hc.mono (fun _ _=>rfl) ha⟩
 | reg =>
  obtain ⟨W,Q,hr,hq⟩:=h
  exact ⟨W,Q,hid.trans hr,fun b hb=>⟨hB b (hq b hb).1,(hq b hb).2⟩⟩
 | wob =>
  obtain ⟨W,Q,hr,hq⟩:=h
  exact ⟨W,Q,hid.trans hr,fun b hb=>⟨hB b (hq b hb).1,(hq b hb).2⟩⟩
theorem BRel.unren {B B':Nat→Prop} {al al':Nat→Prop} {σ0:Nat→RefI} {m:Nat→Nat} {k j id:Nat} {K:Blk} (h:BRel P w B al σ id (renB m K)) (hok:okB k K=true) (hB:∀ b,aj0 (σ id) b→B b→B' b) (ha:∀ b,al b→al' b) (hid:σ0 j=σ id)
  (hs:∀ i,i < k→σ0 i=σ (m i)):BRel P w B' al' σ0 j K:=by
 cases K with
 | box cells =>
  obtain ⟨b,vs,t,hr,hb,hh,hl,hc⟩:=h
  rw [aji] at hl
  refine ⟨b,vs,t,hid.trans hr,hB b (by rw [hr];rfl) hb,hh,hl,fun i hi=>?_⟩
  have:=hc i (by rw [aji];exact hi)
  rw [azp] at this
  exact (ckd this hs _ rfl (bk2 (by simpa [okB] using hok) i)).mono (fun _ _=>rfl) ha (fun _ _=>.inl rfl)
 | row t es =>
  simp only [renB,BRel] at h ⊢
  rw [hid]
  obtain ⟨E,hE,hby,h⟩:=h
  refine ⟨E,hE,hby,h.imp (fun x=>x) ?_⟩
  rintro ⟨b,cap,cur,tg,e,hb,hh,h1,h2,h3,h4,h5⟩
  exact ⟨b,cap,cur,tg,e,hB b (by rw [e];exact .inl rfl) hb,hh,h1,h2,h3,h4,fun i hi j hj=>(h5 i hi j hj).mono (fun _ _=>rfl) ha⟩
 | mp kk vp mm =>
  obtain ⟨b,es,clock,hr,hb,hh,hk,hm⟩:=h
  exact ⟨b,es,clock,hid.trans hr,hB b (by rw [hr];rfl) hb,hh,hk,hm.mono (fun _ _=>rfl) ha⟩
 | rl t es i j' a =>
  simp only [renB,BRel] at h ⊢
  rw [hid]
  obtain ⟨E,hE,hby,h⟩:=h
  refine ⟨E,hE,hby,h.imp (fun x=>x) ?_⟩
  rintro ⟨b,cap,cur,tg,e,hb,hh,h1,h2,h3,h4,h5,h6⟩
  exact ⟨b,cap,cur,tg,e,hB b (by rw [e];exact .inl rfl) hb,hh,h1,h2,h3,h4,fun i hi j hj hn=>(h5 i hi j hj hn).mono (fun _ _=>rfl) ha,fun hi=>⟨(h6 hi).1,(ckd (h6 hi).2 hs _ rfl (by simpa [okB] using hok)).mono (fun _ _=>rfl) ha (fun _ _=>.inl rfl)⟩⟩
 | reg =>
  obtain ⟨W,Q,hr,hq⟩:=h
  exact ⟨W,Q,hid.trans hr,fun b hb=>⟨hB b (by rw [hr];exact hb) (hq b hb).1,(hq b hb).2⟩⟩
 | wob =>
  obtain ⟨W,Q,hr,hq⟩:=h
  exact ⟨W,Q,hid.trans hr,fun b hb=>⟨hB b (by rw [hr];exact hb) (hq b hb).1,(hq b hb).2⟩⟩
 | _=>simp [okB] at hok
theorem cqg {f:FuncId} {as:List Arg} {hs hs':List Blk} {res:List A} {acts:List A} {ids keys:List Nat} {vs:List Value} (h00:tyI P 0=none) (C0:bjw P f as hs res hs') (h:RelL P w0 N σ s tms w)
  (hbl:bja s.hp (mL ids) hs.length ids hs) (hm:aq1 s.hp (mL ids) hs.length as acts) (hdj:disj ids (aqw as acts)=true) (hnd:bqg (ids ++ keys)=true) (hkd:ak6 s.hp keys=true) (hkl:keys.length+hs.length=hs'.length)
  (hvl:vs.length=acts.length) (hvs:∀ i,i < acts.length→ARel P w (Al w0 w σ s.hp) σ (vs.getD i undef) (acts.getD i .unk)) :
  Calls P f vs.toArray w (fun e w'=>∃ v,e = .returned v∧∃ σ',RelL P w0 N σ' ⟨s.tm,putAll (ids ++ keys) (hs'.map (renB (mL (ids ++ keys)))) (freezeAll s.hp (aqw as acts))⟩ tms w' ∧
   ARel P w' (Al w0 w' σ' (putAll (ids ++ keys) (hs'.map (renB (mL (ids ++ keys)))) (freezeAll s.hp (aqw as acts)))) σ' v (ayh (bj8 (mL (ids ++ keys)) res))):=by
 obtain ⟨hil,hbs⟩:=cqb hbl
 obtain ⟨hal,hma⟩:=bq2 hm
 have hnd0:=cww hnd
 have hndi:ids.Nodup:=(List.nodup_append.1 hnd0).1
 have hdj':=dwv hdj
 have hkd':=cw1 hkd
 have hrows:=by3 hm
 obtain ⟨hal1,hal2⟩:=bqs h (aqw as acts) hrows
 obtain ⟨hpF,hpFe⟩:∃ hpF,hpF=freezeAll s.hp (aqw as acts):=⟨_,rfl⟩
 rw [← hpFe] at hal1 hal2 ⊢
 have hz:RelL P w0 N σ ⟨s.tm,hpF⟩ tms w:=by rw [hpFe];exact h.freezeAll _
 have hpF0:∀ id,id ∉ aqw as acts→hpF id=s.hp id:=by
  intro id hid
  rw [hpFe,azm]
  rw [if_neg hid]
 obtain ⟨σ0,hσ0⟩:∃ σ0:Nat→RefI,σ0=fun j=>if j < hs.length then σ (ids.getD j 0) else .dead:=⟨_,rfl⟩
 have hσ0i:∀ j,j < hs.length→σ0 j=σ (ids.getD j 0):=fun j hj=>by rw [hσ0];simp only [];rw [if_pos hj]
 have hσ0o:∀ j,hs.length≤j→σ0 j = .dead:=fun j hj=>by rw [hσ0];simp only [];rw [if_neg (by omega)]
 have hblk0:∀ j b,aj0 (σ0 j) b→j < hs.length∧aj0 (σ (ids.getD j 0)) b:=by
  intro j b hb
  by_cases hj:j < hs.length
  ·rw [hσ0i j hj] at hb;exact ⟨hj,hb⟩
  ·rw [hσ0o j (by omega)] at hb;simp [aj0] at hb
 have hidF:∀ j,j < hs.length→hpF (ids.getD j 0)=renB (mL ids) (hs.getD j .dead):=by
  intro j hj
  rw [hpF0 _ (fun hin=>hdj' _ hin (cjq (by omega))),(hbs j hj).1]
 have hnf:∀ j,j < hs.length→¬ ake (hpF (ids.getD j 0)):=by
  intro j hj
  rw [hidF j hj,dz7]
  have:=(hbs j hj).2
  cases hk:hs.getD j .dead <;> rw [hk] at this <;> simp [okB] at this <;> simp [ake]
 have hlt:∀ b,Al w0 w σ hpF b→b < w.heap.size∧∀ j,¬ aj0 (σ0 j) b:=by
  intro b hb
  refine ⟨hb.1,fun j hj=>?_⟩
  obtain ⟨h1,h2⟩:=hblk0 j b hj
  exact hnf j h1 (hb.2.1 _ h2)
 have hargs:∀ i,i < as.length→ArgM P w (Al w0 w σ hpF) σ0 (as.getD i (.ref .unk)) (vs.getD i undef):=by
  intro i hi
  have h1:=hma i hi
  have h2:=hvs i (by omega)
  cases hg:as.getD i (.ref .unk) with
  | dat p c =>
   rw [hg] at h1
   exact bj9 h00 h hal1 h1.1 h2 (fun id hid b hb=>hal2 id (h1.2 id hid) b hb)
  | ref a0 =>
   rw [hg] at h1
   rw [h1.1] at h2
   exact (ckd h2 (k:=hs.length) (m:=mL ids) (fun j hj=>hσ0i j hj) a0 rfl h1.2).mono (fun _ _=>rfl) hal1 (fun _ _=>.inl rfl)
 have hB0:∀ j,BRel P w (fun b=>b < w.heap.size) (Al w0 w σ hpF) σ0 j (aja hs j):=by
  intro j
  by_cases hj:j < hs.length
  ·have:=hz.blks (ids.getD j 0)
   dsimp only at this
   rw [hidF j hj] at this
   exact this.unren (hbs j hj).2 (fun b hb _=>(aj3 (hz.blks _) hb).1) (fun _ hb=>hb) (hσ0i j hj) (fun i hi=>hσ0i i hi)
  ·have e:aja hs j = .dead:=by simp [aja,jb,jE (show hs.length≤j by omega)]
   rw [e];exact hσ0o j (by omega)
 have hinj0:∀ i j b,aj0 (σ0 i) b→aj0 (σ0 j) b→i=j:=by
  intro i j b hi hj
  obtain ⟨h1,h2⟩:=hblk0 i b hi
  obtain ⟨h3,h4⟩:=hblk0 j b hj
  exact dk5 hndi (by omega) (by omega) (h.inj _ _ b h2 h4)
 refine (C0.calls w (Al w0 w σ hpF) σ0 vs hlt hB0 hinj0 (by omega) hargs).mono ?_
 rintro e w' ⟨v,rfl,hbel,σr,hBr,hinjr,hold,hv⟩
 refine ⟨v,rfl,?_⟩
 -- the blocks, numbered at the caller
 obtain ⟨L,hL⟩:∃ L,L=ids ++ keys:=⟨_,rfl⟩
 rw [← hL] at hnd0 ⊢
 have hLl:L.length=hs'.length:=by rw [hL,List.length_append];omega
 have hLi:∀ j,j < hs.length→L.getD j 0=ids.getD j 0:=by
  intro j hj
  rw [hL,jb,List.getElem?_append_left (by omega),← jb]
 have hLk:∀ j,hs.length≤j→j < hs'.length→L.getD j 0∈keys:=by
  intro j h1 h2
  rw [hL,jb,List.getElem?_append_right (by omega),← jb]
  exact cjq (by omega)
 have hkdat:∀ k,k∈keys→hpF k = .dead:=by
  intro k hk
  have hd:=hkd' k hk
  rw [hpF0 k (fun hin=>?_)]
  ·exact hd
  ·obtain ⟨t,es,hr⟩:=hrows k hin
   rcases hr with hr | hr <;> rw [hd] at hr <;> cases hr
 have hkσ:∀ k,k∈keys→σ k = .dead:=fun k hk=>bj1 (hz.blks k) (hkdat k hk)
 obtain ⟨σ',hσ'⟩:∃ σ':Nat→RefI,σ'=fun id=>if id∈L then σr (L.idxOf id) else σ id:=⟨_,rfl⟩
 have hσn:∀ j,j < hs'.length→σ' (L.getD j 0)=σr j:=by
  intro j hj
  rw [hσ'];simp only []
  have hm:L.getD j 0∈L:=cjq (by omega)
  rw [if_pos hm]
  congr 1
  have e:L.getD j 0=L[j]:=by simp [jb,show j < L.length by omega]
  rw [e]
  exact List.Nodup.idxOf_getElem hnd0 j (by omega)
 have hσo:∀ id,id ∉ L→σ' id=σ id:=by
  intro id hid;rw [hσ'];simp only [];rw [if_neg hid]
 obtain ⟨hpO,hpOe⟩:∃ hpO,hpO=putAll L (hs'.map (renB (mL L))) hpF:=⟨_,rfl⟩
 rw [← hpOe]
 have hpn:∀ j,j < hs'.length→hpO (L.getD j 0)=renB (mL L) (aja hs' j):=by
  intro j hj
  rw [hpOe,dju hnd0 (by rw [List.length_map];exact hLl) (by omega)]
  simp [aja,jb,hj]
 have hpo:∀ id,id ∉ L→hpO id=hpF id:=fun id hid=>by rw [hpOe,by0 hid]
 have hrdead:∀ j,hs'.length≤j→σr j = .dead:=by
  intro j hj
  have:=hBr j
  have e:aja hs' j = .dead:=by simp [aja,jb,jE hj]
  rw [e] at this;exact this
 have hren:∀ j,σr j≠.dead→σ' (mL L j)=σr j:=by
  intro j hj
  have hlt':j < hs'.length:=by
   rcases Nat.lt_or_ge j hs'.length with h' | h'
   ·exact h'
   ·exact absurd (hrdead j h') hj
  exact hσn j hlt'
 have hmu:∀ b,muOf σ0 b→∃ j,j < hs.length∧aj0 (σ (ids.getD j 0)) b:=by
  rintro b ⟨j,hj⟩
  obtain ⟨h1,h2⟩:=hblk0 j b hj
  exact ⟨j,h1,h2⟩
 have hmual:∀ b,Al w0 w σ hpF b→¬ muOf σ0 b:=by
  intro b hb hmb
  obtain ⟨j,h1,h2⟩:=hmu b hmb
  exact hnf j h1 (hb.2.1 _ h2)
 have hnsz:w0.n≤w.heap.size:=h.below.size
 have hwr:∀ b,Base.wr ⟨w,Al w0 w σ hpF,muOf σ0,σ0,noMk,0⟩ b→w0.wr b:=by
  intro b hb
  rcases hb with hb | hb
  ·exact .inl (Nat.le_trans hnsz hb)
  ·obtain ⟨j,h1,h2⟩:=hmu b hb
   exact (aj3 (hz.blks _) h2).2
 have hmem:∀ id,id∈L→∃ j,j < hs'.length∧L.getD j 0=id:=by
  intro id hid
  obtain ⟨j,hj,e⟩:=ewm hid
  exact ⟨j,by omega,e⟩
 -- a block of an old number that the call was not handed
 have hother:∀ id b,id ∉ L→aj0 (σ id) b→b < w.heap.size∧¬ muOf σ0 b:=by
  intro id b hid hb
  refine ⟨(aj3 (hz.blks id) hb).1,fun hmb=>?_⟩
  obtain ⟨j,h1,h2⟩:=hmu b hmb
  have:=h.inj _ _ b hb h2
  subst this
  exact hid (by rw [← hLi j h1];exact cjq (by omega))
 have hal:∀ b,Al w0 w σ hpF b→Al w0 w' σ' hpO b:=by
  intro b hb
  refine ⟨Nat.lt_of_lt_of_le hb.1 hbel.size,fun id hid=>?_,hb.2.2⟩
  by_cases hn:id∈L
  ·obtain ⟨j,hj,rfl⟩:=hmem id hn
   rw [hσn j hj] at hid
   exfalso
   rcases (aj3 (hBr j) hid).2 with h1 | h1
   ·have:=hb.1
    have:w.heap.size≤b:=h1
    omega
   ·exact hmual b hb h1
  ·rw [hσo id hn] at hid
   rw [hpo id hn];exact hb.2.1 id hid
 have halR:∀ b,Al ⟨w,Al w0 w σ hpF,muOf σ0,σ0,noMk,0⟩ w' σr (aja hs') b→Al w0 w' σ' hpO b:=by
  intro b hb
  refine ⟨hb.1,fun id hid=>?_,?_⟩
  ·by_cases hn:id∈L
   ·obtain ⟨j,hj,rfl⟩:=hmem id hn
    rw [hσn j hj] at hid
    rw [hpn j hj,dz7]
    exact hb.2.1 j hid
   ·rw [hσo id hn] at hid
    rw [hpo id hn]
    obtain ⟨o1,o2⟩:=hother id b hn hid
    rcases hb.2.2 with h3 | h3
    ·rcases h3 with h3 | h3
     ·have:w.heap.size≤b:=h3
      omega
     ·exact absurd h3 o2
    ·exact h3.2.1 id hid
  ·rcases hb.2.2 with h3 | h3
   ·exact .inl (hwr b h3)
   ·exact h3.2.2
 have hbelow:az1 w0.n w0.mu w0.world w':=by
  refine h.below.trans ⟨hbel.os,hbel.tape,hbel.output,hbel.size,fun k hk hnm=>hbel.block k (by omega) (fun hmb=>?_)⟩
  obtain ⟨j,h1,h2⟩:=hmu k hmb
  rcases (aj3 (hz.blks _) h2).2 with h3 | h3
  ·omega
  ·exact hnm h3
 refine ⟨σ',hz.change hbelow hbel.size hal (fun b hb=>hbel.block b hb.1 (hmual b hb)) ?_ ?_ ?_,?_⟩
 ·intro id hid
  by_cases hn:id∈L
  ·obtain ⟨j,hj,rfl⟩:=hmem id hn
   by_cases hjo:j < hs.length
   ·rw [hσn j hj]
    rw [hLi j hjo] at hid ⊢
    rw [← hσ0i j hjo] at hid ⊢
    exact hold j hid
   ·exact absurd (hkσ _ (hLk j (by omega) hj)) hid
  ·exact .inl (hσo id hn)
 ·intro id
  by_cases hn:id∈L
  ·obtain ⟨j,hj,rfl⟩:=hmem id hn
   refine .inr ?_
   rw [hpn j hj]
   exact (hBr j).ren hwr halR (hσn j hj) hren
  ·exact .inl ⟨hσo id hn,hpo id hn,fun b hb=>hbel.block b (hother id b hn hb).1 (hother id b hn hb).2⟩
 ·intro i j b hi hj
  by_cases hn:i∈L <;> by_cases hm':j∈L
  ·obtain ⟨i',hi',rfl⟩:=hmem i hn
   obtain ⟨j',hj',rfl⟩:=hmem j hm'
   rw [hσn i' hi'] at hi
   rw [hσn j' hj'] at hj
   rw [hinjr _ _ _ hi hj]
  ·obtain ⟨i',hi',rfl⟩:=hmem i hn
   rw [hσn i' hi'] at hi
   rw [hσo j hm'] at hj
   obtain ⟨o1,o2⟩:=hother j b hm' hj
   rcases (aj3 (hBr i') hi).2 with h1 | h1
   ·have:w.heap.size≤b:=h1
    omega
   ·exact absurd h1 o2
  ·obtain ⟨j',hj',rfl⟩:=hmem j hm'
   rw [hσn j' hj'] at hj
   rw [hσo i hn] at hi
   obtain ⟨o1,o2⟩:=hother i b hn hi
   rcases (aj3 (hBr j') hj).2 with h1 | h1
   ·have:w.heap.size≤b:=h1
    omega
   ·exact absurd h1 o2
  ·rw [hσo i hn] at hi
   rw [hσo j hm'] at hj
   exact hz.inj i j b hi hj
 ·exact dk4 (hv.mono (fun _ _=>rfl) halR (fun _ _=>.inl rfl)) hren
end Go.AE
