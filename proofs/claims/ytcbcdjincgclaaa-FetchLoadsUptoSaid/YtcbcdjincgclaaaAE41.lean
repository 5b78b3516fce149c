/- Text. -/
import Derived.Test.YtcbcdjincgclaaaAE35
import Derived.Test.YtcbcdjincgclaaaAE18
set_option linter.unusedSimpArgs false
set_option linter.unusedVariables false
set_option linter.unusedVariables false
namespace Go.AE
open Go.RowKit (Below)
variable {P:Program} {w0:Base} {w:World} {N:Nat} {σ:Nat→RefI} {s:S} {tms:Array Value} {ρ:Operand→Value} {al:Nat→Prop}
def allocL (w:World):List Value→List TypeId→World
  | v :: vs,t :: ts=>allocL (w.alloc (.cells #[v] t (0,0))) vs ts
  | _,_=>w
def ptrsL:Nat→List TypeId→List Value
  | n,_ :: ts=>.pointer (some ⟨n,0,none⟩) :: ptrsL (n+1) ts
  | _,[]=>[]
theorem ptrsL_len:∀ (n:Nat) (ts:List TypeId),(ptrsL n ts).length=ts.length
  | n,[]=>rfl
  | n,_ :: ts=>by simp [ptrsL,ptrsL_len (n+1) ts]
def Maker (P:Program) (f gf:FuncId) (ts:List TypeId):Prop :=
  (∀ args w,(callFunc f args).run P w = .ok (.enter f args) w) ∧
  ∀ (vs:List Value) (w:World),vs.length=ts.length→(∀ v,v∈vs→v.oneCell'=true)→Calls P f vs.toArray w fun e w'=>e = .returned (.func (.func gf) #[] (ptrsL w.heap.size ts).toArray)∧w'=allocL w vs ts
def boxL (d:Nat):Nat→List A→(Nat→Blk)→(Nat→Blk)
  | _,[],hp=>hp
  | j,a :: as,hp=>boxL d (j+1) as (upd hp (key d j) (.box [a]))
def boxRefs (d:Nat):Nat→List A→List A
  | _,[]=>[]
  | j,_ :: as=>.box (key d j) 0 :: boxRefs d (j+1) as
theorem boxRefs_len (d:Nat):∀ (j:Nat) (as:List A),(boxRefs d j as).length=as.length
  | j,[]=>rfl
  | j,_ :: as=>by simp [boxRefs,boxRefs_len d (j+1) as]
def deadL (d:Nat) (hp:Nat→Blk):Nat→List A→Bool
  | _,[]=>true
  | j,_ :: as=>isDead (hp (key d j)) && deadL d hp (j+1) as
theorem key_inj {d i j:Nat} (h:key d i=key d j):i=j:=by unfold key at h;omega
theorem deadL_upd {d i:Nat} {b:Blk}:∀ {as:List A} {j:Nat} {hp:Nat→Blk},i < j→deadL d hp j as=true→deadL d (upd hp (key d i) b) j as=true
  | [],_,_,_,_=>rfl
  | a :: as,j,hp,hi,h=>by
    simp only [deadL,Bool.and_eq_true] at h ⊢
    refine ⟨?_,deadL_upd (by omega) h.2⟩
    have:key d j≠key d i:=fun e=>by have:=key_inj e;omega
    simp only [upd,this,if_false];exact h.1
theorem rel_allocL (d:Nat):∀ (as:List A) (vs:List Value) (ts:List TypeId) (j:Nat) (σ:Nat→RefI) (hp:Nat→Blk) (w:World),RelL P w0 N σ ⟨s.tm,hp⟩ tms w→vs.length=as.length→ts.length=as.length→deadL d hp j as=true →
    (∀ i,i < as.length→ARel P w (Al w0 w σ hp) σ (vs.getD i undef) (as.getD i .unk)) →
    ∃ σ',RelL P w0 N σ' ⟨s.tm,boxL d j as hp⟩ tms (allocL w vs ts)∧(∀ id,σ id≠.dead→σ' id=σ id) ∧
      ∀ i,i < as.length→ARel P (allocL w vs ts) (Al w0 (allocL w vs ts) σ' (boxL d j as hp)) σ' ((ptrsL w.heap.size ts).getD i undef) ((boxRefs d j as).getD i .unk)
  | [],vs,ts,j,σ,hp,w,h,hv,ht,_,_=>by
    have:vs=[]:=List.eq_nil_of_length_eq_zero hv
    subst this
    exact ⟨σ,by simpa [boxL,allocL] using h,fun _ _=>rfl,fun i hi=>by simp at hi⟩
  | a :: as,[],ts,j,σ,hp,w,h,hv,ht,_,_=>by simp at hv
  | a :: as,v :: vs,[],j,σ,hp,w,h,hv,ht,_,_=>by simp at ht
  | a :: as,v :: vs,t :: ts,j,σ,hp,w,h,hv,ht,hd,hr=>by
    simp only [deadL,Bool.and_eq_true] at hd
    have h0:=hr 0 (by simp)
    simp only [List.getD_cons_zero] at h0
    have hσd:=bref_dead (h.blks (key d j)) (isDead_spec hd.1)
    have h1:RelL P w0 N (upd σ (key d j) (.box w.heap.size)) ⟨s.tm,upd hp (key d j) (.box [a])⟩ tms (w.alloc (.cells #[v] t (0,0))):=by
      refine h.alloc (isDead_spec hd.1) (.cells #[v] t (0,0)) (.box w.heap.size) _ (by simp [blockOf];try (intro c hc;exact hc.symm)) (fun hal hheap hs=>?_)
      refine ⟨w.heap.size,#[v],t,by simp [upd],.inl h.below.size,heap_alloc_new w _,rfl,fun k hk=>?_⟩
      have:k=0:=by simp at hk;omega
      subst this
      exact h0.mono hheap hal hs
    have hex:∀ id,σ id≠.dead→upd σ (key d j) (.box w.heap.size) id=σ id:=fun id hid=>by
      simp only [upd];split
      · rename_i e;subst e;exact absurd hσd hid
      · rfl
    obtain ⟨σ',h2,h3,h4⟩:=rel_allocL d as vs ts (j+1) _ _ _ h1 (by simpa using hv) (by simpa using ht) (deadL_upd (by omega) hd.2) (fun i hi=>by
      have:=hr (i+1) (by simpa using hi)
      simp only [List.getD_cons_succ] at this
      refine this.mono (fun b hb=>Below.heap_alloc w _ b hb.1) (fun b hb=>?_) (fun id hid=>.inl (hex id hid))
      refine ⟨Nat.lt_of_lt_of_le hb.1 (by simp),fun id hid=>?_,hb.2.2⟩
      simp only [upd] at hid ⊢
      by_cases e:id=key d j
      · simp only [e,if_true,blockOf] at hid
        have:=hb.1;omega
      · simp only [e,if_false] at hid ⊢;exact hb.2.1 id hid)
    refine ⟨σ',h2,fun id hid=>?_,fun i hi=>?_⟩
    · have e:=hex id hid
      rw [h3 id (by rw [e];exact hid),e]
    · cases i with
      | zero =>
        simp only [ptrsL,boxRefs,List.getD_cons_zero]
        refine .box _ _ _ ?_
        rw [h3 _ (by simp [upd])]
        simp [upd]
      | succ i =>
        simp only [ptrsL,boxRefs,List.getD_cons_succ]
        have:=h4 i (by simpa using hi)
        rw [show (w.alloc (.cells #[v] t (0,0))).heap.size=w.heap.size+1 by simp] at this
        exact this
def stepC (f gf:FuncId) (ts:List TypeId) (o:Oper) (s:S) (K:S→Prop):Prop :=
  match o.guard,o.op,o.dst with
  | none,.call c,some d=>match c.callee with
    | .value x=>match plainTm s.tm x with
      | .fnv g []=>g=f∧c.args.toList.length=ts.length∧allNeeds s.tm o.op.operands.toList∧deadL d s.hp 0 (c.args.toList.map (plainTm s.tm))=true∧allOne s.hp (c.args.toList.map (plainTm s.tm))=true ∧
        K ⟨upd s.tm d (.fnv gf (boxRefs d 0 (c.args.toList.map (plainTm s.tm)))),boxL d 0 (c.args.toList.map (plainTm s.tm)) s.hp⟩
      | _=>False
    | _=>False
  | _,_,_=>False
theorem stepC_ok {f gf:FuncId} {ts:List TypeId} (hM:Maker P f gf ts):StepSound P (stepC f gf ts):=by
  intro N ops o s K hok h
  unfold stepC at h
  split at h
  · rename_i c d hg ho hdst
    split at h
    · rename_i x hcal
      split at h
      · rename_i g hf
        obtain ⟨rfl,hlen,hn,hdead,hone,hK⟩:=h
        obtain ⟨hd,hop'⟩:=operOk_spec hok
        intro w0 a w hR
        refine ⟨fun _ K' Q hq=>?_,fun hw=>by rw [wanted_none hg] at hw;cases hw⟩
        obtain ⟨σ,hR⟩:=hR
        have hmem:∀ y,(y=x∨y∈c.args.toList)→y∈o.op.operands:=by
          intro y hy
          rw [ho]
          simp only [Op.operands,Call.operands,hcal]
          rcases hy with rfl | hy
          · exact Array.mem_append.2 (.inl (by simp))
          · exact Array.mem_append.2 (.inr (Array.mem_toList_iff.1 hy))
        have hv:∀ y,(y=x∨y∈c.args.toList)→ARel P w (Al w0 w σ s.hp) σ (a.eval y) (plainTm s.tm y):=fun y hy =>
          plain_sound hR (hop' y (hmem y hy)) (allNeeds_spec hn y (Array.mem_toList_iff.2 (hmem y hy)))
        have hfv:=hv x (.inl rfl)
        rw [hf] at hfv
        have hfe:a.eval x = .func (.func g) #[] #[]:=by
          revert hfv
          generalize a.eval x=u
          intro hfv
          cases hfv with
          | fnv _ _ vs hl hh =>
            have:vs=[]:=List.eq_nil_of_length_eq_zero (by simpa using hl)
            subst this;rfl
        have hr:(execOp a.eval o).run P w = .ok (.enter g (c.args.toList.map a.eval).toArray) w:=by
          have hcf:=hM.1 (c.args.toList.map a.eval).toArray w
          have e2:c.args.map a.eval=(c.args.toList.map a.eval).toArray:=by
            rw [← Array.toList_map]
          obtain ⟨callee,args,argTypes⟩:=c
          simp only at hcal
          subst hcal
          simp only [execOp,ho,Go.resolve,Sem.run_bind,hfe,Deferred.ofValue,Sem.run_pure,Result.andThen_ok,invoke]
          simpa [e2] using hcf
        obtain ⟨σ',h1,h2,h3⟩:=rel_allocL (s:=s) d (c.args.toList.map (plainTm s.tm)) (c.args.toList.map a.eval) ts 0 σ s.hp w hR (by simp) (by simp only [List.length_map];exact hlen.symm) hdead (fun i hi=>by
          have hi':i < c.args.toList.length:=by simpa using hi
          have e1:(c.args.toList.map a.eval).getD i undef=a.eval c.args.toList[i]:=by simp [List.getD_eq_getElem?_getD,show i < c.args.size by simpa using hi']
          have e2:(c.args.toList.map (plainTm s.tm)).getD i .unk=plainTm s.tm c.args.toList[i]:=by simp [List.getD_eq_getElem?_getD,show i < c.args.size by simpa using hi']
          rw [e1,e2]
          exact hv _ (.inr (List.getElem_mem hi')))
        unfold Oper.wp
        rw [hr]
        refine (hM.2 _ w (by simp only [List.length_map];exact hlen) (fun v hv'=>?_)).mono ?_
        · obtain ⟨y,hy,rfl⟩:=List.mem_map.1 hv'
          obtain ⟨i,hi',rfl⟩:=List.getElem_of_mem hy
          have e2:(c.args.toList.map (plainTm s.tm)).getD i .unk=plainTm s.tm c.args.toList[i]:=by simp [List.getD_eq_getElem?_getD,show i < c.args.size by simpa using hi']
          have:=allOne_spec hone i (by simpa using hi')
          rw [e2] at this
          exact oneA_sound hR this (hv _ (.inr (List.getElem_mem hi')))
        rintro e w' ⟨rfl,rfl⟩
        refine hq _ _ _ (put_defers _ _ _) hK ⟨σ',?_⟩
        rw [hdst]
        refine h1.put (hd d hdst) (.fnv gf _ _ (by rw [ptrsL_len,boxRefs_len,List.length_map];exact hlen.symm) (fun i hi=>?_))
        rw [boxRefs_len] at hi
        exact h3 i hi
      · exact h.elim
    · exact h.elim
  · exact h.elim
end Go.AE
/-
  Regions that draw their order: every order, one by one.
-/
set_option linter.unusedVariables false
namespace Go.AE
open Go.RowKit (Below)
variable {P:Program} {w0:Base} {w:World} {N kp:Nat} {σ:Nat→RefI} {s:S} {tms:Array Value} {Γ:List Fn}
theorem wpOpsX_ok {ops:List Oper} {o:Oper} {K:S→Prop} (h00:tyI P 0=none) (hΓ:∀ g,g∈Γ→Contract P g) (ho:operOk N o=true) (h:wpOpsX P Γ [(gdst ops o,o)] s K):StepOk P N ops o s K:=by
  simp only [wpOpsX] at h
  rcases h with h | h | h | h | h | h | h | ⟨st,hs,h⟩ | ⟨st,hs,j,want,hg,hgt,h⟩
  · exact stepG_ok h00 hΓ ho h
  · exact stepX_ok ho h
  · exact stepN_ok ho h
  · exact stepM_ok h00 ho h
  · exact stepT_ok h00 hΓ ho h
  · exact stepF_ok ho h
  · exact stepP_ok ho h
  · exact hs _ _ _ _ _ ho h
  · have hU:=hs N ops (unguard o) s _ ho h
    intro w0 a w hR
    have hR0:=hR
    obtain ⟨σ,hR'⟩:=hR
    have hw:=guardOf_sound hR' hg ((guardOf_gdst hg s.tm).trans hgt)
    refine ⟨fun _ K' Q hq=>?_,fun hw'=>by rw [hw] at hw';cases hw'⟩
    exact (hU w0 a w hR0).1 (wanted_none rfl) K' Q hq
def wpT (P:Program) (Γ:List Fn) (ops:Array Oper) (Q:S→Prop):Nat→Array Bool→S→Prop
  | 0,listed,s=>Region.ready .any ops listed=[]∧Q s
  | n+1,listed,s=>(Region.ready .any ops listed=[]→Q s)∧∀ i∈Region.ready .any ops listed,∀ o,ops[i]? = some o→wpOpsX P Γ [(gdst ops.toList o,o)] s (wpT P Γ ops Q n (listed.setIfInBounds i true))
def wpTs (P:Program) (Γ:List Fn) (ops:Array Oper) (Q:S→Prop) (n:Nat) (listed:Array Bool) (s:S):List Nat→Prop
  | []=>True
  | i :: is=>(match ops.toList[i]? with | some o=>wpOpsX P Γ [(gdst ops.toList o,o)] s (wpT P Γ ops Q n (listed.setIfInBounds i true)) | none=>True)∧wpTs P Γ ops Q n listed s is
theorem wpTs_mem {ops:Array Oper} {Q:S→Prop} {n:Nat} {listed:Array Bool} {i:Nat} {o:Oper} (ho:ops[i]? = some o):∀ {l:List Nat},wpTs P Γ ops Q n listed s l→i∈l→wpOpsX P Γ [(gdst ops.toList o,o)] s (wpT P Γ ops Q n (listed.setIfInBounds i true))
  | j :: l,h,hi=>by
    simp only [wpTs] at h
    rcases List.mem_cons.1 hi with rfl | hi
    · have:=h.1
      rw [Array.getElem?_toList,ho] at this
      exact this
    · exact wpTs_mem ho h.2 hi
theorem wpT_node {ops:Array Oper} {Q:S→Prop} {n:Nat} {listed:Array Bool} (i:Nat) (l:List Nat) (hr:Region.ready .any ops listed=i :: l) (h:wpTs P Γ ops Q n listed s (i :: l)):wpT P Γ ops Q (n+1) listed s:=by
  unfold wpT
  refine ⟨fun e=>?_,fun j hj o ho=>?_⟩
  · rw [hr] at e;cases e
  · rw [hr] at hj;exact wpTs_mem ho h hj
theorem wpT_sound {ops:Array Oper} {Q:S→Prop} {Q':Exit→Act→World→Prop} {a0:Act} (h00:tyI P 0=none) (hΓ:∀ g,g∈Γ→Contract P g) (hok:∀ o,o∈ops.toList→operOk N o=true)
    (hQ:∀ s' a' w',a'.defers=a0.defers→Rel P w0 N s' a'.tmps w'→Q s'→Q' .normal a' w') :
    ∀ (fuel:Nat) (listed:Array Bool) (s:S) (a:Act) (w:World),a.defers=a0.defers→wpT P Γ ops Q fuel listed s→Rel P w0 N s a.tmps w→wpAny P .any ops Q' fuel listed a w
  | 0,_,s,a,w,hd,h,hR=>⟨h.1,hQ s a w hd hR h.2⟩
  | fuel+1,listed,s,a,w,hd,h,hR=>by
    refine ⟨fun h0=>hQ s a w hd hR (h.1 h0),fun i hi=>?_⟩
    have h1:=h.2 i hi
    show wpOp P ops _ i _ a w
    unfold wpOp
    cases ho:ops[i]? with
    | none =>
      obtain ⟨_,o,ho',_⟩:=mem_ready.1 hi
      rw [ho] at ho';cases ho'
    | some o =>
      have hm:o∈ops.toList:=by
        obtain ⟨hlt,e⟩:=Array.getElem?_eq_some_iff.1 ho
        rw [← e];simp
      obtain ⟨k1,k2⟩:=wpOpsX_ok h00 hΓ (hok o hm) (h1 o ho) w0 a w hR
      have ih:∀ s' a' w',a'.defers=a.defers→wpT P Γ ops Q fuel (listed.setIfInBounds i true) s'→Rel P w0 N s' a'.tmps w'→wpAny P .any ops Q' fuel (listed.setIfInBounds i true) a' w':=fun s' a' w' hdf hK hR' =>
        wpT_sound h00 hΓ hok hQ fuel _ s' a' w' (hdf.trans hd) hK hR'
      simp only [Array.toArray_toList] at k1 k2
      simp only
      cases hw:Region.wanted o (yielded ops a.tmps) with
      | true=>exact .inl (k1 hw _ _ (fun s' a' w' h1 h2 h3=>ih s' a' w' h1 h2 h3))
      | false =>
        obtain ⟨s',h2,h3⟩:=k2 hw
        simp only [Bool.false_eq_true,if_false]
        exact ih s' _ _ (put_defers _ _ _) h2 h3
theorem Sm.regT {id:Nat} {ops:Array Oper} {Q:Exit→S→Prop} (h00:tyI P 0=none) (hm:P.follows .mixedOrders=true) (hΓ:∀ g,g∈Γ→Contract P g) (hok:(ops.toList.all (operOk N))=true)
    (h:wpT P Γ ops (Q .normal) ops.size (Array.replicate ops.size false) s):Sm P N kp (.region id ops true) s Q:=by
  intro r w0 Q' a w hk hr hd hR hQ
  have hok':∀ o,o∈ops.toList→operOk N o=true:=by simpa only [List.all_eq_true] using hok
  refine cw_region_any hm (operOk_noDefer hok') ?_
  obtain ⟨σ,hR'⟩:=hR
  have hR2:Rel P w0 N s a.tmps { w with drawn:=w.drawn+1 }:=⟨σ,hR'.world (Below.refl _ _).drew⟩
  exact wpT_sound (Q':=shutQ Q') h00 hΓ hok' (fun s' a' w' h1 h2 h3=>⟨by simp,hQ _ _ _ _ _ (Ext.refl _) (h1 ▸ hd) h2 h3⟩) ops.size _ s a _ rfl h hR2
theorem Sm.seqT {id:Nat} {ops:Array Oper} {b:Code} {Q:Exit→S→Prop} (h00:tyI P 0=none) (hm:P.follows .mixedOrders=true) (hΓ:∀ g,g∈Γ→Contract P g) (hok:(ops.toList.all (operOk N))=true)
    (h:∀ K:S→Prop,(∀ s',Sm P N kp b s' Q→K s')→wpT P Γ ops K ops.size (Array.replicate ops.size false) s):Sm P N kp (.seq (.region id ops true) b) s Q :=
  Sm.seq (Sm.regT h00 hm hΓ hok (h (fun s'=>Sm P N kp b s' Q) (fun _ h=>h)))
end Go.AE
/-
  Rows with a lent cell: how they are made, how one grows.
-/
set_option linter.unusedVariables false
namespace Go.AE
open Go.RowKit (Below)
variable {P:Program} {w0:Base} {w:World} {N:Nat} {σ:Nat→RefI} {s:S} {tms:Array Value} {ρ:Operand→Value} {al:Nat→Prop}
def bsL (P:Program) (t:TypeId) (n:Nat) (parts:List (Nat×A)) (d:Option Nat) (hp:Nat→Blk):Option Out :=
  match slE P t,d,n,parts with
  | some (e,E),some d,1,[(0,.own id1 ks1 0 len1)]=>match hp id1 with
    | .row u es1=>if (E.kinds == [.slice u]) && isDead (hp (key d 0)) then some ⟨len1≤es1.length∧(E.bytes:Int)≤140737488355328,True,.own (key d 0) E.kinds 0 1,upd hp (key d 0) (.rl e [[.slice (es1.take len1)]] 0 0 (.own id1 ks1 0 len1)),false⟩ else none
    | _=>none
  | _,_,_,_=>none
def appL (P:Program) (t u:TypeId) (d:Option Nat) (hp:Nat→Blk) (x y:A):Option Out :=
  match slE P t,d,x,y with
  | some (e,E),some d,.own id ks 0 len,.own id2 _ 0 1=>if t=u then (match hp id,hp id2 with
    | .row e1 es,.rl e2 es2 0 j2 (.own id3 ks3 0 len3)=>match hp id3 with
      | .row _ _=>if ((e1 == e && e2 == e) && (es2.length == 1 && plainKs E.kinds)) && isDead (hp (key d 0)) then
          some ⟨len≤es.length∧((len+1:Nat):Int) * E.bytes≤140737488355328,True,.own (key d 0) ks 0 (len+1),upd (upd (upd hp id2 .gone) id .gone) (key d 0) (.rl e (es.take len ++ es2) len j2 (.own id3 ks3 0 len3)),false⟩ else none
      | _=>none
    | _,_=>none) else none
  | _,_,_,_=>none
def opLR (P:Program) (o:Oper) (hp:Nat→Blk) (v:Operand→A):Option Out :=
  match o.op with
  | .buildSlice t n parts=>bsL P t n (parts.toList.map fun p=>(p.1,v p.2)) o.dst hp
  | .call c=>match c.callee with
    | .builtin .append=>match c.args.toList,c.argTypes.toList with
      | [x,y],[t,u]=>appL P t u o.dst hp (v x) (v y)
      | _,_=>none
    | _=>none
  | _=>none
def stepLR (P:Program) (o:Oper) (s:S) (K:S→Prop):Prop :=
  match o.guard with
  | none=>match opLR P o s.hp (plainTm s.tm) with
    | some r=>allNeeds s.tm o.op.operands.toList∧r.pre∧(r.fact→K ⟨updD s.tm o.dst r.val,r.hp⟩)
    | none=>False
  | some _=>False
end Go.AE
/-
  Array values whose elements take one cell each: literals, elements.
-/
set_option linter.unusedVariables false
namespace Go.AE
variable {P:Program} {w0:Base} {w:World} {N:Nat} {σ:Nat→RefI} {s:S} {tms:Array Value} {ρ:Operand→Value} {al:Nat→Prop}
end Go.AE
/-
  The rules once more, with their scripts inside: what a printed proof says shortly. The scripts name 'z' (the seat's equations), 'h00', 'mixed', 'hΓ' and, where calls are known, 'q' of the place of use.
-/
set_option linter.unusedVariables false
namespace Go.AE
variable {P:Program} {N kp:Nat} {s s':S} {Γ:List Fn} {Q:Exit→S→Prop} {a b c:Code}
theorem Sm.st (e:s=s') (h:Sm P N kp c s' Q):Sm P N kp c s Q:=e ▸ h
theorem rA {id:Nat} {ops:Array Oper} (h:Sm P N kp b s' Q) (h1:tyI P 0=none:=by exact h00) (h2:P.follows .mixedOrders=true:=by exact mixed) (h3:∀ g,g∈Γ→Contract P g:=by exact hΓ) (h4:codeOk N (.region id ops false)=true:=by kernel_rfl)
    (h5:∀ K:S→Prop,K s'→wpOpsG P Γ (resolve ops.toList ops.toList) s K:=by (intro K0 hK0;simp only [rs];(repeat (refine opsG fun K hK=>?_;simp only [z,seval];(repeat first | refine gcI ?_ | intro (_:_≤_));refine hK _ ?_;clear hK K));exact opsG0 hK0)):Sm P N kp (.seq (.region id ops false) b) s Q:=Sm.seqA h1 h2 h3 h4 fun K hK=>h5 K (hK _ h)
theorem rAq {id:Nat} {ops:Array Oper} (h:Sm P N kp b s' Q) (h1:tyI P 0=none:=by exact h00) (h2:P.follows .mixedOrders=true:=by exact mixed) (h3:∀ g,g∈Γ→Contract P g:=by exact hΓ) (h4:codeOk N (.region id ops false)=true:=by kernel_rfl)
    (h5:∀ K:S→Prop,K s'→wpOpsG P Γ (resolve ops.toList ops.toList) s K:=by (intro K0 hK0;simp only [rs];(repeat (refine opsG fun K hK=>?_;simp only [z,seval,q];(repeat first | refine gcI ?_ | intro (_:_≤_));refine hK _ ?_;clear hK K));exact opsG0 hK0)):Sm P N kp (.seq (.region id ops false) b) s Q:=Sm.seqA h1 h2 h3 h4 fun K hK=>h5 K (hK _ h)
theorem rD {id:Nat} {ops:Array Oper} (h:Sm P N kp b s' Q) (h1:tyI P 0=none:=by exact h00) (h2:P.follows .mixedOrders=true:=by exact mixed) (h3:∀ g,g∈Γ→Contract P g:=by exact hΓ) (h4:codeOk N (.region id ops true)=true:=by kernel_rfl)
    (h5:∀ K:S→Prop,K s'→wpOpsH P Γ (resolve ops.toList ops.toList) s K:=by (intro K0 hK0;simp only [rs];(repeat (refine opsH fun K hK=>?_;simp only [z,seval];(repeat first | refine gcI ?_ | intro (_:_≤_));refine hK _ ?_;clear hK K));exact opsH0 hK0)):Sm P N kp (.seq (.region id ops true) b) s Q:=Sm.seqD h1 h2 h3 h4 fun K hK=>h5 K (hK _ h)
theorem rDq {id:Nat} {ops:Array Oper} (h:Sm P N kp b s' Q) (h1:tyI P 0=none:=by exact h00) (h2:P.follows .mixedOrders=true:=by exact mixed) (h3:∀ g,g∈Γ→Contract P g:=by exact hΓ) (h4:codeOk N (.region id ops true)=true:=by kernel_rfl)
    (h5:∀ K:S→Prop,K s'→wpOpsH P Γ (resolve ops.toList ops.toList) s K:=by (intro K0 hK0;simp only [rs];(repeat (refine opsH fun K hK=>?_;simp only [z,seval,q];(repeat first | refine gcI ?_ | intro (_:_≤_));refine hK _ ?_;clear hK K));exact opsH0 hK0)):Sm P N kp (.seq (.region id ops true) b) s Q:=Sm.seqD h1 h2 h3 h4 fun K hK=>h5 K (hK _ h)
theorem eA {id:Nat} {ops:Array Oper} (h:Q .normal s') (h1:tyI P 0=none:=by exact h00) (h2:P.follows .mixedOrders=true:=by exact mixed) (h3:∀ g,g∈Γ→Contract P g:=by exact hΓ) (h4:codeOk N (.region id ops false)=true:=by kernel_rfl)
    (h5:∀ K:S→Prop,K s'→wpOpsG P Γ (resolve ops.toList ops.toList) s K:=by (intro K0 hK0;simp only [rs];(repeat (refine opsG fun K hK=>?_;simp only [z,seval];(repeat first | refine gcI ?_ | intro (_:_≤_));refine hK _ ?_;clear hK K));exact opsG0 hK0)):Sm P N kp (.region id ops false) s Q:=Sm.regA h1 h2 h3 h4 (h5 _ h)
theorem eD {id:Nat} {ops:Array Oper} (h:Q .normal s') (h1:tyI P 0=none:=by exact h00) (h2:P.follows .mixedOrders=true:=by exact mixed) (h3:∀ g,g∈Γ→Contract P g:=by exact hΓ) (h4:codeOk N (.region id ops true)=true:=by kernel_rfl)
    (h5:∀ K:S→Prop,K s'→wpOpsH P Γ (resolve ops.toList ops.toList) s K:=by (intro K0 hK0;simp only [rs];(repeat (refine opsH fun K hK=>?_;simp only [z,seval];(repeat first | refine gcI ?_ | intro (_:_≤_));refine hK _ ?_;clear hK K));exact opsH0 hK0)):Sm P N kp (.region id ops true) s Q:=Sm.regD h1 h2 h3 h4 (h5 _ h)
theorem eDq {id:Nat} {ops:Array Oper} (h:Q .normal s') (h1:tyI P 0=none:=by exact h00) (h2:P.follows .mixedOrders=true:=by exact mixed) (h3:∀ g,g∈Γ→Contract P g:=by exact hΓ) (h4:codeOk N (.region id ops true)=true:=by kernel_rfl)
    (h5:∀ K:S→Prop,K s'→wpOpsH P Γ (resolve ops.toList ops.toList) s K:=by (intro K0 hK0;simp only [rs];(repeat (refine opsH fun K hK=>?_;simp only [z,seval,q];(repeat first | refine gcI ?_ | intro (_:_≤_));refine hK _ ?_;clear hK K));exact opsH0 hK0)):Sm P N kp (.region id ops true) s Q:=Sm.regD h1 h2 h3 h4 (h5 _ h)
theorem sX {id:Nat} {ops:Array Oper} {l:List (Option Nat×Oper)} (h:∀ K:S→Prop,(∀ s',Sm P N kp b s' Q→K s')→wpOpsX P Γ l s K) (h1:tyI P 0=none:=by exact h00) (h2:P.follows .mixedOrders=true:=by exact mixed) (h3:∀ g,g∈Γ→Contract P g:=by exact hΓ) (h4:codeOk N (.region id ops false)=true:=by kernel_rfl)
    (h5:∀ K:List (Option Nat×Oper)→Prop,K l→K (resolve ops.toList ops.toList):=by intro K hK;simp only [rs];exact hK):Sm P N kp (.seq (.region id ops false) b) s Q:=Sm.seqX h1 h2 h3 h4 fun K hK=>h5 (fun l=>wpOpsX P Γ l s K) (h K hK)
theorem eX {id:Nat} {ops:Array Oper} {l:List (Option Nat×Oper)} (h:wpOpsX P Γ l s (Q .normal)) (h1:tyI P 0=none:=by exact h00) (h2:P.follows .mixedOrders=true:=by exact mixed) (h3:∀ g,g∈Γ→Contract P g:=by exact hΓ) (h4:codeOk N (.region id ops false)=true:=by kernel_rfl)
    (h5:∀ K:List (Option Nat×Oper)→Prop,K l→K (resolve ops.toList ops.toList):=by intro K hK;simp only [rs];exact hK):Sm P N kp (.region id ops false) s Q:=Sm.rgX h1 h2 h3 h4 (h5 (fun l=>wpOpsX P Γ l s (Q .normal)) h)
variable {g:Option Nat} {o:Oper} {os:List (Option Nat×Oper)} {K:S→Prop}
theorem oX (h:wpOpsX P Γ os s' K) (hs:∀ K:S→Prop,K s'→stepG P Γ g o s K:=by intro K hK;simp only [z,seval];(repeat first | refine gcI ?_ | intro (_:_≤_));exact hK):wpOpsX P Γ ((g,o) :: os) s K:=opsX fun K hK=>hs K (hK _ h)
theorem oXq (h:wpOpsX P Γ os s' K) (hs:∀ K:S→Prop,K s'→stepG P Γ g o s K:=by intro K hK;simp only [z,seval,q];(repeat first | refine gcI ?_ | intro (_:_≤_));exact hK):wpOpsX P Γ ((g,o) :: os) s K:=opsX fun K hK=>hs K (hK _ h)
theorem oY (h:wpOpsX P Γ os s' K) (hs:∀ K:S→Prop,K s'→stepX P o s K:=by intro K hK;simp only [z,seval];(repeat first | refine gcI ?_ | intro (_:_≤_));exact hK):wpOpsX P Γ ((g,o) :: os) s K:=opsY fun K hK=>hs K (hK _ h)
theorem oE {st:Oper→S→(S→Prop)→Prop} (hst:StepSound P st) (h:wpOpsX P Γ os s' K) (hs:∀ K:S→Prop,K s'→st o s K:=by intro K hK;simp only [z,seval];(repeat first | refine gcI ?_ | intro (_:_≤_));exact hK):wpOpsX P Γ ((g,o) :: os) s K:=opsE hst fun K hK=>hs K (hK _ h)
theorem oTG {j:Nat} {want:Bool} (h:wpOpsX P Γ os s' K) (hg:o.guard=some (j,want):=by rfl) (ht:guardT s.tm g want=some true:=by simp only [z,seval,q]) (hs:∀ K:S→Prop,K s'→stepG P Γ none (unguard o) s K:=by intro K hK;simp only [z,seval,q];(repeat first | refine gcI ?_ | intro (_:_≤_));exact hK):wpOpsX P Γ ((g,o) :: os) s K:=opsTG hg ht fun K hK=>hs K (hK _ h)
theorem oTE {st:Oper→S→(S→Prop)→Prop} (hst:StepSound P st) {j:Nat} {want:Bool} (h:wpOpsX P Γ os s' K) (hg:o.guard=some (j,want):=by rfl) (ht:guardT s.tm g want=some true:=by simp only [z,seval,q]) (hs:∀ K:S→Prop,K s'→st (unguard o) s K:=by intro K hK;simp only [z,seval,q];(repeat first | refine gcI ?_ | intro (_:_≤_));exact hK):wpOpsX P Γ ((g,o) :: os) s K:=opsTE hst hg ht fun K hK=>hs K (hK _ h)
theorem oFq {j:Nat} {want:Bool} (h:wpOpsX P Γ os ⟨updD s.tm o.dst (.when false (.c .bool (.bool false))),s.hp⟩ K) (hg:o.guard=some (j,want):=by rfl) (ht:guardT s.tm g want=some false:=by simp only [z,seval,q]):wpOpsX P Γ ((g,o) :: os) s K:=opsF hg ht h
theorem oPl (h:wpOpsX P Γ os s' K) (hs:∀ K:S→Prop,K s'→stepP o s K:=by intro K hK;simp only [z,seval,q];(repeat first | refine gcI ?_ | intro (_:_≤_));refine Or.inl ?_;(repeat first | refine gcI ?_ | intro (_:_≤_));exact hK):wpOpsX P Γ ((g,o) :: os) s K:=opsP fun K hK=>hs K (hK _ h)
theorem oPr (h:wpOpsX P Γ os s' K) (hs:∀ K:S→Prop,K s'→stepP o s K:=by intro K hK;simp only [z,seval,q];(repeat first | refine gcI ?_ | intro (_:_≤_));refine Or.inr ?_;(repeat first | refine gcI ?_ | intro (_:_≤_));exact hK):wpOpsX P Γ ((g,o) :: os) s K:=opsP fun K hK=>hs K (hK _ h)
theorem oMq {d:Option Nat} {f:Operand} {args:Array Operand} {argTypes:Array TypeId} {ty:TypeId} {pos:String} {after:Array Edge} {gf:FuncId} {caps:List A} {as:List Arg} {hs:List Blk} {res:List A} {hs':List Blk}
    (C0:CallsM P gf as hs res hs') (ids keys:List Nat)
    (h:wpOpsX P Γ os ⟨updD s.tm d (unTup (renMs (mL (ids ++ keys)) res)),putAll (ids ++ keys) (hs'.map (renB (mL (ids ++ keys)))) (freezeAll s.hp (datIds as (args.toList.map (plainTm s.tm) ++ caps)))⟩ K)
    (hf:plainTm s.tm f = .fnv gf caps:=by (simp only [z,seval,q];try rfl)) (hn:allNeeds s.tm (Op.call ⟨.value f,args,argTypes⟩).operands.toList:=by simp only [z,seval,q]) (hb:blksAt s.hp (mL ids) hs.length ids hs:=by simp only [z,seval,q])
    (ha:matchArg s.hp (mL ids) hs.length as (args.toList.map (plainTm s.tm) ++ caps):=by simp only [z,seval,q]) (hd:disj ids (datIds as (args.toList.map (plainTm s.tm) ++ caps))=true:=by simp only [z,seval,q]) (hnd:nodupL (ids ++ keys)=true:=by rfl) (hk:allDead s.hp keys=true:=by simp only [z,seval,q]) (hl:keys.length+hs.length=hs'.length:=by rfl) :
    wpOpsX P Γ ((g,⟨d,.call ⟨.value f,args,argTypes⟩,ty,pos,after,none⟩) :: os) s K:=opsM C0 ids keys hf hn hb ha hd hnd hk hl h
theorem oTM {d:Option Nat} {f:Operand} {args:Array Operand} {argTypes:Array TypeId} {ty:TypeId} {pos:String} {after:Array Edge} {gf:FuncId} {caps:List A} {as:List Arg} {j0:Nat} {want:Bool} {hs:List Blk} {res:List A} {hs':List Blk}
    (C0:CallsM P gf as hs res hs') (ids keys:List Nat)
    (h:wpOpsX P Γ os ⟨updD s.tm d (unTup (renMs (mL (ids ++ keys)) res)),putAll (ids ++ keys) (hs'.map (renB (mL (ids ++ keys)))) (freezeAll s.hp (datIds as (args.toList.map (plainTm s.tm) ++ caps)))⟩ K)
    (ht:guardT s.tm g want=some true:=by simp only [z,seval,q]) (hf:plainTm s.tm f = .fnv gf caps:=by (simp only [z,seval,q];try rfl)) (hn:allNeeds s.tm (Op.call ⟨.value f,args,argTypes⟩).operands.toList:=by simp only [z,seval,q]) (hb:blksAt s.hp (mL ids) hs.length ids hs:=by simp only [z,seval,q])
    (ha:matchArg s.hp (mL ids) hs.length as (args.toList.map (plainTm s.tm) ++ caps):=by simp only [z,seval,q]) (hd:disj ids (datIds as (args.toList.map (plainTm s.tm) ++ caps))=true:=by simp only [z,seval,q]) (hnd:nodupL (ids ++ keys)=true:=by rfl) (hk:allDead s.hp keys=true:=by simp only [z,seval,q]) (hl:keys.length+hs.length=hs'.length:=by rfl) :
    wpOpsX P Γ ((g,⟨d,.call ⟨.value f,args,argTypes⟩,ty,pos,after,some (j0,want)⟩) :: os) s K:=opsTM C0 ids keys ht hf hn hb ha hd hnd hk hl h
theorem sQ {id:Nat} {ops:Array Oper} {l:List ((Option Bool×Foot)×Option Nat×Oper)} (ord:List Nat) (Rl:List (Option Bool×Foot)) (h:∀ K:S→Prop,(∀ s',Sm P N kp b s' Q→K s')→wpOpsHQ P Γ l s K) (h1:tyI P 0=none:=by exact h00) (h2:P.follows .mixedOrders=true:=by exact mixed) (h3:∀ g,g∈Γ→Contract P g:=by exact hΓ)
    (hok:regOkQ (fun i=>(Rl.getD i (none,[],[])).2) N ops ord=true:=by kernel_rfl) (hlen:ord.length=ops.size:=by rfl) (h5:∀ K:List ((Option Bool×Foot)×Option Nat×Oper)→Prop,K l→K (inOrd ops.toList Rl ord):=by intro K hK;simp only [rs];exact hK):Sm P N kp (.seq (.region id ops true) b) s Q:=Sm.seqQ h1 h2 h3 ord Rl hok hlen fun K hK=>h5 (fun l=>wpOpsHQ P Γ l s K) (h K hK)
theorem eQ {id:Nat} {ops:Array Oper} {l:List ((Option Bool×Foot)×Option Nat×Oper)} (ord:List Nat) (Rl:List (Option Bool×Foot)) (h:wpOpsHQ P Γ l s (Q .normal)) (h1:tyI P 0=none:=by exact h00) (h2:P.follows .mixedOrders=true:=by exact mixed) (h3:∀ g,g∈Γ→Contract P g:=by exact hΓ)
    (hok:regOkQ (fun i=>(Rl.getD i (none,[],[])).2) N ops ord=true:=by kernel_rfl) (hlen:ord.length=ops.size:=by rfl) (h5:∀ K:List ((Option Bool×Foot)×Option Nat×Oper)→Prop,K l→K (inOrd ops.toList Rl ord):=by intro K hK;simp only [rs];exact hK):Sm P N kp (.region id ops true) s Q:=Sm.regQ h1 h2 h3 ord Rl hok hlen (h5 (fun l=>wpOpsHQ P Γ l s (Q .normal)) h)
variable {r:Option Bool×Foot} {ol:List ((Option Bool×Foot)×Option Nat×Oper)}
theorem oQ (h:wpOpsHQ P Γ ol s' K) (hs:∀ K:S→Prop,K s'→stepHQ P Γ r g o s K:=by intro K hK;simp only [z,seval];(repeat first | refine gcI ?_ | intro (_:_≤_));exact hK) (hv:vF r.2=false:=by rfl):wpOpsHQ P Γ ((r,g,o) :: ol) s K:=opsQ (fun K hK=>hs K (hK _ h)) hv
theorem oQq (h:wpOpsHQ P Γ ol s' K) (hs:∀ K:S→Prop,K s'→stepHQ P Γ r g o s K:=by intro K hK;simp only [z,seval,q];(repeat first | refine gcI ?_ | intro (_:_≤_));exact hK) (hv:vF r.2=false:=by rfl):wpOpsHQ P Γ ((r,g,o) :: ol) s K:=opsQ (fun K hK=>hs K (hK _ h)) hv
theorem oQV (h:wpOpsHQ P Γ ol s' K) (hs:∀ K:S→Prop,K s'→stepHV P r o s K:=by intro K hK;simp only [z,seval];(repeat first | refine gcI ?_ | intro (_:_≤_));exact hK) (hv:vF r.2=true:=by rfl):wpOpsHQ P Γ ((r,g,o) :: ol) s K:=opsQV hv fun K hK=>hs K (hK _ h)
def wpV (s:S) (t:Operand) (K:Bool→Prop):Prop:=match opdA s.tm t with | .c .bool x=>K x.toBool | _=>False
theorem cnd {t:Operand} {α:Type} {x y:Option α} {r:α} {v v':Bool} (H:cond v x y=some r) (h1:v=true→x=some r→Sm P N kp a s Q) (h2:v=false→y=some r→Sm P N kp b s Q) (hok:okOpd t=true:=by rfl) (hv:∀ K:Bool→Prop,K v'→wpV s t K:=by intro K hK;simp only [wpV,z,seval];exact hK)
    (hc:v'=v:=by first | rfl | simp only [List.length_append] | simp only [z,seval,q]):Sm P N kp (.cond t a b) s Q:=by
  subst hc
  refine Sm.condK hok fun Ka Kb ha hb=>?_
  have:=hv (fun x=>(x=true→Ka)∧(x=false→Kb)) ⟨fun e=>ha (h1 e (bif_t e H)),fun e=>hb (h2 e (bif_f e H))⟩
  unfold wpV at this;unfold wpCond
  revert this
  cases opdA s.tm t with
  | c k x=>cases k <;> intro h <;> first | exact h | exact h.elim
  | _=>intro h;exact h.elim
theorem cndT {t:Operand} (h1:Sm P N kp a s Q) (hok:okOpd t=true:=by rfl) (hv:∀ K:Bool→Prop,K true→wpV s t K:=by intro K hK;simp only [wpV,z,seval];exact hK):Sm P N kp (.cond t a b) s Q:=cnd (v:=true) (x:=some ()) (y:=none) (r:=()) rfl (fun _ _=>h1) (fun e=>by cases e) hok hv rfl
theorem cndF {t:Operand} (h1:Sm P N kp b s Q) (hok:okOpd t=true:=by rfl) (hv:∀ K:Bool→Prop,K false→wpV s t K:=by intro K hK;simp only [wpV,z,seval];exact hK):Sm P N kp (.cond t a b) s Q:=cnd (v:=false) (x:=none) (y:=some ()) (r:=()) rfl (fun e=>by cases e) (fun _ _=>h1) hok hv rfl
theorem lf {p p':Prop} (h:p') (e:p'→p:=by (intro h;(try simp only [seval,Exit.exit.injEq]);exact h)):p:=e h
theorem wb {L:List (Nat×A)} {bs:List (Nat×Blk)} (os:List (Option Nat)) (hkp:keepOk kp (zipH os bs)=true:=by rfl) (hl:os.length=bs.length:=by rfl) (ho:oldsOk (zipH os bs)=true:=by rfl) (hL:subTs P (zipH os bs) s.hp s.tm L:=by simp only [wk,z,seval]) (hH:subHs P (zipH os bs) s.hp (zipH os bs):=by simp only [wk,z,seval]):Weak P kp s (stB L bs):=weak_b os hkp hl ho hL hH
theorem wbf {L:List (Nat×A)} {bs:List (Nat×Blk)} (fz:List Nat) (os:List (Option Nat)) (hkp:keepOk kp (zipH os bs)=true:=by rfl) (hl:os.length=bs.length:=by rfl) (ho:oldsOk (zipH os bs)=true:=by rfl) (hL:subTs P (zipH os bs) (freezeAll s.hp fz) s.tm L:=by simp only [wk,z,seval]) (hH:subHs P (zipH os bs) (freezeAll s.hp fz) (zipH os bs):=by simp only [wk,z,seval]):Weak P kp s (stB L bs):=weak_bf fz os hkp hl ho hL hH
theorem nx {X Y:Type} {v:X} {r:X ⊕ Y} {p:X→Prop} (H:some (Sum.inl v)=some r) (h:p v):∃ x,r = .inl x∧p x:=⟨v,(Option.some.inj H).symm,h⟩
theorem lx {X Y:Type} {v y:Y} {r:X ⊕ Y} {p:Prop} (H:some (Sum.inr v)=some r) (h:v=y→p):(∃ x,r = .inr x)∧(r = .inr y→p):=⟨⟨v,(Option.some.inj H).symm⟩,fun e=>h (Sum.inr.inj ((Option.some.inj H).trans e))⟩
theorem rt {rs:List ResultVar} {sig:Sig} {e:Exit} (ret:List (Option Nat)) (h:RetOk P s rs ret sig:=by simp only [z,seval]) (he:e = .normal∨e = .ret:=by first | exact .inr rfl | exact .inl rfl):Ret P rs sig e s:=Ret.ofR ret he h
theorem rto {rs:List ResultVar} {sig:Sig} {e:Exit} (ret:List (Option Nat)) (h:RetOk P s rs ret sig:=by (simp only [z,seval];try omega)) (he:e = .normal∨e = .ret:=by first | exact .inr rfl | exact .inl rfl):Ret P rs sig e s:=Ret.ofR ret he h
theorem rtM {k:Nat} {rs:List ResultVar} {res:List A} {hs':List Blk} {e:Exit} (ids:List (Option Nat)) (hp:preOk 0 k ids=true:=by rfl) (h:RetOkM P s rs ids res hs':=by (simp only [z,seval];try omega)) (he:e = .normal∨e = .ret:=by first | exact .inr rfl | exact .inl rfl):RetM P k rs res hs' e s:=RetM.mk he ids hp h
theorem g0 {p:Fn→Prop}:∀ g,g∈([]:List Fn)→p g:=by simp
theorem g1 {p:Fn→Prop} {x:Fn} {l:List Fn} (h:p x) (hl:∀ g,g∈l→p g):∀ g,g∈x :: l→p g:=by
  intro g hg
  rcases List.mem_cons.1 hg with rfl | hg
  · exact h
  · exact hl g hg
theorem m0 {p:Blk→Prop}:∀ b∈([]:List Blk),p b:=by simp
theorem m1 {p:Blk→Prop} {x:Blk} {l:List Blk} (h:p x) (hl:∀ b∈l,p b):∀ b∈x :: l,p b:=by
  intro g hg
  rcases List.mem_cons.1 hg with rfl | hg
  · exact h
  · exact hl g hg
end Go.AE
