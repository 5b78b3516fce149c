/- Text. -/
import Derived.Test.YtkebegfopnlkhaaAE35
import Derived.Test.YtkebegfopnlkhaaAE18
set_option linter.unusedSimpArgs false
set_option linter.unusedVariables false
open _root_.Array renaming mem_append→Jz,mem_toList_iff→jz,getD_eq_getD_getElem?→jh,size_append→JH
open _root_.Bool renaming and_eq_true→jf
open _root_.List renaming eq_nil_of_length_eq_zero→jy,getD_cons_zero→jR,getD_cons_succ→jS,length_map→jq,getD_eq_getElem?_getD→ja,getElem_mem→jm,mem_cons→jN,map_cons→jP,length_append→jg,length_take→jt,getElem?_map→Je,size_toArray→jO,getElem?_toArray→JR,getElem?_append_left→js,getElem?_append_right→jw
open _root_.Nat renaming lt_of_lt_of_le→jW,zero_mul→Jj,le_refl→jr,zero_add→jL,mul_le_mul_right→jl,add_mul→ju
open Go.Op renaming operands→je
open _root_.Option.some renaming injEq→jb
open Go.Sem renaming run_bind→jv,run_pure→jK
namespace Go.AE
open Go.RowKit (Below)
variable {P:Program} {w0:Base} {w:World} {N:Nat} {σ:Nat→RefI} {s:S} {tms:Array Value} {ρ:Operand→Value} {al:Nat→Prop}
def allocL (w:World):List Value→List TypeId→World
  | v :: vs,t :: ts=>allocL (w.alloc (.cells #[v] t (0,0))) vs ts
  | _,_=>w
def ptrsL:Nat→List TypeId→List Value
  | n,_ :: ts=>.pointer (some ⟨n,0,none⟩) :: ptrsL (n+1) ts
  | _,[]=>[]
theorem ptrsL_len:∀ (n:Nat) (ts:List TypeId),(ptrsL n ts).length=ts.length
  | n,[]=>rfl
  | n,_ :: ts=>by simp [ptrsL,ptrsL_len (n+1) ts]
def Maker (P:Program) (f gf:FuncId) (ts:List TypeId):Prop :=
  (∀ args w,(callFunc f args).run P w = .ok (.enter f args) w) ∧
  ∀ (vs:List Value) (w:World),vs.length=ts.length→(∀ v,v∈vs→v.oneCell'=true)→Calls P f vs.toArray w fun e w'=>e = .returned (.func (.func gf) #[] (ptrsL w.heap.size ts).toArray)∧w'=allocL w vs ts
def boxL (d:Nat):Nat→List A→(Nat→Blk)→(Nat→Blk)
  | _,[],hp=>hp
  | j,a :: as,hp=>boxL d (j+1) as (upd hp (key d j) (.box [a]))
def boxRefs (d:Nat):Nat→List A→List A
  | _,[]=>[]
  | j,_ :: as=>.box (key d j) 0 :: boxRefs d (j+1) as
theorem boxRefs_len (d:Nat):∀ (j:Nat) (as:List A),(boxRefs d j as).length=as.length
  | j,[]=>rfl
  | j,_ :: as=>by simp [boxRefs,boxRefs_len d (j+1) as]
def deadL (d:Nat) (hp:Nat→Blk):Nat→List A→Bool
  | _,[]=>true
  | j,_ :: as=>isDead (hp (key d j)) && deadL d hp (j+1) as
theorem key_inj {d i j:Nat} (h:key d i=key d j):i=j:=by unfold key at h;omega
theorem deadL_upd {d i:Nat} {b:Blk}:∀ {as:List A} {j:Nat} {hp:Nat→Blk},i < j→deadL d hp j as=true→deadL d (upd hp (key d i) b) j as=true
  | [],_,_,_,_=>rfl
  | a :: as,j,hp,hi,h=>by
    simp only [deadL,jf] at h ⊢
    refine ⟨?_,deadL_upd (by omega) h.2⟩
    have:key d j≠key d i:=fun e=>by have:=key_inj e;omega
    simp only [upd,this,if_false];exact h.1
theorem rel_allocL (d:Nat):∀ (as:List A) (vs:List Value) (ts:List TypeId) (j:Nat) (σ:Nat→RefI) (hp:Nat→Blk) (w:World),RelL P w0 N σ ⟨s.tm,hp⟩ tms w→vs.length=as.length→ts.length=as.length→deadL d hp j as=true →
    (∀ i,i < as.length→ARel P w (Al w0 w σ hp) σ (vs.getD i undef) (as.getD i .unk)) →
    ∃ σ',RelL P w0 N σ' ⟨s.tm,boxL d j as hp⟩ tms (allocL w vs ts)∧(∀ id,σ id≠.dead→σ' id=σ id) ∧
      ∀ i,i < as.length→ARel P (allocL w vs ts) (Al w0 (allocL w vs ts) σ' (boxL d j as hp)) σ' ((ptrsL w.heap.size ts).getD i undef) ((boxRefs d j as).getD i .unk)
  | [],vs,ts,j,σ,hp,w,h,hv,ht,_,_=>by
    have:vs=[]:=jy hv
    subst this
    exact ⟨σ,by simpa [boxL,allocL] using h,fun _ _=>rfl,fun i hi=>by simp at hi⟩
  | a :: as,[],ts,j,σ,hp,w,h,hv,ht,_,_=>by simp at hv
  | a :: as,v :: vs,[],j,σ,hp,w,h,hv,ht,_,_=>by simp at ht
  | a :: as,v :: vs,t :: ts,j,σ,hp,w,h,hv,ht,hd,hr=>by
    simp only [deadL,jf] at hd
    have h0:=hr 0 (by simp)
    simp only [jR] at h0
    have hσd:=bref_dead (h.blks (key d j)) (isDead_spec hd.1)
    have h1:RelL P w0 N (upd σ (key d j) (.box w.heap.size)) ⟨s.tm,upd hp (key d j) (.box [a])⟩ tms (w.alloc (.cells #[v] t (0,0))):=by
      refine h.alloc (isDead_spec hd.1) (.cells #[v] t (0,0)) (.box w.heap.size) _ (by simp [blockOf];try (intro c hc;exact hc.symm)) (fun hal hheap hs=>?_)
      refine ⟨w.heap.size,#[v],t,by simp [upd],.inl h.below.size,heap_alloc_new w _,rfl,fun k hk=>?_⟩
      have:k=0:=by simp at hk;omega
      subst this
      exact h0.mono hheap hal hs
    have hex:∀ id,σ id≠.dead→upd σ (key d j) (.box w.heap.size) id=σ id:=fun id hid=>by
      simp only [upd];split
      · rename_i e;subst e;exact absurd hσd hid
      · rfl
    obtain ⟨σ',h2,h3,h4⟩:=rel_allocL d as vs ts (j+1) _ _ _ h1 (by simpa using hv) (by simpa using ht) (deadL_upd (by omega) hd.2) (fun i hi=>by
      have:=hr (i+1) (by simpa using hi)
      simp only [jS] at this
      refine this.mono (fun b hb=>Below.heap_alloc w _ b hb.1) (fun b hb=>?_) (fun id hid=>.inl (hex id hid))
      refine ⟨jW hb.1 (by simp),fun id hid=>?_,hb.2.2⟩
      simp only [upd] at hid ⊢
      by_cases e:id=key d j
      · simp only [e,if_true,blockOf] at hid
        have:=hb.1;omega
      · simp only [e,if_false] at hid ⊢;exact hb.2.1 id hid)
    refine ⟨σ',h2,fun id hid=>?_,fun i hi=>?_⟩
    · have e:=hex id hid
      rw [h3 id (by rw [e];exact hid),e]
    · cases i with
      | zero =>
        simp only [ptrsL,boxRefs,jR]
        refine .box _ _ _ ?_
        rw [h3 _ (by simp [upd])]
        simp [upd]
      | succ i =>
        simp only [ptrsL,boxRefs,jS]
        have:=h4 i (by simpa using hi)
        rw [show (w.alloc (.cells #[v] t (0,0))).heap.size=w.heap.size+1 by simp] at this
        exact this
def stepC (f gf:FuncId) (ts:List TypeId) (o:Oper) (s:S) (K:S→Prop):Prop :=
  match o.guard,o.op,o.dst with
  | none,.call c,some d=>match c.callee with
    | .value x=>match plainTm s.tm x with
      | .fnv g []=>g=f∧c.args.toList.length=ts.length∧allNeeds s.tm o.op.operands.toList∧deadL d s.hp 0 (c.args.toList.map (plainTm s.tm))=true∧allOne s.hp (c.args.toList.map (plainTm s.tm))=true ∧
        K ⟨upd s.tm d (.fnv gf (boxRefs d 0 (c.args.toList.map (plainTm s.tm)))),boxL d 0 (c.args.toList.map (plainTm s.tm)) s.hp⟩
      | _=>False
    | _=>False
  | _,_,_=>False
theorem stepC_ok {f gf:FuncId} {ts:List TypeId} (hM:Maker P f gf ts):StepSound P (stepC f gf ts):=by
  intro N ops o s K hok h
  unfold stepC at h
  split at h
  · rename_i c d hg ho hdst
    split at h
    · rename_i x hcal
      split at h
      · rename_i g hf
        obtain ⟨rfl,hlen,hn,hdead,hone,hK⟩:=h
        obtain ⟨hd,hop'⟩:=operOk_spec hok
        intro w0 a w hR
        refine ⟨fun _ K' Q hq=>?_,fun hw=>by rw [wanted_none hg] at hw;cases hw⟩
        obtain ⟨σ,hR⟩:=hR
        have hmem:∀ y,(y=x∨y∈c.args.toList)→y∈o.op.operands:=by
          intro y hy
          rw [ho]
          simp only [je,Call.operands,hcal]
          rcases hy with rfl | hy
          · exact Jz.2 (.inl (by simp))
          · exact Jz.2 (.inr (jz.1 hy))
        have hv:∀ y,(y=x∨y∈c.args.toList)→ARel P w (Al w0 w σ s.hp) σ (a.eval y) (plainTm s.tm y):=fun y hy =>
          plain_sound hR (hop' y (hmem y hy)) (allNeeds_spec hn y (jz.2 (hmem y hy)))
        have hfv:=hv x (.inl rfl)
        rw [hf] at hfv
        have hfe:a.eval x = .func (.func g) #[] #[]:=by
          revert hfv
          generalize a.eval x=u
          intro hfv
          cases hfv with
          | fnv _ _ vs hl hh =>
            have:vs=[]:=jy (by simpa using hl)
            subst this;rfl
        have hr:(execOp a.eval o).run P w = .ok (.enter g (c.args.toList.map a.eval).toArray) w:=by
          have hcf:=hM.1 (c.args.toList.map a.eval).toArray w
          have e2:c.args.map a.eval=(c.args.toList.map a.eval).toArray:=by
            rw [← Array.toList_map]
          obtain ⟨callee,args,argTypes⟩:=c
          simp only at hcal
          subst hcal
          simp only [execOp,ho,Go.resolve,jv,hfe,Deferred.ofValue,jK,Result.andThen_ok,invoke]
          simpa [e2] using hcf
        obtain ⟨σ',h1,h2,h3⟩:=rel_allocL (s:=s) d (c.args.toList.map (plainTm s.tm)) (c.args.toList.map a.eval) ts 0 σ s.hp w hR (by simp) (by simp only [jq];exact hlen.symm) hdead (fun i hi=>by
          have hi':i < c.args.toList.length:=by simpa using hi
          have e1:(c.args.toList.map a.eval).getD i undef=a.eval c.args.toList[i]:=by simp [ja,show i < c.args.size by simpa using hi']
          have e2:(c.args.toList.map (plainTm s.tm)).getD i .unk=plainTm s.tm c.args.toList[i]:=by simp [ja,show i < c.args.size by simpa using hi']
          rw [e1,e2]
          exact hv _ (.inr (jm hi')))
        unfold Oper.wp
        rw [hr]
        refine (hM.2 _ w (by simp only [jq];exact hlen) (fun v hv'=>?_)).mono ?_
        · obtain ⟨y,hy,rfl⟩:=List.mem_map.1 hv'
          obtain ⟨i,hi',rfl⟩:=List.getElem_of_mem hy
          have e2:(c.args.toList.map (plainTm s.tm)).getD i .unk=plainTm s.tm c.args.toList[i]:=by simp [ja,show i < c.args.size by simpa using hi']
          have:=allOne_spec hone i (by simpa using hi')
          rw [e2] at this
          exact oneA_sound hR this (hv _ (.inr (jm hi')))
        rintro e w' ⟨rfl,rfl⟩
        refine hq _ _ _ (put_defers _ _ _) hK ⟨σ',?_⟩
        rw [hdst]
        refine h1.put (hd d hdst) (.fnv gf _ _ (by rw [ptrsL_len,boxRefs_len,jq];exact hlen.symm) (fun i hi=>?_))
        rw [boxRefs_len] at hi
        exact h3 i hi
      · exact h.elim
    · exact h.elim
  · exact h.elim
end Go.AE
/-
  Regions that draw their order: every order, one by one.
-/
namespace Go.AE
open Go.RowKit (Below)
variable {P:Program} {w0:Base} {w:World} {N kp:Nat} {σ:Nat→RefI} {s:S} {tms:Array Value} {Γ:List Fn}
theorem wpOpsX_ok {ops:List Oper} {o:Oper} {K:S→Prop} (h00:tyI P 0=none) (hΓ:∀ g,g∈Γ→Contract P g) (ho:operOk N o=true) (h:wpOpsX P Γ [(gdst ops o,o)] s K):StepOk P N ops o s K:=by
  simp only [wpOpsX] at h
  rcases h with h | h | h | h | h | h | h | ⟨st,hs,h⟩ | ⟨st,hs,j,want,hg,hgt,h⟩
  · exact stepG_ok h00 hΓ ho h
  · exact stepX_ok ho h
  · exact stepN_ok ho h
  · exact stepM_ok h00 ho h
  · exact stepT_ok h00 hΓ ho h
  · exact stepF_ok ho h
  · exact stepP_ok ho h
  · exact hs _ _ _ _ _ ho h
  · have hU:=hs N ops (unguard o) s _ ho h
    intro w0 a w hR
    have hR0:=hR
    obtain ⟨σ,hR'⟩:=hR
    have hw:=guardOf_sound hR' hg ((guardOf_gdst hg s.tm).trans hgt)
    refine ⟨fun _ K' Q hq=>?_,fun hw'=>by rw [hw] at hw';cases hw'⟩
    exact (hU w0 a w hR0).1 (wanted_none rfl) K' Q hq
def wpT (P:Program) (Γ:List Fn) (ops:Array Oper) (Q:S→Prop):Nat→Array Bool→S→Prop
  | 0,listed,s=>Region.ready .any ops listed=[]∧Q s
  | n+1,listed,s=>(Region.ready .any ops listed=[]→Q s)∧∀ i∈Region.ready .any ops listed,∀ o,ops[i]? = some o→wpOpsX P Γ [(gdst ops.toList o,o)] s (wpT P Γ ops Q n (listed.setIfInBounds i true))
def wpTs (P:Program) (Γ:List Fn) (ops:Array Oper) (Q:S→Prop) (n:Nat) (listed:Array Bool) (s:S):List Nat→Prop
  | []=>True
  | i :: is=>(match ops.toList[i]? with | some o=>wpOpsX P Γ [(gdst ops.toList o,o)] s (wpT P Γ ops Q n (listed.setIfInBounds i true)) | none=>True)∧wpTs P Γ ops Q n listed s is
theorem wpTs_mem {ops:Array Oper} {Q:S→Prop} {n:Nat} {listed:Array Bool} {i:Nat} {o:Oper} (ho:ops[i]? = some o):∀ {l:List Nat},wpTs P Γ ops Q n listed s l→i∈l→wpOpsX P Γ [(gdst ops.toList o,o)] s (wpT P Γ ops Q n (listed.setIfInBounds i true))
  | j :: l,h,hi=>by
    simp only [wpTs] at h
    rcases jN.1 hi with rfl | hi
    · have:=h.1
      rw [Array.getElem?_toList,ho] at this
      exact this
    · exact wpTs_mem ho h.2 hi
theorem wpT_node {ops:Array Oper} {Q:S→Prop} {n:Nat} {listed:Array Bool} (i:Nat) (l:List Nat) (hr:Region.ready .any ops listed=i :: l) (h:wpTs P Γ ops Q n listed s (i :: l)):wpT P Γ ops Q (n+1) listed s:=by
  unfold wpT
  refine ⟨fun e=>?_,fun j hj o ho=>?_⟩
  · rw [hr] at e;cases e
  · rw [hr] at hj;exact wpTs_mem ho h hj
theorem wpT_sound {ops:Array Oper} {Q:S→Prop} {Q':Exit→Act→World→Prop} {a0:Act} (h00:tyI P 0=none) (hΓ:∀ g,g∈Γ→Contract P g) (hok:∀ o,o∈ops.toList→operOk N o=true)
    (hQ:∀ s' a' w',a'.defers=a0.defers→Rel P w0 N s' a'.tmps w'→Q s'→Q' .normal a' w') :
    ∀ (fuel:Nat) (listed:Array Bool) (s:S) (a:Act) (w:World),a.defers=a0.defers→wpT P Γ ops Q fuel listed s→Rel P w0 N s a.tmps w→wpAny P .any ops Q' fuel listed a w
  | 0,_,s,a,w,hd,h,hR=>⟨h.1,hQ s a w hd hR h.2⟩
  | fuel+1,listed,s,a,w,hd,h,hR=>by
    refine ⟨fun h0=>hQ s a w hd hR (h.1 h0),fun i hi=>?_⟩
    have h1:=h.2 i hi
    show wpOp P ops _ i _ a w
    unfold wpOp
    cases ho:ops[i]? with
    | none =>
      obtain ⟨_,o,ho',_⟩:=mem_ready.1 hi
      rw [ho] at ho';cases ho'
    | some o =>
      have hm:o∈ops.toList:=by
        obtain ⟨hlt,e⟩:=Array.getElem?_eq_some_iff.1 ho
        rw [← e];simp
      obtain ⟨k1,k2⟩:=wpOpsX_ok h00 hΓ (hok o hm) (h1 o ho) w0 a w hR
      have ih:∀ s' a' w',a'.defers=a.defers→wpT P Γ ops Q fuel (listed.setIfInBounds i true) s'→Rel P w0 N s' a'.tmps w'→wpAny P .any ops Q' fuel (listed.setIfInBounds i true) a' w':=fun s' a' w' hdf hK hR' =>
        wpT_sound h00 hΓ hok hQ fuel _ s' a' w' (hdf.trans hd) hK hR'
      simp only [Array.toArray_toList] at k1 k2
      simp only
      cases hw:Region.wanted o (yielded ops a.tmps) with
      | true=>exact .inl (k1 hw _ _ (fun s' a' w' h1 h2 h3=>ih s' a' w' h1 h2 h3))
      | false =>
        obtain ⟨s',h2,h3⟩:=k2 hw
        simp only [Bool.false_eq_true,if_false]
        exact ih s' _ _ (put_defers _ _ _) h2 h3
theorem Sm.regT {id:Nat} {ops:Array Oper} {Q:Exit→S→Prop} (h00:tyI P 0=none) (hm:P.follows .mixedOrders=true) (hΓ:∀ g,g∈Γ→Contract P g) (hok:(ops.toList.all (operOk N))=true)
    (h:wpT P Γ ops (Q .normal) ops.size (Array.replicate ops.size false) s):Sm P N kp (.region id ops true) s Q:=by
  intro r w0 Q' a w hk hr hd hR hQ
  have hok':∀ o,o∈ops.toList→operOk N o=true:=by simpa only [List.all_eq_true] using hok
  refine cw_region_any hm (operOk_noDefer hok') ?_
  obtain ⟨σ,hR'⟩:=hR
  have hR2:Rel P w0 N s a.tmps { w with drawn:=w.drawn+1 }:=⟨σ,hR'.world (Below.refl _ _).drew⟩
  exact wpT_sound (Q':=shutQ Q') h00 hΓ hok' (fun s' a' w' h1 h2 h3=>⟨by simp,hQ _ _ _ _ _ (Ext.refl _) (h1 ▸ hd) h2 h3⟩) ops.size _ s a _ rfl h hR2
end Go.AE
/-
  Rows with a lent cell: how they are made, how one grows.
-/
namespace Go.AE
open Go.RowKit (Below)
variable {P:Program} {w0:Base} {w:World} {N:Nat} {σ:Nat→RefI} {s:S} {tms:Array Value} {ρ:Operand→Value} {al:Nat→Prop}
theorem RelL.replaceB {w':World} {id key:Nat} {t:TypeId} {es:List (List C)} {r':RefI} {K:Blk} (h:RelL P w0 N σ s tms w) (hrow:s.hp id = .row t es) (hk:s.hp key = .dead)
    (hbelow:BelowX w0.n w0.mu w0.world w') (hsz:w.heap.size≤w'.heap.size) (hkeep:∀ c,c < w.heap.size→¬ blockOf (σ id) c→w'.heap[c]? = w.heap[c]?)
    (hr:∀ c,blockOf r' c→blockOf (σ id) c∨w.heap.size≤c)
    (hnew:(∀ c,Al w0 w σ s.hp c→Al w0 w' (upd (upd σ id .gone) key r') (upd (upd s.hp id .gone) key K) c)→(∀ c,Al w0 w σ s.hp c→w'.heap[c]? = w.heap[c]?) →
      BRel P w' w0.wr (Al w0 w' (upd (upd σ id .gone) key r') (upd (upd s.hp id .gone) key K)) (upd (upd σ id .gone) key r') key K) :
    RelL P w0 N (upd (upd σ id .gone) key r') ⟨s.tm,upd (upd s.hp id .gone) key K⟩ tms w':=by
  have hne:id≠key:=by intro e;rw [e,hk] at hrow;cases hrow
  have hσk:=bref_dead (h.blks key) hk
  have hnf:∀ c,Al w0 w σ s.hp c→¬ blockOf (σ id) c:=fun c hc e=>by have:=hc.2.1 id e;simp [hrow,isFrz] at this
  have hal:∀ c,Al w0 w σ s.hp c→Al w0 w' (upd (upd σ id .gone) key r') (upd (upd s.hp id .gone) key K) c:=by
    intro c hc
    refine ⟨jW hc.1 hsz,fun i hi=>?_,hc.2.2⟩
    by_cases e1:i=key
    · simp only [upd,e1,if_true] at hi
      rcases hr c hi with h1 | h1
      · exact absurd h1 (hnf c hc)
      · have:=hc.1;omega
    · by_cases e2:i=id
      · simp [upd,e2,hne,blockOf] at hi
      · simp only [upd,e1,e2,if_false] at hi ⊢;exact hc.2.1 i hi
  have hheap:∀ c,Al w0 w σ s.hp c→w'.heap[c]? = w.heap[c]? := fun c hc=>hkeep c hc.1 (hnf c hc)
  refine h.change hbelow hsz hal hheap (fun i hi=>?_) (fun i=>?_) ?_
  · by_cases e1:i=key
    · subst e1;exact absurd hσk hi
    · by_cases e2:i=id
      · refine .inr ⟨by simp [upd,e2,hne],?_⟩
        have hB:=h.blks id
        rw [hrow] at hB
        obtain ⟨E,_,_,hB⟩:=hB
        rw [e2]
        rcases hB with ⟨hB,_⟩ | ⟨_,_,_,_,hB,_⟩ <;> rw [hB] <;> exact trivial
      · exact .inl (by simp [upd,e1,e2])
  · by_cases e1:i=key
    · subst e1
      refine .inr ?_
      have:=hnew hal hheap
      have e0:upd (upd s.hp id .gone) i K i=K:=by simp [upd]
      rw [e0];exact this
    · by_cases e2:i=id
      · subst e2
        exact .inr (by simp [upd,hne,BRel])
      · refine .inl ⟨by simp [upd,e1,e2],by simp [upd,e1,e2],fun b hb=>hkeep b (block_lt_of_bref (h.blks i) hb).1 (fun e=>e2 (h.inj i id b hb e))⟩
  · intro i j b hi hj
    by_cases e1:i=key <;> by_cases e2:j=key
    · rw [e1,e2]
    · by_cases e3:j=id
      · simp [upd,e3,hne,blockOf] at hj
      · simp only [upd,e1,if_true] at hi
        simp only [upd,e2,e3,if_false] at hj
        rcases hr b hi with h1 | h1
        · exact absurd (h.inj j id b hj h1) e3
        · have:=(block_lt_of_bref (h.blks j) hj).1;omega
    · by_cases e3:i=id
      · simp [upd,e3,hne,blockOf] at hi
      · simp only [upd,e2,if_true] at hj
        simp only [upd,e1,e3,if_false] at hi
        rcases hr b hj with h1 | h1
        · exact absurd (h.inj i id b hi h1) e3
        · have:=(block_lt_of_bref (h.blks i) hi).1;omega
    · by_cases e3:i=id
      · simp [upd,e3,hne,blockOf] at hi
      · by_cases e4:j=id
        · simp [upd,e4,hne,blockOf] at hj
        · simp only [upd,e1,e3,if_false] at hi
          simp only [upd,e2,e4,if_false] at hj
          exact h.inj i j b hi hj
def bsL (P:Program) (t:TypeId) (n:Nat) (parts:List (Nat×A)) (d:Option Nat) (hp:Nat→Blk):Option Out :=
  match slE P t,d,n,parts with
  | some (e,E),some d,1,[(0,.own id1 ks1 0 len1)]=>match hp id1 with
    | .row u es1=>if (E.kinds == [.slice u]) && isDead (hp (key d 0)) then some ⟨len1≤es1.length∧(E.bytes:Int)≤140737488355328,True,.own (key d 0) E.kinds 0 1,upd hp (key d 0) (.rl e [[.slice (es1.take len1)]] 0 0 (.own id1 ks1 0 len1)),false⟩ else none
    | _=>none
  | _,_,_,_=>none
theorem bsL_sound {o:Oper} {r:Out} {t:TypeId} {n:Nat} {parts:Array (Nat×Operand)} {v:Operand→A} (h:RelL P w0 N σ s tms w) (hf:bsL P t n (parts.toList.map fun p=>(p.1,v p.2)) o.dst s.hp=some r) (ho:o.op = .buildSlice t n parts) (hp:r.pre)
    (hv:∀ x,x∈o.op.operands→ARel P w (Al w0 w σ s.hp) σ (ρ x) (v x)):OpOk P w0 N s tms o ρ w r:=by
  unfold bsL at hf
  split at hf
  · rename_i e E d id1 ks1 len1 hs hdst hparts
    split at hf
    · rename_i u es1 hb
      split at hf
      · rename_i hc
        simp only [jf,beq_iff_eq] at hc
        obtain ⟨hk,hd⟩:=hc
        simp only [jb] at hf;subst hf
        obtain ⟨hle,hby⟩:=hp
        obtain ⟨hu,hE⟩:=slE_spec hs
        obtain ⟨S⟩:=tyI_spec hE
        obtain ⟨x,hpx,hvx⟩:∃ x,parts = #[(0,x)]∧v x = .own id1 ks1 0 len1:=by
          match hpl:parts.toList,hparts with
          | [],hparts=>simp at hparts
          | [p],hparts =>
            simp only [jP,List.map_nil,List.cons.injEq,Prod.mk.injEq,and_true] at hparts
            refine ⟨p.2,?_,hparts.2⟩
            have:parts = #[p]:=by apply Array.toList_inj.1;simpa using hpl
            rw [this,← hparts.1]
          | p :: q :: l,hparts=>simp at hparts
        subst hpx
        have hx:=hv x (by rw [ho];simp [je])
        rw [hvx] at hx
        have hlv:live s.hp id1=true:=by unfold live;simp [hb]
        obtain ⟨⟨sa,sc,hxs⟩,_⟩:=own_is_slice h hlv hx
        have hxc:(ρ x).cells = #[ρ x]:=by rw [hxs];rfl
        have hk1:E.kinds.length=1:=by rw [hk];rfl
        have hz:S.z.cells.size=1:=by have:=(zerosC_rel (P:=P) (w:=w) (al:=fun _=>True) S.zfits).1;rw [hk1] at this;simpa using this
        obtain ⟨cells',hfl,hcs,hg⟩:=fill_one (place:=fun i=>some (i * E.kinds.length,E.kinds.length)) (cells:=(Array.range (1 * E.kinds.length)).map (S.z.cells[· % S.z.cells.size]!)) (i:=0) (rest:=[]) (v:=ρ x) rfl (by rw [hxc,hk1];rfl) (by simp [hk1])
        have hg0:cells'.getD 0 undef=ρ x:=by
          rw [hg 0,if_pos (by omega),hxc,Jj];rfl
        have hcsz:cells'.size=1:=by rw [hcs];simp [hk1]
        have hdd:=isDead_spec hd
        refine .inl ⟨.slice (some ⟨w.heap.size,0,none⟩) 1 1,w.alloc (.cells cells' e (0,0)),?_,trivial,upd σ (key d 0) (.row w.heap.size 1 e E.kinds 1),?_,.own0 (F:=fun _=>False) _ _ 1 w.heap.size 1 1 e (by simp [upd]) (jr _)⟩
        · simp only [execOp,ho]
          refine run_value ?_
          have hcl':¬ (1 * E.kinds.length > 2 ^ 24):=by omega
          have h0:¬ (1 * E.kinds.length=0):=by omega
          simp only [Instr.buildSlice,jv,run_underlying hu,Result.andThen_ok,run_size hE,hcl',if_false,pure_bind,h0,zeroValue,run_typeInfo w S.info,S.zero,jK,List.map_toArray,jP,List.map_nil]
          rw [hfl]
          simp only [Instr.fill,newRow,newObj,jv]
          rfl
        · refine h.alloc hdd (.cells cells' e (0,0)) (.row w.heap.size 1 e E.kinds 1) _ (by simp [blockOf];try (intro c hc;exact hc.symm)) (fun hal hheap hss=>?_)
          refine ⟨E,hE,by simpa using hby,.inr ⟨w.heap.size,1,cells',_,by simp [upd],.inl h.below.size,heap_alloc_new w _,by simp,by simp [maxLen],by rw [hcsz,hk1],?_,?_,?_⟩⟩
          · intro i hi
            have:i=0:=by simp at hi;omega
            subst this;rw [hk1];rfl
          · intro i' hi' j' hj' hn
            exact absurd ⟨by simp at hi';omega,by omega⟩ hn
          · intro _
            refine ⟨by omega,?_⟩
            rw [Jj,jL,hg0]
            exact hx.mono hheap hal hss
      · cases hf
    · cases hf
  · cases hf
def appL (P:Program) (t u:TypeId) (d:Option Nat) (hp:Nat→Blk) (x y:A):Option Out :=
  match slE P t,d,x,y with
  | some (e,E),some d,.own id ks 0 len,.own id2 _ 0 1=>if t=u then (match hp id,hp id2 with
    | .row e1 es,.rl e2 es2 0 j2 (.own id3 ks3 0 len3)=>match hp id3 with
      | .row _ _=>if ((e1 == e && e2 == e) && (es2.length == 1 && plainKs E.kinds)) && isDead (hp (key d 0)) then
          some ⟨len≤es.length∧((len+1:Nat):Int) * E.bytes≤140737488355328,True,.own (key d 0) ks 0 (len+1),upd (upd (upd hp id2 .gone) id .gone) (key d 0) (.rl e (es.take len ++ es2) len j2 (.own id3 ks3 0 len3)),false⟩ else none
      | _=>none
    | _,_=>none) else none
  | _,_,_,_=>none
theorem appL_close {t':TypeId} {E:TyI} {es es2:List (List C)} {id id2 kid j2 len b2 cap2:Nat} {a2:A} {cur2:Array Value} (h:RelL P w0 N σ s tms w) (hE:tyI P t'=some E) (hb:s.hp id = .row t' es) (hb2:s.hp id2 = .rl t' es2 0 j2 a2) (hd:s.hp kid = .dead) (hl2:es2.length=1)
    (hle:len≤es.length) (hby:((len+1:Nat):Int) * E.bytes≤140737488355328) (hg2:σ id2 = .row b2 cap2 t' E.kinds es2.length)
    (hel2:(eg es2 0).length=E.kinds.length) (hr2:∀ j,j < E.kinds.length→j≠j2→RepC P w (Al w0 w σ s.hp) (E.kinds.getD j .other) (cur2.getD j undef) (cg (eg es2 0) j)) (hj2:j2 < E.kinds.length) (ha2:ARel P w (Al w0 w σ s.hp) σ (cur2.getD j2 undef) a2)
    {w':World} {b cap:Nat} {cur:Array Value} {tg:TypeId} (hbelow:BelowX w0.n w0.mu w0.world w') (hsz:w.heap.size≤w'.heap.size) (hkeep:∀ c,c < w.heap.size→¬ blockOf (σ id) c→w'.heap[c]? = w.heap[c]?) (hbb:blockOf (σ id) b∨w.heap.size≤b) (hwr:w0.wr b)
    (hh:w'.heap[b]? = some (.cells cur tg (0,0))) (hcap:len+1≤cap) (hcm:cap≤maxLen) (hcs:cur.size=cap * E.kinds.length) (hel:∀ i,i < len→(eg es i).length=E.kinds.length)
    (hold:∀ i,i < len→∀ j,j < E.kinds.length→RepC P w (Al w0 w σ s.hp) (E.kinds.getD j .other) (cur.getD (i * E.kinds.length+j) undef) (cg (eg es i) j)) (hnew:∀ j,j < E.kinds.length→cur.getD (len * E.kinds.length+j) undef=cur2.getD j undef) :
    ∃ σ',RelL P w0 N σ' ⟨s.tm,upd (upd (upd s.hp id2 .gone) id .gone) kid (.rl t' (es.take len ++ es2) len j2 a2)⟩ tms w' ∧
      ARel P w' (Al w0 w' σ' (upd (upd (upd s.hp id2 .gone) id .gone) kid (.rl t' (es.take len ++ es2) len j2 a2))) σ' (.slice (some ⟨b,0,none⟩) (len+1) cap) (.own kid E.kinds 0 (len+1)):=by
  have hne:id≠id2:=by intro e;rw [e,hb2] at hb;cases hb
  have hnk:id2≠kid:=by intro e;rw [e,hd] at hb2;cases hb2
  have hnk1:id≠kid:=by intro e;rw [e,hd] at hb;cases hb
  have hσk:σ kid = .dead:=bref_dead (h.blks kid) hd
  have h1:=h.lose id2 (by rw [hg2];trivial)
  have hal1:∀ c,Al w0 w σ s.hp c→Al w0 w (upd σ id2 .gone) (upd s.hp id2 .gone) c:=by
    intro c hc
    refine ⟨hc.1,fun i hi=>?_,hc.2.2⟩
    simp only [upd] at hi ⊢
    by_cases e:i=id2
    · simp [e,blockOf] at hi
    · simp only [e,if_false] at hi ⊢;exact hc.2.1 i hi
  have hσ1:upd σ id2 .gone id=σ id:=by simp [upd,hne]
  have hlen:(es.take len ++ es2).length=len+1:=by rw [jg,jt,hl2];omega
  have hea:∀ i,i < len→eg (es.take len ++ es2) i=eg es i:=fun i hi=>by rw [eg_app_l (by simp;omega),eg_take hi]
  have heb:eg (es.take len ++ es2) len=eg es2 0:=by
    rw [eg_app_r (by simp;omega)]
    congr 1
    rw [jt];omega
  refine ⟨upd (upd (upd σ id2 .gone) id .gone) kid (.row b cap t' E.kinds (len+1)),?_,.own0 (F:=fun _=>False) _ _ _ b cap (len+1) t' (by simp [upd]) (jr _)⟩
  refine h1.replaceB (id:=id) (key:=kid) (t:=t') (es:=es) (r':=.row b cap t' E.kinds (len+1)) (by simp [upd,hne,hb]) (by simp [upd,Ne.symm hnk,hd]) hbelow hsz (fun c hc hn=>hkeep c hc (by rw [hσ1] at hn;exact hn)) (fun c hc=>by
    rw [hσ1]
    simp only [blockOf,or_false] at hc
    subst hc;exact hbb) (fun hal hheap=>?_)
  have hA:∀ c,Al w0 w σ s.hp c→w'.heap[c]? = w.heap[c]? := fun c hc=>hheap c (hal1 c hc)
  have hB:∀ c,Al w0 w σ s.hp c→Al w0 w' (upd (upd (upd σ id2 .gone) id .gone) kid (.row b cap t' E.kinds (len+1))) (upd (upd (upd s.hp id2 .gone) id .gone) kid (.rl t' (es.take len ++ es2) len j2 a2)) c:=fun c hc=>hal c (hal1 c hc)
  refine ⟨E,hE,by rw [hlen];exact hby,.inr ⟨b,cap,cur,tg,by simp [upd,hlen],hwr,hh,by rw [hlen];exact hcap,hcm,hcs,?_,?_,?_⟩⟩
  · intro i hi
    rw [hlen] at hi
    by_cases e:i < len
    · rw [hea i e];exact hel i e
    · have:i=len:=by omega
      subst this;rw [heb];exact hel2
  · intro i hi j hj hn
    rw [hlen] at hi
    by_cases e:i < len
    · rw [hea i e];exact (hold i e j hj).mono hA hB
    · have:i=len:=by omega
      subst this
      rw [heb,hnew j hj]
      exact (hr2 j hj (fun e=>hn ⟨rfl,e⟩)).mono hA hB
  · intro _
    refine ⟨hj2,?_⟩
    rw [hnew j2 hj2]
    refine ha2.mono hA hB (fun i hi=>?_)
    by_cases e1:i=kid
    · subst e1;exact absurd hσk hi
    · by_cases e2:i=id
      · subst e2
        refine .inr ⟨by simp [upd,e1],?_⟩
        have hB:=h.blks i
        rw [hb] at hB
        obtain ⟨_,_,_,hB⟩:=hB
        rcases hB with ⟨hB,_⟩ | ⟨_,_,_,_,hB,_⟩ <;> rw [hB] <;> exact trivial
      · by_cases e3:i=id2
        · subst e3
          exact .inr ⟨by simp [upd,e1,e2],by rw [hg2];trivial⟩
        · exact .inl (by simp [upd,e1,e2,e3])
theorem appL_sound {o:Oper} {r:Out} {t u:TypeId} {x y:Operand} {a b:A} (h:RelL P w0 N σ s tms w) (hf:appL P t u o.dst s.hp a b=some r) (ho:o.op = .call ⟨.builtin .append,#[x,y],#[t,u]⟩) (hp:r.pre)
    (hx:ARel P w (Al w0 w σ s.hp) σ (ρ x) a) (hy:ARel P w (Al w0 w σ s.hp) σ (ρ y) b):OpOk P w0 N s tms o ρ w r:=by
  unfold appL at hf
  split at hf
  · rename_i e E d id ks len id2 ks2 hs hdst
    split at hf
    · rename_i htu
      subst htu
      split at hf
      · rename_i e1 es e2 es2 j2 id3 ks3 len3 hb hb2
        split at hf
        · rename_i e3 es3 hb3
          split at hf
          · rename_i hc
            simp only [jf,beq_iff_eq] at hc
            obtain ⟨⟨⟨rfl,rfl⟩,hl2,hpl⟩,hd⟩:=hc
            simp only [jb] at hf;subst hf
            obtain ⟨hle,hby⟩:=hp
            have hdd:=isDead_spec hd
            obtain ⟨hu,hE⟩:=slE_spec hs
            obtain ⟨S⟩:=tyI_spec hE
            have hkp:=kinds_pos hE
            -- the source
            obtain ⟨_,_,⟨E2,hE2,hks2⟩,hv2⟩:=rl_own h hb2 hy
            rw [hE] at hE2;simp only [jb] at hE2;subst hE2
            obtain ⟨b2,cap2,hye,hg2⟩:∃ b cap,ρ y = .slice (some ⟨b,0,none⟩) 1 cap∧σ id2 = .row b cap e2 ks2 es2.length:=by
              rcases hv2 with ⟨_,h0⟩ | h0
              · cases h0
              · exact h0
            subst hks2
            have hB2:=h.blks id2
            rw [hb2] at hB2
            obtain ⟨E3,hE3,_,hB2⟩:=hB2
            rw [hE] at hE3;simp only [jb] at hE3;subst hE3
            obtain ⟨cur2,tg2,hh2,hcs2,hel2,hr2,hj2,ha2⟩:∃ cur2 tg2,w.heap[b2]? = some (.cells cur2 tg2 (0,0))∧E.kinds.length≤cur2.size∧(eg es2 0).length=E.kinds.length∧(∀ j,j < E.kinds.length→j≠j2→RepC P w (Al w0 w σ s.hp) (E.kinds.getD j .other) (cur2.getD j undef) (cg (eg es2 0) j))∧j2 < E.kinds.length∧ARel P w (Al w0 w σ s.hp) σ (cur2.getD j2 undef) (.own id3 ks3 0 len3):=by
              rcases hB2 with ⟨hr,_⟩ | ⟨b',cap',cur,tg,hr,_,hh,q1,q2,q3,q4,q5,q6⟩
              · rw [hr] at hg2;cases hg2
              · rw [hr] at hg2;simp only [RefI.row.injEq] at hg2
                obtain ⟨rfl,rfl,_⟩:=hg2
                have h6:=q6 (by omega)
                rw [Jj,jL] at h6
                refine ⟨cur,tg,hh,?_,q4 0 (by omega),fun j hj hn=>?_,h6.1,h6.2⟩
                · rw [q3]
                  have:1 * E.kinds.length≤cap' * E.kinds.length:=jl _ (by omega)
                  omega
                · have:=q5 0 (by omega) j hj (fun e=>hn e.2)
                  rwa [Jj,jL] at this
            obtain ⟨news,hnews⟩:∃ news,news=(List.range E.kinds.length).map fun j=>cur2.getD j undef:=⟨_,rfl⟩
            have mlen:news.length=1 * E.kinds.length:=by rw [hnews];simp
            have mget:∀ j u,news[j]? = some u→j < E.kinds.length∧u=cur2.getD j undef:=by
              intro j u hj
              rw [hnews,Je] at hj
              by_cases hlt:j < E.kinds.length
              · rw [List.getElem?_range hlt] at hj
                simp only [Option.map_some,jb] at hj
                exact ⟨hlt,hj.symm⟩
              · rw [List.getElem?_eq_none (by simpa using Nat.le_of_not_lt hlt)] at hj;cases hj
            have mgetD:∀ j,j < E.kinds.length→news.getD j undef=cur2.getD j undef:=by
              intro j hj
              rw [hnews,ja,Je,List.getElem?_range hj];rfl
            have hcell2:∀ j u,news[j]? = some u→w.cell? (Addr.add ⟨b2,0,none⟩ j)=some u:=by
              intro j u hj
              obtain ⟨hlt,rfl⟩:=mget j u hj
              rw [Addr.add_lit,jL,cell_of_row w b2 j cur2 _ (0,0) hh2]
              have:j < cur2.size:=by omega
              simp [Array.getD,this]
            have hone:∀ u∈news,u.oneCell'=true:=by
              intro u hu
              obtain ⟨j,hj⟩:=List.mem_iff_getElem?.1 hu
              obtain ⟨hlt,rfl⟩:=mget j u hj
              by_cases e:j=j2
              · subst e
                have hlv:live s.hp id3=true:=by unfold live;simp [hb3]
                obtain ⟨⟨sa,sc,hxs⟩,_⟩:=own_is_slice h hlv ha2
                rw [hxs];rfl
              · have hr:=hr2 j hlt e
                have hk:=plainKs_spec hpl j hlt
                generalize cur2.getD j undef=u at hr
                generalize E.kinds.getD j .other=k at hr hk
                cases hr with
                | bool _=>rfl
                | int _ _ _=>rfl
                | str _ _=>rfl
                | empty _ _ _ _ _ _=>rfl
                | slice _ _ _ _ _ _ _ _ _ _ _ _ _ _ _=>rfl
                | arr _ _ _ _ _ _ _ _ _ _ _=>exact absurd rfl (hk.2.2 _)
                | ptr _ _ _=>exact absurd rfl (hk.2.1 _)
                | other _ _=>exact absurd rfl hk.1
            -- the row
            have hlv:live s.hp id=true:=by unfold live;simp [hb]
            obtain ⟨t',es',hb',_,⟨E',hE',hks⟩,hbd,hv⟩:=own_spec h hlv hx
            have heq:t'=e2∧es'=es:=by
              rcases hb' with hb' | hb' <;> rw [hb] at hb' <;> simp at hb' <;> exact ⟨hb'.1.symm,hb'.2.symm⟩
            obtain ⟨rfl,rfl⟩:=heq
            rw [hE] at hE';simp only [jb] at hE';subst hE';subst hks
            have hB0:RowRel P w w0.wr (Al w0 w σ s.hp) (σ id) t' es':=by have:=h.blks id;rw [hb] at this;exact this
            have hbyn:(len+1) * E.bytes≤140737488355328:=by omega
            have hnle:len+1≤140737488355328:=by
              have:=S.pos
              have:(len+1) * 1≤(len+1) * E.bytes:=Nat.mul_le_mul_left _ (by omega)
              omega
            have hzl:S.z.cells.size=E.kinds.length:=by have:=(zerosC_rel (P:=P) (w:=w) (al:=fun _=>True) S.zfits).1;simpa using this
            have fin:∀ {w':World} {b cap:Nat} {cur:Array Value} {tg:TypeId},(Builtin.append_ #[t,t] o.type #[ρ x,ρ y]).run P w = .ok (.slice (some ⟨b,0,none⟩) (len+1) cap) w'→BelowX w0.n w0.mu w0.world w'→w.heap.size≤w'.heap.size→(∀ c,c < w.heap.size→¬ blockOf (σ id) c→w'.heap[c]? = w.heap[c]?)→(blockOf (σ id) b∨w.heap.size≤b)→w0.wr b →
                w'.heap[b]? = some (.cells cur tg (0,0))→len+1≤cap→cap≤maxLen→cur.size=cap * E.kinds.length→(∀ i,i < len→(eg es' i).length=E.kinds.length) →
                (∀ i,i < len→∀ j,j < E.kinds.length→RepC P w (Al w0 w σ s.hp) (E.kinds.getD j .other) (cur.getD (i * E.kinds.length+j) undef) (cg (eg es' i) j))→(∀ j,j < E.kinds.length→cur.getD (len * E.kinds.length+j) undef=cur2.getD j undef) →
                OpOk P w0 N s tms o ρ w ⟨len≤es'.length∧((len+1:Nat):Int) * E.bytes≤140737488355328,True,.own (key d 0) E.kinds 0 (len+1),upd (upd (upd s.hp id2 .gone) id .gone) (key d 0) (.rl t' (es'.take len ++ es2) len j2 (.own id3 ks3 0 len3)),false⟩:=by
              intro w' b cap cur tg hrun g1 g2 g3 g4 g5 g6 g7 g8 g9 g10 g11 g12
              obtain ⟨σ',hR,hA⟩:=appL_close h hE hb hb2 hdd hl2 hle hby hg2 hel2 hr2 hj2 ha2 g1 g2 g3 g4 g5 g6 g7 g8 g9 g10 g11 g12
              refine .inl ⟨_,w',?_,trivial,σ',hR,hA⟩
              simp only [execOp,ho]
              exact run_value (x:=Builtin.append_ #[t,t] o.type (#[x,y].map ρ)) (by simpa using hrun)
            have grow:∀ (olds:List Value) (cp:Nat),(Builtin.append_ #[t,t] o.type #[ρ x,ρ y]).run P w = .ok (.slice (some ⟨w.heap.size,0,none⟩) (len+1) (grownCap w (len+1) cp t'))
                (w.drew.alloc (.cells ((olds.toArray ++ news.toArray) ++ Builtin.zeroCells S.z.cells (grownCap w (len+1) cp t' - (len+1))) t')) →
                olds.length=len * E.kinds.length→(∀ i,i < len→(eg es' i).length=E.kinds.length) →
                (∀ i,i < len→∀ j,j < E.kinds.length→RepC P w (Al w0 w σ s.hp) (E.kinds.getD j .other) (olds.getD (i * E.kinds.length+j) undef) (cg (eg es' i) j)) →
                OpOk P w0 N s tms o ρ w ⟨len≤es'.length∧((len+1:Nat):Int) * E.bytes≤140737488355328,True,.own (key d 0) E.kinds 0 (len+1),upd (upd (upd s.hp id2 .gone) id .gone) (key d 0) (.rl t' (es'.take len ++ es2) len j2 (.own id3 ks3 0 len3)),false⟩:=by
              intro olds cp r0 hol hel hrep
              have hcap:=grownCap_ge w (len+1) cp t'
              have hcapm:=grownCap_le_maxLen w (len+1) cp t' (by simp only [maxLen];omega)
              have hgd:∀ q,q < (len+1) * E.kinds.length→((olds.toArray ++ news.toArray) ++ Builtin.zeroCells S.z.cells (grownCap w (len+1) cp t' - (len+1))).getD q undef=(olds ++ news).getD q undef:=by
                intro q hq
                have hl:(olds ++ news).length=(len+1) * E.kinds.length:=by rw [jg,hol,mlen,ju]
                rw [jh,Array.getElem?_append_left (by simp only [JH,jO];rw [← jg,hl];exact hq),List.append_toArray,JR,← ja]
              refine fin r0 (h.below.then ((below_drew_alloc w _).mono h.below.size)) (below_drew_alloc w _).size (fun c hc _=>(below_drew_alloc w _).block c hc) (.inr (jr _)) (.inl h.below.size) (heap_alloc_new w.drew _) hcap hcapm ?_ hel ?_ ?_
              · rw [JH,JH,jO,jO,hol,mlen,zeroCells_size,hzl,← ju,← ju]
                congr 1;omega
              · intro i hi j hj
                have h1:=cell_lt hi hj
                have e2:(olds ++ news).getD (i * E.kinds.length+j) undef=olds.getD (i * E.kinds.length+j) undef:=by
                  rw [ja,js (by omega),← ja]
                rw [hgd _ (by rw [ju];omega),e2]
                exact hrep i hi j hj
              · intro j hj
                rw [hgd _ (by rw [ju];omega),ja,jw (by omega),← ja,hol,Nat.add_sub_cancel_left]
                exact mgetD j hj
            rcases hv with ⟨hxe,hl0,_,hes,hrown⟩ | ⟨_,ho',_⟩ | ⟨bb,cap,c,hg,hxe,hc0,hlc⟩
            · subst hl0
              have hrun:=run_append_nil (P:=P) w t o.type t' S.i S.z hu S.info S.zero ⟨b2,0,none⟩ 1 cap2 news (by rw [S.size];exact mlen) hcell2 (by omega) (by omega) (by rw [S.bytes];simp at hbyn;omega)
              refine grow [] 0 ?_ (by simp) (fun i hi=>by omega) (fun i hi=>by omega)
              rw [hxe,hye]
              simpa using hrun
            · exact absurd rfl ho'
            · have hcc:=hc0 rfl
              subst hcc
              rw [Jj] at hxe
              obtain ⟨_,_,_,hBb,cur,tg,hh,hsz,hec',hcm,_,hel',hcell'⟩:=row_cell hB0 hg
              have hel:∀ i,i < len→(eg es' i).length=E.kinds.length:=fun i hi=>hel' i (by omega)
              have hcl:cur.toList.length=cur.size:=Array.length_toList
              have hle2:len * E.kinds.length≤cur.size:=by rw [hsz];exact jl _ (by omega)
              have htk:(cur.toList.take (len * E.kinds.length)).length=len * E.kinds.length:=by rw [jt];omega
              have oldr:∀ i,i < len→∀ j,j < E.kinds.length→RepC P w (Al w0 w σ s.hp) (E.kinds.getD j .other) ((cur.toList.take (len * E.kinds.length)).getD (i * E.kinds.length+j) undef) (cg (eg es' i) j):=by
                intro i hi j hj
                rw [getD_take_lt _ _ _ _ (cell_lt hi hj)]
                have e1:cur.toList.getD (i * E.kinds.length+j) undef=cur.getD (i * E.kinds.length+j) undef:=by simp [jh,ja]
                rw [e1];exact (hcell' i (by omega) j hj).2.2
              by_cases hroom:len+1≤c
              · have hfit:len * E.kinds.length+news.length≤cur.size:=by
                  rw [mlen,hsz,← ju];exact jl _ hroom
                have hrun:=run_append_roomT (P:=P) w t o.type t' tg S.i hu S.info bb len c cur hh ⟨b2,0,none⟩ 1 cap2 news (by rw [S.size];exact mlen) hcell2 hone hroom (by rw [S.size];exact hfit)
                rw [S.size] at hrun
                have hlist:(cur.toList.take (len * E.kinds.length) ++ news ++ cur.toList.drop (len * E.kinds.length+news.length)).length=cur.size:=by
                  rw [jg,jg,htk,List.length_drop,hcl];omega
                refine fin (by rw [hxe,hye];exact hrun) (h.below.trans ⟨by simp,by simp,by simp,by simp,fun k hk hn=>setRow_other w bb k _ (by
                  rcases hBb with hBb | hBb
                  · omega
                  · intro e;exact hn (e ▸ hBb))⟩) (by simp) (fun k hk hkb=>setRow_other w bb k _ (fun e=>hkb (by rw [hg,e];exact .inl rfl))) (.inl (by rw [hg];exact .inl rfl)) hBb (setRow_heap w bb cur _ _ _ hh) hroom hcm (by rw [jO,hlist,hsz]) hel ?_ ?_
                · intro i hi j hj
                  have h1:=cell_lt hi hj
                  have:(cur.toList.take (len * E.kinds.length) ++ news ++ cur.toList.drop (len * E.kinds.length+news.length)).toArray.getD (i * E.kinds.length+j) undef=(cur.toList.take (len * E.kinds.length)).getD (i * E.kinds.length+j) undef:=by
                    rw [jh,JR,List.append_assoc,js (by omega),← ja]
                  rw [this];exact oldr i hi j hj
                · intro j hj
                  have:(cur.toList.take (len * E.kinds.length) ++ news ++ cur.toList.drop (len * E.kinds.length+news.length)).toArray.getD (len * E.kinds.length+j) undef=news.getD j undef:=by
                    rw [jh,JR,js (by rw [jg];omega),jw (by omega),htk,Nat.add_sub_cancel_left,← ja]
                  rw [this];exact mgetD j hj
              · have hrun:=run_append_grow (P:=P) w t o.type t' S.i S.z hu S.info S.zero ⟨bb,0,none⟩ len c (cur.toList.take (len * E.kinds.length)) (by rw [S.size];exact htk) (fun j v hj=>by
                    rw [Addr.add_lit,jL,cell_of_row w bb j cur _ (0,0) hh]
                    rw [List.getElem?_take] at hj
                    split at hj
                    · simpa using hj
                    · cases hj) ⟨b2,0,none⟩ 1 cap2 news (by rw [S.size];exact mlen) hcell2 (by omega) (by omega) (by rw [S.bytes];exact growslice_fits (by omega) hbyn)
                refine grow (cur.toList.take (len * E.kinds.length)) c ?_ htk hel oldr
                rw [hxe,hye];exact hrun
          · cases hf
        · cases hf
      · cases hf
    · cases hf
  · cases hf
def opLR (P:Program) (o:Oper) (hp:Nat→Blk) (v:Operand→A):Option Out :=
  match o.op with
  | .buildSlice t n parts=>bsL P t n (parts.toList.map fun p=>(p.1,v p.2)) o.dst hp
  | .call c=>match c.callee with
    | .builtin .append=>match c.args.toList,c.argTypes.toList with
      | [x,y],[t,u]=>appL P t u o.dst hp (v x) (v y)
      | _,_=>none
    | _=>none
  | _=>none
def stepLR (P:Program) (o:Oper) (s:S) (K:S→Prop):Prop :=
  match o.guard with
  | none=>match opLR P o s.hp (plainTm s.tm) with
    | some r=>allNeeds s.tm o.op.operands.toList∧r.pre∧(r.fact→K ⟨updD s.tm o.dst r.val,r.hp⟩)
    | none=>False
  | some _=>False
theorem opLR_sound {o:Oper} {r:Out} {v:Operand→A} (h:RelL P w0 N σ s tms w) (hop:opLR P o s.hp v=some r) (hv:∀ x,x∈o.op.operands→ARel P w (Al w0 w σ s.hp) σ (ρ x) (v x)) (hp:r.pre):OpOk P w0 N s tms o ρ w r:=by
  cases hoo:o.op with
  | buildSlice t n parts=>simp only [opLR,hoo] at hop;exact bsL_sound h hop hoo hp hv
  | call c =>
    obtain ⟨callee,args,argTypes⟩:=c
    cases callee with
    | builtin b =>
      cases b with
      | append =>
        simp only [opLR,hoo] at hop
        split at hop
        · rename_i x y t u hax hat
          have e1:=array_of_toList hax
          have e2:=array_of_toList hat
          subst e1 e2
          exact appL_sound h hop hoo hp (hv x (by rw [hoo];simp [je,Call.operands])) (hv y (by rw [hoo];simp [je,Call.operands]))
        · cases hop
      | _=>simp [opLR,hoo] at hop
    | _=>simp [opLR,hoo] at hop
  | _=>simp [opLR,hoo] at hop
theorem stepLR_ok:StepSound P (stepLR P):=by
  intro N ops o s K hok h
  unfold stepLR at h
  split at h
  · rename_i hg
    split at h
    · rename_i r hop
      obtain ⟨hn,hp,hK⟩:=h
      obtain ⟨_,ho⟩:=operOk_spec hok
      exact stepOk_of hg hok r (fun w0 a w σ hR=>opLR_sound hR hop (fun x hx=>plain_sound hR (ho x hx) (allNeeds_spec hn x (jz.2 hx))) hp) hK
    · exact h.elim
  · exact h.elim
end Go.AE
/-
  Array values whose elements take one cell each: literals, elements.
-/
namespace Go.AE
variable {P:Program} {w0:Base} {w:World} {N:Nat} {σ:Nat→RefI} {s:S} {tms:Array Value} {ρ:Operand→Value} {al:Nat→Prop}
end Go.AE
/-
  The rules once more, with their scripts inside: what a printed proof says shortly. The scripts name 'z' (the seat's equations), 'h00', 'mixed', 'hΓ' and, where calls are known, 'q' of the place of use.
-/
namespace Go.AE
variable {P:Program} {N kp:Nat} {s s':S} {Γ:List Fn} {Q:Exit→S→Prop} {a b c:Code}
theorem Sm.st (e:s=s') (h:Sm P N kp c s' Q):Sm P N kp c s Q:=e ▸ h
theorem rA {id:Nat} {ops:Array Oper} (h:Sm P N kp b s' Q) (h1:tyI P 0=none:=by exact h00) (h2:P.follows .mixedOrders=true:=by exact mixed) (h3:∀ g,g∈Γ→Contract P g:=by exact hΓ) (h4:codeOk N (.region id ops false)=true:=by kernel_rfl)
    (h5:∀ K:S→Prop,K s'→wpOpsG P Γ (resolve ops.toList ops.toList) s K:=by (intro K0 hK0;simp only [rs];(repeat (refine opsG fun K hK=>?_;simp only [z,seval];(repeat first | refine gcI ?_ | intro (_:_≤_));refine hK _ ?_;clear hK K));exact opsG0 hK0)):Sm P N kp (.seq (.region id ops false) b) s Q:=Sm.seqA h1 h2 h3 h4 fun K hK=>h5 K (hK _ h)
theorem rAq {id:Nat} {ops:Array Oper} (h:Sm P N kp b s' Q) (h1:tyI P 0=none:=by exact h00) (h2:P.follows .mixedOrders=true:=by exact mixed) (h3:∀ g,g∈Γ→Contract P g:=by exact hΓ) (h4:codeOk N (.region id ops false)=true:=by kernel_rfl)
    (h5:∀ K:S→Prop,K s'→wpOpsG P Γ (resolve ops.toList ops.toList) s K:=by (intro K0 hK0;simp only [rs];(repeat (refine opsG fun K hK=>?_;simp only [z,seval,q];(repeat first | refine gcI ?_ | intro (_:_≤_));refine hK _ ?_;clear hK K));exact opsG0 hK0)):Sm P N kp (.seq (.region id ops false) b) s Q:=Sm.seqA h1 h2 h3 h4 fun K hK=>h5 K (hK _ h)
theorem rD {id:Nat} {ops:Array Oper} (h:Sm P N kp b s' Q) (h1:tyI P 0=none:=by exact h00) (h2:P.follows .mixedOrders=true:=by exact mixed) (h3:∀ g,g∈Γ→Contract P g:=by exact hΓ) (h4:codeOk N (.region id ops true)=true:=by kernel_rfl)
    (h5:∀ K:S→Prop,K s'→wpOpsH P Γ (resolve ops.toList ops.toList) s K:=by (intro K0 hK0;simp only [rs];(repeat (refine opsH fun K hK=>?_;simp only [z,seval];(repeat first | refine gcI ?_ | intro (_:_≤_));refine hK _ ?_;clear hK K));exact opsH0 hK0)):Sm P N kp (.seq (.region id ops true) b) s Q:=Sm.seqD h1 h2 h3 h4 fun K hK=>h5 K (hK _ h)
theorem rDq {id:Nat} {ops:Array Oper} (h:Sm P N kp b s' Q) (h1:tyI P 0=none:=by exact h00) (h2:P.follows .mixedOrders=true:=by exact mixed) (h3:∀ g,g∈Γ→Contract P g:=by exact hΓ) (h4:codeOk N (.region id ops true)=true:=by kernel_rfl)
    (h5:∀ K:S→Prop,K s'→wpOpsH P Γ (resolve ops.toList ops.toList) s K:=by (intro K0 hK0;simp only [rs];(repeat (refine opsH fun K hK=>?_;simp only [z,seval,q];(repeat first | refine gcI ?_ | intro (_:_≤_));refine hK _ ?_;clear hK K));exact opsH0 hK0)):Sm P N kp (.seq (.region id ops true) b) s Q:=Sm.seqD h1 h2 h3 h4 fun K hK=>h5 K (hK _ h)
theorem eA {id:Nat} {ops:Array Oper} (h:Q .normal s') (h1:tyI P 0=none:=by exact h00) (h2:P.follows .mixedOrders=true:=by exact mixed) (h3:∀ g,g∈Γ→Contract P g:=by exact hΓ) (h4:codeOk N (.region id ops false)=true:=by kernel_rfl)
    (h5:∀ K:S→Prop,K s'→wpOpsG P Γ (resolve ops.toList ops.toList) s K:=by (intro K0 hK0;simp only [rs];(repeat (refine opsG fun K hK=>?_;simp only [z,seval];(repeat first | refine gcI ?_ | intro (_:_≤_));refine hK _ ?_;clear hK K));exact opsG0 hK0)):Sm P N kp (.region id ops false) s Q:=Sm.regA h1 h2 h3 h4 (h5 _ h)
theorem eAq {id:Nat} {ops:Array Oper} (h:Q .normal s') (h1:tyI P 0=none:=by exact h00) (h2:P.follows .mixedOrders=true:=by exact mixed) (h3:∀ g,g∈Γ→Contract P g:=by exact hΓ) (h4:codeOk N (.region id ops false)=true:=by kernel_rfl)
    (h5:∀ K:S→Prop,K s'→wpOpsG P Γ (resolve ops.toList ops.toList) s K:=by (intro K0 hK0;simp only [rs];(repeat (refine opsG fun K hK=>?_;simp only [z,seval,q];(repeat first | refine gcI ?_ | intro (_:_≤_));refine hK _ ?_;clear hK K));exact opsG0 hK0)):Sm P N kp (.region id ops false) s Q:=Sm.regA h1 h2 h3 h4 (h5 _ h)
theorem eD {id:Nat} {ops:Array Oper} (h:Q .normal s') (h1:tyI P 0=none:=by exact h00) (h2:P.follows .mixedOrders=true:=by exact mixed) (h3:∀ g,g∈Γ→Contract P g:=by exact hΓ) (h4:codeOk N (.region id ops true)=true:=by kernel_rfl)
    (h5:∀ K:S→Prop,K s'→wpOpsH P Γ (resolve ops.toList ops.toList) s K:=by (intro K0 hK0;simp only [rs];(repeat (refine opsH fun K hK=>?_;simp only [z,seval];(repeat first | refine gcI ?_ | intro (_:_≤_));refine hK _ ?_;clear hK K));exact opsH0 hK0)):Sm P N kp (.region id ops true) s Q:=Sm.regD h1 h2 h3 h4 (h5 _ h)
theorem sX {id:Nat} {ops:Array Oper} {l:List (Option Nat×Oper)} (h:∀ K:S→Prop,(∀ s',Sm P N kp b s' Q→K s')→wpOpsX P Γ l s K) (h1:tyI P 0=none:=by exact h00) (h2:P.follows .mixedOrders=true:=by exact mixed) (h3:∀ g,g∈Γ→Contract P g:=by exact hΓ) (h4:codeOk N (.region id ops false)=true:=by kernel_rfl)
    (h5:∀ K:List (Option Nat×Oper)→Prop,K l→K (resolve ops.toList ops.toList):=by intro K hK;simp only [rs];exact hK):Sm P N kp (.seq (.region id ops false) b) s Q:=Sm.seqX h1 h2 h3 h4 fun K hK=>h5 (fun l=>wpOpsX P Γ l s K) (h K hK)
theorem eX {id:Nat} {ops:Array Oper} {l:List (Option Nat×Oper)} (h:wpOpsX P Γ l s (Q .normal)) (h1:tyI P 0=none:=by exact h00) (h2:P.follows .mixedOrders=true:=by exact mixed) (h3:∀ g,g∈Γ→Contract P g:=by exact hΓ) (h4:codeOk N (.region id ops false)=true:=by kernel_rfl)
    (h5:∀ K:List (Option Nat×Oper)→Prop,K l→K (resolve ops.toList ops.toList):=by intro K hK;simp only [rs];exact hK):Sm P N kp (.region id ops false) s Q:=Sm.rgX h1 h2 h3 h4 (h5 (fun l=>wpOpsX P Γ l s (Q .normal)) h)
variable {g:Option Nat} {o:Oper} {os:List (Option Nat×Oper)} {K:S→Prop}
theorem oX (h:wpOpsX P Γ os s' K) (hs:∀ K:S→Prop,K s'→stepG P Γ g o s K:=by intro K hK;simp only [z,seval];(repeat first | refine gcI ?_ | intro (_:_≤_));exact hK):wpOpsX P Γ ((g,o) :: os) s K:=opsX fun K hK=>hs K (hK _ h)
theorem oXq (h:wpOpsX P Γ os s' K) (hs:∀ K:S→Prop,K s'→stepG P Γ g o s K:=by intro K hK;simp only [z,seval,q];(repeat first | refine gcI ?_ | intro (_:_≤_));exact hK):wpOpsX P Γ ((g,o) :: os) s K:=opsX fun K hK=>hs K (hK _ h)
theorem oY (h:wpOpsX P Γ os s' K) (hs:∀ K:S→Prop,K s'→stepX P o s K:=by intro K hK;simp only [z,seval];(repeat first | refine gcI ?_ | intro (_:_≤_));exact hK):wpOpsX P Γ ((g,o) :: os) s K:=opsY fun K hK=>hs K (hK _ h)
theorem oYq (h:wpOpsX P Γ os s' K) (hs:∀ K:S→Prop,K s'→stepX P o s K:=by intro K hK;simp only [z,seval,q];(repeat first | refine gcI ?_ | intro (_:_≤_));exact hK):wpOpsX P Γ ((g,o) :: os) s K:=opsY fun K hK=>hs K (hK _ h)
theorem oE {st:Oper→S→(S→Prop)→Prop} (hst:StepSound P st) (h:wpOpsX P Γ os s' K) (hs:∀ K:S→Prop,K s'→st o s K:=by intro K hK;simp only [z,seval];(repeat first | refine gcI ?_ | intro (_:_≤_));exact hK):wpOpsX P Γ ((g,o) :: os) s K:=opsE hst fun K hK=>hs K (hK _ h)
theorem oEq {st:Oper→S→(S→Prop)→Prop} (hst:StepSound P st) (h:wpOpsX P Γ os s' K) (hs:∀ K:S→Prop,K s'→st o s K:=by intro K hK;simp only [z,seval,q];(repeat first | refine gcI ?_ | intro (_:_≤_));exact hK):wpOpsX P Γ ((g,o) :: os) s K:=opsE hst fun K hK=>hs K (hK _ h)
theorem oTG {j:Nat} {want:Bool} (h:wpOpsX P Γ os s' K) (hg:o.guard=some (j,want):=by rfl) (ht:guardT s.tm g want=some true:=by simp only [z,seval,q]) (hs:∀ K:S→Prop,K s'→stepG P Γ none (unguard o) s K:=by intro K hK;simp only [z,seval,q];(repeat first | refine gcI ?_ | intro (_:_≤_));exact hK):wpOpsX P Γ ((g,o) :: os) s K:=opsTG hg ht fun K hK=>hs K (hK _ h)
theorem oTY {j:Nat} {want:Bool} (h:wpOpsX P Γ os s' K) (hg:o.guard=some (j,want):=by rfl) (ht:guardT s.tm g want=some true:=by simp only [z,seval,q]) (hs:∀ K:S→Prop,K s'→stepX P (unguard o) s K:=by intro K hK;simp only [z,seval,q];(repeat first | refine gcI ?_ | intro (_:_≤_));exact hK):wpOpsX P Γ ((g,o) :: os) s K:=opsTY hg ht fun K hK=>hs K (hK _ h)
theorem oTE {st:Oper→S→(S→Prop)→Prop} (hst:StepSound P st) {j:Nat} {want:Bool} (h:wpOpsX P Γ os s' K) (hg:o.guard=some (j,want):=by rfl) (ht:guardT s.tm g want=some true:=by simp only [z,seval,q]) (hs:∀ K:S→Prop,K s'→st (unguard o) s K:=by intro K hK;simp only [z,seval,q];(repeat first | refine gcI ?_ | intro (_:_≤_));exact hK):wpOpsX P Γ ((g,o) :: os) s K:=opsTE hst hg ht fun K hK=>hs K (hK _ h)
theorem oFq {j:Nat} {want:Bool} (h:wpOpsX P Γ os ⟨updD s.tm o.dst (.when false (.c .bool (.bool false))),s.hp⟩ K) (hg:o.guard=some (j,want):=by rfl) (ht:guardT s.tm g want=some false:=by simp only [z,seval,q]):wpOpsX P Γ ((g,o) :: os) s K:=opsF hg ht h
theorem oPl (h:wpOpsX P Γ os s' K) (hs:∀ K:S→Prop,K s'→stepP o s K:=by intro K hK;simp only [z,seval,q];(repeat first | refine gcI ?_ | intro (_:_≤_));refine Or.inl ?_;(repeat first | refine gcI ?_ | intro (_:_≤_));exact hK):wpOpsX P Γ ((g,o) :: os) s K:=opsP fun K hK=>hs K (hK _ h)
theorem oPr (h:wpOpsX P Γ os s' K) (hs:∀ K:S→Prop,K s'→stepP o s K:=by intro K hK;simp only [z,seval,q];(repeat first | refine gcI ?_ | intro (_:_≤_));refine Or.inr ?_;(repeat first | refine gcI ?_ | intro (_:_≤_));exact hK):wpOpsX P Γ ((g,o) :: os) s K:=opsP fun K hK=>hs K (hK _ h)
theorem oMq {d:Option Nat} {f:Operand} {args:Array Operand} {argTypes:Array TypeId} {ty:TypeId} {pos:String} {after:Array Edge} {gf:FuncId} {caps:List A} {as:List Arg} {hs:List Blk} {res:List A} {hs':List Blk}
    (C0:CallsM P gf as hs res hs') (ids keys:List Nat)
    (h:wpOpsX P Γ os ⟨updD s.tm d (unTup (renMs (mL (ids ++ keys)) res)),putAll (ids ++ keys) (hs'.map (renB (mL (ids ++ keys)))) (freezeAll s.hp (datIds as (args.toList.map (plainTm s.tm) ++ caps)))⟩ K)
    (hf:plainTm s.tm f = .fnv gf caps:=by (simp only [z,seval,q];try rfl)) (hn:allNeeds s.tm (Op.call ⟨.value f,args,argTypes⟩).operands.toList:=by simp only [z,seval,q]) (hb:blksAt s.hp (mL ids) hs.length ids hs:=by simp only [z,seval,q])
    (ha:matchArg s.hp (mL ids) hs.length as (args.toList.map (plainTm s.tm) ++ caps):=by simp only [z,seval,q]) (hd:disj ids (datIds as (args.toList.map (plainTm s.tm) ++ caps))=true:=by simp only [z,seval,q]) (hnd:nodupL (ids ++ keys)=true:=by rfl) (hk:allDead s.hp keys=true:=by simp only [z,seval,q]) (hl:keys.length+hs.length=hs'.length:=by rfl) :
    wpOpsX P Γ ((g,⟨d,.call ⟨.value f,args,argTypes⟩,ty,pos,after,none⟩) :: os) s K:=opsM C0 ids keys hf hn hb ha hd hnd hk hl h
theorem oTM {d:Option Nat} {f:Operand} {args:Array Operand} {argTypes:Array TypeId} {ty:TypeId} {pos:String} {after:Array Edge} {gf:FuncId} {caps:List A} {as:List Arg} {j0:Nat} {want:Bool} {hs:List Blk} {res:List A} {hs':List Blk}
    (C0:CallsM P gf as hs res hs') (ids keys:List Nat)
    (h:wpOpsX P Γ os ⟨updD s.tm d (unTup (renMs (mL (ids ++ keys)) res)),putAll (ids ++ keys) (hs'.map (renB (mL (ids ++ keys)))) (freezeAll s.hp (datIds as (args.toList.map (plainTm s.tm) ++ caps)))⟩ K)
    (ht:guardT s.tm g want=some true:=by simp only [z,seval,q]) (hf:plainTm s.tm f = .fnv gf caps:=by (simp only [z,seval,q];try rfl)) (hn:allNeeds s.tm (Op.call ⟨.value f,args,argTypes⟩).operands.toList:=by simp only [z,seval,q]) (hb:blksAt s.hp (mL ids) hs.length ids hs:=by simp only [z,seval,q])
    (ha:matchArg s.hp (mL ids) hs.length as (args.toList.map (plainTm s.tm) ++ caps):=by simp only [z,seval,q]) (hd:disj ids (datIds as (args.toList.map (plainTm s.tm) ++ caps))=true:=by simp only [z,seval,q]) (hnd:nodupL (ids ++ keys)=true:=by rfl) (hk:allDead s.hp keys=true:=by simp only [z,seval,q]) (hl:keys.length+hs.length=hs'.length:=by rfl) :
    wpOpsX P Γ ((g,⟨d,.call ⟨.value f,args,argTypes⟩,ty,pos,after,some (j0,want)⟩) :: os) s K:=opsTM C0 ids keys ht hf hn hb ha hd hnd hk hl h
theorem sQ {id:Nat} {ops:Array Oper} {l:List ((Option Bool×Foot)×Option Nat×Oper)} (ord:List Nat) (Rl:List (Option Bool×Foot)) (h:∀ K:S→Prop,(∀ s',Sm P N kp b s' Q→K s')→wpOpsHQ P Γ l s K) (h1:tyI P 0=none:=by exact h00) (h2:P.follows .mixedOrders=true:=by exact mixed) (h3:∀ g,g∈Γ→Contract P g:=by exact hΓ)
    (hok:regOkQ (fun i=>(Rl.getD i (none,[],[])).2) N ops ord=true:=by kernel_rfl) (hlen:ord.length=ops.size:=by rfl) (h5:∀ K:List ((Option Bool×Foot)×Option Nat×Oper)→Prop,K l→K (inOrd ops.toList Rl ord):=by intro K hK;simp only [rs];exact hK):Sm P N kp (.seq (.region id ops true) b) s Q:=Sm.seqQ h1 h2 h3 ord Rl hok hlen fun K hK=>h5 (fun l=>wpOpsHQ P Γ l s K) (h K hK)
theorem eQ {id:Nat} {ops:Array Oper} {l:List ((Option Bool×Foot)×Option Nat×Oper)} (ord:List Nat) (Rl:List (Option Bool×Foot)) (h:wpOpsHQ P Γ l s (Q .normal)) (h1:tyI P 0=none:=by exact h00) (h2:P.follows .mixedOrders=true:=by exact mixed) (h3:∀ g,g∈Γ→Contract P g:=by exact hΓ)
    (hok:regOkQ (fun i=>(Rl.getD i (none,[],[])).2) N ops ord=true:=by kernel_rfl) (hlen:ord.length=ops.size:=by rfl) (h5:∀ K:List ((Option Bool×Foot)×Option Nat×Oper)→Prop,K l→K (inOrd ops.toList Rl ord):=by intro K hK;simp only [rs];exact hK):Sm P N kp (.region id ops true) s Q:=Sm.regQ h1 h2 h3 ord Rl hok hlen (h5 (fun l=>wpOpsHQ P Γ l s (Q .normal)) h)
variable {r:Option Bool×Foot} {ol:List ((Option Bool×Foot)×Option Nat×Oper)}
theorem oQ (h:wpOpsHQ P Γ ol s' K) (hs:∀ K:S→Prop,K s'→stepHQ P Γ r g o s K:=by intro K hK;simp only [z,seval];(repeat first | refine gcI ?_ | intro (_:_≤_));exact hK) (hv:vF r.2=false:=by rfl):wpOpsHQ P Γ ((r,g,o) :: ol) s K:=opsQ (fun K hK=>hs K (hK _ h)) hv
theorem oQq (h:wpOpsHQ P Γ ol s' K) (hs:∀ K:S→Prop,K s'→stepHQ P Γ r g o s K:=by intro K hK;simp only [z,seval,q];(repeat first | refine gcI ?_ | intro (_:_≤_));exact hK) (hv:vF r.2=false:=by rfl):wpOpsHQ P Γ ((r,g,o) :: ol) s K:=opsQ (fun K hK=>hs K (hK _ h)) hv
theorem oQV (h:wpOpsHQ P Γ ol s' K) (hs:∀ K:S→Prop,K s'→stepHV P r o s K:=by intro K hK;simp only [z,seval];(repeat first | refine gcI ?_ | intro (_:_≤_));exact hK) (hv:vF r.2=true:=by rfl):wpOpsHQ P Γ ((r,g,o) :: ol) s K:=opsQV hv fun K hK=>hs K (hK _ h)
def wpV (s:S) (t:Operand) (K:Bool→Prop):Prop:=match opdA s.tm t with | .c .bool x=>K x.toBool | _=>False
theorem cnd {t:Operand} {α:Type} {x y:Option α} {r:α} {v v':Bool} (H:cond v x y=some r) (h1:v=true→x=some r→Sm P N kp a s Q) (h2:v=false→y=some r→Sm P N kp b s Q) (hok:okOpd t=true:=by rfl) (hv:∀ K:Bool→Prop,K v'→wpV s t K:=by intro K hK;simp only [wpV,z,seval];exact hK)
    (hc:v'=v:=by first | rfl | simp only [jg] | simp only [z,seval,q]):Sm P N kp (.cond t a b) s Q:=by
  subst hc
  refine Sm.condK hok fun Ka Kb ha hb=>?_
  have:=hv (fun x=>(x=true→Ka)∧(x=false→Kb)) ⟨fun e=>ha (h1 e (bif_t e H)),fun e=>hb (h2 e (bif_f e H))⟩
  unfold wpV at this;unfold wpCond
  revert this
  cases opdA s.tm t with
  | c k x=>cases k <;> intro h <;> first | exact h | exact h.elim
  | _=>intro h;exact h.elim
theorem cndT {t:Operand} (h1:Sm P N kp a s Q) (hok:okOpd t=true:=by rfl) (hv:∀ K:Bool→Prop,K true→wpV s t K:=by intro K hK;simp only [wpV,z,seval];exact hK):Sm P N kp (.cond t a b) s Q:=cnd (v:=true) (x:=some ()) (y:=none) (r:=()) rfl (fun _ _=>h1) (fun e=>by cases e) hok hv rfl
theorem lf {p p':Prop} (h:p') (e:p'→p:=by (intro h;(try simp only [seval,Exit.exit.injEq]);exact h)):p:=e h
theorem wb {L:List (Nat×A)} {bs:List (Nat×Blk)} (os:List (Option Nat)) (hkp:keepOk kp (zipH os bs)=true:=by rfl) (hl:os.length=bs.length:=by rfl) (ho:oldsOk (zipH os bs)=true:=by rfl) (hL:subTs P (zipH os bs) s.hp s.tm L:=by simp only [wk,z,seval]) (hH:subHs P (zipH os bs) s.hp (zipH os bs):=by simp only [wk,z,seval]):Weak P kp s (stB L bs):=weak_b os hkp hl ho hL hH
theorem nx {X Y:Type} {v:X} {r:X ⊕ Y} {p:X→Prop} (H:some (Sum.inl v)=some r) (h:p v):∃ x,r = .inl x∧p x:=⟨v,(Option.some.inj H).symm,h⟩
theorem lx {X Y:Type} {v y:Y} {r:X ⊕ Y} {p:Prop} (H:some (Sum.inr v)=some r) (h:v=y→p):(∃ x,r = .inr x)∧(r = .inr y→p):=⟨⟨v,(Option.some.inj H).symm⟩,fun e=>h (Sum.inr.inj ((Option.some.inj H).trans e))⟩
theorem rt {rs:List ResultVar} {sig:Sig} {e:Exit} (ret:List (Option Nat)) (h:RetOk P s rs ret sig:=by simp only [z,seval]) (he:e = .normal∨e = .ret:=by first | exact .inr rfl | exact .inl rfl):Ret P rs sig e s:=Ret.ofR ret he h
theorem rto {rs:List ResultVar} {sig:Sig} {e:Exit} (ret:List (Option Nat)) (h:RetOk P s rs ret sig:=by (simp only [z,seval];try omega)) (he:e = .normal∨e = .ret:=by first | exact .inr rfl | exact .inl rfl):Ret P rs sig e s:=Ret.ofR ret he h
theorem rtM {k:Nat} {rs:List ResultVar} {res:List A} {hs':List Blk} {e:Exit} (ids:List (Option Nat)) (hp:preOk 0 k ids=true:=by rfl) (h:RetOkM P s rs ids res hs':=by (simp only [z,seval];try omega)) (he:e = .normal∨e = .ret:=by first | exact .inr rfl | exact .inl rfl):RetM P k rs res hs' e s:=RetM.mk he ids hp h
theorem g0 {p:Fn→Prop}:∀ g,g∈([]:List Fn)→p g:=by simp
theorem g1 {p:Fn→Prop} {x:Fn} {l:List Fn} (h:p x) (hl:∀ g,g∈l→p g):∀ g,g∈x :: l→p g:=by
  intro g hg
  rcases jN.1 hg with rfl | hg
  · exact h
  · exact hl g hg
theorem m0 {p:Blk→Prop}:∀ b∈([]:List Blk),p b:=by simp
theorem m1 {p:Blk→Prop} {x:Blk} {l:List Blk} (h:p x) (hl:∀ b∈l,p b):∀ b∈x :: l,p b:=by
  intro g hg
  rcases jN.1 hg with rfl | hg
  · exact h
  · exact hl g hg
end Go.AE
