/- Text. -/
import Derived.Test.YtfhnelkbiihpiaaGreatDoorAE36B
set_option linter.unusedVariables false
open _root_.Array renaming mem_toList_iff→jp,getElem?_eq_some_iff→jg,replicate→j6,getElem?_toList→Jq
open _root_.Bool renaming and_eq_true→jd,false_eq_true→jD
open _root_.List renaming mem_cons→jv,map_congr_left→jz,mem_append→jf,all_eq_true→jP
open Go.Op renaming operands→jc
open _root_.Option.some renaming injEq→ja
open _root_.Prod.mk renaming injEq→jj
namespace Go.AE
open Go.RowKit (Below)
variable {P:Program} {w0:Base} {w:World} {N kp:Nat} {σ:Nat→RefI} {s:S} {tms:Array Value} {ρ:Operand→Value} {al:Nat→Prop} {Γ:List Fn}
abbrev Foot:=List Nat×List Nat
def inL:List Nat→Nat→Bool
  | [],_=>false
  | x :: xs,k=>x == k || inL xs k
def subL:List Nat→List Nat→Bool
  | [],_=>true
  | x :: xs,ys=>inL ys x && subL xs ys
def dk7:List Nat→List Nat→Bool
  | [],_=>true
  | x :: xs,ys=>!inL ys x && dk7 xs ys
theorem dqu {k:Nat}:∀ {l:List Nat},inL l k=true↔k∈l
  | []=>by simp [inL]
  | x :: l=>by simp only [inL,Bool.or_eq_true,beq_iff_eq,jv,dqu (l:=l)];exact ⟨fun h=>h.imp Eq.symm id,fun h=>h.imp Eq.symm id⟩
theorem aw2 {k:Nat}:∀ {l m:List Nat},subL l m=true→k∈l→k∈m
  | x :: l,m,h,hk=>by
    simp only [subL,jd] at h
    rcases jv.1 hk with rfl | hk
    · exact dqu.1 h.1
    · exact aw2 h.2 hk
theorem ayj {k:Nat}:∀ {l m:List Nat},dk7 l m=true→k∈l→k ∉ m
  | x :: l,m,h,hk=>by
    simp only [dk7,jd,Bool.not_eq_true'] at h
    rcases jv.1 hk with rfl | hk
    · intro hm;rw [dqu.2 hm] at h;cases h.1
    · exact ayj h.2 hk
def bzp (f g:Foot):Bool:=dk7 f.2 g.1 && (dk7 f.2 g.2 && dk7 g.2 f.1)
def bze (r:Option Bool) (f:Foot) (o:Oper) (tm:Nat→A):Bool :=
  match r with
  | some false=>true
  | _=>subL (rIds o (aj4 tm)) f.1 && subL (wIds o (aj4 tm)) f.2
theorem cwz {ops:List Oper} {o:Oper} {tm tm':Nat→A} (h:∀ t,t∈o.looksAt ops.toArray→tm t=tm' t):rIds o (aj4 tm)=rIds o (aj4 tm'):=by
  have e:o.op.operands.toList.map (aj4 tm)=o.op.operands.toList.map (aj4 tm'):=by
    refine jz fun x hx=>(aki (fun t ht=>h t ?_)).1
    simp only [Oper.looksAt]
    refine jf.2 (.inl ?_)
    rw [List.mem_filterMap]
    exact ⟨x,hx,by rw [ht]⟩
  unfold rIds
  rw [e]
theorem dzx {ops:List Oper} {o:Oper} {tm tm':Nat→A} (h:∀ t,t∈o.looksAt ops.toArray→tm t=tm' t):wIds o (aj4 tm)=wIds o (aj4 tm'):=by
  have hx:∀ x,x∈o.op.operands→aj4 tm x=aj4 tm' x:=fun x hx=>(aki (fun t ht=>h t (by
    simp only [Oper.looksAt]
    refine jf.2 (.inl ?_)
    rw [List.mem_filterMap]
    exact ⟨x,jp.2 hx,by rw [ht]⟩))).1
  have e:=cwz h
  unfold wIds
  rw [e]
  cases ho:o.op with
  | store t x y=>dsimp only;rw [hx x (by rw [ho];simp [jc])]
  | call c =>
    obtain ⟨callee,args,argTypes⟩:=c
    cases callee with
    | builtin b =>
      cases b <;> try rfl
      dsimp only
      split
      · rename_i y ys hy
        rw [hx y (by rw [ho];exact jp.1 (by simp [jc,Call.operands,hy]))]
      · rfl
    | _=>rfl
  | _=>rfl
theorem cyo {r:Option Bool} {f:Foot} {ops:List Oper} {o:Oper} {tm tm':Nat→A} (h:∀ t,t∈o.looksAt ops.toArray→tm t=tm' t):bze r f o tm=bze r f o tm':=by
  unfold bze
  rw [cwz h,dzx h]
theorem ejq {ops:List Oper} {o:Oper} {tm:Nat→A} {hp hp' hp1:Nat→Blk} {p f:Prop} {v:A} (hA:∀ k,k∈rIds o (aj4 tm) ++ wIds o (aj4 tm)→hp' k=hp k) (h:eff P Γ ops o tm hp=some (p,f,v,hp1)) :
    ∃ hp1',eff P Γ ops o tm hp'=some (p,f,v,hp1')∧Loc (wIds o (aj4 tm)) hp hp' hp1 hp1':=by
  have hW:∀ k,k∈wIds o (aj4 tm)→hp' k=hp k:=fun k hk=>hA k (jf.2 (.inr hk))
  unfold eff at h ⊢
  split at h
  · split at h
    · split at h
      · split at h
        · simp only [ja,jj] at h
          obtain ⟨rfl,rfl,rfl,rfl⟩:=h
          exact ⟨hp',rfl,Loc.refl hW⟩
        · split at h
          · simp only [ja,jj] at h
            obtain ⟨rfl,rfl,rfl,rfl⟩:=h
            exact ⟨hp',rfl,Loc.refl hW⟩
          · cases h
      · cases h
    · cases h
  · split at h
    · cases h
    · rename_i r hop
      obtain ⟨hp2,e1,e2⟩:=ek5 hA hop
      rw [e1]
      split at h
      · simp only [ja,jj] at h
        obtain ⟨rfl,rfl,rfl,rfl⟩:=h
        exact ⟨hp2,rfl,e2⟩
      · split at h
        · split at h
          · rename_i hq
            simp only [ja,jj] at h
            obtain ⟨rfl,rfl,rfl,rfl⟩:=h
            dsimp only
            rw [if_pos hq]
            exact ⟨hp',rfl,Loc.refl hW⟩
          · cases h
        · cases h
theorem ewo {r:Option Bool} {fo:Foot} {ops:List Oper} {o:Oper} {tm:Nat→A} {hp hp' hp1:Nat→Blk} {p f:Prop} {v:A} (hF:bze r fo o tm=true) (hA:∀ k,k∈fo.1 ++ fo.2→hp' k=hp k) (h:effR P Γ r ops o tm hp=some (p,f,v,hp1)) :
    ∃ hp1',effR P Γ r ops o tm hp'=some (p,f,v,hp1')∧Loc fo.2 hp hp' hp1 hp1':=by
  have hself:hp1=hp→Loc fo.2 hp hp' hp1 hp':=fun e=>by rw [e];exact Loc.refl (fun k hk=>hA k (jf.2 (.inr hk)))
  have up:r≠some false→∀ hp2,Loc (wIds o (aj4 tm)) hp hp' hp1 hp2→Loc fo.2 hp hp' hp1 hp2:=by
    intro hr hp2 hl
    have hF':subL (wIds o (aj4 tm)) fo.2=true:=by
      unfold bze at hF
      split at hF
      · exact absurd rfl hr
      · simp only [jd] at hF;exact hF.2
    refine ⟨fun k hk=>?_,fun k hk=>hl.out k (fun h=>hk (aw2 hF' h)),fun k hk=>hl.out' k (fun h=>hk (aw2 hF' h))⟩
    by_cases hm:k∈wIds o (aj4 tm)
    · exact hl.inW k hm
    · rw [hl.out k hm,hl.out' k hm];exact hA k (jf.2 (.inr hk))
  have ag:r≠some false→∀ k,k∈rIds o (aj4 tm) ++ wIds o (aj4 tm)→hp' k=hp k:=by
    intro hr k hk
    have hF':subL (rIds o (aj4 tm)) fo.1=true∧subL (wIds o (aj4 tm)) fo.2=true:=by
      unfold bze at hF
      split at hF
      · exact absurd rfl hr
      · simpa only [jd] using hF
    rcases jf.1 hk with hk | hk
    · exact hA k (jf.2 (.inl (aw2 hF'.1 hk)))
    · exact hA k (jf.2 (.inr (aw2 hF'.2 hk)))
  rcases cz6 h with ⟨rfl,h⟩ | ⟨k,c,a,b,x,rfl,ho,hg,hx,e0,rfl,rfl,rfl⟩ | ⟨j,want,g,p1,rfl,hnp,hg,hgo,rfl,he⟩ | ⟨j,want,g,rfl,hnp,hg,hgo,rfl,rfl,rfl,e0⟩ | ⟨k,c,a,b,j,want,g,rfl,ho,hg,hgo,e0,rfl,rfl,rfl⟩
  · obtain ⟨hp2,e1,e2⟩:=ejq (ag (by simp)) h
    exact ⟨hp2,e1,up (by simp) hp2 e2⟩
  · exact ⟨hp',by simp only [effR,ho,cj8,hg,hx],hself e0⟩
  · obtain ⟨hp2,e1,e2⟩:=ejq (o:=ajn o) (ag (by simp)) he
    refine ⟨hp2,?_,up (by simp) hp2 e2⟩
    cases ho:o.op <;> first | exact absurd ho (hnp _ _ _) | simp only [effR,ho,hg,hgo,bjb,e1]
  · refine ⟨hp',?_,hself e0⟩
    cases ho:o.op <;> first | exact absurd ho (hnp _ _ _) | simp only [effR,ho,hg,hgo,bjb]
  · exact ⟨hp',by simp only [effR,ho,cj8,hg,hgo],hself e0⟩
def vF (f:Foot):Bool:=inL f.1 1000001
def vR (o:Oper) (v:Operand→A):List Nat:=o.op.operands.toList.flatMap fun x=>idsA (v x)
def vW (o:Oper) (v:Operand→A):List Nat :=
  match o.op with
  | .call _=>vR o v ++ (match o.dst with | some d=>[key d 0] | none=>[])
  | .store _ _ _=>vR o v
  | .buildSlice _ _ _=>(match o.dst with | some d=>[key d 0] | none=>[])
  | _=>[]
def dy1 (f:Foot) (o:Oper) (tm:Nat→A):Bool:=subL (vR o (aj4 tm)) f.1 && subL (vW o (aj4 tm)) f.2
def effV (P:Program) (o:Oper) (tm:Nat→A) (hp:Nat→Blk):Option (Prop×Prop×A×(Nat→Blk)) :=
  match o.guard,opV P o hp (aj4 tm) with
  | none,some r=>some (aj6 tm o.op.operands.toList∧r.pre,r.fact,r.val,r.hp)
  | _,_=>none
def effQ (P:Program) (Γ:List Fn) (r:Option Bool) (f:Foot) (ops:List Oper) (o:Oper) (tm:Nat→A) (hp:Nat→Blk):Option (Prop×Prop×A×(Nat→Blk)):=if vF f=true then effV P o tm hp else effR P Γ r ops o tm hp
def cjk (r:Option Bool) (f:Foot) (o:Oper) (tm:Nat→A):Bool:=if vF f=true then dy1 f o tm else bze r f o tm
theorem dz3 {o:Oper} {v:Operand→A} {x:Operand} (hx:x∈o.op.operands) {k:Nat} (hk:k∈idsA (v x)):k∈vR o v:=List.mem_flatMap.2 ⟨x,jp.2 hx,hk⟩
theorem eqm {o:Oper} {hp:Nat→Blk} {v v':Operand→A} (h:∀ x,x∈o.op.operands→v x=v' x):opV P o hp v=opV P o hp v':=by
  obtain ⟨dst,op,type,pos,after,guard⟩:=o
  cases op with
  | binOp op t x y yt =>
    have hx:=h x (by simp [jc])
    have hy:=h y (by simp [jc])
    cases op <;> first | rfl | (simp only [opV];rw [hx,hy])
  | convert a b x=>simp only [opV];rw [h x (by simp [jc])]
  | indexAddr t x i=>simp only [opV];rw [h x (by simp [jc]),h i (by simp [jc])]
  | load t x=>simp only [opV];rw [h x (by simp [jc])]
  | store t x y=>simp only [opV];rw [h x (by simp [jc]),h y (by simp [jc])]
  | nilCheck x=>simp only [opV];rw [h x (by simp [jc])]
  | buildSlice t n parts =>
    simp only [opV]
    have e:(parts.toList.map fun p=>(p.1,v p.2))=parts.toList.map fun p=>(p.1,v' p.2):=jz fun p hp=>by
      rw [h p.2 (by simp only [jc];simp;exact ⟨p.1,jp.1 hp⟩)]
    rw [e]
  | call c =>
    obtain ⟨callee,args,argTypes⟩:=c
    cases callee with
    | builtin b =>
      cases b <;> try rfl
      all_goals
        simp only [opV]
        split
        · first
          | (rename_i x y t u hax hat
             have e1:=aj7 hax
             subst e1
             rw [h x (by simp [jc,Call.operands]),h y (by simp [jc,Call.operands])])
          | (rename_i x t hax hat
             have e1:=aj7 hax
             subst e1
             rw [h x (by simp [jc,Call.operands])])
        · rfl
    | _=>rfl
  | _=>rfl
theorem ekp {o:Oper} {hp hp':Nat→Blk} {v:Operand→A} {r:Out} (hA:∀ k,k∈vR o v ++ vW o v→hp' k=hp k) (h:opV P o hp v=some r) :
    ∃ hp1',opV P o hp' v=some { r with hp:=hp1' }∧Loc (vW o v) hp hp' r.hp hp1':=by
  have hR:∀ x,x∈o.op.operands→∀ k∈idsA (v x),hp' k=hp k:=fun x hx k hk=>hA k (jf.2 (.inl (dz3 hx hk)))
  have hW:∀ k,k∈vW o v→hp' k=hp k:=fun k hk=>hA k (jf.2 (.inr hk))
  have sh:∀ {isL:Bool} {a b:A},bk1 isL a b hp=some r→∃ hp1',bk1 isL a b hp'=some { r with hp:=hp1' }∧Loc (vW o v) hp hp' r.hp hp1':=by
    intro isL a b h
    unfold bk1 at h ⊢
    split at h
    · simp only [ja] at h;subst h;exact ⟨hp',rfl,Loc.refl hW⟩
    · cases h
  obtain ⟨dst,op,type,pos,after,guard⟩:=o
  cases op with
  | binOp op t x y yt=>cases op <;> first | (simp only [opV] at h ⊢;exact sh h) | (simp [opV] at h)
  | indexAddr t x i =>
    simp only [opV] at h ⊢
    have hx:=hR x (by simp [jc])
    unfold idxL at h ⊢
    split at h
    · rename_i e E id ks len k n hs hvx hvi
      rw [hx id (by rw [hvx];simp [idsA])]
      split at h
      · split at h
        · rename_i hks
          simp only [ja] at h;subst h
          exact ⟨hp',by simp only [hks,if_true],Loc.refl hW⟩
        · cases h
      · cases h
    · cases h
  | buildSlice t n parts =>
    simp only [opV] at h ⊢
    unfold bsP at h ⊢
    split at h
    · rename_i e E d hs
      have hw:key d 0∈vW ⟨some d,.buildSlice t n parts,type,pos,after,guard⟩ v:=by simp [vW]
      rw [hW _ hw]
      split at h
      · rename_i hc
        simp only [ja] at h;subst h
        exact ⟨upd hp' (key d 0) _,by simp only [hc,if_true],(Loc.refl hW).upd hw _⟩
      · cases h
    · cases h
  | nilCheck x =>
    simp only [opV] at h ⊢
    have hx:=hR x (by simp [jc])
    unfold nilZ at h ⊢
    split at h
    · simp only [ja] at h;subst h;exact ⟨hp',rfl,Loc.refl hW⟩
    · rename_i id sz ks i off hvx
      have e:live hp' id=live hp id:=by unfold live;rw [hx id (by rw [hvx];simp [idsA])]
      rw [e]
      split at h
      · rename_i hl
        simp only [ja] at h;subst h;exact ⟨hp',by simp only [hl,if_true],Loc.refl hW⟩
      · cases h
    · simp only [ja] at h;subst h;exact ⟨hp',rfl,Loc.refl hW⟩
    · cases h
  | load t x =>
    simp only [opV] at h ⊢
    have hx:=hR x (by simp [jc])
    unfold dyz at h ⊢
    split at h
    · rename_i T id sz ks i off hT hvx
      rw [hx id (by rw [hvx];simp [idsA])]
      split at h
      · split at h
        · rename_i hc
          simp only [ja] at h;subst h
          exact ⟨hp',by simp only [hc,if_true],Loc.refl hW⟩
        · cases h
      · cases h
    · cases h
  | store t x y =>
    simp only [opV] at h ⊢
    have hx:=hR x (by simp [jc])
    have hy:=hR y (by simp [jc])
    have mx:∀ k∈idsA (v x),k∈vW ⟨dst,.store t x y,type,pos,after,guard⟩ v:=fun k hk=>dz3 (by simp [jc]) hk
    unfold cyq at h ⊢
    split at h
    · rename_i T id sz ks i off id2 ks2 len2 hT hvx hvy
      have mid:=mx id (by rw [hvx];simp [idsA])
      rw [hx id (by rw [hvx];simp [idsA]),hy id2 (by rw [hvy];simp [idsA])]
      split at h
      · split at h
        · rename_i hc
          simp only [ja] at h;subst h
          exact ⟨_,by simp only [hc,if_true],(Loc.refl hW).upd mid _⟩
        · cases h
      · cases h
    · cases h
  | convert t u x =>
    simp only [opV] at h ⊢
    have hx:=hR x (by simp [jc])
    unfold dym at h ⊢
    split at h
    · split at h
      · rename_i e E hs hd _ _ hk he
        rw [← cqz hx] at h
        split at h
        · rename_i es hes
          simp only [ja] at h;subst h
          refine ⟨hp',?_,Loc.refl hW⟩
          trivial
        · cases h
      · cases h
    · cases h
  | call c =>
    obtain ⟨callee,args,argTypes⟩:=c
    cases callee with
    | builtin b =>
      cases b <;> try (simp [opV] at h;done)
      · -- append
        simp only [opV] at h ⊢
        split at h
        · rename_i x y t u hax hat
          have e1:=aj7 hax
          have e2:=aj7 hat
          subst e1 e2
          have hx:=hR x (by simp [jc,Call.operands])
          have mx:∀ k∈idsA (v x),k∈vW ⟨dst,.call ⟨.builtin .append,#[x,y],#[t,u]⟩,type,pos,after,guard⟩ v:=fun k hk=>jf.2 (.inl (dz3 (by simp [jc,Call.operands]) hk))
          unfold appV at h ⊢
          split at h
          · rename_i e E d l hs hU hy
            have mk:key d 0∈vW ⟨some d,.call ⟨.builtin .append,#[x,y],#[t,u]⟩,type,pos,after,guard⟩ v:=jf.2 (.inr (by simp))
            split at h
            · rename_i hk
              simp only [hk]
              rw [hW _ mk]
              split at h
              · rename_i hd
                rw [if_pos hd]
                split at h
                · simp only [ja] at h;subst h
                  exact ⟨_,by simp only [hk],(Loc.refl hW).upd mk _⟩
                · rename_i id ks len hvx
                  have mid:=mx id (by rw [hvx];simp [idsA])
                  rw [hW id mid]
                  split at h
                  · rename_i t' es hb
                    split at h
                    · rename_i ht
                      simp only [ja] at h;subst h
                      simp only [ht,if_true]
                      exact ⟨_,rfl,((Loc.refl hW).upd mid _).upd mk _⟩
                    · cases h
                  · cases h
                · cases h
              · cases h
            · cases h
          · cases h
        · cases h
      · -- copy
        simp only [opV] at h ⊢
        split at h
        · rename_i x y t u hax hat
          have e1:=aj7 hax
          have e2:=aj7 hat
          subst e1 e2
          have hy:=hR y (by simp [jc,Call.operands])
          have mx:∀ k∈idsA (v x),k∈vW ⟨dst,.call ⟨.builtin .copy,#[x,y],#[t,u]⟩,type,pos,after,guard⟩ v:=fun k hk=>jf.2 (.inl (dz3 (by simp [jc,Call.operands]) hk))
          unfold copyV at h ⊢
          split at h
          · rename_i e E hs
            split at h
            · rename_i hc
              rw [if_pos hc,cqz hy]
              split at h
              · rename_i id ks off len new hvx hnew
                have mid:=mx id (by rw [hvx];simp [idsA])
                split at h
                · cases h
                · rename_i hself
                  rw [if_neg hself,hW id mid]
                  split at h
                  · rename_i t' es hb
                    split at h
                    · rename_i ht
                      simp only [ja] at h;subst h
                      simp only [ht,if_true]
                      exact ⟨_,rfl,(Loc.refl hW).upd mid _⟩
                    · cases h
                  · cases h
              · cases h
            · cases h
          · cases h
        · cases h
      · -- len
        simp only [opV] at h ⊢
        split at h
        · rename_i x t hax hat
          have e1:=aj7 hax
          have e2:=aj7 hat
          subst e1 e2
          have hx:=hR x (by simp [jc,Call.operands])
          unfold lenL at h ⊢
          split at h
          · rename_i q id ks len hs hvx
            rw [hx id (by rw [hvx];simp [idsA])]
            split at h
            · simp only [ja] at h;subst h
              exact ⟨hp',rfl,Loc.refl hW⟩
            · cases h
          · cases h
        · cases h
    | _=>simp [opV] at h
  | _=>simp [opV] at h
theorem ay3 {ops:List Oper} {o:Oper} {tm tm':Nat→A} (h:∀ t,t∈o.looksAt ops.toArray→tm t=tm' t):∀ x,x∈o.op.operands→aj4 tm x=aj4 tm' x∧akf tm x=akf tm' x:=fun x hx=>aki (fun t ht=>h t (by
  simp only [Oper.looksAt]
  refine jf.2 (.inl ?_)
  rw [List.mem_filterMap]
  exact ⟨x,jp.2 hx,by rw [ht]⟩))
theorem dwk {o:Oper} {v v':Operand→A} (h:∀ x,x∈o.op.operands→v x=v' x):vR o v=vR o v':=by
  unfold vR
  have:∀ l:List Operand,(∀ x∈l,v x=v' x)→(l.flatMap fun x=>idsA (v x))=l.flatMap fun x=>idsA (v' x):=by
    intro l
    induction l with
    | nil=>intro _;rfl
    | cons a l ih=>intro hl;simp only [List.flatMap_cons];rw [hl a (by simp),ih fun x hx=>hl x (by simp [hx])]
  exact this _ fun x hx=>h x (jp.1 hx)
theorem eqx {o:Oper} {v v':Operand→A} (h:∀ x,x∈o.op.operands→v x=v' x):vW o v=vW o v':=by
  unfold vW;rw [dwk h]
theorem bj7 {tm tm':Nat→A}:∀ {l:List Operand},(∀ x∈l,akf tm x=akf tm' x)→aj6 tm l=aj6 tm' l
  | [],_=>rfl
  | x :: l,h=>by
    have h1:=h x (by simp)
    have h2:=bj7 (l:=l) fun y hy=>h y (by simp [hy])
    simp only [aj6,h1,h2]
theorem by5 {r:Option Bool} {f:Foot} {ops:List Oper} {o:Oper} {tm tm':Nat→A} {hp:Nat→Blk} (h:∀ t,t∈o.looksAt ops.toArray→tm t=tm' t):effQ P Γ r f ops o tm hp=effQ P Γ r f ops o tm' hp:=by
  unfold effQ
  rw [dzn h]
  have hop:=ay3 h
  have e:effV P o tm hp=effV P o tm' hp:=by
    unfold effV
    rw [eqm (fun x hx=>(hop x hx).1),bj7 (fun x hx=>(hop x (jp.1 hx)).2)]
  rw [e]
theorem bzh {r:Option Bool} {f:Foot} {ops:List Oper} {o:Oper} {tm tm':Nat→A} (h:∀ t,t∈o.looksAt ops.toArray→tm t=tm' t):cjk r f o tm=cjk r f o tm':=by
  unfold cjk dy1
  rw [cyo h,dwk (fun x hx=>(ay3 h x hx).1),eqx (fun x hx=>(ay3 h x hx).1)]
theorem cjs {r:Option Bool} {fo:Foot} {ops:List Oper} {o:Oper} {tm:Nat→A} {hp hp' hp1:Nat→Blk} {p f:Prop} {v:A} (hF:cjk r fo o tm=true) (hA:∀ k,k∈fo.1 ++ fo.2→hp' k=hp k) (h:effQ P Γ r fo ops o tm hp=some (p,f,v,hp1)) :
    ∃ hp1',effQ P Γ r fo ops o tm hp'=some (p,f,v,hp1')∧Loc fo.2 hp hp' hp1 hp1':=by
  unfold effQ at h ⊢
  unfold cjk at hF
  split at h
  · rename_i hv
    rw [if_pos hv] at hF ⊢
    simp only [dy1,jd] at hF
    unfold effV at h ⊢
    split at h
    · rename_i r' hg hop
      simp only [ja,jj] at h
      obtain ⟨rfl,rfl,rfl,rfl⟩:=h
      obtain ⟨hp2,e1,e2⟩:=ekp (hp':=hp') (fun k hk=>by
        rcases jf.1 hk with hk | hk
        · exact hA k (jf.2 (.inl (aw2 hF.1 hk)))
        · exact hA k (jf.2 (.inr (aw2 hF.2 hk)))) hop
      refine ⟨hp2,by rw [hg,e1],fun k hk=>?_,fun k hk=>e2.out k (fun h=>hk (aw2 hF.2 h)),fun k hk=>e2.out' k (fun h=>hk (aw2 hF.2 h))⟩
      by_cases hm:k∈vW o (aj4 tm)
      · exact e2.inW k hm
      · rw [e2.out k hm,e2.out' k hm];exact hA k (jf.2 (.inr hk))
    · cases h
  · rename_i hv
    rw [if_neg hv] at hF ⊢
    exact ewo hF hA h
def bzr (P:Program) (Γ:List Fn) (R:Nat→Option Bool) (bx:Nat→Foot) (ops:List Oper) (i:Nat) (o:Oper) (s:S) (K:S→Prop):Prop :=
  match effQ P Γ (R i) (bx i) ops o s.tm s.hp with
  | none=>False
  | some (p,_,v,hp')=>p∧cjk (R i) (bx i) o s.tm=true∧K ⟨updD s.tm o.dst v,hp'⟩
variable {R:Nat→Option Bool} {bx:Nat→Foot}
theorem dk3 {ops:List Oper} {i j:Nat} {oi oj:Oper} {K:S→Prop} (hap:oi.apart ops.toArray oj=true) (hcm:bzp (bx i) (bx j)=true) (h:bzr P Γ R bx ops i oi s fun s'=>bzr P Γ R bx ops j oj s' K) :
    bzr P Γ R bx ops j oj s fun s'=>bzr P Γ R bx ops i oi s' K:=by
  obtain ⟨h1,h2,h3⟩:=Oper.apart_spec hap
  simp only [bzp,jd] at hcm
  obtain ⟨d1,d2,d3⟩:=hcm
  unfold bzr at h
  split at h
  · exact h.elim
  · rename_i p1 f1 v1 hp1 he1
    obtain ⟨hq1,hb1,h⟩:=h
    dsimp only at h
    split at h
    · exact h.elim
    · rename_i p2 f2 v2 hp2 he2
      obtain ⟨hq2,hb2,hK⟩:=h
      have c1:∀ hp,effQ P Γ (R j) (bx j) ops oj (updD s.tm oi.dst v1) hp=effQ P Γ (R j) (bx j) ops oj s.tm hp:=fun hp=>by5 (fun t ht=>ayk (fun d hd e=>h1 d hd (e ▸ ht)))
      have c2:∀ hp,effQ P Γ (R i) (bx i) ops oi (updD s.tm oj.dst v2) hp=effQ P Γ (R i) (bx i) ops oi s.tm hp:=fun hp=>by5 (fun t ht=>ayk (fun d hd e=>h3 d hd (e ▸ ht)))
      have b1:cjk (R j) (bx j) oj (updD s.tm oi.dst v1)=cjk (R j) (bx j) oj s.tm:=bzh (ops:=ops) (fun t ht=>ayk (fun d hd e=>h1 d hd (e ▸ ht)))
      have b2:cjk (R i) (bx i) oi (updD s.tm oj.dst v2)=cjk (R i) (bx i) oi s.tm:=bzh (ops:=ops) (fun t ht=>ayk (fun d hd e=>h3 d hd (e ▸ ht)))
      rw [c1] at he2
      rw [b1] at hb2
      have hcomm:=dj9 (tm:=s.tm) (v:=v1) (u:=v2) h2
      have hK':K ⟨updD (updD s.tm oj.dst v2) oi.dst v1,hp2⟩:=by rw [← hcomm];exact hK
      -- oi leaves alone what is not its own
      obtain ⟨_,_,l1⟩:=cjs (hp':=s.hp) hb1 (fun _ _=>rfl) he1
      have out1:∀ k,k ∉ (bx i).2→hp1 k=s.hp k:=l1.out
      -- oj in the first state
      obtain ⟨hq,e2,l2⟩:=cjs (hp':=s.hp) hb2 (fun k hk=>by
        rcases jf.1 hk with hk | hk
        · exact (out1 k (fun h=>ayj d1 h hk)).symm
        · exact (out1 k (fun h=>ayj d2 h hk)).symm) he2
      -- oi behind it
      obtain ⟨hr,e3,l3⟩:=cjs (hp':=hq) hb1 (fun k hk=>by
        rcases jf.1 hk with hk | hk
        · exact l2.out' k (fun h=>ayj d3 h hk)
        · exact l2.out' k (fun h=>ayj d2 hk h)) he1
      have hfin:hr=hp2:=by
        funext k
        by_cases k1:k∈(bx i).2
        · have k2:k ∉ (bx j).2:=ayj d2 k1
          rw [l3.inW k k1,l2.out k k2]
        · rw [l3.out' k k1]
          by_cases k2:k∈(bx j).2
          · exact l2.inW k k2
          · rw [l2.out' k k2,l2.out k k2,out1 k k1]
      unfold bzr
      rw [e2]
      dsimp only
      rw [c2,e3,b2,hfin]
      exact ⟨hq2,hb2,hq1,hb1,hK'⟩
theorem dzl {ops:List Oper} {i:Nat} {o:Oper} {K K':S→Prop} (hK:∀ s,K s→K' s) (h:bzr P Γ R bx ops i o s K):bzr P Γ R bx ops i o s K':=by
  unfold bzr at *
  split at h
  · exact h
  · exact ⟨h.1,h.2.1,hK _ h.2.2⟩
def qOp (P:Program) (Γ:List Fn) (R:Nat→Option Bool) (bx:Nat→Foot) (ops:Array Oper) (i:Nat) (K:S→Prop) (s:S):Prop :=
  match ops[i]? with
  | none=>K s
  | some o=>bzr P Γ R bx ops.toList i o s K
theorem qOp_mono {ops:Array Oper} {i:Nat} {K K':S→Prop} (hK:∀ s,K s→K' s) (h:qOp P Γ R bx ops i K s):qOp P Γ R bx ops i K' s:=by
  unfold qOp at *
  split
  · rename_i ho;rw [ho] at h;exact hK _ h
  · rename_i o ho;rw [ho] at h;exact dzl hK h
def djj (P:Program) (Γ:List Fn) (R:Nat→Option Bool) (bx:Nat→Foot) (ops:Array Oper):List Nat→S→(S→Prop)→Prop
  | [],s,Q=>Q s
  | i :: is,s,Q=>qOp P Γ R bx ops i (fun s'=>djj P Γ R bx ops is s' Q) s
def wpAnyQ (P:Program) (Γ:List Fn) (R:Nat→Option Bool) (bx:Nat→Foot) (md:Region.Mode) (ops:Array Oper) (Q:S→Prop):Nat→Array Bool→S→Prop
  | 0,listed,s=>Region.ready md ops listed=[]∧Q s
  | fuel+1,listed,s =>
    (Region.ready md ops listed=[]→Q s)∧∀ i∈Region.ready md ops listed,qOp P Γ R bx ops i (wpAnyQ P Γ R bx md ops Q fuel (listed.setIfInBounds i true)) s
theorem ez1 {ops:Array Oper} {i j:Nat} {oi oj:Oper} {K:S→Prop} (hi:ops[i]? = some oi) (hj:ops[j]? = some oj) (hap:oi.apart ops oj=true) (hcm:bzp (bx i) (bx j)=true) (h:qOp P Γ R bx ops i (fun s'=>qOp P Γ R bx ops j K s') s) :
    qOp P Γ R bx ops j (fun s'=>qOp P Γ R bx ops i K s') s:=by
  unfold qOp at *
  simp only [hi,hj] at *
  exact dk3 (by simpa using hap) hcm h
theorem wpAnyQ_first {md:Region.Mode} {ops:Array Oper} {Q:S→Prop} {i:Nat} {oi:Oper} (hi:ops[i]? = some oi) {D:Nat→Bool}
    (hDe:∀ j,D j=true→j≠i→∃ oj e,ops[j]? = some oj∧e∈oj.after∧Region.binds md e=true∧D e.on=true) :
    ∀ (fuel:Nat) (listed:Array Bool) (s:S),(∀ j,D j=true→listed.getD j true=false) →
      (∀ j oj,ops[j]? = some oj→j≠i→listed.getD j true=false→D j=false→oi.apart ops oj=true∧bzp (bx i) (bx j)=true) →
      i∈Region.ready md ops listed→qOp P Γ R bx ops i (wpAnyQ P Γ R bx md ops Q fuel (listed.setIfInBounds i true)) s→wpAnyQ P Γ R bx md ops Q (fuel+1) listed s:=by
  intro fuel
  induction fuel with
  | zero =>
    intro listed s _ _ hr H
    refine ⟨fun h=>(by rw [h] at hr;cases hr),fun j hj=>?_⟩
    by_cases hji:j=i
    · subst hji;exact H
    · have h1:=ready_mono hj hji
      unfold qOp at H
      simp only [hi] at H
      unfold bzr at H
      split at H
      · exact H.elim
      · have:=H.2.2.1
        rw [this] at h1;cases h1
  | succ fuel ih =>
    intro listed s hDl hfree hr H
    refine ⟨fun h=>(by rw [h] at hr;cases hr),fun j hj=>?_⟩
    by_cases hji:j=i
    · subst hji;exact H
    · obtain ⟨hjun,oj,hoj,hall⟩:=mem_ready.1 hj
      have hDj:D j=false:=by
        cases hd:D j with
        | false=>rfl
        | true =>
          obtain ⟨oj',e,hoj',he,hb,hde⟩:=hDe j hd hji
          rw [hoj] at hoj';cases hoj'
          have h1:=hall e he hb
          have h0:=hDl e.on hde
          rcases Nat.lt_or_ge e.on listed.size with h' | h'
          · simp [h'] at h0 h1;rw [h0] at h1;cases h1
          · simp [Array.getElem?_eq_none h'] at h1
      obtain ⟨hap,hcm⟩:=hfree j oj hoj hji hjun hDj
      have H':qOp P Γ R bx ops i (fun s'=>qOp P Γ R bx ops j (wpAnyQ P Γ R bx md ops Q fuel ((listed.setIfInBounds i true).setIfInBounds j true)) s') s :=
        qOp_mono (fun s' h=>h.2 j (ready_mono hj hji)) H
      have H2:=ez1 hi hoj hap hcm H'
      have hfree':∀ k ok,ops[k]? = some ok→k≠i→(listed.setIfInBounds j true).getD k true=false →
          D k=false→oi.apart ops ok=true∧bzp (bx i) (bx k)=true:=fun k ok hk hki hun hno=>by
        refine hfree k ok hk hki ?_ hno
        by_cases hjk:j=k
        · subst hjk;exact hjun
        · rw [getD_set_ne true hjk] at hun;exact hun
      have hDl':∀ k,D k=true→(listed.setIfInBounds j true).getD k true=false:=fun k hk=>by
        have hjk:j≠k:=fun e=>by subst e;rw [hk] at hDj;cases hDj
        rw [getD_set_ne true hjk];exact hDl k hk
      refine qOp_mono (fun s' h3=>ih (listed.setIfInBounds j true) s' hDl' hfree' (ready_mono hr (Ne.symm hji)) ?_) H2
      rw [Array.setIfInBounds_comm _ _ hji]
      exact h3
def ewl (bx:Nat→Foot) (md:Region.Mode) (ops:Array Oper) (listed:Array Bool) (k:Nat):Bool :=
  match ops[k]? with
  | none=>false
  | some ok=>(List.range ops.size).all fun j=>j == k || (listed.getD j true || (match ops[j]? with
    | none=>true
    | some oj=>(ok.apart ops oj && bzp (bx k) (bx j)) || depD md ops listed k 8 j))
theorem dzh {md:Region.Mode} {ops:Array Oper} {listed:Array Bool} {k:Nat} {ok:Oper} (hk:ops[k]? = some ok) (h:ewl bx md ops listed k=true) :
    ∀ j oj,ops[j]? = some oj→j≠k→listed.getD j true=false→depD md ops listed k 8 j=false→ok.apart ops oj=true∧bzp (bx k) (bx j)=true:=by
  unfold ewl at h
  simp only [hk,jP,List.mem_range] at h
  intro j oj hj hjk hl hd
  have:=h j (jg.1 hj).1
  simp only [hd,hj,Bool.or_eq_true,beq_iff_eq,hjk,false_or,hl,jD,or_false,jd] at this
  exact this
def bwm (bx:Nat→Foot) (md:Region.Mode) (ops:Array Oper):List Nat→Array Bool→Bool
  | [],listed=>(Region.ready md ops listed).isEmpty
  | k :: ks,listed=>((Region.ready md ops listed).contains k && ewl bx md ops listed k) && bwm bx md ops ks (listed.setIfInBounds k true)
def dj3 (bx:Nat→Foot) (N:Nat) (ops:Array Oper) (ord:List Nat):Bool:=ops.toList.all (awj N) && bwm bx .any ops ord (j6 ops.size false)
theorem wpAnyQ_lex {md:Region.Mode} {ops:Array Oper} {Q:S→Prop}:∀ (ks:List Nat) (listed:Array Bool) (s:S),
    bwm bx md ops ks listed=true→djj P Γ R bx ops ks s Q→wpAnyQ P Γ R bx md ops Q ks.length listed s
  | [],_,_,hB,h=>⟨by simpa [bwm] using hB,h⟩
  | k :: ks,listed,s,hB,h=>by
    simp only [bwm,jd] at hB
    obtain ⟨⟨hr,hf⟩,hB'⟩:=hB
    cases h0:ops[k]? with
    | none=>simp [ewl,h0] at hf
    | some o =>
      refine wpAnyQ_first h0 (D:=depD md ops listed k 8) (fun j hd hj=>dj0 hd hj) ks.length listed s (fun j hd=>ej1 hd) (dzh h0 hf) (by simpa using hr) ?_
      exact qOp_mono (fun s' h'=>wpAnyQ_lex ks _ s' hB' h') h
theorem dz8 {ops:List Oper} {i:Nat} {o:Oper} {K:S→Prop} (h00:tyI P 0=none) (hΓ:∀ g,g∈Γ→aj9 P g) (hok:awj N o=true) (h:bzr P Γ R bx ops i o s K):akc P N ops o s K:=by
  unfold bzr at h
  split at h
  · exact h.elim
  · rename_i p f v hp' he
    obtain ⟨hp,_,hK⟩:=h
    unfold effQ at he
    split at he
    · refine ews _ _ _ _ _ hok ?_
      unfold effV at he
      split at he
      · rename_i r hg hop
        simp only [ja,jj] at he
        obtain ⟨rfl,rfl,rfl,rfl⟩:=he
        unfold ew0
        rw [hg,hop]
        exact ⟨hp.1,hp.2,fun _=>hK⟩
      · cases he
    rcases cz6 he with ⟨hr,he⟩ | ⟨k,c,a,b,x,hr,ho,hg,hx,rfl,rfl,rfl,rfl⟩ | ⟨j,want,g,p1,hr,hnp,hg,hgo,rfl,hee⟩ | ⟨j,want,g,hr,hnp,hg,hgo,rfl,rfl,rfl,rfl⟩ | ⟨k,c,a,b,j,want,g,hr,ho,hg,hgo,rfl,rfl,rfl,rfl⟩
    · refine czy h00 hΓ hok ?_
      unfold stepG
      rw [← bq5,he]
      exact ⟨hp,fun _=>hK⟩
    · refine cjt hok ?_
      unfold cj5
      rw [hg,ho]
      dsimp only
      rw [hx]
      refine ⟨hp.2.1,?_⟩
      cases k with
      | true=>exact .inl ⟨hp.1,hp.2.2,hK⟩
      | false=>exact .inr ⟨hp.1,hp.2.2,hK⟩
    · refine dzd (Γ:=Γ) h00 hΓ hok ?_
      unfold stepT
      rw [hg]
      dsimp only
      rw [← awo hg,hgo]
      refine ⟨hp.1,.inl ?_⟩
      unfold stepG
      have e:gdst ops (ajn o)=none:=rfl
      rw [bq5,e] at hee
      rw [hee]
      exact ⟨hp.2,fun _=>hK⟩
    · refine ckm hok ?_
      unfold dzo
      rw [hg]
      dsimp only
      rw [← awo hg,hgo]
      exact ⟨hp,hK⟩
    · cases g with
      | false =>
        refine ckm hok ?_
        unfold dzo
        rw [hg]
        dsimp only
        rw [← awo hg,hgo]
        exact ⟨rfl,hK⟩
      | true =>
        dsimp only at hp hK
        have hU:akc P N ops (ajn o) s K:=by
          refine cjt hok ?_
          unfold cj5
          have e1:(ajn o).guard=none:=rfl
          have e2:(ajn o).op = .pick c a b:=ho
          have e3:(ajn o).dst=o.dst:=rfl
          rw [e1,e2]
          dsimp only
          split at hp
          · rename_i x hx
            rw [hx]
            refine ⟨hp.2.1,?_⟩
            rw [e3]
            cases k with
            | true=>exact .inl ⟨hp.1,hp.2.2,hK⟩
            | false=>exact .inr ⟨hp.1,hp.2.2,hK⟩
          · exact hp.elim
        intro w0 a w hR
        have hR0:=hR
        obtain ⟨σ,hR'⟩:=hR
        have hw:=aw9 hR' hg hgo
        refine ⟨fun _ K' Q hq=>?_,fun hw'=>by rw [hw] at hw';cases hw'⟩
        exact (hU w0 a w hR0).1 (awc rfl) K' Q hq
theorem bwb {md:Region.Mode} {ops:Array Oper} {Q:S→Prop} {Q':Exit→Act→World→Prop} {a0:Act} (h00:tyI P 0=none) (hΓ:∀ g,g∈Γ→aj9 P g) (hok:∀ o,o∈ops.toList→awj N o=true)
    (hQ:∀ s' a' w',a'.defers=a0.defers→Rel P w0 N s' a'.tmps w'→Q s'→Q' .normal a' w') :
    ∀ (fuel:Nat) (listed:Array Bool) (s:S) (a:Act) (w:World),a.defers=a0.defers→wpAnyQ P Γ R bx md ops Q fuel listed s→Rel P w0 N s a.tmps w→wpAny P md ops Q' fuel listed a w
  | 0,_,s,a,w,hd,h,hR=>⟨h.1,hQ s a w hd hR h.2⟩
  | fuel+1,listed,s,a,w,hd,h,hR=>by
    refine ⟨fun h0=>hQ s a w hd hR (h.1 h0),fun i hi=>?_⟩
    have h1:=h.2 i hi
    unfold qOp at h1
    unfold wpOp
    cases ho:ops[i]? with
    | none =>
      simp only [ho] at h1 ⊢
      exact bwb h00 hΓ hok hQ fuel _ s a w hd h1 hR
    | some o =>
      simp only [ho] at h1 ⊢
      have hm:o∈ops.toList:=by
        obtain ⟨hlt,e⟩:=jg.1 ho
        rw [← e];simp
      obtain ⟨k1,k2⟩:=dz8 h00 hΓ (hok o hm) h1 w0 a w hR
      have ih:∀ s' a' w',a'.defers=a.defers→wpAnyQ P Γ R bx md ops Q fuel (listed.setIfInBounds i true) s'→Rel P w0 N s' a'.tmps w'→wpAny P md ops Q' fuel (listed.setIfInBounds i true) a' w':=fun s' a' w' hdf hK hR' =>
        bwb h00 hΓ hok hQ fuel _ s' a' w' (hdf.trans hd) hK hR'
      simp only [Array.toArray_toList] at k1 k2
      cases hw:Region.wanted o (yielded ops a.tmps) with
      | true=>exact .inl (k1 hw _ _ (fun s' a' w' h1 h2 h3=>ih s' a' w' h1 h2 h3))
      | false =>
        obtain ⟨s',h2,h3⟩:=k2 hw
        exact ih s' _ _ (put_defers _ _ _) h2 h3
theorem bk6 {r0:Option Nat} {id:Nat} {ops:Array Oper} {ord:List Nat} {Q:S→Prop} {Q':Exit→Act→World→Prop} {a:Act} (h00:tyI P 0=none) (hm:P.follows .mixedOrders=true) (hΓ:∀ g,g∈Γ→aj9 P g) (hok:∀ o,o∈ops.toList→awj N o=true) (hlex:bwm bx .any ops ord (j6 ops.size false)=true) (hlen:ord.length=ops.size)
    (h:djj P Γ R bx ops ord s Q) (hR:Rel P w0 N s a.tmps w) (hQ:∀ s' a' w',a'.defers=a.defers→Rel P w0 N s' a'.tmps w'→Q s'→Q' .normal a' w'):cwp r0 P (.region id ops true) Q' a w:=by
  refine bka hm (akz hok) ?_
  obtain ⟨σ,hR'⟩:=hR
  have hR2:Rel P w0 N s a.tmps { w with drawn:=w.drawn+1 }:=⟨σ,hR'.world (Below.refl _ _).drew⟩
  have hA:=wpAnyQ_lex (R:=R) (md:=.any) ord (j6 ops.size false) s hlex h
  have:=bwb (Q':=dwe Q') h00 hΓ hok (fun s' a' w' h1 h2 h3=>⟨by simp,hQ s' a' w' h1 h2 h3⟩) ord.length _ s a _ rfl hA hR2
  rw [hlen] at this
  simpa using this
def cyz (P:Program) (Γ:List Fn) (r:Option Bool×Foot) (gd:Option Nat) (o:Oper) (s:S) (K:S→Prop):Prop :=
  match dkp P Γ r.1 gd o s.tm s.hp with
  | none=>False
  | some (p,_,v,hp')=>p∧bze r.1 r.2 o s.tm=true∧K ⟨updD s.tm o.dst v,hp'⟩
def ckz (P:Program) (r:Option Bool×Foot) (o:Oper) (s:S) (K:S→Prop):Prop :=
  match o.guard,opV P o s.hp (aj4 s.tm) with
  | none,some r'=>aj6 s.tm o.op.operands.toList∧r'.pre∧dy1 r.2 o s.tm=true∧K ⟨updD s.tm o.dst r'.val,r'.hp⟩
  | _,_=>False
def awb (P:Program) (Γ:List Fn):List ((Option Bool×Foot)×Option Nat×Oper)→S→(S→Prop)→Prop
  | [],s,Q=>Q s
  | (r,g,o) :: os,s,Q=>if vF r.2=true then ckz P r o s fun s'=>awb P Γ os s' Q else cyz P Γ r g o s fun s'=>awb P Γ os s' Q
def cw8 (ops:List Oper) (Rl:List (Option Bool×Foot)):List Nat→List ((Option Bool×Foot)×Option Nat×Oper)
  | []=>[]
  | i :: is=>match ops[i]? with
    | some o=>(Rl.getD i (none,[],[]),gdst ops o,o) :: cw8 ops Rl is
    | none=>cw8 ops Rl is
theorem cjr (ops:Array Oper) (Rl:List (Option Bool×Foot)) {Q:S→Prop}:∀ (ord:List Nat) (s:S),awb P Γ (cw8 ops.toList Rl ord) s Q→djj P Γ (fun i=>(Rl.getD i (none,[],[])).1) (fun i=>(Rl.getD i (none,[],[])).2) ops ord s Q
  | [],s,h=>h
  | i :: is,s,h=>by
    simp only [djj,qOp]
    cases ho:ops[i]? with
    | none =>
      simp only [cw8,Jq,ho] at h
      exact cjr ops Rl is s h
    | some o =>
      simp only [cw8,Jq,ho,awb] at h
      dsimp only
      unfold bzr effQ cjk
      split at h
      · rename_i hv
        rw [if_pos hv,if_pos hv]
        unfold ckz at h
        unfold effV
        split at h
        · rename_i r' hg hop
          try rw [hg,hop]
          exact ⟨⟨h.1,h.2.1⟩,h.2.2.1,cjr ops Rl is _ h.2.2.2⟩
        · exact h.elim
      · rename_i hv
        rw [if_neg hv,if_neg hv]
        unfold cyz at h
        rw [ey0]
        split at h
        · exact h.elim
        · rename_i p f v hp' he
          rw [he]
          exact ⟨h.1,h.2.1,cjr ops Rl is _ h.2.2⟩
variable {Q:Exit→S→Prop} {b:Code}
theorem Sm.regQ {id:Nat} {ops:Array Oper} {Q:Exit→S→Prop} (h00:tyI P 0=none) (hm:P.follows .mixedOrders=true) (hΓ:∀ g,g∈Γ→aj9 P g) (ord:List Nat) (Rl:List (Option Bool×Foot)) (hok:dj3 (fun i=>(Rl.getD i (none,[],[])).2) N ops ord=true) (hlen:ord.length=ops.size)
    (h:awb P Γ (cw8 ops.toList Rl ord) s (Q .normal)):Sm P N kp (.region id ops true) s Q:=by
  intro r w0 Q' a w hk hr hd hR hQ
  simp only [dj3,jd,jP] at hok
  exact bk6 (R:=fun i=>(Rl.getD i (none,[],[])).1) (bx:=fun i=>(Rl.getD i (none,[],[])).2) h00 hm hΓ hok.1 hok.2 hlen (cjr ops Rl ord s h) hR (fun s' a' w' h1 h2 h3=>hQ _ _ _ _ _ (Ext.refl _) (h1 ▸ hd) h2 h3)
theorem Sm.seqQ {id:Nat} {ops:Array Oper} {b:Code} {Q:Exit→S→Prop} (h00:tyI P 0=none) (hm:P.follows .mixedOrders=true) (hΓ:∀ g,g∈Γ→aj9 P g) (ord:List Nat) (Rl:List (Option Bool×Foot)) (hok:dj3 (fun i=>(Rl.getD i (none,[],[])).2) N ops ord=true) (hlen:ord.length=ops.size)
    (h:∀ K:S→Prop,(∀ s',Sm P N kp b s' Q→K s')→awb P Γ (cw8 ops.toList Rl ord) s K):Sm P N kp (.seq (.region id ops true) b) s Q :=
  Sm.seq (Sm.regQ h00 hm hΓ ord Rl hok hlen (h (fun s'=>Sm P N kp b s' Q) (fun _ h=>h)))
theorem opsQ {r:Option Bool×Foot} {g:Option Nat} {o:Oper} {os:List ((Option Bool×Foot)×Option Nat×Oper)} {Q:S→Prop} (h:∀ K:S→Prop,(∀ s',awb P Γ os s' Q→K s')→cyz P Γ r g o s K) (hv:vF r.2=false:=by rfl):awb P Γ ((r,g,o) :: os) s Q:=by
  simp only [awb,hv,jD,if_false]
  exact h _ fun _ x=>x
theorem fj8 {r:Option Bool×Foot} {g:Option Nat} {o:Oper} {os:List ((Option Bool×Foot)×Option Nat×Oper)} {Q:S→Prop} (hv:vF r.2=true) (h:∀ K:S→Prop,(∀ s',awb P Γ os s' Q→K s')→ckz P r o s K):awb P Γ ((r,g,o) :: os) s Q:=by
  simp only [awb,hv,if_true]
  exact h _ fun _ x=>x
theorem ew6 {Q:S→Prop} (h:Q s):awb P Γ [] s Q:=h
end Go.AE
