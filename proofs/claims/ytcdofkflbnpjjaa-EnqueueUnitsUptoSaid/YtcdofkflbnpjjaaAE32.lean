/- Text. -/
import Derived.Test.YtcdofkflbnpjjaaAE30
set_option linter.unusedSimpArgs false
set_option linter.unusedVariables false
set_option linter.unusedVariables false
namespace Go.AE
open Go.RowKit (Below)
variable {P:Program} {w0:Base} {w:World} {N kp:Nat} {σ:Nat→RefI} {s:S} {tms:Array Value} {ρ:Operand→Value} {al:Nat→Prop} {Γ:List Fn}
def pickR (tm:Nat→A) (hp:Nat→Blk) (k:Bool) (g:Option (Nat×Bool)) (go:Option Bool) (c a b:Operand):Option (Prop×Prop×A×(Nat→Blk)) :=
  match g with
  | none=>match plainTm tm c with
    | .c .bool x=>some (x.toBool=k∧(allNeeds tm [c]∧allNeeds tm [match k with | true=>a | false=>b]),True,plainTm tm (match k with | true=>a | false=>b),hp)
    | _=>none
  | some _=>match go with
    | some g=>some ((match g with | true=>(match plainTm tm c with | .c .bool x=>x.toBool=k∧(allNeeds tm [c]∧allNeeds tm [match k with | true=>a | false=>b]) | _=>False) | false=>True),True,(match g with | true=>plainTm tm (match k with | true=>a | false=>b) | false=>.when false (.c .bool (.bool false))),hp)
    | none=>none
def guardR (P:Program) (tm:Nat→A) (hp:Nat→Blk) (k:Bool) (g:Option Bool) (e:Option (Prop×Prop×A×(Nat→Blk))):Option (Prop×Prop×A×(Nat→Blk)) :=
  match g with
  | some g=>match k with
    | true=>match e with
      | some q=>some (g=true∧q.1,q.2)
      | none=>none
    | false=>some (g=false,True,.when false (.c .bool (.bool false)),hp)
  | none=>none
def effR (P:Program) (Γ:List Fn) (r:Option Bool) (ops:List Oper) (o:Oper) (tm:Nat→A) (hp:Nat→Blk):Option (Prop×Prop×A×(Nat→Blk)) :=
  match r with
  | none=>eff P Γ ops o tm hp
  | some k=>match o.op with
    | .pick c a b=>pickR tm hp k o.guard (match o.guard with | some (j,want)=>guardOf ops tm j want | none=>none) c a b
    | _=>match o.guard with
      | some (j,want)=>guardR P tm hp k (guardOf ops tm j want) (eff P Γ ops (unguard o) tm hp)
      | none=>none
def effRG (P:Program) (Γ:List Fn) (r:Option Bool) (gd:Option Nat) (o:Oper) (tm:Nat→A) (hp:Nat→Blk):Option (Prop×Prop×A×(Nat→Blk)) :=
  match r with
  | none=>effG P Γ gd o tm hp
  | some k=>match o.op with
    | .pick c a b=>pickR tm hp k o.guard (match o.guard with | some (_,want)=>guardT tm gd want | none=>none) c a b
    | _=>match o.guard with
      | some (_,want)=>guardR P tm hp k (guardT tm gd want) (effG P Γ none (unguard o) tm hp)
      | none=>none
theorem effR_G (r:Option Bool) (ops:List Oper) (o:Oper) (tm:Nat→A) (hp:Nat→Blk):effR P Γ r ops o tm hp=effRG P Γ r (gdst ops o) o tm hp:=by
  unfold effR effRG
  cases r with
  | none=>exact eff_effG _ _ _ _
  | some k =>
    dsimp only
    have key:(match o.guard with | some (j,want)=>guardR P tm hp k (guardOf ops tm j want) (eff P Γ ops (unguard o) tm hp) | none=>none)=(match o.guard with | some (_,want)=>guardR P tm hp k (guardT tm (gdst ops o) want) (effG P Γ none (unguard o) tm hp) | none=>none):=by
      cases hg:o.guard with
      | none=>rfl
      | some q =>
        obtain ⟨j,want⟩:=q
        dsimp only
        rw [guardOf_gdst hg,eff_effG]
        rfl
    have key2:(match o.guard with | some (j,want)=>guardOf ops tm j want | none=>none)=(match o.guard with | some (_,want)=>guardT tm (gdst ops o) want | none=>none):=by
      cases hg:o.guard with
      | none=>rfl
      | some q=>obtain ⟨j,want⟩:=q;dsimp only;rw [guardOf_gdst hg]
    cases o.op <;> first | exact key | (dsimp only;rw [key2])
theorem effR_cases {r:Option Bool} {ops:List Oper} {o:Oper} {tm:Nat→A} {hp hp1:Nat→Blk} {p f:Prop} {v:A} (h:effR P Γ r ops o tm hp=some (p,f,v,hp1)) :
    (r=none∧eff P Γ ops o tm hp=some (p,f,v,hp1)) ∨
    (∃ k c a b x,r=some k∧o.op = .pick c a b∧o.guard=none∧plainTm tm c = .c .bool x∧hp1=hp∧p=(x.toBool=k∧(allNeeds tm [c]∧allNeeds tm [match k with | true=>a | false=>b]))∧v=plainTm tm (match k with | true=>a | false=>b)∧f=True) ∨
    (∃ j want g p1,r=some true∧(∀ c a b,o.op≠.pick c a b)∧o.guard=some (j,want)∧guardOf ops tm j want=some g∧p=(g=true∧p1)∧eff P Γ ops (unguard o) tm hp=some (p1,f,v,hp1)) ∨
    (∃ j want g,r=some false∧(∀ c a b,o.op≠.pick c a b)∧o.guard=some (j,want)∧guardOf ops tm j want=some g∧p=(g=false)∧f=True∧v = .when false (.c .bool (.bool false))∧hp1=hp) ∨
    (∃ k c a b j want g,r=some k∧o.op = .pick c a b∧o.guard=some (j,want)∧guardOf ops tm j want=some g∧hp1=hp∧f=True∧p=(match g with | true=>(match plainTm tm c with | .c .bool x=>x.toBool=k∧(allNeeds tm [c]∧allNeeds tm [match k with | true=>a | false=>b]) | _=>False) | false=>True)∧v=(match g with | true=>plainTm tm (match k with | true=>a | false=>b) | false=>.when false (.c .bool (.bool false)))):=by
  unfold effR at h
  cases r with
  | none=>exact .inl ⟨rfl,h⟩
  | some k =>
    dsimp only at h
    have key:(∀ c a b,o.op≠.pick c a b)→(match o.guard with | some (j,want)=>guardR P tm hp k (guardOf ops tm j want) (eff P Γ ops (unguard o) tm hp) | none=>none)=some (p,f,v,hp1) →
        (∃ j want g p1,some k=some true∧(∀ c a b,o.op≠.pick c a b)∧o.guard=some (j,want)∧guardOf ops tm j want=some g∧p=(g=true∧p1)∧eff P Γ ops (unguard o) tm hp=some (p1,f,v,hp1)) ∨
        (∃ j want g,some k=some false∧(∀ c a b,o.op≠.pick c a b)∧o.guard=some (j,want)∧guardOf ops tm j want=some g∧p=(g=false)∧f=True∧v = .when false (.c .bool (.bool false))∧hp1=hp):=by
      intro hnp h
      split at h
      · rename_i j want hg
        unfold guardR at h
        split at h
        · rename_i g hgo
          split at h
          · split at h
            · rename_i q he
              obtain ⟨p1,f1,v1,h1⟩:=q
              simp only [Option.some.injEq,Prod.mk.injEq] at h
              obtain ⟨rfl,rfl,rfl,rfl⟩:=h
              exact .inl ⟨j,want,g,p1,rfl,hnp,hg,hgo,rfl,he⟩
            · cases h
          · simp only [Option.some.injEq,Prod.mk.injEq] at h
            obtain ⟨rfl,rfl,rfl,rfl⟩:=h
            exact .inr ⟨j,want,g,rfl,hnp,hg,hgo,rfl,rfl,rfl,rfl⟩
        · cases h
      · cases h
    cases ho:o.op with
    | pick c a b =>
      simp only [ho,pickR] at h
      split at h
      · rename_i hg
        split at h
        · rename_i x hx
          simp only [Option.some.injEq,Prod.mk.injEq] at h
          obtain ⟨rfl,rfl,rfl,rfl⟩:=h
          exact .inr (.inl ⟨k,c,a,b,x,rfl,rfl,hg,hx,rfl,rfl,rfl,rfl⟩)
        · cases h
      · rename_i q hg
        obtain ⟨j,want⟩:=q
        rw [hg] at h
        dsimp only at h
        split at h
        · rename_i g hgo
          simp only [Option.some.injEq,Prod.mk.injEq] at h
          obtain ⟨e1,e2,e3,e4⟩:=h
          exact .inr (.inr (.inr (.inr ⟨k,c,a,b,j,want,g,rfl,rfl,hg,hgo,e4.symm,e2.symm,e1.symm,e3.symm⟩)))
        · cases h
    | _ =>
      refine .inr (.inr ?_)
      rcases key (by intro c a b e;rw [ho] at e;cases e) (by simpa only [ho] using h) with h' | h'
      · rw [← ho];exact .inl h'
      · rw [← ho];exact .inr (.inl h')
theorem looks_unguard {o:Oper} {ops:Array Oper} {t:Nat} (h:t∈(unguard o).looksAt ops):t∈o.looksAt ops:=by
  simp only [Oper.looksAt,unguard] at h ⊢
  rcases List.mem_append.1 h with h | h
  · exact List.mem_append.2 (.inl h)
  · simp at h
theorem effR_congr {r:Option Bool} {ops:List Oper} {o:Oper} {tm tm':Nat→A} {hp:Nat→Blk} (h:∀ t,t∈o.looksAt ops.toArray→tm t=tm' t):effR P Γ r ops o tm hp=effR P Γ r ops o tm' hp:=by
  unfold effR
  cases r with
  | none=>exact eff_congr h
  | some k =>
    dsimp only
    have hop:∀ x,x∈o.op.operands→plainTm tm x=plainTm tm' x∧needs tm x=needs tm' x:=fun x hx=>plainTm_congr (fun t ht=>h t (by
      simp only [Oper.looksAt]
      refine List.mem_append.2 (.inl ?_)
      rw [List.mem_filterMap]
      exact ⟨x,Array.mem_toList_iff.2 hx,by rw [ht]⟩))
    have key:(match o.guard with | some (j,want)=>guardR P tm hp k (guardOf ops tm j want) (eff P Γ ops (unguard o) tm hp) | none=>none)=(match o.guard with | some (j,want)=>guardR P tm' hp k (guardOf ops tm' j want) (eff P Γ ops (unguard o) tm' hp) | none=>none):=by
      cases hg:o.guard with
      | none=>rfl
      | some q =>
        obtain ⟨j,want⟩:=q
        dsimp only
        have e1:guardOf ops tm j want=guardOf ops tm' j want:=guardOf_congr (fun oj d ho hd=>h d (by
          simp only [Oper.looksAt,hg]
          refine List.mem_append.2 (.inr ?_)
          simp [ho,hd]))
        rw [e1,eff_congr (o:=unguard o) (fun t ht=>h t (looks_unguard ht))]
        rfl
    cases ho:o.op with
    | pick c a b =>
      have hc:=hop c (by rw [ho];simp [Op.operands])
      have ha:=hop a (by rw [ho];simp [Op.operands])
      have hb:=hop b (by rw [ho];simp [Op.operands])
      have hcn:allNeeds tm [c]=allNeeds tm' [c]:=allNeeds_congr (fun x hx=>by simp at hx;subst hx;exact hc.2)
      have han:allNeeds tm [a]=allNeeds tm' [a]:=allNeeds_congr (fun x hx=>by simp at hx;subst hx;exact ha.2)
      have hbn:allNeeds tm [b]=allNeeds tm' [b]:=allNeeds_congr (fun x hx=>by simp at hx;subst hx;exact hb.2)
      have hgd:(match o.guard with | some (j,want)=>guardOf ops tm j want | none=>none)=(match o.guard with | some (j,want)=>guardOf ops tm' j want | none=>none):=by
        cases hg:o.guard with
        | none=>rfl
        | some q =>
          obtain ⟨j,want⟩:=q
          dsimp only
          exact guardOf_congr (fun oj d ho hd=>h d (by
            simp only [Oper.looksAt,hg]
            refine List.mem_append.2 (.inr ?_)
            simp [ho,hd]))
      simp only [pickR,hgd]
      cases k <;> simp only [hc.1,ha.1,hb.1,hcn,han,hbn]
    | _=>exact key
end Go.AE
/-
  Which blocks an operation reads and which it turns: operations apart go in either order.
-/
set_option linter.unusedVariables false
namespace Go.AE
open Go.RowKit (Below)
variable {P:Program} {Γ:List Fn}
mutual
def idsA:A→List Nat
  | .own id _ _ _=>[id]
  | .box id _=>[id]
  | .bsl id _=>[id]
  | .elt id _ _ _ _=>[id]
  | .mref id=>[id]
  | .agg xs=>idsAs xs
  | .tup xs=>idsAs xs
  | .fnv _ xs=>idsAs xs
  | .fnb _ xs=>idsAs xs
  | .rg id _ _=>[id]
  | .rp id _ _ _=>[id]
  | _=>[]
def idsAs:List A→List Nat
  | []=>[]
  | a :: as=>idsA a ++ idsAs as
end
theorem idsAs_mem {k:Nat} {a:A}:∀ {as:List A},a∈as→k∈idsA a→k∈idsAs as
  | b :: as,h,hk=>by
    simp only [idsAs,List.mem_append]
    rcases List.mem_cons.1 h with rfl | h
    · exact .inl hk
    · exact .inr (idsAs_mem h hk)
theorem cells_ids {k:Nat} {a:A} (h:k∈idsAs (cellsA a)):k∈idsA a:=by
  cases a <;> first | (simp [cellsA,idsA,idsAs] at h;done) | simpa [cellsA,idsA,idsAs] using h
theorem frozen_ids {k:Nat}:∀ {as:List A},k∈as.flatMap frozenIds→k∈idsAs as
  | [],h=>by simp at h
  | a :: as,h=>by
    simp only [List.flatMap_cons,List.mem_append] at h
    simp only [idsAs,List.mem_append]
    rcases h with h | h
    · refine .inl ?_
      cases a <;> simp [frozenIds] at h
      simp [idsA,h]
    · exact .inr (frozen_ids h)
theorem idsOf_ids {k:Nat}:∀ {as:List A},k∈idsOf as→k∈idsAs as
  | [],h=>by simp [idsOf] at h
  | a :: as,h=>by
    simp only [idsOf,List.mem_append] at h
    simp only [idsAs,List.mem_append]
    rcases h with h | h
    · exact .inl (cells_ids (frozen_ids h))
    · exact .inr (idsOf_ids h)
section
variable {hp hp':Nat→Blk}
theorem live_c {id:Nat} (h:hp' id=hp id):live hp' id=live hp id:=by unfold live;rw [h]
theorem oneA_c {a:A} (h:∀ k∈idsA a,hp' k=hp k):oneA hp' a=oneA hp a:=by
  cases a <;> first | rfl | (simp only [oneA];exact live_c (h _ (by simp [idsA]))) | (rename_i k x;cases k <;> rfl) | (simp only [oneA];rw [h _ (by simp [idsA])])
theorem boxable_c {a:A} (h:∀ k∈idsA a,hp' k=hp k):boxable hp' a=boxable hp a:=by
  cases a <;> first | rfl | exact oneA_c h
theorem allOne_c:∀ {as:List A},(∀ k∈idsAs as,hp' k=hp k)→allOne hp' as=allOne hp as
  | [],_=>rfl
  | a :: as,h=>by
    simp only [allOne]
    rw [oneA_c (fun k hk=>h k (by simp [idsAs,hk])),allOne_c (fun k hk=>h k (by simp [idsAs,hk]))]
theorem toCell_c {a:A} (h:∀ k∈idsA a,hp' k=hp k):toCell hp' a=toCell hp a:=by
  cases a <;> first | rfl | (simp only [toCell];rw [h _ (by simp [idsA])])
theorem toKCells_c:∀ {as:List A},(∀ k∈idsAs as,hp' k=hp k)→toKCells hp' as=toKCells hp as
  | [],_=>rfl
  | a :: as,h=>by
    simp only [toKCells]
    rw [toCell_c (fun k hk=>h k (by simp [idsAs,hk])),toKCells_c (fun k hk=>h k (by simp [idsAs,hk]))]
theorem loadA_c {T:TyI} {a:A} (h:∀ k∈idsA a,hp' k=hp k):loadA T hp' a=loadA T hp a:=by
  cases a <;> first | rfl | (simp only [loadA];rw [h _ (by simp [idsA])])
theorem fieldA_c {T:TyI} {f:Nat} {a:A} (h:∀ k∈idsA a,hp' k=hp k):fieldA T hp' f a=fieldA T hp f a:=by
  cases a <;> first | rfl | (simp only [fieldA];rw [live_c (h _ (by simp [idsA]))])
theorem indexAddrA_c {e:TypeId} {E:TyI} {i:Int} {a:A} (h:∀ k∈idsA a,hp' k=hp k):indexAddrA e E hp' a i=indexAddrA e E hp a i:=by
  cases a <;> first | rfl | (rename_i k x;cases k <;> rfl) | (simp only [indexAddrA];rw [live_c (h _ (by simp [idsA]))])
theorem indexArrA_c {m:Nat} {e:TypeId} {E:TyI} {i:Int} {a:A} (h:∀ k∈idsA a,hp' k=hp k):indexArrA m e E hp' a i=indexArrA m e E hp a i:=by
  cases a with
  | elt id sz ks j off =>
    have e:=h id (by simp [idsA])
    cases j <;> cases off <;> first | rfl | (simp only [indexArrA];rw [e])
  | _=>rfl
theorem rowLen_c {id off len:Nat} (h:hp' id=hp id):rowLen hp' id off len=rowLen hp id off len:=by
  cases off <;> simp only [rowLen]
  rw [h]
theorem sliceA_c {t:TypeId} {lo hi:Option A} {a:A} (h:∀ k∈idsA a,hp' k=hp k):sliceA P t hp' a lo hi=sliceA P t hp a lo hi:=by
  cases a with
  | own id ks off len =>
    have e:=h id (by simp [idsA])
    simp only [sliceA]
    rw [live_c e,rowLen_c e]
  | c k x=>cases k <;> rfl
  | _=>rfl
theorem lenA_c {t:TypeId} {a:A} (h:∀ k∈idsA a,hp' k=hp k):lenA P t hp' a=lenA P t hp a:=by
  cases a with
  | own id ks off len =>
    have e:=h id (by simp [idsA])
    simp only [lenA,lenSl]
    rw [live_c e]
  | c k x=>cases k <;> rfl
  | _=>rfl
theorem srcRows_c {e:TypeId} {a:A} (h:∀ k∈idsA a,hp' k=hp k):srcRows e hp' a=srcRows e hp a:=by
  cases a with
  | own id ks off len=>simp only [srcRows];rw [h id (by simp [idsA])]
  | c k x=>cases k <;> rfl
  | _=>rfl
theorem fitArg_c {p:Bool×List Kd} {a:A} (h:∀ k∈idsA a,hp' k=hp k):fitArg hp' p a=fitArg hp p a:=by
  cases a with
  | agg xs =>
    simp only [fitArg]
    rw [toKCells_c (fun k hk=>h k (by simpa [idsA] using hk))]
  | _=>simp only [fitArg];rw [toCell_c h]
theorem fitArgs_c:∀ {ps:List (Bool×List Kd)} {as:List A},(∀ k∈idsAs as,hp' k=hp k)→fitArgs hp' ps as=fitArgs hp ps as
  | [],[],_=>rfl
  | [],_ :: _,_=>rfl
  | _ :: _,[],_=>rfl
  | p :: ps,a :: as,h=>by
    simp only [fitArgs]
    rw [fitArg_c (fun k hk=>h k (by simp [idsAs,hk])),fitArgs_c (fun k hk=>h k (by simp [idsAs,hk]))]
theorem meltH_ids {k:Nat}:∀ {a:A},k∈idsA (meltH hp a)→k∈idsA a:=by
  intro a
  refine A.rec (motive_1:=fun a=>k∈idsA (meltH hp a)→k∈idsA a) (motive_2:=fun as=>k∈idsAs (meltHs hp as)→k∈idsAs as) ?_ ?_ ?_ ?_ ?_ ?_ ?_ ?_ ?_ ?_ ?_ ?_ ?_ ?_ ?_ ?_ ?_ ?_ a
  all_goals first
    | (intros;simp_all [meltH,idsA,meltHs,idsAs];done)
    | skip
  · intro id kk x h
    simp only [meltH] at h
    split at h
    · simp [idsA] at h
    · simp [idsA] at h
  · intro a as h1 h2 h
    simp only [meltHs,idsAs,List.mem_append] at h ⊢
    exact h.imp h1 h2
theorem meltHs_ids {k:Nat}:∀ {as:List A},k∈idsAs (meltHs hp as)→k∈idsAs as
  | [],h=>by simp [meltHs,idsAs] at h
  | a :: as,h=>by
    simp only [meltHs,idsAs,List.mem_append] at h ⊢
    exact h.imp meltH_ids meltHs_ids
theorem callArgs_ids {k:Nat} {r:Bool} {as:List A} (h:k∈idsAs (callArgs r hp as)):k∈idsAs as:=by
  cases r
  · exact meltHs_ids h
  · exact h
mutual
theorem meltH_c:∀ {a:A},(∀ k∈idsA a,hp' k=hp k)→meltH hp' a=meltH hp a
  | .rg id k x,h=>by simp only [meltH];rw [h id (by simp [idsA])]
  | .agg xs,h=>by simp only [meltH];rw [meltHs_c (fun k hk=>h k (by simpa [idsA] using hk))]
  | .unk,_=>rfl
  | .c _ _,_=>rfl
  | .nilsl,_=>rfl
  | .tup _,_=>rfl
  | .own _ _ _ _,_=>rfl
  | .box _ _,_=>rfl
  | .elt _ _ _ _ _,_=>rfl
  | .pp _ _ _,_=>rfl
  | .fnv _ _,_=>rfl
  | .fnb _ _,_=>rfl
  | .mref _,_=>rfl
  | .when _ _,_=>rfl
  | .rp _ _ _ _,_=>rfl
  | .bsl _ _,_=>rfl
theorem meltHs_c:∀ {as:List A},(∀ k∈idsAs as,hp' k=hp k)→meltHs hp' as=meltHs hp as
  | [],_=>rfl
  | a :: as,h=>by
    simp only [meltHs]
    rw [meltH_c (fun k hk=>h k (by simp [idsAs,hk])),meltHs_c (fun k hk=>h k (by simp [idsAs,hk]))]
end
theorem srcA_ids {k:Nat} {ks:List Kd} {y:A} (h:k∈idsA (srcA ks hp y)):k∈idsA y:=by
  unfold srcA at h
  split at h
  · exact meltH_ids h
  · exact h
theorem srcA_c {ks:List Kd} {y:A} (h:∀ k∈idsA y,hp' k=hp k):srcA ks hp' y=srcA ks hp y:=by
  unfold srcA
  split
  · exact meltH_c h
  · rfl
theorem callArgs_c {r:Bool} {as:List A} (h:∀ k∈idsAs as,hp' k=hp k):callArgs r hp' as=callArgs r hp as:=by
  cases r
  · exact meltHs_c h
  · rfl
theorem placeParts_c {ks:List Kd}:∀ {l:List (Nat×A)} {es:List (List C)},(∀ k∈idsAs (l.map (·.2)),hp' k=hp k)→placeParts hp' ks l es=placeParts hp ks l es
  | [],_,_=>rfl
  | (i,a) :: l,es,h=>by
    have h1:∀ k∈idsA a,hp' k=hp k:=fun k hk=>h k (by simp [idsAs,hk])
    have e1:toKCells hp' (cellsA a)=toKCells hp (cellsA a):=toKCells_c (fun k hk=>h1 k (cells_ids hk))
    simp only [placeParts]
    rw [e1,boxable_c h1]
    split
    · split
      · exact placeParts_c (fun k hk=>h k (by simp only [List.map_cons,idsAs,List.mem_append];exact .inr hk))
      · rfl
    · rfl
theorem buildParts_c {T:TyI}:∀ {l:List (Nat×A)} {xs:List A},(∀ k∈idsAs (l.map (·.2)),hp' k=hp k)→buildParts P T hp' l xs=buildParts P T hp l xs
  | [],_,_=>rfl
  | (i,a) :: l,xs,h=>by
    have h1:∀ k∈idsA a,hp' k=hp k:=fun k hk=>h k (by simp [idsAs,hk])
    simp only [buildParts]
    rw [boxable_c h1]
    split
    · split
      · split
        · exact buildParts_c (fun k hk=>h k (by simp only [List.map_cons,idsAs,List.mem_append];exact .inr hk))
        · rfl
      · rfl
    · rfl
theorem lookupA_c {t:TypeId} {ok:Bool} {x y:A} (h:∀ k∈idsA x,hp' k=hp k):lookupA P t ok hp' x y=lookupA P t ok hp x y:=by
  unfold lookupA
  split
  · rename_i id ky k hm
    have e:hp' id=hp id:=h id (by simp [idsA])
    rw [e]
  · rfl
structure Loc (W:List Nat) (hp hp' hp1 hp1':Nat→Blk):Prop where
  inW:∀ k,k∈W→hp1' k=hp1 k
  out:∀ k,k ∉ W→hp1 k=hp k
  out':∀ k,k ∉ W→hp1' k=hp' k
variable {W:List Nat} {hp1 hp1':Nat→Blk}
theorem Loc.refl (h:∀ k,k∈W→hp' k=hp k):Loc W hp hp' hp hp':=⟨h,fun _ _=>rfl,fun _ _=>rfl⟩
theorem Loc.upd (h:Loc W hp hp' hp1 hp1') {id:Nat} (hid:id∈W) (b:Blk):Loc W hp hp' (upd hp1 id b) (upd hp1' id b):=by
  refine ⟨fun k hk=>?_,fun k hk=>?_,fun k hk=>?_⟩
  · simp only [upd_apply];rw [h.inW k hk]
  · simp only [upd_apply];rw [if_neg (fun e:k=id=>hk (by rw [e];exact hid)),h.out k hk]
  · simp only [upd_apply];rw [if_neg (fun e:k=id=>hk (by rw [e];exact hid)),h.out' k hk]
theorem Loc.freeze1 (h:Loc W hp hp' hp1 hp1') {id:Nat} (hid:id∈W):Loc W hp hp' (freeze1 hp1 id) (freeze1 hp1' id):=by
  unfold Go.AE.freeze1
  rw [h.inW id hid]
  split
  · exact h.upd hid _
  · exact h
theorem Loc.freezeAll:∀ {ids:List Nat} {hp1 hp1':Nat→Blk},Loc W hp hp' hp1 hp1'→(∀ id∈ids,id∈W)→Loc W hp hp' (freezeAll hp1 ids) (freezeAll hp1' ids)
  | [],_,_,h,_=>h
  | id :: ids,_,_,h,hi=>by
    simp only [Go.AE.freezeAll]
    exact Loc.freezeAll (h.freeze1 (hi id (by simp))) (fun i hi'=>hi i (by simp [hi']))
theorem Loc.addRows {d:Nat}:∀ {bs:List Blk} {j:Nat} {hp1 hp1':Nat→Blk},Loc W hp hp' hp1 hp1'→(∀ i,i < bs.length→key d (j+i)∈W)→Loc W hp hp' (addRows d j bs hp1) (addRows d j bs hp1')
  | [],_,_,_,h,_=>h
  | b :: bs,j,_,_,h,hi=>by
    simp only [Go.AE.addRows]
    refine Loc.addRows (h.upd (by simpa using hi 0 (by simp)) b) (fun i hi'=>?_)
    have:=hi (i+1) (by simpa using hi')
    rwa [show j+(i+1)=j+1+i by omega] at this
theorem deadRows_c {d:Nat}:∀ {bs:List Blk} {j:Nat},(∀ i,i < bs.length→hp' (key d (j+i))=hp (key d (j+i)))→deadRows d j bs hp'=deadRows d j bs hp
  | [],_,_=>rfl
  | b :: bs,j,h=>by
    simp only [deadRows]
    rw [show hp' (key d j)=hp (key d j) by simpa using h 0 (by simp),deadRows_c (fun i hi=>by
      have:=h (i+1) (by simpa using hi)
      rwa [show j+(i+1)=j+1+i by omega] at this)]
end
def noRead:Op→Bool
  | .move _=>true
  | .assign _=>true
  | .binOp ..=>true
  | .unOp ..=>true
  | .convert ..=>true
  | .index ..=>true
  | .extract ..=>true
  | .pick ..=>true
  | _=>false
def rIds (o:Oper) (v:Operand→A):List Nat:=if noRead o.op=true then [] else idsAs (o.op.operands.toList.map v)
def boxId:A→Option Nat
  | .box id _=>some id
  | _=>none
def keysN (d:Nat):Nat→List Nat
  | 0=>[]
  | n+1=>key d n :: keysN d n
theorem keysN_mem {d j:Nat}:∀ {n:Nat},j < n→key d j∈keysN d n
  | n+1,h=>by
    simp only [keysN,List.mem_cons]
    by_cases e:j=n
    · exact .inl (by rw [e])
    · exact .inr (keysN_mem (by omega))
def dKeys (o:Option Nat) (n:Nat):List Nat:=keysN (o.getD 0) n
def wIds (o:Oper) (v:Operand→A):List Nat :=
  match o.op with
  | .box _ _=>dKeys o.dst 1
  | .alloc _=>dKeys o.dst 1
  | .store _ x _=>match boxId (v x) with
    | some id=>[id]
    | none=>rIds o v
  | .buildSlice _ _ _=>dKeys o.dst 1 ++ rIds o v
  | .makeMap _ _=>dKeys o.dst 1
  | .mapUpdate _ _ _ _=>rIds o v
  | .call c=>match c.callee with
    | .builtin .delete=>rIds o v
    | .builtin .append=>dKeys o.dst 1 ++ (match c.args.toList with | x :: _=>idsA (v x) | []=>[])
    | .value _=>dKeys o.dst 16 ++ rIds o v
    | _=>[]
  | _=>[]
theorem mem_rIds {o:Oper} {v:Operand→A} {x:Operand} {k:Nat} (hn:noRead o.op=false) (hx:x∈o.op.operands) (hk:k∈idsA (v x)):k∈rIds o v:=by
  unfold rIds
  rw [if_neg (by rw [hn];simp)]
  exact idsAs_mem (List.mem_map_of_mem (Array.mem_toList_iff.2 hx)) hk
theorem key_mem {d n j:Nat} (h:j < n):key d j∈dKeys (some d) n:=keysN_mem h
theorem opA_loc {o:Oper} {tm:Nat→A} {hp hp':Nat→Blk} {v:Operand→A} {r:Out} (hA:∀ k,k∈rIds o v ++ wIds o v→hp' k=hp k) (h:opA P Γ o tm hp v=some r) :
    ∃ hp1',opA P Γ o tm hp' v=some { r with hp:=hp1' }∧Loc (wIds o v) hp hp' r.hp hp1':=by
  have hR:noRead o.op=false→∀ x,x∈o.op.operands→∀ k∈idsA (v x),hp' k=hp k:=fun hn x hx k hk=>hA k (List.mem_append.2 (.inl (mem_rIds hn hx hk)))
  have hW:∀ k,k∈wIds o v→hp' k=hp k:=fun k hk=>hA k (List.mem_append.2 (.inr hk))
  have ro:∀ {r:Out},r.hp=hp→∀ {f:(Nat→Blk)→Option Out},f hp'=some { r with hp:=hp' }→∃ hp1',f hp'=some { r with hp:=hp1' }∧Loc (wIds o v) hp hp' r.hp hp1':=by
    intro r e f hf
    exact ⟨hp',hf,by rw [e];exact Loc.refl hW⟩
  have dead:∀ {d:Nat},o.dst=some d→key d 0∈wIds o v→isDead (hp' (key d 0))=isDead (hp (key d 0)):=fun hd hm=>by rw [hW _ hm]
  obtain ⟨dst,op,type,pos,after,guard⟩:=o
  cases op with
  | move x=>simp only [opA,Option.some.injEq] at h ⊢;subst h;exact ⟨hp',rfl,Loc.refl hW⟩
  | assign x=>simp only [opA,Option.some.injEq] at h ⊢;subst h;exact ⟨hp',rfl,Loc.refl hW⟩
  | binOp op t x y yt =>
    simp only [opA] at h ⊢
    split at h
    · simp only [Option.some.injEq] at h;subst h;exact ⟨hp',rfl,Loc.refl hW⟩
    · cases h
  | unOp op t x =>
    simp only [opA] at h ⊢
    split at h
    · simp only [Option.some.injEq] at h;subst h;exact ⟨hp',rfl,Loc.refl hW⟩
    · cases h
  | convert t u x =>
    simp only [opA] at h ⊢
    split at h
    · split at h
      · simp only [Option.some.injEq] at h;subst h;exact ⟨hp',rfl,Loc.refl hW⟩
      · cases h
    · cases h
  | extract x i =>
    simp only [opA] at h ⊢
    split at h
    · split at h
      · simp only [Option.some.injEq] at h;subst h;exact ⟨hp',rfl,Loc.refl hW⟩
      · cases h
    · cases h
  | index t x i =>
    simp only [opA] at h ⊢
    split at h
    · split at h
      · rename_i hs
        rw [if_pos hs]
        simp only [Option.some.injEq] at h;subst h;exact ⟨hp',rfl,Loc.refl hW⟩
      · cases h
    · cases h
  | box t x =>
    simp only [opA] at h ⊢
    split at h
    · rename_i d
      have hm:key d 0∈wIds ⟨some d,.box t x,type,pos,after,guard⟩ v:=key_mem (by omega)
      rw [dead rfl hm,boxable_c (hR rfl x (by simp [Op.operands]))]
      split at h
      · rename_i hif
        rw [if_pos hif]
        simp only [Option.some.injEq] at h;subst h
        exact ⟨_,rfl,(Loc.refl hW).upd hm _⟩
      · cases h
    · cases h
  | alloc t =>
    simp only [opA] at h ⊢
    split at h
    · rename_i d T hT
      have hm:key d 0∈wIds ⟨some d,.alloc t,type,pos,after,guard⟩ v:=key_mem (by omega)
      simp only [dead rfl hm]
      split at h
      · rename_i hif
        rw [if_pos hif]
        simp only [Option.some.injEq] at h;subst h
        exact ⟨_,rfl,(Loc.refl hW).upd hm _⟩
      · cases h
    · cases h
  | load t x =>
    simp only [opA] at h ⊢
    split at h
    · rw [loadA_c (hR rfl x (by simp [Op.operands]))]
      split at h
      · simp only [Option.some.injEq] at h;subst h;exact ⟨hp',rfl,Loc.refl hW⟩
      · cases h
    · cases h
  | fieldAddr t x f =>
    simp only [opA] at h ⊢
    split at h
    · rw [fieldA_c (hR rfl x (by simp [Op.operands]))]
      split at h
      · simp only [Option.some.injEq] at h;subst h;exact ⟨hp',rfl,Loc.refl hW⟩
      · cases h
    · cases h
  | indexAddr t x i =>
    simp only [opA] at h ⊢
    split at h
    · rw [indexAddrA_c (hR rfl x (by simp [Op.operands]))]
      split at h
      · simp only [Option.some.injEq] at h;subst h;exact ⟨hp',rfl,Loc.refl hW⟩
      · cases h
    · split at h
      · rw [indexArrA_c (hR rfl x (by simp [Op.operands]))]
        split at h
        · simp only [Option.some.injEq] at h;subst h;exact ⟨hp',rfl,Loc.refl hW⟩
        · cases h
      · cases h
    · cases h
  | slice t x lo hi mx =>
    cases mx with
    | some m=>simp [opA] at h
    | none =>
      simp only [opA] at h ⊢
      rw [sliceA_c (hR rfl x (by simp [Op.operands]))]
      split at h
      · simp only [Option.some.injEq] at h;subst h;exact ⟨hp',rfl,Loc.refl hW⟩
      · cases h
  | lookup t x y ok =>
    simp only [opA] at h ⊢
    rw [lookupA_c (hR rfl x (by simp [Op.operands]))]
    split at h
    · simp only [Option.some.injEq] at h;subst h;exact ⟨hp',rfl,Loc.refl hW⟩
    · cases h
  | store t x y =>
    have hx:=hR rfl x (by simp [Op.operands])
    have hy:=hR rfl y (by simp [Op.operands])
    have hxm:∀ k∈idsA (v x),k∈wIds ⟨dst,.store t x y,type,pos,after,guard⟩ v:=fun k hk=>by
      simp only [wIds]
      split
      · rename_i id hb
        cases hv:v x <;> simp [hv,boxId] at hb
        subst hb
        simpa [hv,idsA] using hk
      · exact mem_rIds rfl (by simp [Op.operands]) hk
    have hym:boxId (v x)=none→∀ k∈idsA (v y),k∈wIds ⟨dst,.store t x y,type,pos,after,guard⟩ v:=fun hb k hk=>by
      simp only [wIds,hb]
      exact mem_rIds rfl (by simp [Op.operands]) hk
    have key:∀ p hp2,storeA (v y) hp (v x)=some (p,hp2)→∃ hp2',storeA (v y) hp' (v x)=some (p,hp2')∧Loc (wIds ⟨dst,.store t x y,type,pos,after,guard⟩ v) hp hp' hp2 hp2':=by
      intro p hp2 hs
      generalize v x=a at hx hxm hym hs
      generalize v y=b at hy hym hs
      cases a with
      | box id off =>
        simp only [storeA] at hs ⊢
        rw [hx id (by simp [idsA])]
        split at hs
        · simp only [Option.some.injEq,Prod.mk.injEq] at hs
          obtain ⟨rfl,rfl⟩:=hs
          rw [allOne_c (fun k hk=>hy k (cells_ids hk))]
          exact ⟨_,rfl,(Loc.refl hW).upd (hxm id (by simp [idsA])) _⟩
        · cases hs
      | elt id sz ks i off =>
        simp only [storeA] at hs ⊢
        rw [hx id (by simp [idsA]),toKCells_c (fun k hk=>hy k (cells_ids hk))]
        split at hs
        · split at hs
          · simp only [Option.some.injEq,Prod.mk.injEq] at hs
            obtain ⟨rfl,rfl⟩:=hs
            rename_i hn
            rw [if_pos hn]
            exact ⟨_,rfl,(Loc.freezeAll (Loc.refl hW) (fun k hk=>hym rfl k (cells_ids (frozen_ids hk)))).upd (hxm id (by simp [idsA])) _⟩
          · cases hs
        · cases hs
      | _=>simp [storeA] at hs
    simp only [opA] at h ⊢
    split at h
    · rename_i T p hp2 hT hs
      obtain ⟨hp2',e1,e2⟩:=key _ _ hs
      rw [e1,boxable_c hy,hT]
      dsimp only
      split at h
      · rename_i hl
        rw [if_pos hl]
        split at h
        · rename_i hb
          simp only [Option.some.injEq] at h;subst h
          rw [if_pos hb]
          exact ⟨_,rfl,e2⟩
        · cases h
      · cases h
    · cases h
  | build t parts =>
    simp only [opA] at h ⊢
    split at h
    · split at h
      · cases h
      · rename_i hf
        have hpm:∀ k∈idsAs ((parts.toList.map fun p=>(p.1,v p.2)).map (·.2)),hp' k=hp k:=fun k hk=>hA k (List.mem_append.2 (.inl (by
          simp only [rIds,Op.operands,noRead,Bool.false_eq_true,if_false]
          simpa [List.map_map,Function.comp_def] using hk)))
        rw [if_neg hf,buildParts_c hpm]
        split at h
        · simp only [Option.some.injEq] at h;subst h;exact ⟨hp',rfl,Loc.refl hW⟩
        · cases h
    · cases h
  | buildSlice t n parts =>
    simp only [opA] at h ⊢
    split at h
    · rename_i d e E hs
      have hm:key d 0∈wIds ⟨some d,.buildSlice t n parts,type,pos,after,guard⟩ v:=List.mem_append.2 (.inl (key_mem (by omega)))
      have hro:idsAs (parts.toList.map fun p=>v p.2)=rIds ⟨some d,.buildSlice t n parts,type,pos,after,guard⟩ v:=by
        simp [rIds,noRead,Op.operands,List.map_map,Function.comp_def]
      have hpm:∀ k∈idsAs ((parts.toList.map fun p=>(p.1,v p.2)).map (·.2)),hp' k=hp k:=fun k hk=>hA k (List.mem_append.2 (.inl (by
        rw [← hro];simpa [List.map_map,Function.comp_def] using hk)))
      simp only [dead rfl hm]
      rw [placeParts_c hpm]
      split at h
      · rename_i hif
        rw [if_pos hif]
        split at h
        · simp only [Option.some.injEq] at h;subst h
          exact ⟨_,rfl,(Loc.freezeAll (Loc.refl hW) (fun k hk=>List.mem_append.2 (.inr (by rw [← hro];exact idsOf_ids hk)))).upd hm _⟩
        · cases h
      · cases h
    · cases h
  | makeMap t r0 =>
    cases r0 with
    | some q=>simp [opA] at h
    | none =>
      simp only [opA] at h ⊢
      split at h
      · rename_i d kk q E hT
        have hm:key d 0∈wIds ⟨some d,.makeMap t none,type,pos,after,guard⟩ v:=key_mem (by omega)
        simp only [dead rfl hm]
        split at h
        · rename_i hif
          rw [if_pos hif]
          simp only [Option.some.injEq] at h;subst h
          exact ⟨_,rfl,(Loc.refl hW).upd hm _⟩
        · cases h
      · cases h
  | mapUpdate t x y z =>
    have hx:=hR rfl x (by simp [Op.operands])
    have hz:=hR rfl z (by simp [Op.operands])
    have hxm:∀ k∈idsA (v x),k∈wIds ⟨dst,.mapUpdate t x y z,type,pos,after,guard⟩ v:=fun k hk=>mem_rIds rfl (by simp [Op.operands]) hk
    have hzm:∀ k∈idsA (v z),k∈wIds ⟨dst,.mapUpdate t x y z,type,pos,after,guard⟩ v:=fun k hk=>mem_rIds rfl (by simp [Op.operands]) hk
    have key:∀ hp2,updateA P t hp (v x) (v y) (v z)=some hp2→∃ hp2',updateA P t hp' (v x) (v y) (v z)=some hp2'∧Loc (wIds ⟨dst,.mapUpdate t x y z,type,pos,after,guard⟩ v) hp hp' hp2 hp2':=by
      intro hp2 hs
      unfold updateA at hs ⊢
      generalize v x=a at hx hxm hs
      generalize v z=c at hz hzm hs
      split at hs
      · rename_i kk e E id ky k hm hyk
        rw [hx id (by simp [idsA])]
        split at hs
        · rename_i hk1
          rw [if_pos hk1]
          split at hs
          · split at hs
            · rename_i hk2
              rw [if_pos hk2]
              split at hs
              · rename_i hk3
                rw [if_pos hk3,fitArg_c hz]
                split at hs
                · simp only [Option.some.injEq] at hs;subst hs
                  exact ⟨_,rfl,(Loc.freezeAll (Loc.refl hW) (fun k hk=>hzm k (cells_ids (frozen_ids hk)))).upd (hxm id (by simp [idsA])) _⟩
                · cases hs
              · cases hs
            · cases hs
          · cases hs
        · cases hs
      · cases hs
    simp only [opA] at h ⊢
    split at h
    · rename_i hp2 hs
      obtain ⟨hp2',e1,e2⟩:=key _ hs
      rw [e1]
      simp only [Option.some.injEq] at h;subst h
      exact ⟨_,rfl,e2⟩
    · cases h
  | call c =>
    obtain ⟨callee,args,argTypes⟩:=c
    have hRa:∀ k∈idsAs (args.toList.map v),k∈rIds ⟨dst,.call ⟨callee,args,argTypes⟩,type,pos,after,guard⟩ v:=by
      intro k hk
      have:∀ (l:List Operand),(∀ x∈l,x∈args.toList)→k∈idsAs (l.map v)→∃ x∈args.toList,k∈idsA (v x):=by
        intro l
        induction l with
        | nil=>intro _ h;simp [idsAs] at h
        | cons y l ih =>
          intro hl h
          simp only [List.map_cons,idsAs,List.mem_append] at h
          rcases h with h | h
          · exact ⟨y,hl y (by simp),h⟩
          · exact ih (fun x hx=>hl x (by simp [hx])) h
      obtain ⟨x,hx,hk'⟩:=this args.toList (fun x h=>h) hk
      exact mem_rIds rfl (by
        simp only [Op.operands,Call.operands]
        exact Array.mem_append.2 (.inr (Array.mem_toList_iff.1 hx))) hk'
    have hRx:∀ x,x∈args.toList→∀ k∈idsA (v x),hp' k=hp k:=fun x hx=>hR rfl x (by
      simp only [Op.operands,Call.operands]
      exact Array.mem_append.2 (.inr (Array.mem_toList_iff.1 hx)))
    cases callee with
    | invoke rv m=>simp [opA] at h
    | value f =>
      simp only [opA] at h ⊢
      split at h
      · rename_i dst f0 d0 f' hf
        have hargs:∀ k∈idsAs (args.toList.map v),hp' k=hp k:=fun k hk=>hA k (List.mem_append.2 (.inl (hRa k hk)))
        unfold callA at h ⊢
        split at h
        · rename_i g hg
          rw [callArgs_c hargs,fitArgs_c (fun k hk=>hargs k (callArgs_ids hk))]
          split at h
          · rename_i cs hcs
            split at h
            · rename_i hdead
              simp only [Bool.and_eq_true,decide_eq_true_eq] at hdead
              simp only [Option.some.injEq] at h;subst h
              have hlen:(g.sem cs).rows.length≤16:=hdead.1
              have hkeys:∀ i,i < (g.sem cs).rows.length→key (dst.getD 0) (0+i)∈wIds ⟨dst,.call ⟨.value f,args,argTypes⟩,type,pos,after,guard⟩ v:=by
                intro i hi
                refine List.mem_append.2 (.inl ?_)
                rw [Nat.zero_add]
                exact keysN_mem (by omega)
              rw [deadRows_c (fun i hi=>hW _ (hkeys i hi)),if_pos (by simp only [Bool.and_eq_true,decide_eq_true_eq];exact hdead)]
              refine ⟨_,rfl,Loc.addRows ?_ hkeys⟩
              split
              · exact Loc.freezeAll (Loc.refl hW) (fun k hk=>List.mem_append.2 (.inr (hRa k (idsOf_ids hk))))
              · exact Loc.refl hW
            · cases h
          · cases h
        · cases h
      · cases h
    | builtin b =>
      cases b with
      | len =>
        simp only [opA] at h ⊢
        split at h
        · rename_i x t hax hat
          rw [lenA_c (hRx x (by rw [hax];simp))]
          split at h
          · simp only [Option.some.injEq] at h;subst h;exact ⟨hp',rfl,Loc.refl hW⟩
          · cases h
        · cases h
      | min =>
        simp only [opA] at h ⊢
        split at h
        · split at h
          · simp only [Option.some.injEq] at h;subst h;exact ⟨hp',rfl,Loc.refl hW⟩
          · cases h
        · cases h
      | max =>
        simp only [opA] at h ⊢
        split at h
        · split at h
          · simp only [Option.some.injEq] at h;subst h;exact ⟨hp',rfl,Loc.refl hW⟩
          · cases h
        · cases h
      | delete =>
        simp only [opA] at h ⊢
        split at h
        · rename_i x y t l hax hat
          have hx:=hRx x (by rw [hax];simp)
          have hxm:∀ k∈idsA (v x),k∈wIds ⟨dst,.call ⟨.builtin .delete,args,argTypes⟩,type,pos,after,guard⟩ v:=fun k hk=>hRa k (idsAs_mem (List.mem_map_of_mem (by rw [hax];simp)) hk)
          have key:∀ hp2,deleteA P t hp (v x) (v y)=some hp2→∃ hp2',deleteA P t hp' (v x) (v y)=some hp2'∧Loc (wIds ⟨dst,.call ⟨.builtin .delete,args,argTypes⟩,type,pos,after,guard⟩ v) hp hp' hp2 hp2':=by
            intro hp2 hs
            unfold deleteA at hs ⊢
            generalize v x=a at hx hxm hs
            split at hs
            · rename_i kk e E id ky k hm hyk
              rw [hx id (by simp [idsA])]
              split at hs
              · rename_i hk1
                rw [if_pos hk1]
                split at hs
                · split at hs
                  · rename_i hk2
                    rw [if_pos hk2]
                    simp only [Option.some.injEq] at hs;subst hs
                    exact ⟨_,rfl,(Loc.refl hW).upd (hxm id (by simp [idsA])) _⟩
                  · cases hs
                · cases hs
              · cases hs
            · cases hs
          split at h
          · rename_i hp2 hs
            obtain ⟨hp2',e1,e2⟩:=key _ hs
            rw [e1]
            simp only [Option.some.injEq] at h;subst h
            exact ⟨_,rfl,e2⟩
          · cases h
        · cases h
      | append =>
        simp only [opA] at h ⊢
        split at h
        · rename_i x y t u d hax hat
          have hx:=hRx x (by rw [hax];simp)
          have hy:=hRx y (by rw [hax];simp)
          have hm:key d 0∈wIds ⟨some d,.call ⟨.builtin .append,args,argTypes⟩,type,pos,after,guard⟩ v:=List.mem_append.2 (.inl (key_mem (by omega)))
          have hxm:∀ k∈idsA (v x),k∈wIds ⟨some d,.call ⟨.builtin .append,args,argTypes⟩,type,pos,after,guard⟩ v:=fun k hk=>List.mem_append.2 (.inr (by dsimp only;rw [hax];exact hk))
          split at h
          · rename_i e E hs
            split at h
            · rename_i htu
              rw [if_pos htu]
              unfold appendA at h ⊢
              rw [srcA_c hy,srcRows_c (fun k hk=>hy k (srcA_ids hk)),dead rfl hm]
              split at h
              · cases h
              · rename_i new hnew
                split at h
                · rename_i hdd
                  simp only [hdd,if_true]
                  generalize v x=a at hx hxm h ⊢
                  split at h
                  · simp only [Option.some.injEq] at h;subst h
                    exact ⟨_,rfl,(Loc.refl hW).upd hm _⟩
                  · rename_i id ks len
                    rw [hx id (by simp [idsA])]
                    have hid:=hxm id (by simp [idsA])
                    split at h
                    · split at h
                      · rename_i ht
                        rw [if_pos ht]
                        split at h
                        · rename_i hsi
                          rw [if_pos hsi]
                          simp only [Option.some.injEq] at h;subst h
                          exact ⟨_,rfl,(Loc.refl hW).upd hid _⟩
                        · rename_i hsi
                          rw [if_neg hsi]
                          simp only [Option.some.injEq] at h;subst h
                          exact ⟨_,rfl,((Loc.refl hW).upd hid _).upd hm _⟩
                      · cases h
                    · cases h
                  · cases h
                · cases h
            · cases h
          · cases h
        · cases h
      | _=>simp [opA] at h
  | _=>simp [opA] at h
end Go.AE
