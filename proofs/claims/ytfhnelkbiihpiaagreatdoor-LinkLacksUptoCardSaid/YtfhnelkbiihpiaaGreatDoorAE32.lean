/- Text. -/
import Derived.Test.YtfhnelkbiihpiaaGreatDoorAE30
set_option linter.unusedSimpArgs false
set_option linter.unusedVariables false
open _root_.Array renaming mem_toList_iff→jp,mem_append→j7
open _root_.List renaming mem_append→jf,mem_cons→jv,map_cons→jX,map_map→Jl
open Go.Op renaming operands→jc
open _root_.Option.some renaming injEq→ja
open _root_.Prod.mk renaming injEq→jj
namespace Go.AE
open Go.RowKit (Below)
variable {P:Program} {w0:Base} {w:World} {N kp:Nat} {σ:Nat→RefI} {s:S} {tms:Array Value} {ρ:Operand→Value} {al:Nat→Prop} {Γ:List Fn}
def cj8 (tm:Nat→A) (hp:Nat→Blk) (k:Bool) (g:Option (Nat×Bool)) (go:Option Bool) (c a b:Operand):Option (Prop×Prop×A×(Nat→Blk)) :=
 match g with
 | none=>match aj4 tm c with
  | .c .bool x=>some (x.toBool=k∧(aj6 tm [c]∧aj6 tm [match k with | true=>a | false=>b]),True,aj4 tm (match k with | true=>a | false=>b),hp)
  | _=>none
 | some _=>match go with
  | some g=>some ((match g with | true=>(match aj4 tm c with | .c .bool x=>x.toBool=k∧(aj6 tm [c]∧aj6 tm [match k with | true=>a | false=>b]) | _=>False) | false=>True),True,(match g with | true=>aj4 tm (match k with | true=>a | false=>b) | false=>.when false (.c .bool (.bool false))),hp)
  | none=>none
def bjb (P:Program) (tm:Nat→A) (hp:Nat→Blk) (k:Bool) (g:Option Bool) (e:Option (Prop×Prop×A×(Nat→Blk))):Option (Prop×Prop×A×(Nat→Blk)) :=
 match g with
 | some g=>match k with
  | true=>match e with
   | some q=>some (g=true∧q.1,q.2)
   | none=>none
  | false=>some (g=false,True,.when false (.c .bool (.bool false)),hp)
 | none=>none
def effR (P:Program) (Γ:List Fn) (r:Option Bool) (ops:List Oper) (o:Oper) (tm:Nat→A) (hp:Nat→Blk):Option (Prop×Prop×A×(Nat→Blk)) :=
 match r with
 | none=>eff P Γ ops o tm hp
 | some k=>match o.op with
  | .pick c a b=>cj8 tm hp k o.guard (match o.guard with | some (j,want)=>guardOf ops tm j want | none=>none) c a b
  | _=>match o.guard with
   | some (j,want)=>bjb P tm hp k (guardOf ops tm j want) (eff P Γ ops (ajn o) tm hp)
   | none=>none
def dkp (P:Program) (Γ:List Fn) (r:Option Bool) (gd:Option Nat) (o:Oper) (tm:Nat→A) (hp:Nat→Blk):Option (Prop×Prop×A×(Nat→Blk)) :=
 match r with
 | none=>effG P Γ gd o tm hp
 | some k=>match o.op with
  | .pick c a b=>cj8 tm hp k o.guard (match o.guard with | some (_,want)=>az9 tm gd want | none=>none) c a b
  | _=>match o.guard with
   | some (_,want)=>bjb P tm hp k (az9 tm gd want) (effG P Γ none (ajn o) tm hp)
   | none=>none
theorem ey0 (r:Option Bool) (ops:List Oper) (o:Oper) (tm:Nat→A) (hp:Nat→Blk):effR P Γ r ops o tm hp=dkp P Γ r (gdst ops o) o tm hp:=by
 unfold effR dkp
 cases r with
 | none=>exact bq5 _ _ _ _
 | some k =>
  dsimp only
  have key:(match o.guard with | some (j,want)=>bjb P tm hp k (guardOf ops tm j want) (eff P Γ ops (ajn o) tm hp) | none=>none)=(match o.guard with | some (_,want)=>bjb P tm hp k (az9 tm (gdst ops o) want) (effG P Γ none (ajn o) tm hp) | none=>none):=by
   cases hg:o.guard with
   | none=>rfl
   | some q =>
    obtain ⟨j,want⟩:=q
    dsimp only
    rw [awo hg,bq5]
    rfl
  have key2:(match o.guard with | some (j,want)=>guardOf ops tm j want | none=>none)=(match o.guard with | some (_,want)=>az9 tm (gdst ops o) want | none=>none):=by
   cases hg:o.guard with
   | none=>rfl
   | some q=>obtain ⟨j,want⟩:=q;dsimp only;rw [awo hg]
  cases o.op <;> first | exact key | (dsimp only;rw [key2])
theorem cz6 {r:Option Bool} {ops:List Oper} {o:Oper} {tm:Nat→A} {hp hp1:Nat→Blk} {p f:Prop} {v:A} (h:effR P Γ r ops o tm hp=some (p,f,v,hp1)) :
  (r=none∧eff P Γ ops o tm hp=some (p,f,v,hp1)) ∨
  (∃ k c a b x,r=some k∧o.op = .pick c a b∧o.guard=none∧aj4 tm c = .c .bool x∧hp1=hp∧p=(x.toBool=k∧(aj6 tm [c]∧aj6 tm [match k with | true=>a | false=>b]))∧v=aj4 tm (match k with | true=>a | false=>b)∧f=True) ∨
  (∃ j want g p1,r=some true∧(∀ c a b,o.op≠.pick c a b)∧o.guard=some (j,want)∧guardOf ops tm j want=some g∧p=(g=true∧p1)∧eff P Γ ops (ajn o) tm hp=some (p1,f,v,hp1)) ∨
  (∃ j want g,r=some false∧(∀ c a b,o.op≠.pick c a b)∧o.guard=some (j,want)∧guardOf ops tm j want=some g∧p=(g=false)∧f=True∧v = .when false (.c .bool (.bool false))∧hp1=hp) ∨
  (∃ k c a b j want g,r=some k∧o.op = .pick c a b∧o.guard=some (j,want)∧guardOf ops tm j want=some g∧hp1=hp∧f=True∧p=(match g with | true=>(match aj4 tm c with | .c .bool x=>x.toBool=k∧(aj6 tm [c]∧aj6 tm [match k with | true=>a | false=>b]) | _=>False) | false=>True)∧v=(match g with | true=>aj4 tm (match k with | true=>a | false=>b) | false=>.when false (.c .bool (.bool false)))):=by
 unfold effR at h
 cases r with
 | none=>exact .inl ⟨rfl,h⟩
 | some k =>
  dsimp only at h
  have key:(∀ c a b,o.op≠.pick c a b)→(match o.guard with | some (j,want)=>bjb P tm hp k (guardOf ops tm j want) (eff P Γ ops (ajn o) tm hp) | none=>none)=some (p,f,v,hp1) →
    (∃ j want g p1,some k=some true∧(∀ c a b,o.op≠.pick c a b)∧o.guard=some (j,want)∧guardOf ops tm j want=some g∧p=(g=true∧p1)∧eff P Γ ops (ajn o) tm hp=some (p1,f,v,hp1)) ∨
    (∃ j want g,some k=some false∧(∀ c a b,o.op≠.pick c a b)∧o.guard=some (j,want)∧guardOf ops tm j want=some g∧p=(g=false)∧f=True∧v = .when false (.c .bool (.bool false))∧hp1=hp):=by
   intro hnp h
   split at h
   ·rename_i j want hg
    unfold bjb at h
    split at h
    ·rename_i g hgo
     split at h
     ·split at h
      ·rename_i q he
       obtain ⟨p1,f1,v1,h1⟩:=q
       simp only [ja,jj] at h
       obtain ⟨rfl,rfl,rfl,rfl⟩:=h
       exact .inl ⟨j,want,g,p1,rfl,hnp,hg,hgo,rfl,he⟩
      ·cases h
     ·simp only [ja,jj] at h
      obtain ⟨rfl,rfl,rfl,rfl⟩:=h
      exact .inr ⟨j,want,g,rfl,hnp,hg,hgo,rfl,rfl,rfl,rfl⟩
    ·cases h
   ·cases h
  cases ho:o.op with
  | pick c a b =>
   simp only [ho,cj8] at h
   split at h
   ·rename_i hg
    split at h
    ·rename_i x hx
     simp only [ja,jj] at h
     obtain ⟨rfl,rfl,rfl,rfl⟩:=h
     exact .inr (.inl ⟨k,c,a,b,x,rfl,rfl,hg,hx,rfl,rfl,rfl,rfl⟩)
    ·cases h
   ·rename_i q hg
    obtain ⟨j,want⟩:=q
    rw [hg] at h
    dsimp only at h
    split at h
    ·rename_i g hgo
     simp only [ja,jj] at h
     obtain ⟨e1,e2,e3,e4⟩:=h
     exact .inr (.inr (.inr (.inr ⟨k,c,a,b,j,want,g,rfl,rfl,hg,hgo,e4.symm,e2.symm,e1.symm,e3.symm⟩)))
    ·cases h
  | _ =>
   refine .inr (.inr ?_)
   rcases key (by intro c a b e;rw [ho] at e;cases e) (by simpa only [ho] using h) with h' | h'
   ·rw [← ho];exact .inl h'
   ·rw [← ho];exact .inr (.inl h')
theorem cki {o:Oper} {ops:Array Oper} {t:Nat} (h:t∈(ajn o).looksAt ops):t∈o.looksAt ops:=by
 simp only [Oper.looksAt,ajn] at h ⊢
 rcases jf.1 h with h | h
 ·exact jf.2 (.inl h)
 ·simp at h
theorem dzn {r:Option Bool} {ops:List Oper} {o:Oper} {tm tm':Nat→A} {hp:Nat→Blk} (h:∀ t,t∈o.looksAt ops.toArray→tm t=tm' t):effR P Γ r ops o tm hp=effR P Γ r ops o tm' hp:=by
 unfold effR
 cases r with
 | none=>exact bkl h
 | some k =>
  dsimp only
  have hop:∀ x,x∈o.op.operands→aj4 tm x=aj4 tm' x∧akf tm x=akf tm' x:=fun x hx=>aki (fun t ht=>h t (by
   simp only [Oper.looksAt]
   refine jf.2 (.inl ?_)
   rw [List.mem_filterMap]
   exact ⟨x,jp.2 hx,by rw [ht]⟩))
  have key:(match o.guard with | some (j,want)=>bjb P tm hp k (guardOf ops tm j want) (eff P Γ ops (ajn o) tm hp) | none=>none)=(match o.guard with | some (j,want)=>bjb P tm' hp k (guardOf ops tm' j want) (eff P Γ ops (ajn o) tm' hp) | none=>none):=by
   cases hg:o.guard with
   | none=>rfl
   | some q =>
    obtain ⟨j,want⟩:=q
    dsimp only
    have e1:guardOf ops tm j want=guardOf ops tm' j want:=ayi (fun oj d ho hd=>h d (by
     simp only [Oper.looksAt,hg]
     refine jf.2 (.inr ?_)
     simp [ho,hd]))
    rw [e1,bkl (o:=ajn o) (fun t ht=>h t (cki ht))]
    rfl
  cases ho:o.op with
  | pick c a b =>
   have hc:=hop c (by rw [ho];simp [jc])
   have ha:=hop a (by rw [ho];simp [jc])
   have hb:=hop b (by rw [ho];simp [jc])
   have hcn:aj6 tm [c]=aj6 tm' [c]:=az5 (fun x hx=>by simp at hx;subst hx;exact hc.2)
   have han:aj6 tm [a]=aj6 tm' [a]:=az5 (fun x hx=>by simp at hx;subst hx;exact ha.2)
   have hbn:aj6 tm [b]=aj6 tm' [b]:=az5 (fun x hx=>by simp at hx;subst hx;exact hb.2)
   have hgd:(match o.guard with | some (j,want)=>guardOf ops tm j want | none=>none)=(match o.guard with | some (j,want)=>guardOf ops tm' j want | none=>none):=by
    cases hg:o.guard with
    | none=>rfl
    | some q =>
     obtain ⟨j,want⟩:=q
     dsimp only
     exact ayi (fun oj d ho hd=>h d (by
      simp only [Oper.looksAt,hg]
      refine jf.2 (.inr ?_)
      simp [ho,hd]))
   simp only [cj8,hgd]
   cases k <;> simp only [hc.1,ha.1,hb.1,hcn,han,hbn]
  | _=>exact key
end Go.AE
/-
 Which blocks an operation reads and which it turns: operations apart go in either order.
-/
namespace Go.AE
open Go.RowKit (Below)
variable {P:Program} {Γ:List Fn}
mutual
def idsA:A→List Nat
 | .own id _ _ _=>[id]
 | .box id _=>[id]
 | .bsl id _=>[id]
 | .elt id _ _ _ _=>[id]
 | .mref id=>[id]
 | .agg xs=>aq9 xs
 | .tup xs=>aq9 xs
 | .fnv _ xs=>aq9 xs
 | .fnb _ xs=>aq9 xs
 | .rg id _ _=>[id]
 | .rp id _ _ _=>[id]
 | _=>[]
def aq9:List A→List Nat
 | []=>[]
 | a :: as=>idsA a ++ aq9 as
end
theorem cql {k:Nat} {a:A}:∀ {as:List A},a∈as→k∈idsA a→k∈aq9 as
 | b :: as,h,hk=>by
  simp only [aq9,jf]
  rcases jv.1 h with rfl | h
  ·exact .inl hk
  ·exact .inr (cql h hk)
theorem bjz {k:Nat} {a:A} (h:k∈aq9 (aje a)):k∈idsA a:=by
 cases a <;> first | (simp [aje,idsA,aq9] at h;done) | simpa [aje,idsA,aq9] using h
theorem bwu {k:Nat}:∀ {as:List A},k∈as.flatMap ajc→k∈aq9 as
 | [],h=>by simp at h
 | a :: as,h=>by
  simp only [List.flatMap_cons,jf] at h
  simp only [aq9,jf]
  rcases h with h | h
  ·refine .inl ?_
   cases a <;> simp [ajc] at h
   simp [idsA,h]
  ·exact .inr (bwu h)
theorem cqr {k:Nat}:∀ {as:List A},k∈ak5 as→k∈aq9 as
 | [],h=>by simp [ak5] at h
 | a :: as,h=>by
  simp only [ak5,jf] at h
  simp only [aq9,jf]
  rcases h with h | h
  ·exact .inl (bjz (bwu h))
  ·exact .inr (cqr h)
section
variable {hp hp':Nat→Blk}
theorem djc {id:Nat} (h:hp' id=hp id):live hp' id=live hp id:=by unfold live;rw [h]
theorem eza {a:A} (h:∀ k∈idsA a,hp' k=hp k):oneA hp' a=oneA hp a:=by
 cases a <;> first | rfl | (simp only [oneA];exact djc (h _ (by simp [idsA]))) | (rename_i k x;cases k <;> rfl) | (simp only [oneA];rw [h _ (by simp [idsA])])
theorem bkh {a:A} (h:∀ k∈idsA a,hp' k=hp k):ayb hp' a=ayb hp a:=by
 cases a <;> first | rfl | exact eza h
theorem dwy:∀ {as:List A},(∀ k∈aq9 as,hp' k=hp k)→bwg hp' as=bwg hp as
 | [],_=>rfl
 | a :: as,h=>by
  simp only [bwg]
  rw [eza (fun k hk=>h k (by simp [aq9,hk])),dwy (fun k hk=>h k (by simp [aq9,hk]))]
theorem dwi {a:A} (h:∀ k∈idsA a,hp' k=hp k):toCell hp' a=toCell hp a:=by
 cases a <;> first | rfl | (simp only [toCell];rw [h _ (by simp [idsA])])
theorem bwn:∀ {as:List A},(∀ k∈aq9 as,hp' k=hp k)→aqj hp' as=aqj hp as
 | [],_=>rfl
 | a :: as,h=>by
  simp only [aqj]
  rw [dwi (fun k hk=>h k (by simp [aq9,hk])),bwn (fun k hk=>h k (by simp [aq9,hk]))]
theorem ek6 {T:TyI} {a:A} (h:∀ k∈idsA a,hp' k=hp k):bqo T hp' a=bqo T hp a:=by
 cases a <;> first | rfl | (simp only [bqo];rw [h _ (by simp [idsA])])
theorem ewk {T:TyI} {f:Nat} {a:A} (h:∀ k∈idsA a,hp' k=hp k):bji T hp' f a=bji T hp f a:=by
 cases a <;> first | rfl | (simp only [bji];rw [djc (h _ (by simp [idsA]))])
theorem djp {e:TypeId} {E:TyI} {i:Int} {a:A} (h:∀ k∈idsA a,hp' k=hp k):aqy e E hp' a i=aqy e E hp a i:=by
 cases a <;> first | rfl | (rename_i k x;cases k <;> rfl) | (simp only [aqy];rw [djc (h _ (by simp [idsA]))])
theorem dqz {m:Nat} {e:TypeId} {E:TyI} {i:Int} {a:A} (h:∀ k∈idsA a,hp' k=hp k):azb m e E hp' a i=azb m e E hp a i:=by
 cases a with
 | elt id sz ks j off =>
  have e:=h id (by simp [idsA])
  cases j <;> cases off <;> first | rfl | (simp only [azb];rw [e])
 | _=>rfl
theorem ew9 {id off len:Nat} (h:hp' id=hp id):bym hp' id off len=bym hp id off len:=by
 cases off <;> simp only [bym]
 rw [h]
theorem ewt {t:TypeId} {lo hi:Option A} {a:A} (h:∀ k∈idsA a,hp' k=hp k):bqv P t hp' a lo hi=bqv P t hp a lo hi:=by
 cases a with
 | own id ks off len =>
  have e:=h id (by simp [idsA])
  simp only [bqv]
  rw [djc e,ew9 e]
 | c k x=>cases k <;> rfl
 | _=>rfl
theorem ey7 {t:TypeId} {a:A} (h:∀ k∈idsA a,hp' k=hp k):lenA P t hp' a=lenA P t hp a:=by
 cases a with
 | own id ks off len =>
  have e:=h id (by simp [idsA])
  simp only [lenA,cja]
  rw [djc e]
 | c k x=>cases k <;> rfl
 | _=>rfl
theorem cqz {e:TypeId} {a:A} (h:∀ k∈idsA a,hp' k=hp k):az7 e hp' a=az7 e hp a:=by
 cases a with
 | own id ks off len=>simp only [az7];rw [h id (by simp [idsA])]
 | c k x=>cases k <;> rfl
 | _=>rfl
theorem ck9 {p:Bool×List Kd} {a:A} (h:∀ k∈idsA a,hp' k=hp k):azx hp' p a=azx hp p a:=by
 cases a with
 | agg xs =>
  simp only [azx]
  rw [bwn (fun k hk=>h k (by simpa [idsA] using hk))]
 | _=>simp only [azx];rw [dwi h]
theorem cym:∀ {ps:List (Bool×List Kd)} {as:List A},(∀ k∈aq9 as,hp' k=hp k)→ak2 hp' ps as=ak2 hp ps as
 | [],[],_=>rfl
 | [],_ :: _,_=>rfl
 | _ :: _,[],_=>rfl
 | p :: ps,a :: as,h=>by
  simp only [ak2]
  rw [ck9 (fun k hk=>h k (by simp [aq9,hk])),cym (fun k hk=>h k (by simp [aq9,hk]))]
theorem djd {k:Nat}:∀ {a:A},k∈idsA (bq4 hp a)→k∈idsA a:=by
 intro a
 refine A.rec (motive_1:=fun a=>k∈idsA (bq4 hp a)→k∈idsA a) (motive_2:=fun as=>k∈aq9 (azy hp as)→k∈aq9 as) ?_ ?_ ?_ ?_ ?_ ?_ ?_ ?_ ?_ ?_ ?_ ?_ ?_ ?_ ?_ ?_ ?_ ?_ a
 all_goals first
  | (intros;simp_all [bq4,idsA,azy,aq9];done)
  | skip
 ·intro id kk x h
  simp only [bq4] at h
  split at h
  ·simp [idsA] at h
  ·simp [idsA] at h
 ·intro a as h1 h2 h
  simp only [azy,aq9,jf] at h ⊢
  exact h.imp h1 h2
theorem cwu {k:Nat}:∀ {as:List A},k∈aq9 (azy hp as)→k∈aq9 as
 | [],h=>by simp [azy,aq9] at h
 | a :: as,h=>by
  simp only [azy,aq9,jf] at h ⊢
  exact h.imp djd cwu
theorem djh {k:Nat} {r:Bool} {as:List A} (h:k∈aq9 (bq8 r hp as)):k∈aq9 as:=by
 cases r
 ·exact cwu h
 ·exact h
mutual
theorem eqf:∀ {a:A},(∀ k∈idsA a,hp' k=hp k)→bq4 hp' a=bq4 hp a
 | .rg id k x,h=>by simp only [bq4];rw [h id (by simp [idsA])]
 | .agg xs,h=>by simp only [bq4];rw [cko (fun k hk=>h k (by simpa [idsA] using hk))]
 | .unk,_=>rfl
 | .c _ _,_=>rfl
 | .nilsl,_=>rfl
 | .tup _,_=>rfl
 | .own _ _ _ _,_=>rfl
 | .box _ _,_=>rfl
 | .elt _ _ _ _ _,_=>rfl
 | .pp _ _ _,_=>rfl
 | .fnv _ _,_=>rfl
 | .fnb _ _,_=>rfl
 | .mref _,_=>rfl
 | .when _ _,_=>rfl
 | .rp _ _ _ _,_=>rfl
 | .bsl _ _,_=>rfl
theorem cko:∀ {as:List A},(∀ k∈aq9 as,hp' k=hp k)→azy hp' as=azy hp as
 | [],_=>rfl
 | a :: as,h=>by
  simp only [azy]
  rw [eqf (fun k hk=>h k (by simp [aq9,hk])),cko (fun k hk=>h k (by simp [aq9,hk]))]
end
theorem ewa {k:Nat} {ks:List Kd} {y:A} (h:k∈idsA (srcA ks hp y)):k∈idsA y:=by
 unfold srcA at h
 split at h
 ·exact djd h
 ·exact h
theorem ey4 {ks:List Kd} {y:A} (h:∀ k∈idsA y,hp' k=hp k):srcA ks hp' y=srcA ks hp y:=by
 unfold srcA
 split
 ·exact eqf h
 ·rfl
theorem dzv {r:Bool} {as:List A} (h:∀ k∈aq9 as,hp' k=hp k):bq8 r hp' as=bq8 r hp as:=by
 cases r
 ·exact cko h
 ·rfl
theorem byq {ks:List Kd}:∀ {l:List (Nat×A)} {es:List (List C)},(∀ k∈aq9 (l.map (·.2)),hp' k=hp k)→aqz hp' ks l es=aqz hp ks l es
 | [],_,_=>rfl
 | (i,a) :: l,es,h=>by
  have h1:∀ k∈idsA a,hp' k=hp k:=fun k hk=>h k (by simp [aq9,hk])
  have e1:aqj hp' (aje a)=aqj hp (aje a):=bwn (fun k hk=>h1 k (bjz hk))
  simp only [aqz]
  rw [e1,bkh h1]
  split
  ·split
   ·exact byq (fun k hk=>h k (by simp only [jX,aq9,jf];exact .inr hk))
   ·rfl
  ·rfl
theorem byn {T:TyI}:∀ {l:List (Nat×A)} {xs:List A},(∀ k∈aq9 (l.map (·.2)),hp' k=hp k)→aw7 P T hp' l xs=aw7 P T hp l xs
 | [],_,_=>rfl
 | (i,a) :: l,xs,h=>by
  have h1:∀ k∈idsA a,hp' k=hp k:=fun k hk=>h k (by simp [aq9,hk])
  simp only [aw7]
  rw [bkh h1]
  split
  ·split
   ·split
    ·exact byn (fun k hk=>h k (by simp only [jX,aq9,jf];exact .inr hk))
    ·rfl
   ·rfl
  ·rfl
theorem ejg {t:TypeId} {ok:Bool} {x y:A} (h:∀ k∈idsA x,hp' k=hp k):bzk P t ok hp' x y=bzk P t ok hp x y:=by
 unfold bzk
 split
 ·rename_i id ky k hm
  have e:hp' id=hp id:=h id (by simp [idsA])
  rw [e]
 ·rfl
structure Loc (W:List Nat) (hp hp' hp1 hp1':Nat→Blk):Prop where
 inW:∀ k,k∈W→hp1' k=hp1 k
 out:∀ k,k ∉ W→hp1 k=hp k
 out':∀ k,k ∉ W→hp1' k=hp' k
variable {W:List Nat} {hp1 hp1':Nat→Blk}
theorem Loc.refl (h:∀ k,k∈W→hp' k=hp k):Loc W hp hp' hp hp':=⟨h,fun _ _=>rfl,fun _ _=>rfl⟩
theorem Loc.upd (h:Loc W hp hp' hp1 hp1') {id:Nat} (hid:id∈W) (b:Blk):Loc W hp hp' (upd hp1 id b) (upd hp1' id b):=by
 refine ⟨fun k hk=>?_,fun k hk=>?_,fun k hk=>?_⟩
 ·simp only [bjq];rw [h.inW k hk]
 ·simp only [bjq];rw [if_neg (fun e:k=id=>hk (by rw [e];exact hid)),h.out k hk]
 ·simp only [bjq];rw [if_neg (fun e:k=id=>hk (by rw [e];exact hid)),h.out' k hk]
theorem Loc.freeze1 (h:Loc W hp hp' hp1 hp1') {id:Nat} (hid:id∈W):Loc W hp hp' (freeze1 hp1 id) (freeze1 hp1' id):=by
 unfold Go.AE.freeze1
 rw [h.inW id hid]
 split
 ·exact h.upd hid _
 ·exact h
theorem Loc.freezeAll:∀ {ids:List Nat} {hp1 hp1':Nat→Blk},Loc W hp hp' hp1 hp1'→(∀ id∈ids,id∈W)→Loc W hp hp' (freezeAll hp1 ids) (freezeAll hp1' ids)
 | [],_,_,h,_=>h
 | id :: ids,_,_,h,hi=>by
  simp only [Go.AE.freezeAll]
  exact Loc.freezeAll (h.freeze1 (hi id (by simp))) (fun i hi'=>hi i (by simp [hi']))
theorem Loc.addRows {d:Nat}:∀ {bs:List Blk} {j:Nat} {hp1 hp1':Nat→Blk},Loc W hp hp' hp1 hp1'→(∀ i,i < bs.length→key d (j+i)∈W)→Loc W hp hp' (addRows d j bs hp1) (addRows d j bs hp1')
 | [],_,_,_,h,_=>h
 | b :: bs,j,_,_,h,hi=>by
  simp only [Go.AE.addRows]
  refine Loc.addRows (h.upd (by simpa using hi 0 (by simp)) b) (fun i hi'=>?_)
  have:=hi (i+1) (by simpa using hi')
  rwa [show j+(i+1)=j+1+i by omega] at this
theorem cz2 {d:Nat}:∀ {bs:List Blk} {j:Nat},(∀ i,i < bs.length→hp' (key d (j+i))=hp (key d (j+i)))→ay2 d j bs hp'=ay2 d j bs hp
 | [],_,_=>rfl
 | b :: bs,j,h=>by
  simp only [ay2]
  rw [show hp' (key d j)=hp (key d j) by simpa using h 0 (by simp),cz2 (fun i hi=>by
   have:=h (i+1) (by simpa using hi)
   rwa [show j+(i+1)=j+1+i by omega] at this)]
end
def bje:Op→Bool
 | .move _=>true
 | .assign _=>true
 | .binOp ..=>true
 | .unOp ..=>true
 | .convert ..=>true
 | .index ..=>true
 | .extract ..=>true
 | .pick ..=>true
 | _=>false
def rIds (o:Oper) (v:Operand→A):List Nat:=if bje o.op=true then [] else aq9 (o.op.operands.toList.map v)
def ejw:A→Option Nat
 | .box id _=>some id
 | _=>none
def dk6 (d:Nat):Nat→List Nat
 | 0=>[]
 | n+1=>key d n :: dk6 d n
theorem cqc {d j:Nat}:∀ {n:Nat},j < n→key d j∈dk6 d n
 | n+1,h=>by
  simp only [dk6,jv]
  by_cases e:j=n
  ·exact .inl (by rw [e])
  ·exact .inr (cqc (by omega))
def dj8 (o:Option Nat) (n:Nat):List Nat:=dk6 (o.getD 0) n
def wIds (o:Oper) (v:Operand→A):List Nat :=
 match o.op with
 | .box _ _=>dj8 o.dst 1
 | .alloc _=>dj8 o.dst 1
 | .store _ x _=>match ejw (v x) with
  | some id=>[id]
  | none=>rIds o v
 | .buildSlice _ _ _=>dj8 o.dst 1 ++ rIds o v
 | .makeMap _ _=>dj8 o.dst 1
 | .mapUpdate _ _ _ _=>rIds o v
 | .call c=>match c.callee with
  | .builtin .delete=>rIds o v
  | .builtin .append=>dj8 o.dst 1 ++ (match c.args.toList with | x :: _=>idsA (v x) | []=>[])
  | .value _=>dj8 o.dst 16 ++ rIds o v
  | _=>[]
 | _=>[]
theorem bwt {o:Oper} {v:Operand→A} {x:Operand} {k:Nat} (hn:bje o.op=false) (hx:x∈o.op.operands) (hk:k∈idsA (v x)):k∈rIds o v:=by
 unfold rIds
 rw [if_neg (by rw [hn];simp)]
 exact cql (List.mem_map_of_mem (jp.2 hx)) hk
theorem cqa {d n j:Nat} (h:j < n):key d j∈dj8 (some d) n:=cqc h
theorem ek5 {o:Oper} {tm:Nat→A} {hp hp':Nat→Blk} {v:Operand→A} {r:Out} (hA:∀ k,k∈rIds o v ++ wIds o v→hp' k=hp k) (h:opA P Γ o tm hp v=some r) :
  ∃ hp1',opA P Γ o tm hp' v=some { r with hp:=hp1' }∧Loc (wIds o v) hp hp' r.hp hp1':=by
 have hR:bje o.op=false→∀ x,x∈o.op.operands→∀ k∈idsA (v x),hp' k=hp k:=fun hn x hx k hk=>hA k (jf.2 (.inl (bwt hn hx hk)))
 have hW:∀ k,k∈wIds o v→hp' k=hp k:=fun k hk=>hA k (jf.2 (.inr hk))
 have ro:∀ {r:Out},r.hp=hp→∀ {f:(Nat→Blk)→Option Out},f hp'=some { r with hp:=hp' }→∃ hp1',f hp'=some { r with hp:=hp1' }∧Loc (wIds o v) hp hp' r.hp hp1':=by
  intro r e f hf
  exact ⟨hp',hf,by rw [e];exact Loc.refl hW⟩
 have dead:∀ {d:Nat},o.dst=some d→key d 0∈wIds o v→aqh (hp' (key d 0))=aqh (hp (key d 0)):=fun hd hm=>by rw [hW _ hm]
 obtain ⟨dst,op,type,pos,after,guard⟩:=o
 cases op with
 | move x=>simp only [opA,ja] at h ⊢;subst h;exact ⟨hp',rfl,Loc.refl hW⟩
 | assign x=>simp only [opA,ja] at h ⊢;subst h;exact ⟨hp',rfl,Loc.refl hW⟩
 | binOp op t x y yt =>
  simp only [opA] at h ⊢
  split at h
  ·simp only [ja] at h;subst h;exact ⟨hp',rfl,Loc.refl hW⟩
  ·cases h
 | unOp op t x =>
  simp only [opA] at h ⊢
  split at h
  ·simp only [ja] at h;subst h;exact ⟨hp',rfl,Loc.refl hW⟩
  ·cases h
 | convert t u x =>
  simp only [opA] at h ⊢
  split at h
  ·split at h
   ·simp only [ja] at h;subst h;exact ⟨hp',rfl,Loc.refl hW⟩
   ·cases h
  ·cases h
 | extract x i =>
  simp only [opA] at h ⊢
  split at h
  ·split at h
   ·simp only [ja] at h;subst h;exact ⟨hp',rfl,Loc.refl hW⟩
   ·cases h
  ·cases h
 | index t x i =>
  simp only [opA] at h ⊢
  split at h
  ·split at h
   ·rename_i hs
    rw [if_pos hs]
    simp only [ja] at h;subst h;exact ⟨hp',rfl,Loc.refl hW⟩
   ·cases h
  ·cases h
 | box t x =>
  simp only [opA] at h ⊢
  split at h
  ·rename_i d
   have hm:key d 0∈wIds ⟨some d,.box t x,type,pos,after,guard⟩ v:=cqa (by omega)
   rw [dead rfl hm,bkh (hR rfl x (by simp [jc]))]
   split at h
   ·rename_i hif
    rw [if_pos hif]
    simp only [ja] at h;subst h
    exact ⟨_,rfl,(Loc.refl hW).upd hm _⟩
   ·cases h
  ·cases h
 | alloc t =>
  simp only [opA] at h ⊢
  split at h
  ·rename_i d T hT
   have hm:key d 0∈wIds ⟨some d,.alloc t,type,pos,after,guard⟩ v:=cqa (by omega)
   simp only [dead rfl hm]
   split at h
   ·rename_i hif
    rw [if_pos hif]
    simp only [ja] at h;subst h
    exact ⟨_,rfl,(Loc.refl hW).upd hm _⟩
   ·cases h
  ·cases h
 | load t x =>
  simp only [opA] at h ⊢
  split at h
  ·rw [ek6 (hR rfl x (by simp [jc]))]
   split at h
   ·simp only [ja] at h;subst h;exact ⟨hp',rfl,Loc.refl hW⟩
   ·cases h
  ·cases h
 | fieldAddr t x f =>
  simp only [opA] at h ⊢
  split at h
  ·rw [ewk (hR rfl x (by simp [jc]))]
   split at h
   ·simp only [ja] at h;subst h;exact ⟨hp',rfl,Loc.refl hW⟩
   ·cases h
  ·cases h
 | indexAddr t x i =>
  simp only [opA] at h ⊢
  split at h
  ·rw [djp (hR rfl x (by simp [jc]))]
   split at h
   ·simp only [ja] at h;subst h;exact ⟨hp',rfl,Loc.refl hW⟩
   ·cases h
  ·split at h
   ·rw [dqz (hR rfl x (by simp [jc]))]
    split at h
    ·simp only [ja] at h;subst h;exact ⟨hp',rfl,Loc.refl hW⟩
    ·cases h
   ·cases h
  ·cases h
 | slice t x lo hi mx =>
  cases mx with
  | some m=>simp [opA] at h
  | none =>
   simp only [opA] at h ⊢
   rw [ewt (hR rfl x (by simp [jc]))]
   split at h
   ·simp only [ja] at h;subst h;exact ⟨hp',rfl,Loc.refl hW⟩
   ·cases h
 | lookup t x y ok =>
  simp only [opA] at h ⊢
  rw [ejg (hR rfl x (by simp [jc]))]
  split at h
  ·simp only [ja] at h;subst h;exact ⟨hp',rfl,Loc.refl hW⟩
  ·cases h
 | store t x y =>
  have hx:=hR rfl x (by simp [jc])
  have hy:=hR rfl y (by simp [jc])
  have hxm:∀ k∈idsA (v x),k∈wIds ⟨dst,.store t x y,type,pos,after,guard⟩ v:=fun k hk=>by
   simp only [wIds]
   split
   ·rename_i id hb
    cases hv:v x <;> simp [hv,ejw] at hb
    subst hb
    simpa [hv,idsA] using hk
   ·exact bwt rfl (by simp [jc]) hk
  have hym:ejw (v x)=none→∀ k∈idsA (v y),k∈wIds ⟨dst,.store t x y,type,pos,after,guard⟩ v:=fun hb k hk=>by
   simp only [wIds,hb]
   exact bwt rfl (by simp [jc]) hk
  have key:∀ p hp2,bzc (v y) hp (v x)=some (p,hp2)→∃ hp2',bzc (v y) hp' (v x)=some (p,hp2')∧Loc (wIds ⟨dst,.store t x y,type,pos,after,guard⟩ v) hp hp' hp2 hp2':=by
   intro p hp2 hs
   generalize v x=a at hx hxm hym hs
   generalize v y=b at hy hym hs
   cases a with
   | box id off =>
    simp only [bzc] at hs ⊢
    rw [hx id (by simp [idsA])]
    split at hs
    ·simp only [ja,jj] at hs
     obtain ⟨rfl,rfl⟩:=hs
     rw [dwy (fun k hk=>hy k (bjz hk))]
     exact ⟨_,rfl,(Loc.refl hW).upd (hxm id (by simp [idsA])) _⟩
    ·cases hs
   | elt id sz ks i off =>
    simp only [bzc] at hs ⊢
    rw [hx id (by simp [idsA]),bwn (fun k hk=>hy k (bjz hk))]
    split at hs
    ·split at hs
     ·simp only [ja,jj] at hs
      obtain ⟨rfl,rfl⟩:=hs
      rename_i hn
      rw [if_pos hn]
      exact ⟨_,rfl,(Loc.freezeAll (Loc.refl hW) (fun k hk=>hym rfl k (bjz (bwu hk)))).upd (hxm id (by simp [idsA])) _⟩
     ·cases hs
    ·cases hs
   | _=>simp [bzc] at hs
  simp only [opA] at h ⊢
  split at h
  ·rename_i T p hp2 hT hs
   obtain ⟨hp2',e1,e2⟩:=key _ _ hs
   rw [e1,bkh hy,hT]
   dsimp only
   split at h
   ·rename_i hl
    rw [if_pos hl]
    split at h
    ·rename_i hb
     simp only [ja] at h;subst h
     rw [if_pos hb]
     exact ⟨_,rfl,e2⟩
    ·cases h
   ·cases h
  ·cases h
 | build t parts =>
  simp only [opA] at h ⊢
  split at h
  ·split at h
   ·cases h
   ·rename_i hf
    have hpm:∀ k∈aq9 ((parts.toList.map fun p=>(p.1,v p.2)).map (·.2)),hp' k=hp k:=fun k hk=>hA k (jf.2 (.inl (by
     simp only [rIds,jc,bje,Bool.false_eq_true,if_false]
     simpa [Jl,Function.comp_def] using hk)))
    rw [if_neg hf,byn hpm]
    split at h
    ·simp only [ja] at h;subst h;exact ⟨hp',rfl,Loc.refl hW⟩
    ·cases h
  ·cases h
 | buildSlice t n parts =>
  simp only [opA] at h ⊢
  split at h
  ·rename_i d e E hs
   have hm:key d 0∈wIds ⟨some d,.buildSlice t n parts,type,pos,after,guard⟩ v:=jf.2 (.inl (cqa (by omega)))
   have hro:aq9 (parts.toList.map fun p=>v p.2)=rIds ⟨some d,.buildSlice t n parts,type,pos,after,guard⟩ v:=by
    simp [rIds,bje,jc,Jl,Function.comp_def]
   have hpm:∀ k∈aq9 ((parts.toList.map fun p=>(p.1,v p.2)).map (·.2)),hp' k=hp k:=fun k hk=>hA k (jf.2 (.inl (by
    rw [← hro];simpa [Jl,Function.comp_def] using hk)))
   simp only [dead rfl hm]
   rw [byq hpm]
   split at h
   ·rename_i hif
    rw [if_pos hif]
    split at h
    ·simp only [ja] at h;subst h
     exact ⟨_,rfl,(Loc.freezeAll (Loc.refl hW) (fun k hk=>jf.2 (.inr (by rw [← hro];exact cqr hk)))).upd hm _⟩
    ·cases h
   ·cases h
  ·cases h
 | makeMap t r0 =>
  cases r0 with
  | some q=>simp [opA] at h
  | none =>
   simp only [opA] at h ⊢
   split at h
   ·rename_i d kk q E hT
    have hm:key d 0∈wIds ⟨some d,.makeMap t none,type,pos,after,guard⟩ v:=cqa (by omega)
    simp only [dead rfl hm]
    split at h
    ·rename_i hif
     rw [if_pos hif]
     simp only [ja] at h;subst h
     exact ⟨_,rfl,(Loc.refl hW).upd hm _⟩
    ·cases h
   ·cases h
 | mapUpdate t x y z =>
  have hx:=hR rfl x (by simp [jc])
  have hz:=hR rfl z (by simp [jc])
  have hxm:∀ k∈idsA (v x),k∈wIds ⟨dst,.mapUpdate t x y z,type,pos,after,guard⟩ v:=fun k hk=>bwt rfl (by simp [jc]) hk
  have hzm:∀ k∈idsA (v z),k∈wIds ⟨dst,.mapUpdate t x y z,type,pos,after,guard⟩ v:=fun k hk=>bwt rfl (by simp [jc]) hk
  have key:∀ hp2,bzn P t hp (v x) (v y) (v z)=some hp2→∃ hp2',bzn P t hp' (v x) (v y) (v z)=some hp2'∧Loc (wIds ⟨dst,.mapUpdate t x y z,type,pos,after,guard⟩ v) hp hp' hp2 hp2':=by
   intro hp2 hs
   unfold bzn at hs ⊢
   generalize v x=a at hx hxm hs
   generalize v z=c at hz hzm hs
   split at hs
   ·rename_i kk e E id ky k hm hyk
    rw [hx id (by simp [idsA])]
    split at hs
    ·rename_i hk1
     rw [if_pos hk1]
     split at hs
     ·split at hs
      ·rename_i hk2
       rw [if_pos hk2]
       split at hs
       ·rename_i hk3
        rw [if_pos hk3,ck9 hz]
        split at hs
        ·simp only [ja] at hs;subst hs
         exact ⟨_,rfl,(Loc.freezeAll (Loc.refl hW) (fun k hk=>hzm k (bjz (bwu hk)))).upd (hxm id (by simp [idsA])) _⟩
        ·cases hs
       ·cases hs
      ·cases hs
     ·cases hs
    ·cases hs
   ·cases hs
  simp only [opA] at h ⊢
  split at h
  ·rename_i hp2 hs
   obtain ⟨hp2',e1,e2⟩:=key _ hs
   rw [e1]
   simp only [ja] at h;subst h
   exact ⟨_,rfl,e2⟩
  ·cases h
 | call c =>
  obtain ⟨callee,args,argTypes⟩:=c
  have hRa:∀ k∈aq9 (args.toList.map v),k∈rIds ⟨dst,.call ⟨callee,args,argTypes⟩,type,pos,after,guard⟩ v:=by
   intro k hk
   have:∀ (l:List Operand),(∀ x∈l,x∈args.toList)→k∈aq9 (l.map v)→∃ x∈args.toList,k∈idsA (v x):=by
    intro l
    induction l with
    | nil=>intro _ h;simp [aq9] at h
    | cons y l ih =>
     intro hl h
     simp only [jX,aq9,jf] at h
     rcases h with h | h
     ·exact ⟨y,hl y (by simp),h⟩
     ·exact ih (fun x hx=>hl x (by simp [hx])) h
   obtain ⟨x,hx,hk'⟩:=this args.toList (fun x h=>h) hk
   exact bwt rfl (by
    simp only [jc,Call.operands]
    exact j7.2 (.inr (jp.1 hx))) hk'
  have hRx:∀ x,x∈args.toList→∀ k∈idsA (v x),hp' k=hp k:=fun x hx=>hR rfl x (by
   simp only [jc,Call.operands]
   exact j7.2 (.inr (jp.1 hx)))
  cases callee with
  | invoke rv m=>simp [opA] at h
  | value f =>
   simp only [opA] at h ⊢
   split at h
   ·rename_i dst f0 d0 f' hf
    have hargs:∀ k∈aq9 (args.toList.map v),hp' k=hp k:=fun k hk=>hA k (jf.2 (.inl (hRa k hk)))
    unfold dw9 at h ⊢
    split at h
    ·rename_i g hg
     rw [dzv hargs,cym (fun k hk=>hargs k (djh hk))]
     split at h
     ·rename_i cs hcs
      split at h
      ·rename_i hdead
       simp only [Bool.and_eq_true,decide_eq_true_eq] at hdead
       simp only [ja] at h;subst h
       have hlen:(g.sem cs).rows.length≤16:=hdead.1
       have hkeys:∀ i,i < (g.sem cs).rows.length→key (dst.getD 0) (0+i)∈wIds ⟨dst,.call ⟨.value f,args,argTypes⟩,type,pos,after,guard⟩ v:=by
        intro i hi
        refine jf.2 (.inl ?_)
        rw [Nat.zero_add]
        exact cqc (by omega)
       rw [cz2 (fun i hi=>hW _ (hkeys i hi)),if_pos (by simp only [Bool.and_eq_true,decide_eq_true_eq];exact hdead)]
       refine ⟨_,rfl,Loc.addRows ?_ hkeys⟩
       split
       ·exact Loc.freezeAll (Loc.refl hW) (fun k hk=>jf.2 (.inr (hRa k (cqr hk))))
       ·exact Loc.refl hW
      ·cases h
     ·cases h
    ·cases h
   ·cases h
  | builtin b =>
   cases b with
   | len =>
    simp only [opA] at h ⊢
    split at h
    ·rename_i x t hax hat
     rw [ey7 (hRx x (by rw [hax];simp))]
     split at h
     ·simp only [ja] at h;subst h;exact ⟨hp',rfl,Loc.refl hW⟩
     ·cases h
    ·cases h
   | min =>
    simp only [opA] at h ⊢
    split at h
    ·split at h
     ·simp only [ja] at h;subst h;exact ⟨hp',rfl,Loc.refl hW⟩
     ·cases h
    ·cases h
   | max =>
    simp only [opA] at h ⊢
    split at h
    ·split at h
     ·simp only [ja] at h;subst h;exact ⟨hp',rfl,Loc.refl hW⟩
     ·cases h
    ·cases h
   | delete =>
    simp only [opA] at h ⊢
    split at h
    ·rename_i x y t l hax hat
     have hx:=hRx x (by rw [hax];simp)
     have hxm:∀ k∈idsA (v x),k∈wIds ⟨dst,.call ⟨.builtin .delete,args,argTypes⟩,type,pos,after,guard⟩ v:=fun k hk=>hRa k (cql (List.mem_map_of_mem (by rw [hax];simp)) hk)
     have key:∀ hp2,bzf P t hp (v x) (v y)=some hp2→∃ hp2',bzf P t hp' (v x) (v y)=some hp2'∧Loc (wIds ⟨dst,.call ⟨.builtin .delete,args,argTypes⟩,type,pos,after,guard⟩ v) hp hp' hp2 hp2':=by
      intro hp2 hs
      unfold bzf at hs ⊢
      generalize v x=a at hx hxm hs
      split at hs
      ·rename_i kk e E id ky k hm hyk
       rw [hx id (by simp [idsA])]
       split at hs
       ·rename_i hk1
        rw [if_pos hk1]
        split at hs
        ·split at hs
         ·rename_i hk2
          rw [if_pos hk2]
          simp only [ja] at hs;subst hs
          exact ⟨_,rfl,(Loc.refl hW).upd (hxm id (by simp [idsA])) _⟩
         ·cases hs
        ·cases hs
       ·cases hs
      ·cases hs
     split at h
     ·rename_i hp2 hs
      obtain ⟨hp2',e1,e2⟩:=key _ hs
      rw [e1]
      simp only [ja] at h;subst h
      exact ⟨_,rfl,e2⟩
     ·cases h
    ·cases h
   | append =>
    simp only [opA] at h ⊢
    split at h
    ·rename_i x y t u d hax hat
     have hx:=hRx x (by rw [hax];simp)
     have hy:=hRx y (by rw [hax];simp)
     have hm:key d 0∈wIds ⟨some d,.call ⟨.builtin .append,args,argTypes⟩,type,pos,after,guard⟩ v:=jf.2 (.inl (cqa (by omega)))
     have hxm:∀ k∈idsA (v x),k∈wIds ⟨some d,.call ⟨.builtin .append,args,argTypes⟩,type,pos,after,guard⟩ v:=fun k hk=>jf.2 (.inr (by dsimp only;rw [hax];exact hk))
     split at h
     ·rename_i e E hs
      split at h
      ·rename_i htu
       rw [if_pos htu]
       unfold bkz at h ⊢
       rw [ey4 hy,cqz (fun k hk=>hy k (ewa hk)),dead rfl hm]
       split at h
       ·cases h
       ·rename_i new hnew
        split at h
        ·rename_i hdd
         simp only [hdd,if_true]
         generalize v x=a at hx hxm h ⊢
         split at h
         ·simp only [ja] at h;subst h
          exact ⟨_,rfl,(Loc.refl hW).upd hm _⟩
         ·rename_i id ks len
          rw [hx id (by simp [idsA])]
          have hid:=hxm id (by simp [idsA])
          split at h
          ·split at h
           ·rename_i ht
            rw [if_pos ht]
            split at h
            ·rename_i hsi
             rw [if_pos hsi]
             simp only [ja] at h;subst h
             exact ⟨_,rfl,(Loc.refl hW).upd hid _⟩
            ·rename_i hsi
             rw [if_neg hsi]
             simp only [ja] at h;subst h
             exact ⟨_,rfl,((Loc.refl hW).upd hid _).upd hm _⟩
           ·cases h
          ·cases h
         ·cases h
        ·cases h
      ·cases h
     ·cases h
    ·cases h
   | _=>simp [opA] at h
 | _=>simp [opA] at h
end Go.AE
