/- Text. -/
import Derived.Test.YtijnkhcfondehaaGreatDoorAE30
set_option linter.unusedSimpArgs false
set_option linter.unusedVariables false
open _root_.Array renaming mem_toList_iff→jF
open _root_.List renaming mem_append→jo,mem_cons→jY,map_cons→Jr,map_map→JE
open Go.Op renaming operands→jg
open _root_.Option.some renaming injEq→jc
open _root_.Prod.mk renaming injEq→jq
namespace Go.AE
open Go.RowKit (Below)
variable {P:Program} {w0:Base} {w:World} {N kp:Nat} {σ:Nat→RefI} {s:S} {tms:Array Value} {ρ:Operand→Value} {al:Nat→Prop} {Γ:List Fn}
def ejb (tm:Nat→A) (hp:Nat→Blk) (k:Bool) (g:Option (Nat×Bool)) (go:Option Bool) (c a b:Operand):Option (Prop×Prop×A×(Nat→Blk)) :=
 match g with
 | none=>match aj9 tm c with
  | .c .bool x=>some (x.toBool=k∧(ajd tm [c]∧ajd tm [match k with | true=>a | false=>b]),True,aj9 tm (match k with | true=>a | false=>b),hp)
  | _=>none
 | some _=>match go with
  | some g=>some ((match g with | true=>(match aj9 tm c with | .c .bool x=>x.toBool=k∧(ajd tm [c]∧ajd tm [match k with | true=>a | false=>b]) | _=>False) | false=>True),True,(match g with | true=>aj9 tm (match k with | true=>a | false=>b) | false=>.when false (.c .bool (.bool false))),hp)
  | none=>none
def by2 (P:Program) (tm:Nat→A) (hp:Nat→Blk) (k:Bool) (g:Option Bool) (e:Option (Prop×Prop×A×(Nat→Blk))):Option (Prop×Prop×A×(Nat→Blk)) :=
 match g with
 | some g=>match k with
  | true=>match e with
   | some q=>some (g=true∧q.1,q.2)
   | none=>none
  | false=>some (g=false,True,.when false (.c .bool (.bool false)),hp)
 | none=>none
def effR (P:Program) (Γ:List Fn) (r:Option Bool) (ops:List Oper) (o:Oper) (tm:Nat→A) (hp:Nat→Blk):Option (Prop×Prop×A×(Nat→Blk)) :=
 match r with
 | none=>eff P Γ ops o tm hp
 | some k=>match o.op with
  | .pick c a b=>ejb tm hp k o.guard (match o.guard with | some (j,want)=>guardOf ops tm j want | none=>none) c a b
  | _=>match o.guard with
   | some (j,want)=>by2 P tm hp k (guardOf ops tm j want) (eff P Γ ops (aq7 o) tm hp)
   | none=>none
def hjd (P:Program) (Γ:List Fn) (r:Option Bool) (gd:Option Nat) (o:Oper) (tm:Nat→A) (hp:Nat→Blk):Option (Prop×Prop×A×(Nat→Blk)) :=
 match r with
 | none=>effG P Γ gd o tm hp
 | some k=>match o.op with
  | .pick c a b=>ejb tm hp k o.guard (match o.guard with | some (_,want)=>aym tm gd want | none=>none) c a b
  | _=>match o.guard with
   | some (_,want)=>by2 P tm hp k (aym tm gd want) (effG P Γ none (aq7 o) tm hp)
   | none=>none
theorem iz9 (r:Option Bool) (ops:List Oper) (o:Oper) (tm:Nat→A) (hp:Nat→Blk):effR P Γ r ops o tm hp=hjd P Γ r (gdst ops o) o tm hp:=by
 unfold effR hjd;cases r with
 | none=>exact cju _ _ _ _
 | some k =>
  dsimp only
  have key:(match o.guard with | some (j,want)=>by2 P tm hp k (guardOf ops tm j want) (eff P Γ ops (aq7 o) tm hp) | none=>none)=(match o.guard with | some (_,want)=>by2 P tm hp k (aym tm (gdst ops o) want) (effG P Γ none (aq7 o) tm hp) | none=>none):=by
   cases hg:o.guard with
   | none=>rfl
   | some q =>
    obtain ⟨j,want⟩:=q;dsimp only;rw [ak2 hg,cju];rfl
  have key2:(match o.guard with | some (j,want)=>guardOf ops tm j want | none=>none)=(match o.guard with | some (_,want)=>aym tm (gdst ops o) want | none=>none):=by
   cases hg:o.guard with
   | none=>rfl
   | some q=>obtain ⟨j,want⟩:=q;dsimp only;rw [ak2 hg]
  cases o.op <;> first | exact key | (dsimp only;rw [key2])
theorem ek4 {r:Option Bool} {ops:List Oper} {o:Oper} {tm:Nat→A} {hp hp1:Nat→Blk} {p f:Prop} {v:A} (h:effR P Γ r ops o tm hp=some (p,f,v,hp1)) :
  (r=none∧eff P Γ ops o tm hp=some (p,f,v,hp1)) ∨
  (∃ k c a b x,r=some k∧o.op = .pick c a b∧o.guard=none∧aj9 tm c = .c .bool x∧hp1=hp∧p=(x.toBool=k∧(ajd tm [c]∧ajd tm [match k with | true=>a | false=>b]))∧v=aj9 tm (match k with | true=>a | false=>b)∧f=True) ∨
  (∃ j want g p1,r=some true∧(∀ c a b,o.op≠.pick c a b)∧o.guard=some (j,want)∧guardOf ops tm j want=some g∧p=(g=true∧p1)∧eff P Γ ops (aq7 o) tm hp=some (p1,f,v,hp1)) ∨
  (∃ j want g,r=some false∧(∀ c a b,o.op≠.pick c a b)∧o.guard=some (j,want)∧guardOf ops tm j want=some g∧p=(g=false)∧f=True∧v = .when false (.c .bool (.bool false))∧hp1=hp) ∨
  (∃ k c a b j want g,r=some k∧o.op = .pick c a b∧o.guard=some (j,want)∧guardOf ops tm j want=some g∧hp1=hp∧f=True∧p=(match g with | true=>(match aj9 tm c with | .c .bool x=>x.toBool=k∧(ajd tm [c]∧ajd tm [match k with | true=>a | false=>b]) | _=>False) | false=>True)∧v=(match g with | true=>aj9 tm (match k with | true=>a | false=>b) | false=>.when false (.c .bool (.bool false)))):=by
 unfold effR at h;cases r with
 | none=>exact .inl ⟨rfl,h⟩
 | some k =>
  dsimp only at h
  have key:(∀ c a b,o.op≠.pick c a b)→(match o.guard with | some (j,want)=>by2 P tm hp k (guardOf ops tm j want) (eff P Γ ops (aq7 o) tm hp) | none=>none)=some (p,f,v,hp1) →
    (∃ j want g p1,some k=some true∧(∀ c a b,o.op≠.pick c a b)∧o.guard=some (j,want)∧guardOf ops tm j want=some g∧p=(g=true∧p1)∧eff P Γ ops (aq7 o) tm hp=some (p1,f,v,hp1)) ∨
    (∃ j want g,some k=some false∧(∀ c a b,o.op≠.pick c a b)∧o.guard=some (j,want)∧guardOf ops tm j want=some g∧p=(g=false)∧f=True∧v = .when false (.c .bool (.bool false))∧hp1=hp):=by
   intro hnp h
   split at h
   ·rename_i j want hg;unfold by2 at h
    split at h
    ·rename_i g hgo
     split at h
     ·split at h
      ·rename_i q he;obtain ⟨p1,f1,v1,h1⟩:=q;simp only [jc,jq] at h;obtain ⟨rfl,rfl,rfl,rfl⟩:=h;exact .inl ⟨j,want,g,p1,rfl,hnp,hg,hgo,rfl,he⟩
      ·cases h
     ·simp only [jc,jq] at h;obtain ⟨rfl,rfl,rfl,rfl⟩:=h;exact .inr ⟨j,want,g,rfl,hnp,hg,hgo,rfl,rfl,rfl,rfl⟩
    ·cases h
   ·cases h
  cases ho:o.op with
  | pick c a b =>
   simp only [ho,ejb] at h
   split at h
   ·rename_i hg
    split at h
    ·rename_i x hx;simp only [jc,jq] at h;obtain ⟨rfl,rfl,rfl,rfl⟩:=h;exact .inr (.inl ⟨k,c,a,b,x,rfl,rfl,hg,hx,rfl,rfl,rfl,rfl⟩)
    ·cases h
   ·rename_i q hg;obtain ⟨j,want⟩:=q;rw [hg] at h;dsimp only at h
    split at h
    ·rename_i g hgo;simp only [jc,jq] at h;obtain ⟨e1,e2,e3,e4⟩:=h;exact .inr (.inr (.inr (.inr ⟨k,c,a,b,j,want,g,rfl,rfl,hg,hgo,e4.symm,e2.symm,e1.symm,e3.symm⟩)))
    ·cases h
  | _ =>
   refine .inr (.inr ?_);rcases key (by intro c a b e;rw [ho] at e;cases e) (by simpa only [ho] using h) with h' | h'
   ·rw [← ho];exact .inl h'
   ·rw [← ho];exact .inr (.inl h')
theorem fjn {o:Oper} {ops:Array Oper} {t:Nat} (h:t∈(aq7 o).looksAt ops):t∈o.looksAt ops:=by
 simp only [Oper.looksAt,aq7] at h ⊢;rcases jo.1 h with h | h
 ·exact jo.2 (.inl h)
 ·simp at h
theorem gqr {r:Option Bool} {ops:List Oper} {o:Oper} {tm tm':Nat→A} {hp:Nat→Blk} (h:∀ t,t∈o.looksAt ops.toArray→tm t=tm' t):effR P Γ r ops o tm hp=effR P Γ r ops o tm' hp:=by
 unfold effR;cases r with
 | none=>exact dqm h
 | some k =>
  dsimp only
  have hop:∀ x,x∈o.op.operands→aj9 tm x=aj9 tm' x∧bjr tm x=bjr tm' x:=fun x hx=>bqf (fun t ht=>h t (by
   simp only [Oper.looksAt];refine jo.2 (.inl ?_);rw [List.mem_filterMap]
   exact ⟨x,jF.2 hx,by rw [ht]⟩))
  have key:(match o.guard with | some (j,want)=>by2 P tm hp k (guardOf ops tm j want) (eff P Γ ops (aq7 o) tm hp) | none=>none)=(match o.guard with | some (j,want)=>by2 P tm' hp k (guardOf ops tm' j want) (eff P Γ ops (aq7 o) tm' hp) | none=>none):=by
   cases hg:o.guard with
   | none=>rfl
   | some q =>
    obtain ⟨j,want⟩:=q;dsimp only
    have e1:guardOf ops tm j want=guardOf ops tm' j want:=cqd (fun oj d ho hd=>h d (by
     simp only [Oper.looksAt,hg];refine jo.2 (.inr ?_)
     simp [ho,hd]))
    rw [e1,dqm (o:=aq7 o) (fun t ht=>h t (fjn ht))];rfl
  cases ho:o.op with
  | pick c a b =>
   have hc:=hop c (by rw [ho];simp [jg]);have ha:=hop a (by rw [ho];simp [jg]);have hb:=hop b (by rw [ho];simp [jg]);have hcn:ajd tm [c]=ajd tm' [c]:=akd (fun x hx=>by simp at hx;subst hx;exact hc.2);have han:ajd tm [a]=ajd tm' [a]:=akd (fun x hx=>by simp at hx;subst hx;exact ha.2);have hbn:ajd tm [b]=ajd tm' [b]:=akd (fun x hx=>by simp at hx;subst hx;exact hb.2)
   have hgd:(match o.guard with | some (j,want)=>guardOf ops tm j want | none=>none)=(match o.guard with | some (j,want)=>guardOf ops tm' j want | none=>none):=by
    cases hg:o.guard with
    | none=>rfl
    | some q =>
     obtain ⟨j,want⟩:=q;dsimp only
     exact cqd (fun oj d ho hd=>h d (by
      simp only [Oper.looksAt,hg];refine jo.2 (.inr ?_)
      simp [ho,hd]))
   simp only [ejb,hgd];cases k <;> simp only [hc.1,ha.1,hb.1,hcn,han,hbn]
  | _=>exact key
end Go.AE
/-
 Which blocks an operation reads and which it turns: operations apart go in either order.
-/
namespace Go.AE
open Go.RowKit (Below)
variable {P:Program} {Γ:List Fn}
mutual
def idsA:A→List Nat
 | .own id _ _ _=>[id]
 | .box id _=>[id]
 | .bsl id _=>[id]
 | .elt id _ _ _ _=>[id]
 | .mref id=>[id]
 | .agg xs=>aqv xs
 | .tup xs=>aqv xs
 | .fnv _ xs=>aqv xs
 | .rg id _ _=>[id]
 | .rp id _ _ _=>[id]
 | _=>[]
def aqv:List A→List Nat
 | []=>[]
 | a :: as=>idsA a ++ aqv as
end
theorem ew5 {k:Nat} {a:A}:∀ {as:List A},a∈as→k∈idsA a→k∈aqv as
 | b :: as,h,hk=>by
  simp only [aqv,jo];rcases jY.1 h with rfl | h
  ·exact .inl hk
  ·exact .inr (ew5 h hk)
theorem cjp {k:Nat} {a:A} (h:k∈aqv (aje a)):k∈idsA a:=by
 cases a <;> first | (simp [aje,idsA,aqv] at h;done) | simpa [aje,idsA,aqv] using h
theorem ckk {k:Nat}:∀ {as:List A},k∈as.flatMap aji→k∈aqv as
 | [],h=>by simp at h
 | a :: as,h=>by
  simp only [List.flatMap_cons,jo] at h;simp only [aqv,jo];rcases h with h | h
  ·refine .inl ?_;cases a <;> simp [aji] at h
   simp [idsA,h]
  ·exact .inr (ckk h)
theorem ewp {k:Nat}:∀ {as:List A},k∈bjb as→k∈aqv as
 | [],h=>by simp [bjb] at h
 | a :: as,h=>by
  simp only [bjb,jo] at h;simp only [aqv,jo];rcases h with h | h
  ·exact .inl (cjp (ckk h))
  ·exact .inr (ewp h)
section
variable {hp hp':Nat→Blk}
theorem fz9 {id:Nat} (h:hp' id=hp id):live hp' id=live hp id:=by unfold live;rw [h]
theorem ijj {a:A} (h:∀ k∈idsA a,hp' k=hp k):oneA hp' a=oneA hp a:=by
 cases a <;> first | rfl | (simp only [oneA];exact fz9 (h _ (by simp [idsA]))) | (rename_i k x;cases k <;> rfl) | (simp only [oneA];rw [h _ (by simp [idsA])])
theorem dz2 {a:A} (h:∀ k∈idsA a,hp' k=hp k):bw5 hp' a=bw5 hp a:=by
 cases a <;> first | rfl | exact ijj h
theorem gjp:∀ {as:List A},(∀ k∈aqv as,hp' k=hp k)→czv hp' as=czv hp as
 | [],_=>rfl
 | a :: as,h=>by
  simp only [czv];rw [ijj (fun k hk=>h k (by simp [aqv,hk])),gjp (fun k hk=>h k (by simp [aqv,hk]))]
theorem fyr {a:A} (h:∀ k∈idsA a,hp' k=hp k):toCell hp' a=toCell hp a:=by
 cases a <;> first | rfl | (simp only [toCell];rw [h _ (by simp [idsA])])
theorem cki:∀ {as:List A},(∀ k∈aqv as,hp' k=hp k)→aqi hp' as=aqi hp as
 | [],_=>rfl
 | a :: as,h=>by
  simp only [aqi];rw [fyr (fun k hk=>h k (by simp [aqv,hk])),cki (fun k hk=>h k (by simp [aqv,hk]))]
theorem iqh {T:TyI} {a:A} (h:∀ k∈idsA a,hp' k=hp k):cwa T hp' a=cwa T hp a:=by
 cases a <;> first | rfl | (simp only [cwa];rw [h _ (by simp [idsA])])
theorem hwd {T:TyI} {f:Nat} {a:A} (h:∀ k∈idsA a,hp' k=hp k):by1 T hp' f a=by1 T hp f a:=by
 cases a <;> first | rfl | (simp only [by1];rw [fz9 (h _ (by simp [idsA]))])
theorem fzc {e:TypeId} {E:TyI} {i:Int} {a:A} (h:∀ k∈idsA a,hp' k=hp k):awe e E hp' a i=awe e E hp a i:=by
 cases a <;> first | rfl | (rename_i k x;cases k <;> rfl) | (simp only [awe];rw [fz9 (h _ (by simp [idsA]))])
theorem fkh {m:Nat} {e:TypeId} {E:TyI} {i:Int} {a:A} (h:∀ k∈idsA a,hp' k=hp k):ay2 m e E hp' a i=ay2 m e E hp a i:=by
 cases a with
 | elt id sz ks j off =>
  have e:=h id (by simp [idsA]);cases j <;> cases off <;> first | rfl | (simp only [ay2];rw [e])
 | _=>rfl
theorem hy2 {id off len:Nat} (h:hp' id=hp id):dky hp' id off len=dky hp id off len:=by
 cases off <;> simp only [dky]
 rw [h]
theorem hzc {t:TypeId} {lo hi:Option A} {a:A} (h:∀ k∈idsA a,hp' k=hp k):cwe P t hp' a lo hi=cwe P t hp a lo hi:=by
 cases a with
 | own id ks off len =>
  have e:=h id (by simp [idsA]);simp only [cwe];rw [fz9 e,hy2 e]
 | c k x=>cases k <;> rfl
 | _=>rfl
theorem izw {t:TypeId} {a:A} (h:∀ k∈idsA a,hp' k=hp k):lenA P t hp' a=lenA P t hp a:=by
 cases a with
 | own id ks off len =>
  have e:=h id (by simp [idsA]);simp only [lenA,ejd];rw [fz9 e]
 | c k x=>cases k <;> rfl
 | _=>rfl
theorem ews {e:TypeId} {a:A} (h:∀ k∈idsA a,hp' k=hp k):akh e hp' a=akh e hp a:=by
 cases a with
 | own id ks off len=>simp only [akh];rw [h id (by simp [idsA])]
 | c k x=>cases k <;> rfl
 | _=>rfl
theorem gjm {p:Bool×List Kd} {a:A} (h:∀ k∈idsA a,hp' k=hp k):ayz hp' p a=ayz hp p a:=by
 cases a with
 | agg xs =>
  simp only [ayz];rw [cki (fun k hk=>h k (by simpa [idsA] using hk))]
 | _=>simp only [ayz];rw [fyr h]
theorem fq4:∀ {ps:List (Bool×List Kd)} {as:List A},(∀ k∈aqv as,hp' k=hp k)→bj9 hp' ps as=bj9 hp ps as
 | [],[],_=>rfl
 | [],_ :: _,_=>rfl
 | _ :: _,[],_=>rfl
 | p :: ps,a :: as,h=>by
  simp only [bj9];rw [gjm (fun k hk=>h k (by simp [aqv,hk])),fq4 (fun k hk=>h k (by simp [aqv,hk]))]
theorem fqd {k:Nat}:∀ {a:A},k∈idsA (cjz hp a)→k∈idsA a:=by
 intro a;refine A.rec (motive_1:=fun a=>k∈idsA (cjz hp a)→k∈idsA a) (motive_2:=fun as=>k∈aqv (ays hp as)→k∈aqv as) ?_ ?_ ?_ ?_ ?_ ?_ ?_ ?_ ?_ ?_ ?_ ?_ ?_ ?_ ?_ ?_ ?_ a
 all_goals first
  | (intros;simp_all [cjz,idsA,ays,aqv];done)
  | skip
 ·intro id kk x h;simp only [cjz] at h
  split at h
  ·simp [idsA] at h
  ·simp [idsA] at h
 ·intro a as h1 h2 h;simp only [ays,aqv,jo] at h ⊢;exact h.imp h1 h2
theorem ekd {k:Nat}:∀ {as:List A},k∈aqv (ays hp as)→k∈aqv as
 | [],h=>by simp [ays,aqv] at h
 | a :: as,h=>by
  simp only [ays,aqv,jo] at h ⊢;exact h.imp fqd ekd
theorem fqe {k:Nat} {r:Bool} {as:List A} (h:k∈aqv (cjv r hp as)):k∈aqv as:=by
 cases r
 ·exact ekd h
 ·exact h
mutual
theorem hj4:∀ {a:A},(∀ k∈idsA a,hp' k=hp k)→cjz hp' a=cjz hp a
 | .rg id k x,h=>by simp only [cjz];rw [h id (by simp [idsA])]
 | .agg xs,h=>by simp only [cjz];rw [eyw (fun k hk=>h k (by simpa [idsA] using hk))]
 | .unk,_=>rfl
 | .c _ _,_=>rfl
 | .nilsl,_=>rfl
 | .tup _,_=>rfl
 | .own _ _ _ _,_=>rfl
 | .box _ _,_=>rfl
 | .elt _ _ _ _ _,_=>rfl
 | .pp _ _ _,_=>rfl
 | .fnv _ _,_=>rfl
 | .mref _,_=>rfl
 | .when _ _,_=>rfl
 | .rp _ _ _ _,_=>rfl
 | .bsl _ _,_=>rfl
theorem eyw:∀ {as:List A},(∀ k∈aqv as,hp' k=hp k)→ays hp' as=ays hp as
 | [],_=>rfl
 | a :: as,h=>by
  simp only [ays];rw [hj4 (fun k hk=>h k (by simp [aqv,hk])),eyw (fun k hk=>h k (by simp [aqv,hk]))]
end
theorem hw6 {k:Nat} {ks:List Kd} {y:A} (h:k∈idsA (srcA ks hp y)):k∈idsA y:=by
 unfold srcA at h
 split at h
 ·exact fqd h
 ·exact h
theorem izu {ks:List Kd} {y:A} (h:∀ k∈idsA y,hp' k=hp k):srcA ks hp' y=srcA ks hp y:=by
 unfold srcA
 split
 ·exact hj4 h
 ·rfl
theorem gwh {r:Bool} {as:List A} (h:∀ k∈aqv as,hp' k=hp k):cjv r hp' as=cjv r hp as:=by
 cases r
 ·exact eyw h
 ·rfl
theorem dy1 {ks:List Kd}:∀ {l:List (Nat×A)} {es:List (List C)},(∀ k∈aqv (l.map (·.2)),hp' k=hp k)→awc hp' ks l es=awc hp ks l es
 | [],_,_=>rfl
 | (i,a) :: l,es,h=>by
  have h1:∀ k∈idsA a,hp' k=hp k:=fun k hk=>h k (by simp [aqv,hk]);have e1:aqi hp' (aje a)=aqi hp (aje a):=cki (fun k hk=>h1 k (cjp hk));simp only [awc];rw [e1,dz2 h1]
  split
  ·split
   ·exact dy1 (fun k hk=>h k (by simp only [Jr,aqv,jo];exact .inr hk))
   ·rfl
  ·rfl
theorem dyg {T:TyI}:∀ {l:List (Nat×A)} {xs:List A},(∀ k∈aqv (l.map (·.2)),hp' k=hp k)→awu P T hp' l xs=awu P T hp l xs
 | [],_,_=>rfl
 | (i,a) :: l,xs,h=>by
  have h1:∀ k∈idsA a,hp' k=hp k:=fun k hk=>h k (by simp [aqv,hk]);simp only [awu];rw [dz2 h1]
  split
  ·split
   ·split
    ·exact dyg (fun k hk=>h k (by simp only [Jr,aqv,jo];exact .inr hk))
    ·rfl
   ·rfl
  ·rfl
theorem gzp {t:TypeId} {ok:Bool} {x y:A} (h:∀ k∈idsA x,hp' k=hp k):dju P t ok hp' x y=dju P t ok hp x y:=by
 unfold dju
 split
 ·rename_i id ky k hm;have e:hp' id=hp id:=h id (by simp [idsA]);rw [e]
 ·rfl
structure Loc (W:List Nat) (hp hp' hp1 hp1':Nat→Blk):Prop where
 inW:∀ k,k∈W→hp1' k=hp1 k
 out:∀ k,k ∉ W→hp1 k=hp k
 out':∀ k,k ∉ W→hp1' k=hp' k
variable {W:List Nat} {hp1 hp1':Nat→Blk}
theorem Loc.refl (h:∀ k,k∈W→hp' k=hp k):Loc W hp hp' hp hp':=⟨h,fun _ _=>rfl,fun _ _=>rfl⟩
theorem Loc.upd (h:Loc W hp hp' hp1 hp1') {id:Nat} (hid:id∈W) (b:Blk):Loc W hp hp' (upd hp1 id b) (upd hp1' id b):=by
 refine ⟨fun k hk=>?_,fun k hk=>?_,fun k hk=>?_⟩
 ·simp only [cjf];rw [h.inW k hk]
 ·simp only [cjf];rw [if_neg (fun e:k=id=>hk (by rw [e];exact hid)),h.out k hk]
 ·simp only [cjf];rw [if_neg (fun e:k=id=>hk (by rw [e];exact hid)),h.out' k hk]
theorem Loc.freeze1 (h:Loc W hp hp' hp1 hp1') {id:Nat} (hid:id∈W):Loc W hp hp' (freeze1 hp1 id) (freeze1 hp1' id):=by
 unfold Go.AE.freeze1;rw [h.inW id hid]
 split
 ·exact h.upd hid _
 ·exact h
theorem Loc.freezeAll:∀ {ids:List Nat} {hp1 hp1':Nat→Blk},Loc W hp hp' hp1 hp1'→(∀ id∈ids,id∈W)→Loc W hp hp' (freezeAll hp1 ids) (freezeAll hp1' ids)
 | [],_,_,h,_=>h
 | id :: ids,_,_,h,hi=>by
  simp only [Go.AE.freezeAll];exact Loc.freezeAll (h.freeze1 (hi id (by simp))) (fun i hi'=>hi i (by simp [hi']))
theorem Loc.addRows {d:Nat}:∀ {bs:List Blk} {j:Nat} {hp1 hp1':Nat→Blk},Loc W hp hp' hp1 hp1'→(∀ i,i < bs.length→key d (j+i)∈W)→Loc W hp hp' (addRows d j bs hp1) (addRows d j bs hp1')
 | [],_,_,_,h,_=>h
 | b :: bs,j,_,_,h,hi=>by
  simp only [Go.AE.addRows];refine Loc.addRows (h.upd (by simpa using hi 0 (by simp)) b) (fun i hi'=>?_)
  have:=hi (i+1) (by simpa using hi')
  rwa [show j+(i+1)=j+1+i by omega] at this
theorem eki {d:Nat}:∀ {bs:List Blk} {j:Nat},(∀ i,i < bs.length→hp' (key d (j+i))=hp (key d (j+i)))→bwm d j bs hp'=bwm d j bs hp
 | [],_,_=>rfl
 | b :: bs,j,h=>by
  simp only [bwm]
  rw [show hp' (key d j)=hp (key d j) by simpa using h 0 (by simp),eki (fun i hi=>by
   have:=h (i+1) (by simpa using hi)
   rwa [show j+(i+1)=j+1+i by omega] at this)]
end
def by3:Op→Bool
 | .move _=>true
 | .assign _=>true
 | .binOp ..=>true
 | .unOp ..=>true
 | .convert ..=>true
 | .index ..=>true
 | .extract ..=>true
 | .pick ..=>true
 | _=>false
def rIds (o:Oper) (v:Operand→A):List Nat:=if by3 o.op=true then [] else aqv (o.op.operands.toList.map v)
def gzt:A→Option Nat
 | .box id _=>some id
 | _=>none
def gqb (d:Nat):Nat→List Nat
 | 0=>[]
 | n+1=>key d n :: gqb d n
theorem ew0 {d j:Nat}:∀ {n:Nat},j < n→key d j∈gqb d n
 | n+1,h=>by
  simp only [gqb,jY];by_cases e:j=n
  ·exact .inl (by rw [e])
  ·exact .inr (ew0 (by omega))
def fwj (o:Option Nat) (n:Nat):List Nat:=gqb (o.getD 0) n
def wIds (o:Oper) (v:Operand→A):List Nat :=
 match o.op with
 | .box _ _=>fwj o.dst 1
 | .alloc _=>fwj o.dst 1
 | .store _ x _=>match gzt (v x) with
  | some id=>[id]
  | none=>rIds o v
 | .buildSlice _ _ _=>fwj o.dst 1 ++ rIds o v
 | .makeMap _ _=>fwj o.dst 1
 | .mapUpdate _ _ _ _=>rIds o v
 | .call c=>match c.callee with
  | .builtin .delete=>rIds o v
  | .builtin .append=>fwj o.dst 1 ++ (match c.args.toList with | x :: _=>idsA (v x) | []=>[])
  | .value _=>fwj o.dst 16 ++ rIds o v
  | _=>[]
 | _=>[]
theorem ckt {o:Oper} {v:Operand→A} {x:Operand} {k:Nat} (hn:by3 o.op=false) (hx:x∈o.op.operands) (hk:k∈idsA (v x)):k∈rIds o v:=by
 unfold rIds;rw [if_neg (by rw [hn];simp)];exact ew5 (List.mem_map_of_mem (jF.2 hx)) hk
theorem ewk {d n j:Nat} (h:j < n):key d j∈fwj (some d) n:=ew0 h
theorem iqu {o:Oper} {tm:Nat→A} {hp hp':Nat→Blk} {v:Operand→A} {r:Out} (hA:∀ k,k∈rIds o v ++ wIds o v→hp' k=hp k) (h:opA P Γ o tm hp v=some r) :
  ∃ hp1',opA P Γ o tm hp' v=some { r with hp:=hp1' }∧Loc (wIds o v) hp hp' r.hp hp1':=by
 have hR:by3 o.op=false→∀ x,x∈o.op.operands→∀ k∈idsA (v x),hp' k=hp k:=fun hn x hx k hk=>hA k (jo.2 (.inl (ckt hn hx hk)));have hW:∀ k,k∈wIds o v→hp' k=hp k:=fun k hk=>hA k (jo.2 (.inr hk))
 have ro:∀ {r:Out},r.hp=hp→∀ {f:(Nat→Blk)→Option Out},f hp'=some { r with hp:=hp' }→∃ hp1',f hp'=some { r with hp:=hp1' }∧Loc (wIds o v) hp hp' r.hp hp1':=by
  intro r e f hf;exact ⟨hp',hf,by rw [e];exact Loc.refl hW⟩
 have dead:∀ {d:Nat},o.dst=some d→key d 0∈wIds o v→aqn (hp' (key d 0))=aqn (hp (key d 0)):=fun hd hm=>by rw [hW _ hm]
 obtain ⟨dst,op,type,pos,after,guard⟩:=o;cases op with
 | move x=>simp only [opA,jc] at h ⊢;subst h;exact ⟨hp',rfl,Loc.refl hW⟩
 | assign x=>simp only [opA,jc] at h ⊢;subst h;exact ⟨hp',rfl,Loc.refl hW⟩
 | binOp op t x y yt =>
  simp only [opA] at h ⊢
  split at h
  ·simp only [jc] at h;subst h;exact ⟨hp',rfl,Loc.refl hW⟩
  ·cases h
 | unOp op t x =>
  simp only [opA] at h ⊢
  split at h
  ·simp only [jc] at h;subst h;exact ⟨hp',rfl,Loc.refl hW⟩
  ·cases h
 | convert t u x =>
  simp only [opA] at h ⊢
  split at h
  ·split at h
   ·simp only [jc] at h;subst h;exact ⟨hp',rfl,Loc.refl hW⟩
   ·cases h
  ·cases h
 | extract x i =>
  simp only [opA] at h ⊢
  split at h
  ·split at h
   ·simp only [jc] at h;subst h;exact ⟨hp',rfl,Loc.refl hW⟩
   ·cases h
  ·cases h
 | index t x i =>
  simp only [opA] at h ⊢
  split at h
  ·split at h
   ·rename_i hs;rw [if_pos hs];simp only [jc] at h;subst h;exact ⟨hp',rfl,Loc.refl hW⟩
   ·cases h
  ·cases h
 | box t x =>
  simp only [opA] at h ⊢
  split at h
  ·rename_i d;have hm:key d 0∈wIds ⟨some d,.box t x,type,pos,after,guard⟩ v:=ewk (by omega);rw [dead rfl hm,dz2 (hR rfl x (by simp [jg]))]
   split at h
   ·rename_i hif;rw [if_pos hif];simp only [jc] at h;subst h;exact ⟨_,rfl,(Loc.refl hW).upd hm _⟩
   ·cases h
  ·cases h
 | alloc t =>
  simp only [opA] at h ⊢
  split at h
  ·rename_i d T hT;have hm:key d 0∈wIds ⟨some d,.alloc t,type,pos,after,guard⟩ v:=ewk (by omega);simp only [dead rfl hm]
   split at h
   ·rename_i hif;rw [if_pos hif];simp only [jc] at h;subst h;exact ⟨_,rfl,(Loc.refl hW).upd hm _⟩
   ·cases h
  ·cases h
 | load t x =>
  simp only [opA] at h ⊢
  split at h
  ·rw [iqh (hR rfl x (by simp [jg]))]
   split at h
   ·simp only [jc] at h;subst h;exact ⟨hp',rfl,Loc.refl hW⟩
   ·cases h
  ·cases h
 | fieldAddr t x f =>
  simp only [opA] at h ⊢
  split at h
  ·rw [hwd (hR rfl x (by simp [jg]))]
   split at h
   ·simp only [jc] at h;subst h;exact ⟨hp',rfl,Loc.refl hW⟩
   ·cases h
  ·cases h
 | indexAddr t x i =>
  simp only [opA] at h ⊢
  split at h
  ·rw [fzc (hR rfl x (by simp [jg]))]
   split at h
   ·simp only [jc] at h;subst h;exact ⟨hp',rfl,Loc.refl hW⟩
   ·cases h
  ·split at h
   ·rw [fkh (hR rfl x (by simp [jg]))]
    split at h
    ·simp only [jc] at h;subst h;exact ⟨hp',rfl,Loc.refl hW⟩
    ·cases h
   ·cases h
  ·cases h
 | slice t x lo hi mx =>
  cases mx with
  | some m=>simp [opA] at h
  | none =>
   simp only [opA] at h ⊢;rw [hzc (hR rfl x (by simp [jg]))]
   split at h
   ·simp only [jc] at h;subst h;exact ⟨hp',rfl,Loc.refl hW⟩
   ·cases h
 | lookup t x y ok =>
  simp only [opA] at h ⊢;rw [gzp (hR rfl x (by simp [jg]))]
  split at h
  ·simp only [jc] at h;subst h;exact ⟨hp',rfl,Loc.refl hW⟩
  ·cases h
 | store t x y =>
  have hx:=hR rfl x (by simp [jg]);have hy:=hR rfl y (by simp [jg])
  have hxm:∀ k∈idsA (v x),k∈wIds ⟨dst,.store t x y,type,pos,after,guard⟩ v:=fun k hk=>by
   simp only [wIds]
   split
   ·rename_i id hb;cases hv:v x <;> simp [hv,gzt] at hb
    subst hb;simpa [hv,idsA] using hk
   ·exact ckt rfl (by simp [jg]) hk
  have hym:gzt (v x)=none→∀ k∈idsA (v y),k∈wIds ⟨dst,.store t x y,type,pos,after,guard⟩ v:=fun hb k hk=>by
   simp only [wIds,hb];exact ckt rfl (by simp [jg]) hk
  have key:∀ p hp2,cy6 (v y) hp (v x)=some (p,hp2)→∃ hp2',cy6 (v y) hp' (v x)=some (p,hp2')∧Loc (wIds ⟨dst,.store t x y,type,pos,after,guard⟩ v) hp hp' hp2 hp2':=by
   intro p hp2 hs;generalize v x=a at hx hxm hym hs;generalize v y=b at hy hym hs;cases a with
   | box id off =>
    simp only [cy6] at hs ⊢;rw [hx id (by simp [idsA])]
    split at hs
    ·simp only [jc,jq] at hs;obtain ⟨rfl,rfl⟩:=hs;rw [gjp (fun k hk=>hy k (cjp hk))];exact ⟨_,rfl,(Loc.refl hW).upd (hxm id (by simp [idsA])) _⟩
    ·cases hs
   | elt id sz ks i off =>
    simp only [cy6] at hs ⊢;rw [hx id (by simp [idsA]),cki (fun k hk=>hy k (cjp hk))]
    split at hs
    ·split at hs
     ·simp only [jc,jq] at hs;obtain ⟨rfl,rfl⟩:=hs;rename_i hn;rw [if_pos hn];exact ⟨_,rfl,(Loc.freezeAll (Loc.refl hW) (fun k hk=>hym rfl k (cjp (ckk hk)))).upd (hxm id (by simp [idsA])) _⟩
     ·cases hs
    ·cases hs
   | _=>simp [cy6] at hs
  simp only [opA] at h ⊢
  split at h
  ·rename_i T p hp2 hT hs;obtain ⟨hp2',e1,e2⟩:=key _ _ hs;rw [e1,dz2 hy,hT];dsimp only
   split at h
   ·rename_i hl;rw [if_pos hl]
    split at h
    ·rename_i hb;simp only [jc] at h;subst h;rw [if_pos hb];exact ⟨_,rfl,e2⟩
    ·cases h
   ·cases h
  ·cases h
 | build t parts =>
  simp only [opA] at h ⊢
  split at h
  ·split at h
   ·cases h
   ·rename_i hf
    have hpm:∀ k∈aqv ((parts.toList.map fun p=>(p.1,v p.2)).map (·.2)),hp' k=hp k:=fun k hk=>hA k (jo.2 (.inl (by
     simp only [rIds,jg,by3,Bool.false_eq_true,if_false]
     simpa [JE,Function.comp_def] using hk)))
    rw [if_neg hf,dyg hpm]
    split at h
    ·simp only [jc] at h;subst h;exact ⟨hp',rfl,Loc.refl hW⟩
    ·cases h
  ·cases h
 | buildSlice t n parts =>
  simp only [opA] at h ⊢
  split at h
  ·rename_i d e E hs;have hm:key d 0∈wIds ⟨some d,.buildSlice t n parts,type,pos,after,guard⟩ v:=jo.2 (.inl (ewk (by omega)))
   have hro:aqv (parts.toList.map fun p=>v p.2)=rIds ⟨some d,.buildSlice t n parts,type,pos,after,guard⟩ v:=by
    simp [rIds,by3,jg,JE,Function.comp_def]
   have hpm:∀ k∈aqv ((parts.toList.map fun p=>(p.1,v p.2)).map (·.2)),hp' k=hp k:=fun k hk=>hA k (jo.2 (.inl (by
    rw [← hro];simpa [JE,Function.comp_def] using hk)))
   simp only [dead rfl hm];rw [dy1 hpm]
   split at h
   ·rename_i hif;rw [if_pos hif]
    split at h
    ·simp only [jc] at h;subst h;exact ⟨_,rfl,(Loc.freezeAll (Loc.refl hW) (fun k hk=>jo.2 (.inr (by rw [← hro];exact ewp hk)))).upd hm _⟩
    ·cases h
   ·cases h
  ·cases h
 | makeMap t r0 =>
  cases r0 with
  | some q=>simp [opA] at h
  | none =>
   simp only [opA] at h ⊢
   split at h
   ·rename_i d kk q E hT;have hm:key d 0∈wIds ⟨some d,.makeMap t none,type,pos,after,guard⟩ v:=ewk (by omega);simp only [dead rfl hm]
    split at h
    ·rename_i hif;rw [if_pos hif];simp only [jc] at h;subst h;exact ⟨_,rfl,(Loc.refl hW).upd hm _⟩
    ·cases h
   ·cases h
 | mapUpdate t x y z =>
  have hx:=hR rfl x (by simp [jg]);have hz:=hR rfl z (by simp [jg]);have hxm:∀ k∈idsA (v x),k∈wIds ⟨dst,.mapUpdate t x y z,type,pos,after,guard⟩ v:=fun k hk=>ckt rfl (by simp [jg]) hk;have hzm:∀ k∈idsA (v z),k∈wIds ⟨dst,.mapUpdate t x y z,type,pos,after,guard⟩ v:=fun k hk=>ckt rfl (by simp [jg]) hk
  have key:∀ hp2,dq6 P t hp (v x) (v y) (v z)=some hp2→∃ hp2',dq6 P t hp' (v x) (v y) (v z)=some hp2'∧Loc (wIds ⟨dst,.mapUpdate t x y z,type,pos,after,guard⟩ v) hp hp' hp2 hp2':=by
   intro hp2 hs;unfold dq6 at hs ⊢;generalize v x=a at hx hxm hs;generalize v z=c at hz hzm hs
   split at hs
   ·rename_i kk e E id ky k hm hyk;rw [hx id (by simp [idsA])]
    split at hs
    ·rename_i hk1;rw [if_pos hk1]
     split at hs
     ·split at hs
      ·rename_i hk2;rw [if_pos hk2]
       split at hs
       ·rename_i hk3;rw [if_pos hk3,gjm hz]
        split at hs
        ·simp only [jc] at hs;subst hs;exact ⟨_,rfl,(Loc.freezeAll (Loc.refl hW) (fun k hk=>hzm k (cjp (ckk hk)))).upd (hxm id (by simp [idsA])) _⟩
        ·cases hs
       ·cases hs
      ·cases hs
     ·cases hs
    ·cases hs
   ·cases hs
  simp only [opA] at h ⊢
  split at h
  ·rename_i hp2 hs;obtain ⟨hp2',e1,e2⟩:=key _ hs;rw [e1];simp only [jc] at h;subst h;exact ⟨_,rfl,e2⟩
  ·cases h
 | call c =>
  obtain ⟨callee,args,argTypes⟩:=c
  have hRa:∀ k∈aqv (args.toList.map v),k∈rIds ⟨dst,.call ⟨callee,args,argTypes⟩,type,pos,after,guard⟩ v:=by
   intro k hk
   have:∀ (l:List Operand),(∀ x∈l,x∈args.toList)→k∈aqv (l.map v)→∃ x∈args.toList,k∈idsA (v x):=by
    intro l
    induction l with
    | nil=>intro _ h;simp [aqv] at h
    | cons y l ih =>
     intro hl h;simp only [Jr,aqv,jo] at h;rcases h with h | h
     ·exact ⟨y,hl y (by simp),h⟩
     ·exact ih (fun x hx=>hl x (by simp [hx])) h
   obtain ⟨x,hx,hk'⟩:=this args.toList (fun x h=>h) hk
   exact ckt rfl (by
    simp only [jg,Call.operands]
    exact Array.mem_append.2 (.inr (jF.1 hx))) hk'
  have hRx:∀ x,x∈args.toList→∀ k∈idsA (v x),hp' k=hp k:=fun x hx=>hR rfl x (by
   simp only [jg,Call.operands]
   exact Array.mem_append.2 (.inr (jF.1 hx)))
  cases callee with
  | invoke rv m=>simp [opA] at h
  | value f =>
   simp only [opA] at h ⊢
   split at h
   ·rename_i dst f0 d0 f' hf;have hargs:∀ k∈aqv (args.toList.map v),hp' k=hp k:=fun k hk=>hA k (jo.2 (.inl (hRa k hk)));unfold fk4 at h ⊢
    split at h
    ·rename_i g hg;rw [gwh hargs,fq4 (fun k hk=>hargs k (fqe hk))]
     split at h
     ·rename_i cs hcs
      split at h
      ·rename_i hdead;simp only [Bool.and_eq_true,decide_eq_true_eq] at hdead;simp only [jc] at h;subst h;have hlen:(g.sem cs).rows.length≤16:=hdead.1
       have hkeys:∀ i,i < (g.sem cs).rows.length→key (dst.getD 0) (0+i)∈wIds ⟨dst,.call ⟨.value f,args,argTypes⟩,type,pos,after,guard⟩ v:=by
        intro i hi;refine jo.2 (.inl ?_);rw [Nat.zero_add];exact ew0 (by omega)
       rw [eki (fun i hi=>hW _ (hkeys i hi)),if_pos (by simp only [Bool.and_eq_true,decide_eq_true_eq];exact hdead)];refine ⟨_,rfl,Loc.addRows ?_ hkeys⟩
       split
       ·exact Loc.freezeAll (Loc.refl hW) (fun k hk=>jo.2 (.inr (hRa k (ewp hk))))
       ·exact Loc.refl hW
      ·cases h
     ·cases h
    ·cases h
   ·cases h
  | builtin b =>
   cases b with
   | len =>
    simp only [opA] at h ⊢
    split at h
    ·rename_i x t hax hat;rw [izw (hRx x (by rw [hax];simp))]
     split at h
     ·simp only [jc] at h;subst h;exact ⟨hp',rfl,Loc.refl hW⟩
     ·cases h
    ·cases h
   | min =>
    simp only [opA] at h ⊢
    split at h
    ·split at h
     ·simp only [jc] at h;subst h;exact ⟨hp',rfl,Loc.refl hW⟩
     ·cases h
    ·cases h
   | max =>
    simp only [opA] at h ⊢
    split at h
    ·split at h
     ·simp only [jc] at h;subst h;exact ⟨hp',rfl,Loc.refl hW⟩
     ·cases h
    ·cases h
   | delete =>
    simp only [opA] at h ⊢
    split at h
    ·rename_i x y t l hax hat;have hx:=hRx x (by rw [hax];simp);have hxm:∀ k∈idsA (v x),k∈wIds ⟨dst,.call ⟨.builtin .delete,args,argTypes⟩,type,pos,after,guard⟩ v:=fun k hk=>hRa k (ew5 (List.mem_map_of_mem (by rw [hax];simp)) hk)
     have key:∀ hp2,dq0 P t hp (v x) (v y)=some hp2→∃ hp2',dq0 P t hp' (v x) (v y)=some hp2'∧Loc (wIds ⟨dst,.call ⟨.builtin .delete,args,argTypes⟩,type,pos,after,guard⟩ v) hp hp' hp2 hp2':=by
      intro hp2 hs;unfold dq0 at hs ⊢;generalize v x=a at hx hxm hs
      split at hs
      ·rename_i kk e E id ky k hm hyk;rw [hx id (by simp [idsA])]
       split at hs
       ·rename_i hk1;rw [if_pos hk1]
        split at hs
        ·split at hs
         ·rename_i hk2;rw [if_pos hk2];simp only [jc] at hs;subst hs;exact ⟨_,rfl,(Loc.refl hW).upd (hxm id (by simp [idsA])) _⟩
         ·cases hs
        ·cases hs
       ·cases hs
      ·cases hs
     split at h
     ·rename_i hp2 hs;obtain ⟨hp2',e1,e2⟩:=key _ hs;rw [e1];simp only [jc] at h;subst h;exact ⟨_,rfl,e2⟩
     ·cases h
    ·cases h
   | append =>
    simp only [opA] at h ⊢
    split at h
    ·rename_i x y t u d hax hat;have hx:=hRx x (by rw [hax];simp);have hy:=hRx y (by rw [hax];simp);have hm:key d 0∈wIds ⟨some d,.call ⟨.builtin .append,args,argTypes⟩,type,pos,after,guard⟩ v:=jo.2 (.inl (ewk (by omega)));have hxm:∀ k∈idsA (v x),k∈wIds ⟨some d,.call ⟨.builtin .append,args,argTypes⟩,type,pos,after,guard⟩ v:=fun k hk=>jo.2 (.inr (by dsimp only;rw [hax];exact hk))
     split at h
     ·rename_i e E hs
      split at h
      ·rename_i htu;rw [if_pos htu];unfold dk8 at h ⊢;rw [izu hy,ews (fun k hk=>hy k (hw6 hk)),dead rfl hm]
       split at h
       ·cases h
       ·rename_i new hnew
        split at h
        ·rename_i hdd;simp only [hdd,if_true];generalize v x=a at hx hxm h ⊢
         split at h
         ·simp only [jc] at h;subst h;exact ⟨_,rfl,(Loc.refl hW).upd hm _⟩
         ·rename_i id ks len;rw [hx id (by simp [idsA])];have hid:=hxm id (by simp [idsA])
          split at h
          ·split at h
           ·rename_i ht;rw [if_pos ht]
            split at h
            ·rename_i hsi;rw [if_pos hsi];simp only [jc] at h;subst h;exact ⟨_,rfl,(Loc.refl hW).upd hid _⟩
            ·rename_i hsi;rw [if_neg hsi];simp only [jc] at h;subst h;exact ⟨_,rfl,((Loc.refl hW).upd hid _).upd hm _⟩
           ·cases h
          ·cases h
         ·cases h
        ·cases h
      ·cases h
     ·cases h
    ·cases h
   | _=>simp [opA] at h
 | _=>simp [opA] at h
end Go.AE
