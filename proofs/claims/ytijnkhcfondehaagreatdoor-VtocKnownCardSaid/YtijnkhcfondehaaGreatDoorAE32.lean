/- Text. -/
import Derived.Test.YtijnkhcfondehaaGreatDoorAE30
set_option linter.unusedSimpArgs false
set_option linter.unusedVariables false
open _root_.Array renaming mem_toList_iff→jx
open _root_.List renaming mem_append→jl,mem_cons→jX,map_cons→Jf,map_map→JA
open Go.Op renaming operands→je
open _root_.Option.some renaming injEq→jb
open _root_.Prod.mk renaming injEq→jk
namespace Go.AE
open Go.RowKit (Below)
variable {P:Program} {w0:Base} {w:World} {N kp:Nat} {σ:Nat→RefI} {s:S} {tms:Array Value} {ρ:Operand→Value} {al:Nat→Prop} {Γ:List Fn}
def dze (tm:Nat→A) (hp:Nat→Blk) (k:Bool) (g:Option (Nat×Bool)) (go:Option Bool) (c a b:Operand):Option (Prop×Prop×A×(Nat→Blk)) :=
 match g with
 | none=>match aj8 tm c with
  | .c .bool x=>some (x.toBool=k∧(ajc tm [c]∧ajc tm [match k with | true=>a | false=>b]),True,aj8 tm (match k with | true=>a | false=>b),hp)
  | _=>none
 | some _=>match go with
  | some g=>some ((match g with | true=>(match aj8 tm c with | .c .bool x=>x.toBool=k∧(ajc tm [c]∧ajc tm [match k with | true=>a | false=>b]) | _=>False) | false=>True),True,(match g with | true=>aj8 tm (match k with | true=>a | false=>b) | false=>.when false (.c .bool (.bool false))),hp)
  | none=>none
def bqx (P:Program) (tm:Nat→A) (hp:Nat→Blk) (k:Bool) (g:Option Bool) (e:Option (Prop×Prop×A×(Nat→Blk))):Option (Prop×Prop×A×(Nat→Blk)) :=
 match g with
 | some g=>match k with
  | true=>match e with
   | some q=>some (g=true∧q.1,q.2)
   | none=>none
  | false=>some (g=false,True,.when false (.c .bool (.bool false)),hp)
 | none=>none
def effR (P:Program) (Γ:List Fn) (r:Option Bool) (ops:List Oper) (o:Oper) (tm:Nat→A) (hp:Nat→Blk):Option (Prop×Prop×A×(Nat→Blk)) :=
 match r with
 | none=>eff P Γ ops o tm hp
 | some k=>match o.op with
  | .pick c a b=>dze tm hp k o.guard (match o.guard with | some (j,want)=>guardOf ops tm j want | none=>none) c a b
  | _=>match o.guard with
   | some (j,want)=>bqx P tm hp k (guardOf ops tm j want) (eff P Γ ops (aq1 o) tm hp)
   | none=>none
def fy7 (P:Program) (Γ:List Fn) (r:Option Bool) (gd:Option Nat) (o:Oper) (tm:Nat→A) (hp:Nat→Blk):Option (Prop×Prop×A×(Nat→Blk)) :=
 match r with
 | none=>effG P Γ gd o tm hp
 | some k=>match o.op with
  | .pick c a b=>dze tm hp k o.guard (match o.guard with | some (_,want)=>akp tm gd want | none=>none) c a b
  | _=>match o.guard with
   | some (_,want)=>bqx P tm hp k (akp tm gd want) (effG P Γ none (aq1 o) tm hp)
   | none=>none
theorem gzw (r:Option Bool) (ops:List Oper) (o:Oper) (tm:Nat→A) (hp:Nat→Blk):effR P Γ r ops o tm hp=fy7 P Γ r (gdst ops o) o tm hp:=by
 unfold effR fy7
 cases r with
 | none=>exact bzr _ _ _ _
 | some k =>
  dsimp only
  have key:(match o.guard with | some (j,want)=>bqx P tm hp k (guardOf ops tm j want) (eff P Γ ops (aq1 o) tm hp) | none=>none)=(match o.guard with | some (_,want)=>bqx P tm hp k (akp tm (gdst ops o) want) (effG P Γ none (aq1 o) tm hp) | none=>none):=by
   cases hg:o.guard with
   | none=>rfl
   | some q =>
    obtain ⟨j,want⟩:=q
    dsimp only
    rw [awz hg,bzr]
    rfl
  have key2:(match o.guard with | some (j,want)=>guardOf ops tm j want | none=>none)=(match o.guard with | some (_,want)=>akp tm (gdst ops o) want | none=>none):=by
   cases hg:o.guard with
   | none=>rfl
   | some q=>obtain ⟨j,want⟩:=q;dsimp only;rw [awz hg]
  cases o.op <;> first | exact key | (dsimp only;rw [key2])
theorem ejo {r:Option Bool} {ops:List Oper} {o:Oper} {tm:Nat→A} {hp hp1:Nat→Blk} {p f:Prop} {v:A} (h:effR P Γ r ops o tm hp=some (p,f,v,hp1)) :
  (r=none∧eff P Γ ops o tm hp=some (p,f,v,hp1)) ∨
  (∃ k c a b x,r=some k∧o.op = .pick c a b∧o.guard=none∧aj8 tm c = .c .bool x∧hp1=hp∧p=(x.toBool=k∧(ajc tm [c]∧ajc tm [match k with | true=>a | false=>b]))∧v=aj8 tm (match k with | true=>a | false=>b)∧f=True) ∨
  (∃ j want g p1,r=some true∧(∀ c a b,o.op≠.pick c a b)∧o.guard=some (j,want)∧guardOf ops tm j want=some g∧p=(g=true∧p1)∧eff P Γ ops (aq1 o) tm hp=some (p1,f,v,hp1)) ∨
  (∃ j want g,r=some false∧(∀ c a b,o.op≠.pick c a b)∧o.guard=some (j,want)∧guardOf ops tm j want=some g∧p=(g=false)∧f=True∧v = .when false (.c .bool (.bool false))∧hp1=hp) ∨
  (∃ k c a b j want g,r=some k∧o.op = .pick c a b∧o.guard=some (j,want)∧guardOf ops tm j want=some g∧hp1=hp∧f=True∧p=(match g with | true=>(match aj8 tm c with | .c .bool x=>x.toBool=k∧(ajc tm [c]∧ajc tm [match k with | true=>a | false=>b]) | _=>False) | false=>True)∧v=(match g with | true=>aj8 tm (match k with | true=>a | false=>b) | false=>.when false (.c .bool (.bool false)))):=by
 unfold effR at h
 cases r with
 | none=>exact .inl ⟨rfl,h⟩
 | some k =>
  dsimp only at h
  have key:(∀ c a b,o.op≠.pick c a b)→(match o.guard with | some (j,want)=>bqx P tm hp k (guardOf ops tm j want) (eff P Γ ops (aq1 o) tm hp) | none=>none)=some (p,f,v,hp1) →
    (∃ j want g p1,some k=some true∧(∀ c a b,o.op≠.pick c a b)∧o.guard=some (j,want)∧guardOf ops tm j want=some g∧p=(g=true∧p1)∧eff P Γ ops (aq1 o) tm hp=some (p1,f,v,hp1)) ∨
    (∃ j want g,some k=some false∧(∀ c a b,o.op≠.pick c a b)∧o.guard=some (j,want)∧guardOf ops tm j want=some g∧p=(g=false)∧f=True∧v = .when false (.c .bool (.bool false))∧hp1=hp):=by
   intro hnp h
   split at h
   ·rename_i j want hg
    unfold bqx at h
    split at h
    ·rename_i g hgo
     split at h
     ·split at h
      ·rename_i q he
       obtain ⟨p1,f1,v1,h1⟩:=q
       simp only [jb,jk] at h
       obtain ⟨rfl,rfl,rfl,rfl⟩:=h
       exact .inl ⟨j,want,g,p1,rfl,hnp,hg,hgo,rfl,he⟩
      ·cases h
     ·simp only [jb,jk] at h
      obtain ⟨rfl,rfl,rfl,rfl⟩:=h
      exact .inr ⟨j,want,g,rfl,hnp,hg,hgo,rfl,rfl,rfl,rfl⟩
    ·cases h
   ·cases h
  cases ho:o.op with
  | pick c a b =>
   simp only [ho,dze] at h
   split at h
   ·rename_i hg
    split at h
    ·rename_i x hx
     simp only [jb,jk] at h
     obtain ⟨rfl,rfl,rfl,rfl⟩:=h
     exact .inr (.inl ⟨k,c,a,b,x,rfl,rfl,hg,hx,rfl,rfl,rfl,rfl⟩)
    ·cases h
   ·rename_i q hg
    obtain ⟨j,want⟩:=q
    rw [hg] at h
    dsimp only at h
    split at h
    ·rename_i g hgo
     simp only [jb,jk] at h
     obtain ⟨e1,e2,e3,e4⟩:=h
     exact .inr (.inr (.inr (.inr ⟨k,c,a,b,j,want,g,rfl,rfl,hg,hgo,e4.symm,e2.symm,e1.symm,e3.symm⟩)))
    ·cases h
  | _ =>
   refine .inr (.inr ?_)
   rcases key (by intro c a b e;rw [ho] at e;cases e) (by simpa only [ho] using h) with h' | h'
   ·rw [← ho];exact .inl h'
   ·rw [← ho];exact .inr (.inl h')
theorem ewl {o:Oper} {ops:Array Oper} {t:Nat} (h:t∈(aq1 o).looksAt ops):t∈o.looksAt ops:=by
 simp only [Oper.looksAt,aq1] at h ⊢
 rcases jl.1 h with h | h
 ·exact jl.2 (.inl h)
 ·simp at h
theorem fw0 {r:Option Bool} {ops:List Oper} {o:Oper} {tm tm':Nat→A} {hp:Nat→Blk} (h:∀ t,t∈o.looksAt ops.toArray→tm t=tm' t):effR P Γ r ops o tm hp=effR P Γ r ops o tm' hp:=by
 unfold effR
 cases r with
 | none=>exact cy1 h
 | some k =>
  dsimp only
  have hop:∀ x,x∈o.op.operands→aj8 tm x=aj8 tm' x∧aku tm x=aku tm' x:=fun x hx=>ay5 (fun t ht=>h t (by
   simp only [Oper.looksAt]
   refine jl.2 (.inl ?_)
   rw [List.mem_filterMap]
   exact ⟨x,jx.2 hx,by rw [ht]⟩))
  have key:(match o.guard with | some (j,want)=>bqx P tm hp k (guardOf ops tm j want) (eff P Γ ops (aq1 o) tm hp) | none=>none)=(match o.guard with | some (j,want)=>bqx P tm' hp k (guardOf ops tm' j want) (eff P Γ ops (aq1 o) tm' hp) | none=>none):=by
   cases hg:o.guard with
   | none=>rfl
   | some q =>
    obtain ⟨j,want⟩:=q
    dsimp only
    have e1:guardOf ops tm j want=guardOf ops tm' j want:=bke (fun oj d ho hd=>h d (by
     simp only [Oper.looksAt,hg]
     refine jl.2 (.inr ?_)
     simp [ho,hd]))
    rw [e1,cy1 (o:=aq1 o) (fun t ht=>h t (ewl ht))]
    rfl
  cases ho:o.op with
  | pick c a b =>
   have hc:=hop c (by rw [ho];simp [je])
   have ha:=hop a (by rw [ho];simp [je])
   have hb:=hop b (by rw [ho];simp [je])
   have hcn:ajc tm [c]=ajc tm' [c]:=az8 (fun x hx=>by simp at hx;subst hx;exact hc.2)
   have han:ajc tm [a]=ajc tm' [a]:=az8 (fun x hx=>by simp at hx;subst hx;exact ha.2)
   have hbn:ajc tm [b]=ajc tm' [b]:=az8 (fun x hx=>by simp at hx;subst hx;exact hb.2)
   have hgd:(match o.guard with | some (j,want)=>guardOf ops tm j want | none=>none)=(match o.guard with | some (j,want)=>guardOf ops tm' j want | none=>none):=by
    cases hg:o.guard with
    | none=>rfl
    | some q =>
     obtain ⟨j,want⟩:=q
     dsimp only
     exact bke (fun oj d ho hd=>h d (by
      simp only [Oper.looksAt,hg]
      refine jl.2 (.inr ?_)
      simp [ho,hd]))
   simp only [dze,hgd]
   cases k <;> simp only [hc.1,ha.1,hb.1,hcn,han,hbn]
  | _=>exact key
end Go.AE
/-
 Which blocks an operation reads and which it turns: operations apart go in either order.
-/
namespace Go.AE
open Go.RowKit (Below)
variable {P:Program} {Γ:List Fn}
mutual
def idsA:A→List Nat
 | .own id _ _ _=>[id]
 | .box id _=>[id]
 | .bsl id _=>[id]
 | .elt id _ _ _ _=>[id]
 | .mref id=>[id]
 | .agg xs=>aqj xs
 | .tup xs=>aqj xs
 | .fnv _ xs=>aqj xs
 | .rg id _ _=>[id]
 | .rp id _ _ _=>[id]
 | _=>[]
def aqj:List A→List Nat
 | []=>[]
 | a :: as=>idsA a ++ aqj as
end
theorem dkw {k:Nat} {a:A}:∀ {as:List A},a∈as→k∈idsA a→k∈aqj as
 | b :: as,h,hk=>by
  simp only [aqj,jl]
  rcases jX.1 h with rfl | h
  ·exact .inl hk
  ·exact .inr (dkw h hk)
theorem bzn {k:Nat} {a:A} (h:k∈aqj (ajd a)):k∈idsA a:=by
 cases a <;> first | (simp [ajd,idsA,aqj] at h;done) | simpa [ajd,idsA,aqj] using h
theorem cw1 {k:Nat}:∀ {as:List A},k∈as.flatMap ajf→k∈aqj as
 | [],h=>by simp at h
 | a :: as,h=>by
  simp only [List.flatMap_cons,jl] at h
  simp only [aqj,jl]
  rcases h with h | h
  ·refine .inl ?_
   cases a <;> simp [ajf] at h
   simp [idsA,h]
  ·exact .inr (cw1 h)
theorem dyh {k:Nat}:∀ {as:List A},k∈akm as→k∈aqj as
 | [],h=>by simp [akm] at h
 | a :: as,h=>by
  simp only [akm,jl] at h
  simp only [aqj,jl]
  rcases h with h | h
  ·exact .inl (bzn (cw1 h))
  ·exact .inr (dyh h)
section
variable {hp hp':Nat→Blk}
theorem ekj {id:Nat} (h:hp' id=hp id):live hp' id=live hp id:=by unfold live;rw [h]
theorem gw5 {a:A} (h:∀ k∈idsA a,hp' k=hp k):oneA hp' a=oneA hp a:=by
 cases a <;> first | rfl | (simp only [oneA];exact ekj (h _ (by simp [idsA]))) | (rename_i k x;cases k <;> rfl) | (simp only [oneA];rw [h _ (by simp [idsA])])
theorem djb {a:A} (h:∀ k∈idsA a,hp' k=hp k):ayi hp' a=ayi hp a:=by
 cases a <;> first | rfl | exact gw5 h
theorem fq7:∀ {as:List A},(∀ k∈aqj as,hp' k=hp k)→cq4 hp' as=cq4 hp as
 | [],_=>rfl
 | a :: as,h=>by
  simp only [cq4]
  rw [gw5 (fun k hk=>h k (by simp [aqj,hk])),fq7 (fun k hk=>h k (by simp [aqj,hk]))]
theorem fji {a:A} (h:∀ k∈idsA a,hp' k=hp k):toCell hp' a=toCell hp a:=by
 cases a <;> first | rfl | (simp only [toCell];rw [h _ (by simp [idsA])])
theorem cqz:∀ {as:List A},(∀ k∈aqj as,hp' k=hp k)→aq6 hp' as=aq6 hp as
 | [],_=>rfl
 | a :: as,h=>by
  simp only [aq6]
  rw [fji (fun k hk=>h k (by simp [aqj,hk])),cqz (fun k hk=>h k (by simp [aqj,hk]))]
theorem gwr {T:TyI} {a:A} (h:∀ k∈idsA a,hp' k=hp k):byb T hp' a=byb T hp a:=by
 cases a <;> first | rfl | (simp only [byb];rw [h _ (by simp [idsA])])
theorem gjd {T:TyI} {f:Nat} {a:A} (h:∀ k∈idsA a,hp' k=hp k):bqw T hp' f a=bqw T hp f a:=by
 cases a <;> first | rfl | (simp only [bqw];rw [ekj (h _ (by simp [idsA]))])
theorem ekn {e:TypeId} {E:TyI} {i:Int} {a:A} (h:∀ k∈idsA a,hp' k=hp k):aw0 e E hp' a i=aw0 e E hp a i:=by
 cases a <;> first | rfl | (rename_i k x;cases k <;> rfl) | (simp only [aw0];rw [ekj (h _ (by simp [idsA]))])
theorem eyq {m:Nat} {e:TypeId} {E:TyI} {i:Int} {a:A} (h:∀ k∈idsA a,hp' k=hp k):azq m e E hp' a i=azq m e E hp a i:=by
 cases a with
 | elt id sz ks j off =>
  have e:=h id (by simp [idsA])
  cases j <;> cases off <;> first | rfl | (simp only [azq];rw [e])
 | _=>rfl
theorem gqk {id off len:Nat} (h:hp' id=hp id):dw9 hp' id off len=dw9 hp id off len:=by
 cases off <;> simp only [dw9]
 rw [h]
theorem gjv {t:TypeId} {lo hi:Option A} {a:A} (h:∀ k∈idsA a,hp' k=hp k):byf P t hp' a lo hi=byf P t hp a lo hi:=by
 cases a with
 | own id ks off len =>
  have e:=h id (by simp [idsA])
  simp only [byf]
  rw [ekj e,gqk e]
 | c k x=>cases k <;> rfl
 | _=>rfl
theorem gka {t:TypeId} {a:A} (h:∀ k∈idsA a,hp' k=hp k):lenA P t hp' a=lenA P t hp a:=by
 cases a with
 | own id ks off len =>
  have e:=h id (by simp [idsA])
  simp only [lenA,dzg]
  rw [ekj e]
 | c k x=>cases k <;> rfl
 | _=>rfl
theorem dyk {e:TypeId} {a:A} (h:∀ k∈idsA a,hp' k=hp k):aza e hp' a=aza e hp a:=by
 cases a with
 | own id ks off len=>simp only [aza];rw [h id (by simp [idsA])]
 | c k x=>cases k <;> rfl
 | _=>rfl
theorem fq5 {p:Bool×List Kd} {a:A} (h:∀ k∈idsA a,hp' k=hp k):akc hp' p a=akc hp p a:=by
 cases a with
 | agg xs =>
  simp only [akc]
  rw [cqz (fun k hk=>h k (by simpa [idsA] using hk))]
 | _=>simp only [akc];rw [fji h]
theorem ewy:∀ {ps:List (Bool×List Kd)} {as:List A},(∀ k∈aqj as,hp' k=hp k)→akk hp' ps as=akk hp ps as
 | [],[],_=>rfl
 | [],_ :: _,_=>rfl
 | _ :: _,[],_=>rfl
 | p :: ps,a :: as,h=>by
  simp only [akk]
  rw [fq5 (fun k hk=>h k (by simp [aqj,hk])),ewy (fun k hk=>h k (by simp [aqj,hk]))]
theorem ez7 {k:Nat}:∀ {a:A},k∈idsA (bk0 hp a)→k∈idsA a:=by
 intro a
 refine A.rec (motive_1:=fun a=>k∈idsA (bk0 hp a)→k∈idsA a) (motive_2:=fun as=>k∈aqj (ak9 hp as)→k∈aqj as) ?_ ?_ ?_ ?_ ?_ ?_ ?_ ?_ ?_ ?_ ?_ ?_ ?_ ?_ ?_ ?_ ?_ a
 all_goals first
  | (intros;simp_all [bk0,idsA,ak9,aqj];done)
  | skip
 ·intro id kk x h
  simp only [bk0] at h
  split at h
  ·simp [idsA] at h
  ·simp [idsA] at h
 ·intro a as h1 h2 h
  simp only [ak9,aqj,jl] at h ⊢
  exact h.imp h1 h2
theorem ejv {k:Nat}:∀ {as:List A},k∈aqj (ak9 hp as)→k∈aqj as
 | [],h=>by simp [ak9,aqj] at h
 | a :: as,h=>by
  simp only [ak9,aqj,jl] at h ⊢
  exact h.imp ez7 ejv
theorem ez8 {k:Nat} {r:Bool} {as:List A} (h:k∈aqj (bzv r hp as)):k∈aqj as:=by
 cases r
 ·exact ejv h
 ·exact h
mutual
theorem fy1:∀ {a:A},(∀ k∈idsA a,hp' k=hp k)→bk0 hp' a=bk0 hp a
 | .rg id k x,h=>by simp only [bk0];rw [h id (by simp [idsA])]
 | .agg xs,h=>by simp only [bk0];rw [eqz (fun k hk=>h k (by simpa [idsA] using hk))]
 | .unk,_=>rfl
 | .c _ _,_=>rfl
 | .nilsl,_=>rfl
 | .tup _,_=>rfl
 | .own _ _ _ _,_=>rfl
 | .box _ _,_=>rfl
 | .elt _ _ _ _ _,_=>rfl
 | .pp _ _ _,_=>rfl
 | .fnv _ _,_=>rfl
 | .mref _,_=>rfl
 | .when _ _,_=>rfl
 | .rp _ _ _ _,_=>rfl
 | .bsl _ _,_=>rfl
theorem eqz:∀ {as:List A},(∀ k∈aqj as,hp' k=hp k)→ak9 hp' as=ak9 hp as
 | [],_=>rfl
 | a :: as,h=>by
  simp only [ak9]
  rw [fy1 (fun k hk=>h k (by simp [aqj,hk])),eqz (fun k hk=>h k (by simp [aqj,hk]))]
end
theorem gj7 {k:Nat} {ks:List Kd} {y:A} (h:k∈idsA (srcA ks hp y)):k∈idsA y:=by
 unfold srcA at h
 split at h
 ·exact ez7 h
 ·exact h
theorem gk8 {ks:List Kd} {y:A} (h:∀ k∈idsA y,hp' k=hp k):srcA ks hp' y=srcA ks hp y:=by
 unfold srcA
 split
 ·exact fy1 h
 ·rfl
theorem fwn {r:Bool} {as:List A} (h:∀ k∈aqj as,hp' k=hp k):bzv r hp' as=bzv r hp as:=by
 cases r
 ·exact eqz h
 ·rfl
theorem dwb {ks:List Kd}:∀ {l:List (Nat×A)} {es:List (List C)},(∀ k∈aqj (l.map (·.2)),hp' k=hp k)→aqy hp' ks l es=aqy hp ks l es
 | [],_,_=>rfl
 | (i,a) :: l,es,h=>by
  have h1:∀ k∈idsA a,hp' k=hp k:=fun k hk=>h k (by simp [aqj,hk])
  have e1:aq6 hp' (ajd a)=aq6 hp (ajd a):=cqz (fun k hk=>h1 k (bzn hk))
  simp only [aqy]
  rw [e1,djb h1]
  split
  ·split
   ·exact dwb (fun k hk=>h k (by simp only [Jf,aqj,jl];exact .inr hk))
   ·rfl
  ·rfl
theorem dwn {T:TyI}:∀ {l:List (Nat×A)} {xs:List A},(∀ k∈aqj (l.map (·.2)),hp' k=hp k)→awc P T hp' l xs=awc P T hp l xs
 | [],_,_=>rfl
 | (i,a) :: l,xs,h=>by
  have h1:∀ k∈idsA a,hp' k=hp k:=fun k hk=>h k (by simp [aqj,hk])
  simp only [awc]
  rw [djb h1]
  split
  ·split
   ·split
    ·exact dwn (fun k hk=>h k (by simp only [Jf,aqj,jl];exact .inr hk))
    ·rfl
   ·rfl
  ·rfl
theorem fzh {t:TypeId} {ok:Bool} {x y:A} (h:∀ k∈idsA x,hp' k=hp k):ck7 P t ok hp' x y=ck7 P t ok hp x y:=by
 unfold ck7
 split
 ·rename_i id ky k hm
  have e:hp' id=hp id:=h id (by simp [idsA])
  rw [e]
 ·rfl
structure Loc (W:List Nat) (hp hp' hp1 hp1':Nat→Blk):Prop where
 inW:∀ k,k∈W→hp1' k=hp1 k
 out:∀ k,k ∉ W→hp1 k=hp k
 out':∀ k,k ∉ W→hp1' k=hp' k
variable {W:List Nat} {hp1 hp1':Nat→Blk}
theorem Loc.refl (h:∀ k,k∈W→hp' k=hp k):Loc W hp hp' hp hp':=⟨h,fun _ _=>rfl,fun _ _=>rfl⟩
theorem Loc.upd (h:Loc W hp hp' hp1 hp1') {id:Nat} (hid:id∈W) (b:Blk):Loc W hp hp' (upd hp1 id b) (upd hp1' id b):=by
 refine ⟨fun k hk=>?_,fun k hk=>?_,fun k hk=>?_⟩
 ·simp only [bze];rw [h.inW k hk]
 ·simp only [bze];rw [if_neg (fun e:k=id=>hk (by rw [e];exact hid)),h.out k hk]
 ·simp only [bze];rw [if_neg (fun e:k=id=>hk (by rw [e];exact hid)),h.out' k hk]
theorem Loc.freeze1 (h:Loc W hp hp' hp1 hp1') {id:Nat} (hid:id∈W):Loc W hp hp' (freeze1 hp1 id) (freeze1 hp1' id):=by
 unfold Go.AE.freeze1
 rw [h.inW id hid]
 split
 ·exact h.upd hid _
 ·exact h
theorem Loc.freezeAll:∀ {ids:List Nat} {hp1 hp1':Nat→Blk},Loc W hp hp' hp1 hp1'→(∀ id∈ids,id∈W)→Loc W hp hp' (freezeAll hp1 ids) (freezeAll hp1' ids)
 | [],_,_,h,_=>h
 | id :: ids,_,_,h,hi=>by
  simp only [Go.AE.freezeAll]
  exact Loc.freezeAll (h.freeze1 (hi id (by simp))) (fun i hi'=>hi i (by simp [hi']))
theorem Loc.addRows {d:Nat}:∀ {bs:List Blk} {j:Nat} {hp1 hp1':Nat→Blk},Loc W hp hp' hp1 hp1'→(∀ i,i < bs.length→key d (j+i)∈W)→Loc W hp hp' (addRows d j bs hp1) (addRows d j bs hp1')
 | [],_,_,_,h,_=>h
 | b :: bs,j,_,_,h,hi=>by
  simp only [Go.AE.addRows]
  refine Loc.addRows (h.upd (by simpa using hi 0 (by simp)) b) (fun i hi'=>?_)
  have:=hi (i+1) (by simpa using hi')
  rwa [show j+(i+1)=j+1+i by omega] at this
theorem ejy {d:Nat}:∀ {bs:List Blk} {j:Nat},(∀ i,i < bs.length→hp' (key d (j+i))=hp (key d (j+i)))→ayu d j bs hp'=ayu d j bs hp
 | [],_,_=>rfl
 | b :: bs,j,h=>by
  simp only [ayu]
  rw [show hp' (key d j)=hp (key d j) by simpa using h 0 (by simp),ejy (fun i hi=>by
   have:=h (i+1) (by simpa using hi)
   rwa [show j+(i+1)=j+1+i by omega] at this)]
end
def bqz:Op→Bool
 | .move _=>true
 | .assign _=>true
 | .binOp ..=>true
 | .unOp ..=>true
 | .convert ..=>true
 | .index ..=>true
 | .extract ..=>true
 | .pick ..=>true
 | _=>false
def rIds (o:Oper) (v:Operand→A):List Nat:=if bqz o.op=true then [] else aqj (o.op.operands.toList.map v)
def fzj:A→Option Nat
 | .box id _=>some id
 | _=>none
def fqp (d:Nat):Nat→List Nat
 | 0=>[]
 | n+1=>key d n :: fqp d n
theorem dks {d j:Nat}:∀ {n:Nat},j < n→key d j∈fqp d n
 | n+1,h=>by
  simp only [fqp,jX]
  by_cases e:j=n
  ·exact .inl (by rw [e])
  ·exact .inr (dks (by omega))
def ek0 (o:Option Nat) (n:Nat):List Nat:=fqp (o.getD 0) n
def wIds (o:Oper) (v:Operand→A):List Nat :=
 match o.op with
 | .box _ _=>ek0 o.dst 1
 | .alloc _=>ek0 o.dst 1
 | .store _ x _=>match fzj (v x) with
  | some id=>[id]
  | none=>rIds o v
 | .buildSlice _ _ _=>ek0 o.dst 1 ++ rIds o v
 | .makeMap _ _=>ek0 o.dst 1
 | .mapUpdate _ _ _ _=>rIds o v
 | .call c=>match c.callee with
  | .builtin .delete=>rIds o v
  | .builtin .append=>ek0 o.dst 1 ++ (match c.args.toList with | x :: _=>idsA (v x) | []=>[])
  | .value _=>ek0 o.dst 16 ++ rIds o v
  | _=>[]
 | _=>[]
theorem cwc {o:Oper} {v:Operand→A} {x:Operand} {k:Nat} (hn:bqz o.op=false) (hx:x∈o.op.operands) (hk:k∈idsA (v x)):k∈rIds o v:=by
 unfold rIds
 rw [if_neg (by rw [hn];simp)]
 exact dkw (List.mem_map_of_mem (jx.2 hx)) hk
theorem dya {d n j:Nat} (h:j < n):key d j∈ek0 (some d) n:=dks h
theorem gwx {o:Oper} {tm:Nat→A} {hp hp':Nat→Blk} {v:Operand→A} {r:Out} (hA:∀ k,k∈rIds o v ++ wIds o v→hp' k=hp k) (h:opA P Γ o tm hp v=some r) :
  ∃ hp1',opA P Γ o tm hp' v=some { r with hp:=hp1' }∧Loc (wIds o v) hp hp' r.hp hp1':=by
 have hR:bqz o.op=false→∀ x,x∈o.op.operands→∀ k∈idsA (v x),hp' k=hp k:=fun hn x hx k hk=>hA k (jl.2 (.inl (cwc hn hx hk)))
 have hW:∀ k,k∈wIds o v→hp' k=hp k:=fun k hk=>hA k (jl.2 (.inr hk))
 have ro:∀ {r:Out},r.hp=hp→∀ {f:(Nat→Blk)→Option Out},f hp'=some { r with hp:=hp' }→∃ hp1',f hp'=some { r with hp:=hp1' }∧Loc (wIds o v) hp hp' r.hp hp1':=by
  intro r e f hf
  exact ⟨hp',hf,by rw [e];exact Loc.refl hW⟩
 have dead:∀ {d:Nat},o.dst=some d→key d 0∈wIds o v→aq9 (hp' (key d 0))=aq9 (hp (key d 0)):=fun hd hm=>by rw [hW _ hm]
 obtain ⟨dst,op,type,pos,after,guard⟩:=o
 cases op with
 | move x=>simp only [opA,jb] at h ⊢;subst h;exact ⟨hp',rfl,Loc.refl hW⟩
 | assign x=>simp only [opA,jb] at h ⊢;subst h;exact ⟨hp',rfl,Loc.refl hW⟩
 | binOp op t x y yt =>
  simp only [opA] at h ⊢
  split at h
  ·simp only [jb] at h;subst h;exact ⟨hp',rfl,Loc.refl hW⟩
  ·cases h
 | unOp op t x =>
  simp only [opA] at h ⊢
  split at h
  ·simp only [jb] at h;subst h;exact ⟨hp',rfl,Loc.refl hW⟩
  ·cases h
 | convert t u x =>
  simp only [opA] at h ⊢
  split at h
  ·split at h
   ·simp only [jb] at h;subst h;exact ⟨hp',rfl,Loc.refl hW⟩
   ·cases h
  ·cases h
 | extract x i =>
  simp only [opA] at h ⊢
  split at h
  ·split at h
   ·simp only [jb] at h;subst h;exact ⟨hp',rfl,Loc.refl hW⟩
   ·cases h
  ·cases h
 | index t x i =>
  simp only [opA] at h ⊢
  split at h
  ·split at h
   ·rename_i hs
    rw [if_pos hs]
    simp only [jb] at h;subst h;exact ⟨hp',rfl,Loc.refl hW⟩
   ·cases h
  ·cases h
 | box t x =>
  simp only [opA] at h ⊢
  split at h
  ·rename_i d
   have hm:key d 0∈wIds ⟨some d,.box t x,type,pos,after,guard⟩ v:=dya (by omega)
   rw [dead rfl hm,djb (hR rfl x (by simp [je]))]
   split at h
   ·rename_i hif
    rw [if_pos hif]
    simp only [jb] at h;subst h
    exact ⟨_,rfl,(Loc.refl hW).upd hm _⟩
   ·cases h
  ·cases h
 | alloc t =>
  simp only [opA] at h ⊢
  split at h
  ·rename_i d T hT
   have hm:key d 0∈wIds ⟨some d,.alloc t,type,pos,after,guard⟩ v:=dya (by omega)
   simp only [dead rfl hm]
   split at h
   ·rename_i hif
    rw [if_pos hif]
    simp only [jb] at h;subst h
    exact ⟨_,rfl,(Loc.refl hW).upd hm _⟩
   ·cases h
  ·cases h
 | load t x =>
  simp only [opA] at h ⊢
  split at h
  ·rw [gwr (hR rfl x (by simp [je]))]
   split at h
   ·simp only [jb] at h;subst h;exact ⟨hp',rfl,Loc.refl hW⟩
   ·cases h
  ·cases h
 | fieldAddr t x f =>
  simp only [opA] at h ⊢
  split at h
  ·rw [gjd (hR rfl x (by simp [je]))]
   split at h
   ·simp only [jb] at h;subst h;exact ⟨hp',rfl,Loc.refl hW⟩
   ·cases h
  ·cases h
 | indexAddr t x i =>
  simp only [opA] at h ⊢
  split at h
  ·rw [ekn (hR rfl x (by simp [je]))]
   split at h
   ·simp only [jb] at h;subst h;exact ⟨hp',rfl,Loc.refl hW⟩
   ·cases h
  ·split at h
   ·rw [eyq (hR rfl x (by simp [je]))]
    split at h
    ·simp only [jb] at h;subst h;exact ⟨hp',rfl,Loc.refl hW⟩
    ·cases h
   ·cases h
  ·cases h
 | slice t x lo hi mx =>
  cases mx with
  | some m=>simp [opA] at h
  | none =>
   simp only [opA] at h ⊢
   rw [gjv (hR rfl x (by simp [je]))]
   split at h
   ·simp only [jb] at h;subst h;exact ⟨hp',rfl,Loc.refl hW⟩
   ·cases h
 | lookup t x y ok =>
  simp only [opA] at h ⊢
  rw [fzh (hR rfl x (by simp [je]))]
  split at h
  ·simp only [jb] at h;subst h;exact ⟨hp',rfl,Loc.refl hW⟩
  ·cases h
 | store t x y =>
  have hx:=hR rfl x (by simp [je])
  have hy:=hR rfl y (by simp [je])
  have hxm:∀ k∈idsA (v x),k∈wIds ⟨dst,.store t x y,type,pos,after,guard⟩ v:=fun k hk=>by
   simp only [wIds]
   split
   ·rename_i id hb
    cases hv:v x <;> simp [hv,fzj] at hb
    subst hb
    simpa [hv,idsA] using hk
   ·exact cwc rfl (by simp [je]) hk
  have hym:fzj (v x)=none→∀ k∈idsA (v y),k∈wIds ⟨dst,.store t x y,type,pos,after,guard⟩ v:=fun hb k hk=>by
   simp only [wIds,hb]
   exact cwc rfl (by simp [je]) hk
  have key:∀ p hp2,cwn (v y) hp (v x)=some (p,hp2)→∃ hp2',cwn (v y) hp' (v x)=some (p,hp2')∧Loc (wIds ⟨dst,.store t x y,type,pos,after,guard⟩ v) hp hp' hp2 hp2':=by
   intro p hp2 hs
   generalize v x=a at hx hxm hym hs
   generalize v y=b at hy hym hs
   cases a with
   | box id off =>
    simp only [cwn] at hs ⊢
    rw [hx id (by simp [idsA])]
    split at hs
    ·simp only [jb,jk] at hs
     obtain ⟨rfl,rfl⟩:=hs
     rw [fq7 (fun k hk=>hy k (bzn hk))]
     exact ⟨_,rfl,(Loc.refl hW).upd (hxm id (by simp [idsA])) _⟩
    ·cases hs
   | elt id sz ks i off =>
    simp only [cwn] at hs ⊢
    rw [hx id (by simp [idsA]),cqz (fun k hk=>hy k (bzn hk))]
    split at hs
    ·split at hs
     ·simp only [jb,jk] at hs
      obtain ⟨rfl,rfl⟩:=hs
      rename_i hn
      rw [if_pos hn]
      exact ⟨_,rfl,(Loc.freezeAll (Loc.refl hW) (fun k hk=>hym rfl k (bzn (cw1 hk)))).upd (hxm id (by simp [idsA])) _⟩
     ·cases hs
    ·cases hs
   | _=>simp [cwn] at hs
  simp only [opA] at h ⊢
  split at h
  ·rename_i T p hp2 hT hs
   obtain ⟨hp2',e1,e2⟩:=key _ _ hs
   rw [e1,djb hy,hT]
   dsimp only
   split at h
   ·rename_i hl
    rw [if_pos hl]
    split at h
    ·rename_i hb
     simp only [jb] at h;subst h
     rw [if_pos hb]
     exact ⟨_,rfl,e2⟩
    ·cases h
   ·cases h
  ·cases h
 | build t parts =>
  simp only [opA] at h ⊢
  split at h
  ·split at h
   ·cases h
   ·rename_i hf
    have hpm:∀ k∈aqj ((parts.toList.map fun p=>(p.1,v p.2)).map (·.2)),hp' k=hp k:=fun k hk=>hA k (jl.2 (.inl (by
     simp only [rIds,je,bqz,Bool.false_eq_true,if_false]
     simpa [JA,Function.comp_def] using hk)))
    rw [if_neg hf,dwn hpm]
    split at h
    ·simp only [jb] at h;subst h;exact ⟨hp',rfl,Loc.refl hW⟩
    ·cases h
  ·cases h
 | buildSlice t n parts =>
  simp only [opA] at h ⊢
  split at h
  ·rename_i d e E hs
   have hm:key d 0∈wIds ⟨some d,.buildSlice t n parts,type,pos,after,guard⟩ v:=jl.2 (.inl (dya (by omega)))
   have hro:aqj (parts.toList.map fun p=>v p.2)=rIds ⟨some d,.buildSlice t n parts,type,pos,after,guard⟩ v:=by
    simp [rIds,bqz,je,JA,Function.comp_def]
   have hpm:∀ k∈aqj ((parts.toList.map fun p=>(p.1,v p.2)).map (·.2)),hp' k=hp k:=fun k hk=>hA k (jl.2 (.inl (by
    rw [← hro];simpa [JA,Function.comp_def] using hk)))
   simp only [dead rfl hm]
   rw [dwb hpm]
   split at h
   ·rename_i hif
    rw [if_pos hif]
    split at h
    ·simp only [jb] at h;subst h
     exact ⟨_,rfl,(Loc.freezeAll (Loc.refl hW) (fun k hk=>jl.2 (.inr (by rw [← hro];exact dyh hk)))).upd hm _⟩
    ·cases h
   ·cases h
  ·cases h
 | makeMap t r0 =>
  cases r0 with
  | some q=>simp [opA] at h
  | none =>
   simp only [opA] at h ⊢
   split at h
   ·rename_i d kk q E hT
    have hm:key d 0∈wIds ⟨some d,.makeMap t none,type,pos,after,guard⟩ v:=dya (by omega)
    simp only [dead rfl hm]
    split at h
    ·rename_i hif
     rw [if_pos hif]
     simp only [jb] at h;subst h
     exact ⟨_,rfl,(Loc.refl hW).upd hm _⟩
    ·cases h
   ·cases h
 | mapUpdate t x y z =>
  have hx:=hR rfl x (by simp [je])
  have hz:=hR rfl z (by simp [je])
  have hxm:∀ k∈idsA (v x),k∈wIds ⟨dst,.mapUpdate t x y z,type,pos,after,guard⟩ v:=fun k hk=>cwc rfl (by simp [je]) hk
  have hzm:∀ k∈idsA (v z),k∈wIds ⟨dst,.mapUpdate t x y z,type,pos,after,guard⟩ v:=fun k hk=>cwc rfl (by simp [je]) hk
  have key:∀ hp2,ckm P t hp (v x) (v y) (v z)=some hp2→∃ hp2',ckm P t hp' (v x) (v y) (v z)=some hp2'∧Loc (wIds ⟨dst,.mapUpdate t x y z,type,pos,after,guard⟩ v) hp hp' hp2 hp2':=by
   intro hp2 hs
   unfold ckm at hs ⊢
   generalize v x=a at hx hxm hs
   generalize v z=c at hz hzm hs
   split at hs
   ·rename_i kk e E id ky k hm hyk
    rw [hx id (by simp [idsA])]
    split at hs
    ·rename_i hk1
     rw [if_pos hk1]
     split at hs
     ·split at hs
      ·rename_i hk2
       rw [if_pos hk2]
       split at hs
       ·rename_i hk3
        rw [if_pos hk3,fq5 hz]
        split at hs
        ·simp only [jb] at hs;subst hs
         exact ⟨_,rfl,(Loc.freezeAll (Loc.refl hW) (fun k hk=>hzm k (bzn (cw1 hk)))).upd (hxm id (by simp [idsA])) _⟩
        ·cases hs
       ·cases hs
      ·cases hs
     ·cases hs
    ·cases hs
   ·cases hs
  simp only [opA] at h ⊢
  split at h
  ·rename_i hp2 hs
   obtain ⟨hp2',e1,e2⟩:=key _ hs
   rw [e1]
   simp only [jb] at h;subst h
   exact ⟨_,rfl,e2⟩
  ·cases h
 | call c =>
  obtain ⟨callee,args,argTypes⟩:=c
  have hRa:∀ k∈aqj (args.toList.map v),k∈rIds ⟨dst,.call ⟨callee,args,argTypes⟩,type,pos,after,guard⟩ v:=by
   intro k hk
   have:∀ (l:List Operand),(∀ x∈l,x∈args.toList)→k∈aqj (l.map v)→∃ x∈args.toList,k∈idsA (v x):=by
    intro l
    induction l with
    | nil=>intro _ h;simp [aqj] at h
    | cons y l ih =>
     intro hl h
     simp only [Jf,aqj,jl] at h
     rcases h with h | h
     ·exact ⟨y,hl y (by simp),h⟩
     ·exact ih (fun x hx=>hl x (by simp [hx])) h
   obtain ⟨x,hx,hk'⟩:=this args.toList (fun x h=>h) hk
   exact cwc rfl (by
    simp only [je,Call.operands]
    exact Array.mem_append.2 (.inr (jx.1 hx))) hk'
  have hRx:∀ x,x∈args.toList→∀ k∈idsA (v x),hp' k=hp k:=fun x hx=>hR rfl x (by
   simp only [je,Call.operands]
   exact Array.mem_append.2 (.inr (jx.1 hx)))
  cases callee with
  | invoke rv m=>simp [opA] at h
  | value f =>
   simp only [opA] at h ⊢
   split at h
   ·rename_i dst f0 d0 f' hf
    have hargs:∀ k∈aqj (args.toList.map v),hp' k=hp k:=fun k hk=>hA k (jl.2 (.inl (hRa k hk)))
    unfold eyd at h ⊢
    split at h
    ·rename_i g hg
     rw [fwn hargs,ewy (fun k hk=>hargs k (ez8 hk))]
     split at h
     ·rename_i cs hcs
      split at h
      ·rename_i hdead
       simp only [Bool.and_eq_true,decide_eq_true_eq] at hdead
       simp only [jb] at h;subst h
       have hlen:(g.sem cs).rows.length≤16:=hdead.1
       have hkeys:∀ i,i < (g.sem cs).rows.length→key (dst.getD 0) (0+i)∈wIds ⟨dst,.call ⟨.value f,args,argTypes⟩,type,pos,after,guard⟩ v:=by
        intro i hi
        refine jl.2 (.inl ?_)
        rw [Nat.zero_add]
        exact dks (by omega)
       rw [ejy (fun i hi=>hW _ (hkeys i hi)),if_pos (by simp only [Bool.and_eq_true,decide_eq_true_eq];exact hdead)]
       refine ⟨_,rfl,Loc.addRows ?_ hkeys⟩
       split
       ·exact Loc.freezeAll (Loc.refl hW) (fun k hk=>jl.2 (.inr (hRa k (dyh hk))))
       ·exact Loc.refl hW
      ·cases h
     ·cases h
    ·cases h
   ·cases h
  | builtin b =>
   cases b with
   | len =>
    simp only [opA] at h ⊢
    split at h
    ·rename_i x t hax hat
     rw [gka (hRx x (by rw [hax];simp))]
     split at h
     ·simp only [jb] at h;subst h;exact ⟨hp',rfl,Loc.refl hW⟩
     ·cases h
    ·cases h
   | min =>
    simp only [opA] at h ⊢
    split at h
    ·split at h
     ·simp only [jb] at h;subst h;exact ⟨hp',rfl,Loc.refl hW⟩
     ·cases h
    ·cases h
   | max =>
    simp only [opA] at h ⊢
    split at h
    ·split at h
     ·simp only [jb] at h;subst h;exact ⟨hp',rfl,Loc.refl hW⟩
     ·cases h
    ·cases h
   | delete =>
    simp only [opA] at h ⊢
    split at h
    ·rename_i x y t l hax hat
     have hx:=hRx x (by rw [hax];simp)
     have hxm:∀ k∈idsA (v x),k∈wIds ⟨dst,.call ⟨.builtin .delete,args,argTypes⟩,type,pos,after,guard⟩ v:=fun k hk=>hRa k (dkw (List.mem_map_of_mem (by rw [hax];simp)) hk)
     have key:∀ hp2,ckg P t hp (v x) (v y)=some hp2→∃ hp2',ckg P t hp' (v x) (v y)=some hp2'∧Loc (wIds ⟨dst,.call ⟨.builtin .delete,args,argTypes⟩,type,pos,after,guard⟩ v) hp hp' hp2 hp2':=by
      intro hp2 hs
      unfold ckg at hs ⊢
      generalize v x=a at hx hxm hs
      split at hs
      ·rename_i kk e E id ky k hm hyk
       rw [hx id (by simp [idsA])]
       split at hs
       ·rename_i hk1
        rw [if_pos hk1]
        split at hs
        ·split at hs
         ·rename_i hk2
          rw [if_pos hk2]
          simp only [jb] at hs;subst hs
          exact ⟨_,rfl,(Loc.refl hW).upd (hxm id (by simp [idsA])) _⟩
         ·cases hs
        ·cases hs
       ·cases hs
      ·cases hs
     split at h
     ·rename_i hp2 hs
      obtain ⟨hp2',e1,e2⟩:=key _ hs
      rw [e1]
      simp only [jb] at h;subst h
      exact ⟨_,rfl,e2⟩
     ·cases h
    ·cases h
   | append =>
    simp only [opA] at h ⊢
    split at h
    ·rename_i x y t u d hax hat
     have hx:=hRx x (by rw [hax];simp)
     have hy:=hRx y (by rw [hax];simp)
     have hm:key d 0∈wIds ⟨some d,.call ⟨.builtin .append,args,argTypes⟩,type,pos,after,guard⟩ v:=jl.2 (.inl (dya (by omega)))
     have hxm:∀ k∈idsA (v x),k∈wIds ⟨some d,.call ⟨.builtin .append,args,argTypes⟩,type,pos,after,guard⟩ v:=fun k hk=>jl.2 (.inr (by dsimp only;rw [hax];exact hk))
     split at h
     ·rename_i e E hs
      split at h
      ·rename_i htu
       rw [if_pos htu]
       unfold dqg at h ⊢
       rw [gk8 hy,dyk (fun k hk=>hy k (gj7 hk)),dead rfl hm]
       split at h
       ·cases h
       ·rename_i new hnew
        split at h
        ·rename_i hdd
         simp only [hdd,if_true]
         generalize v x=a at hx hxm h ⊢
         split at h
         ·simp only [jb] at h;subst h
          exact ⟨_,rfl,(Loc.refl hW).upd hm _⟩
         ·rename_i id ks len
          rw [hx id (by simp [idsA])]
          have hid:=hxm id (by simp [idsA])
          split at h
          ·split at h
           ·rename_i ht
            rw [if_pos ht]
            split at h
            ·rename_i hsi
             rw [if_pos hsi]
             simp only [jb] at h;subst h
             exact ⟨_,rfl,(Loc.refl hW).upd hid _⟩
            ·rename_i hsi
             rw [if_neg hsi]
             simp only [jb] at h;subst h
             exact ⟨_,rfl,((Loc.refl hW).upd hid _).upd hm _⟩
           ·cases h
          ·cases h
         ·cases h
        ·cases h
      ·cases h
     ·cases h
    ·cases h
   | _=>simp [opA] at h
 | _=>simp [opA] at h
end Go.AE
