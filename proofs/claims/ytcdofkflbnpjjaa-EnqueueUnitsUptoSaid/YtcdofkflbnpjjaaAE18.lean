/- Text. -/
import Derived.Test.YtcdofkflbnpjjaaAE17
set_option linter.unusedVariables false
namespace Go.AE
open Go.RowKit (Below)
variable {P:Program} {w0:Base} {w:World} {N kp:Nat} {s:S} {Γ:List Fn}
def gd {α:Type} (p:Prop) [Decidable p] (x:Option α):Option α:=if p then x else none
theorem gd_some {α:Type} {p:Prop} [Decidable p] {x:Option α} {r:α} (h:gd p x=some r):p∧x=some r:=by
  unfold gd at h
  split at h
  · exact ⟨by assumption,h⟩
  · cases h
theorem gd_pos {α:Type} {p:Prop} [Decidable p] (x:Option α) (h:p):gd p x=x:=by simp [gd,h]
theorem bind_some {α β:Type} {a:Option α} {f:α→Option β} {r:β} (h:a.bind f=some r):∃ y,a=some y∧f y=some r:=by
  cases a with
  | none=>simp at h
  | some y=>exact ⟨y,rfl,h⟩
theorem bif_t {α:Type} {c:Bool} {a b:Option α} {r:α} (h:c=true) (H:(cond c a b)=some r):a=some r:=by subst h;exact H
theorem bif_f {α:Type} {c:Bool} {a b:Option α} {r:α} (h:c=false) (H:(cond c a b)=some r):b=some r:=by subst h;exact H
def gt {α:Type} [Inhabited α] (l:List α) (i:Nat):α:=l.getD i default
@[simp] theorem gt_nil {α:Type} [Inhabited α] (i:Nat):gt ([]:List α) i=default:=by simp [gt]
@[simp] theorem gt_zero {α:Type} [Inhabited α] (x:α) (l:List α):gt (x :: l) 0=x:=rfl
@[simp] theorem gt_succ {α:Type} [Inhabited α] (x:α) (l:List α) (i:Nat):gt (x :: l) (i+1)=gt l i:=by simp [gt]
def loopF {X Y:Type} (body:X→Option (X ⊕ Y)):Nat→X→Option Y
  | 0,_=>none
  | n+1,x=>match body x with
    | none=>none
    | some (.inl x')=>loopF body n x'
    | some (.inr y)=>some y
theorem eg_map {α:Type} [Inhabited α] (f:α→List C) (l:List α) (i:Nat) (h:i < l.length):eg (l.map f) i=f (gt l i):=by
  simp [eg,gt,List.getD_eq_getElem?_getD,h]
theorem eg_out {α:Type} (f:α→List C) (l:List α) (i:Nat) (h:l.length≤i):eg (l.map f) i=[]:=by
  simp [eg,List.getD_eq_getElem?_getD,h]
theorem gt_out {α:Type} [Inhabited α] (l:List α) (i:Nat) (h:l.length≤i):gt l i=default:=by
  simp [gt,List.getD_eq_getElem?_getD,h]
theorem set_map_of {α:Type} [Inhabited α] (f:α→List C) (l:List α) (i:Nat) (x:α) {c:List C} (h:i < l.length→c=f x):(l.map f).set i c=(l.set i x).map f:=by
  rcases Nat.lt_or_ge i l.length with hi | hi
  · rw [h hi];simp
  · rw [List.set_eq_of_length_le (by simpa using hi),List.set_eq_of_length_le hi]
def tget {K V:Type} [BEq K] (k:K):List (K×V)→Option V
  | []=>none
  | e :: m=>if k == e.1 then some e.2 else tget k m
def tset {K V:Type} [BEq K] (k:K) (v:V):List (K×V)→List (K×V)
  | []=>[(k,v)]
  | e :: m=>if k == e.1 then (k,v) :: m else e :: tset k v m
def tdel {K V:Type} [BEq K] (k:K):List (K×V)→List (K×V)
  | []=>[]
  | e :: m=>if k == e.1 then m else e :: tdel k m
def lkBl:List (Nat×Blk)→Nat→Blk
  | [],_=>.dead
  | (i,b) :: r,k=>if k=i then b else lkBl r k
def stB (L:List (Nat×A)) (b:List (Nat×Blk)):S:=⟨lkT L,lkBl b⟩
def zipH:List (Option Nat)→List (Nat×Blk)→HL
  | o :: os,(i,b) :: r=>(i,o,b) :: zipH os r
  | _,_=>[]
theorem lkB_zip:∀ {os:List (Option Nat)} {bs:List (Nat×Blk)},os.length=bs.length→lkB (zipH os bs)=lkBl bs
  | [],[],_=>rfl
  | [],_ :: _,h=>by simp at h
  | _ :: _,[],h=>by simp at h
  | o :: os,(i,b) :: r,h=>by
    funext k
    have:=congrFun (lkB_zip (os:=os) (bs:=r) (by simpa using h)) k
    simp only [zipH,lkB,lkH,lkBl] at this ⊢
    by_cases e:k=i
    · simp [e]
    · simp only [e,if_false];exact this
theorem weak_b {L:List (Nat×A)} {bs:List (Nat×Blk)} (os:List (Option Nat)) (hkp:keepOk kp (zipH os bs)=true) (hl:os.length=bs.length) (ho:oldsOk (zipH os bs)=true) (hL:subTs P (zipH os bs) s.hp s.tm L) (hH:subHs P (zipH os bs) s.hp (zipH os bs)):Weak P kp s (stB L bs):=by
  have:=weak_list (P:=P) (s:=s) hkp ho hL hH
  unfold stL at this
  rw [lkB_zip hl] at this
  exact this
variable {Q:Exit→S→Prop} {a b c:Code}
theorem Sm.exit {id:Nat} (h:Q (.exit id) s):Sm P N kp (.exit id) s Q:=fun r w0 Q' act w hk hr hd hR hQ=>cw_exit (hQ _ _ _ _ _ (Ext.refl _) hd hR h)
theorem Sm.ret (h:Q .ret s):Sm P N kp .ret s Q:=fun r w0 Q' act w hk hr hd hR hQ=>cw_ret (hQ _ _ _ _ _ (Ext.refl _) hd hR h)
theorem Sm.skip (h:Q .normal s):Sm P N kp .skip s Q:=fun r w0 Q' act w hk hr hd hR hQ=>cw_skip (hQ _ _ _ _ _ (Ext.refl _) hd hR h)
def wpCond (s:S) (t:Operand) (Ka Kb:Prop):Prop :=
  match opdA s.tm t with
  | .c .bool x=>(x.toBool=true→Ka)∧(x.toBool=false→Kb)
  | _=>False
theorem Sm.condK {t:Operand} (hok:okOpd t=true) (h:∀ Ka Kb:Prop,(Sm P N kp a s Q→Ka)→(Sm P N kp b s Q→Kb)→wpCond s t Ka Kb):Sm P N kp (.cond t a b) s Q:=by
  have:=h (Sm P N kp a s Q) (Sm P N kp b s Q) id id
  unfold wpCond at this
  split at this
  · rename_i x hx
    exact Sm.cond hok x hx this.1 this.2
  · exact this.elim
theorem Sm.loopB {X Y:Type} (body:X→Option (X ⊕ Y)) (st:X→S) {n:Nat} {x0:X} {y:Y} (hy:loopF body n x0=some y) (hw:Weak P kp s (st x0))
    (hr:∀ x z,body x=some z→Sm P N kp c (st x) fun e s'=>match e with | .normal=>∃ x',z = .inl x'∧Weak P kp s' (st x') | e=>(∃ y',z = .inr y')∧(z = .inr y→Q e s')):Sm P N kp (.loop c) s Q:=by
  refine Sm.loop (X:=Nat×X) (fun p=>st p.2) (fun p=>loopF body p.1 p.2=some y) (fun p=>p.1) (n,x0) hy hw ?_
  rintro ⟨m,x⟩ hI
  dsimp only at hI ⊢
  cases m with
  | zero=>simp [loopF] at hI
  | succ m =>
    simp only [loopF] at hI
    cases hb:body x with
    | none=>simp [hb] at hI
    | some z =>
      refine (hr x z hb).mono fun e s' hq=>?_
      cases z with
      | inl x' =>
        simp only [hb] at hI
        cases e with
        | normal =>
          obtain ⟨x'',h1,h2⟩:=hq
          cases h1
          exact ⟨(m,x'),hI,by simp,h2⟩
        | _=>obtain ⟨⟨y',h⟩,_⟩:=hq;cases h
      | inr y' =>
        simp only [hb,Option.some.injEq] at hI
        subst hI
        cases e with
        | normal=>obtain ⟨x'',h1,h2⟩:=hq;cases h1
        | _=>exact hq.2 rfl
def guardT (tm:Nat→A) (d:Option Nat) (want:Bool):Option Bool :=
  match d with
  | some d=>match tm d with
    | .c .bool x=>some (x.toBool == want)
    | .when g (.c .bool x)=>some (g && x.toBool == want)
    | _=>none
  | none=>none
def gdst (ops:List Oper) (o:Oper):Option Nat :=
  match o.guard with
  | some (j,_)=>match ops[j]? with
    | some q=>q.dst
    | none=>none
  | none=>none
def resolve (ops:List Oper):List Oper→List (Option Nat×Oper)
  | []=>[]
  | o :: os=>(gdst ops o,o) :: resolve ops os
theorem guardOf_eq (ops:List Oper) (tm:Nat→A) (j:Nat) (want:Bool):guardOf ops tm j want=guardT tm (match ops[j]? with | some q=>q.dst | none=>none) want:=by
  unfold guardOf guardT
  cases ops[j]? with
  | none=>rfl
  | some q =>
    dsimp only
    cases q.dst with
    | none=>rfl
    | some v =>
      dsimp only
      cases tm v with
      | c k x=>cases k <;> rfl
      | when g a=>cases a with
        | c k x=>cases k <;> rfl
        | _=>rfl
      | _=>rfl
def effG (P:Program) (Γ:List Fn) (gd:Option Nat) (o:Oper) (tm:Nat→A) (hp:Nat→Blk):Option (Prop×Prop×A×(Nat→Blk)) :=
  match o.op with
  | .pick c a b =>
    match plainTm tm c with
    | .c .bool x =>
      match pickA x.toBool (plainTm tm a) (plainTm tm b) with
      | some r=>match o.guard with
        | none=>some (allNeeds tm [c]∧implies x.toBool (needs tm a)∧implies (!x.toBool) (needs tm b),True,r,hp)
        | some (_,want)=>match guardT tm gd want with
          | some g=>some ((g=true→allNeeds tm [c])∧implies (g && x.toBool) (needs tm a)∧implies (g && !x.toBool) (needs tm b),True,.when g r,hp)
          | none=>none
      | none=>none
    | _=>none
  | _ =>
    match opA P Γ o tm hp (plainTm tm) with
    | none=>none
    | some r=>match o.guard with
      | none=>some (allNeeds tm o.op.operands.toList∧r.pre,r.fact,r.val,r.hp)
      | some (_,want)=>match guardT tm gd want with
        | some g=>if r.q then some ((g=true→allNeeds tm o.op.operands.toList∧r.pre),True,.when g r.val,hp) else none
        | none=>none
theorem eff_effG (ops:List Oper) (o:Oper) (tm:Nat→A) (hp:Nat→Blk):eff P Γ ops o tm hp=effG P Γ (gdst ops o) o tm hp:=by
  obtain ⟨dst,op,type,pos,after,guard⟩:=o
  cases guard with
  | none=>cases op <;> rfl
  | some q =>
    obtain ⟨j,w⟩:=q
    cases op <;> (simp only [eff,effG,gdst,guardOf_eq]) <;> rfl
def stepG (P:Program) (Γ:List Fn) (gd:Option Nat) (o:Oper) (s:S) (K:S→Prop):Prop :=
  match effG P Γ gd o s.tm s.hp with
  | none=>False
  | some (p,f,v,hp')=>p∧(f→K ⟨updD s.tm o.dst v,hp'⟩)
def stepH (P:Program) (Γ:List Fn) (gd:Option Nat) (o:Oper) (s:S) (K:S→Prop):Prop :=
  match effG P Γ gd o s.tm s.hp with
  | none=>False
  | some (p,_,v,hp')=>p∧(quietOp o=true→hp'=s.hp)∧K ⟨updD s.tm o.dst v,hp'⟩
def wpOpsG (P:Program) (Γ:List Fn):List (Option Nat×Oper)→S→(S→Prop)→Prop
  | [],s,Q=>Q s
  | (g,o) :: os,s,Q=>stepG P Γ g o s fun s'=>wpOpsG P Γ os s' Q
def wpOpsH (P:Program) (Γ:List Fn):List (Option Nat×Oper)→S→(S→Prop)→Prop
  | [],s,Q=>Q s
  | (g,o) :: os,s,Q=>stepH P Γ g o s fun s'=>wpOpsH P Γ os s' Q
theorem wpOps_G (ops:List Oper) {Q:S→Prop}:∀ (l:List Oper) (s:S),wpOpsG P Γ (resolve ops l) s Q→wpOpsA P Γ ops l s Q
  | [],s,h=>h
  | o :: os,s,h=>by
    simp only [resolve,wpOpsG,stepG,wpOpsA,stepA,stepR,eff_effG] at h ⊢
    cases hz:effG P Γ (gdst ops o) o s.tm s.hp with
    | none=>simp [hz] at h
    | some q =>
      simp only [hz,Option.map_some] at h ⊢
      exact ⟨h.1,fun hf=>wpOps_G ops os _ (h.2 hf)⟩
theorem wpOps_H (ops:List Oper) {Q:S→Prop}:∀ (l:List Oper) (s:S),wpOpsH P Γ (resolve ops l) s Q→wpOpsD P Γ ops l s Q
  | [],s,h=>h
  | o :: os,s,h=>by
    simp only [resolve,wpOpsH,stepH,wpOpsD,stepD,eff_effG] at h ⊢
    cases hz:effG P Γ (gdst ops o) o s.tm s.hp with
    | none=>simp [hz] at h
    | some q =>
      simp only [hz] at h ⊢
      exact ⟨h.1,h.2.1,wpOps_H ops os _ h.2.2⟩
theorem Sm.regA {id:Nat} {ops:Array Oper} {Q:Exit→S→Prop} (h00:tyI P 0=none) (hm:P.follows .mixedOrders=true) (hΓ:∀ g,g∈Γ→Contract P g) (hok:codeOk N (.region id ops false)=true)
    (h:wpOpsG P Γ (resolve ops.toList ops.toList) s (Q .normal)):Sm P N kp (.region id ops false) s Q:=by
  refine Sm.of (Γ:=Γ) h00 hm hΓ hok ?_
  simp only [wpA]
  exact wpOps_G _ _ _ h
theorem Sm.regD {id:Nat} {ops:Array Oper} {Q:Exit→S→Prop} (h00:tyI P 0=none) (hm:P.follows .mixedOrders=true) (hΓ:∀ g,g∈Γ→Contract P g) (hok:codeOk N (.region id ops true)=true)
    (h:wpOpsH P Γ (resolve ops.toList ops.toList) s (Q .normal)):Sm P N kp (.region id ops true) s Q:=by
  refine Sm.of (Γ:=Γ) h00 hm hΓ hok ?_
  simp only [wpA]
  exact wpOps_H _ _ _ h
theorem Sm.seqA {id:Nat} {ops:Array Oper} {b:Code} {Q:Exit→S→Prop} (h00:tyI P 0=none) (hm:P.follows .mixedOrders=true) (hΓ:∀ g,g∈Γ→Contract P g) (hok:codeOk N (.region id ops false)=true)
    (h:∀ K:S→Prop,(∀ s',Sm P N kp b s' Q→K s')→wpOpsG P Γ (resolve ops.toList ops.toList) s K):Sm P N kp (.seq (.region id ops false) b) s Q :=
  Sm.seq (Sm.regA h00 hm hΓ hok (h (fun s'=>Sm P N kp b s' Q) (fun _ h=>h)))
theorem Sm.seqD {id:Nat} {ops:Array Oper} {b:Code} {Q:Exit→S→Prop} (h00:tyI P 0=none) (hm:P.follows .mixedOrders=true) (hΓ:∀ g,g∈Γ→Contract P g) (hok:codeOk N (.region id ops true)=true)
    (h:∀ K:S→Prop,(∀ s',Sm P N kp b s' Q→K s')→wpOpsH P Γ (resolve ops.toList ops.toList) s K):Sm P N kp (.seq (.region id ops true) b) s Q :=
  Sm.seq (Sm.regD h00 hm hΓ hok (h (fun s'=>Sm P N kp b s' Q) (fun _ h=>h)))
theorem gcI {p q:Prop} (hq:q) (hp:p:=by first | with_reducible assumption | omega | (intro hh;(repeat refine ⟨hh,?_⟩);revert hh;with_reducible assumption)):p∧q:=⟨hp,hq⟩
theorem opsG {g:Option Nat} {o:Oper} {os:List (Option Nat×Oper)} {Q:S→Prop} (h:∀ K:S→Prop,(∀ s',wpOpsG P Γ os s' Q→K s')→stepG P Γ g o s K):wpOpsG P Γ ((g,o) :: os) s Q:=h _ fun _ x=>x
theorem opsH {g:Option Nat} {o:Oper} {os:List (Option Nat×Oper)} {Q:S→Prop} (h:∀ K:S→Prop,(∀ s',wpOpsH P Γ os s' Q→K s')→stepH P Γ g o s K):wpOpsH P Γ ((g,o) :: os) s Q:=h _ fun _ x=>x
theorem opsG0 {Q:S→Prop} (h:Q s):wpOpsG P Γ [] s Q:=h
theorem opsH0 {Q:S→Prop} (h:Q s):wpOpsH P Γ [] s Q:=h
def mkFn {A R:Type} [Inhabited R] (f:FuncId) (ps:List (Bool×List Kd)) (refs:Bool) (dec:List (List C)→A) (enc:A→List (List C)) (F:A→Option R) (res:R→List Go.AE.A) (rows:R→List Blk):Fn :=
  ⟨f,ps,refs,fun xs=>⟨xs=enc (dec xs)∧(F (dec xs)).isSome=true,res ((F (dec xs)).getD default),rows ((F (dec xs)).getD default)⟩⟩
theorem contract_f {A R:Type} [Inhabited R] {f:FuncId} {ps:List (Bool×List Kd)} {refs:Bool} {dec:List (List C)→A} {enc:A→List (List C)} {F:A→Option R} {res:R→List Go.AE.A} {rows:R→List Blk} {fn:Func} (c:Code)
    (h00:tyI P 0=none) (hf:P.funcs[f]? = some fn) (hb:fn.body=some c) (henter:∀ args w,(callFunc f args).run P w = .ok (.enter f args) w) (hN:ps.length≤fn.ntmps)
    (hscalar:refs=false→∀ r,scalarAs (res r)=true∧∀ b∈rows r,∃ t es E,b = .row t es∧tyI P t=some E∧E.kinds.all scalarK=true)
    (h:∀ (a:A) (r:R),F a=some r→Sm P fn.ntmps 0 c ⟨initTm ps (enc a) 0,fun _=>.dead⟩ (Ret P fn.results.toList ⟨True,res r,rows r⟩)):Contract P (mkFn f ps refs dec enc F res rows):=by
  refine contract_sm h00 hf hb henter hN (fun hr cs=>hscalar hr _) fun cs h1 h2 hpre=>?_
  obtain ⟨hc,hs⟩:=hpre
  obtain ⟨r,hF⟩:=Option.isSome_iff_exists.1 hs
  have:=h (dec cs) r hF
  rw [← hc] at this
  refine this.mono fun e s hq=>?_
  have e1:(F (dec cs)).getD default=r:=by rw [hF];rfl
  cases e with
  | normal=>obtain ⟨ret,hq⟩:=hq;refine ⟨ret,?_⟩;unfold RetOk at hq ⊢;simp only [mkFn,e1];exact hq
  | ret=>obtain ⟨ret,hq⟩:=hq;refine ⟨ret,?_⟩;unfold RetOk at hq ⊢;simp only [mkFn,e1];exact hq
  | _=>exact hq
end Go.AE
