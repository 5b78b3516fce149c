/- Text. -/
import Derived.Test.YtfhnelkbiihpiaaGreatDoorAE17
set_option linter.unusedVariables false
open _root_.List renaming getD_eq_getElem?_getD→jb
namespace Go.AE
open Go.RowKit (Below)
variable {P:Program} {w0:Base} {w:World} {N kp:Nat} {s:S} {Γ:List Fn}
def gd {α:Type} (p:Prop) [Decidable p] (x:Option α):Option α:=if p then x else none
theorem aqu {α:Type} {p:Prop} [Decidable p] {x:Option α} {r:α} (h:gd p x=some r):p∧x=some r:=by
 unfold gd at h
 split at h
 ·exact ⟨by assumption,h⟩
 ·cases h
theorem bind_some {α β:Type} {a:Option α} {f:α→Option β} {r:β} (h:a.bind f=some r):∃ y,a=some y∧f y=some r:=by
 cases a with
 | none=>simp at h
 | some y=>exact ⟨y,rfl,h⟩
theorem fjj {α:Type} {c:Bool} {a b:Option α} {r:α} (h:c=true) (H:(cond c a b)=some r):a=some r:=by subst h;exact H
theorem fj4 {α:Type} {c:Bool} {a b:Option α} {r:α} (h:c=false) (H:(cond c a b)=some r):b=some r:=by subst h;exact H
def gt {α:Type} [Inhabited α] (l:List α) (i:Nat):α:=l.getD i default
@[simp] theorem gt_nil {α:Type} [Inhabited α] (i:Nat):gt ([]:List α) i=default:=by simp [gt]
@[simp] theorem gt_zero {α:Type} [Inhabited α] (x:α) (l:List α):gt (x :: l) 0=x:=rfl
@[simp] theorem gt_succ {α:Type} [Inhabited α] (x:α) (l:List α) (i:Nat):gt (x :: l) (i+1)=gt l i:=by simp [gt]
def azk {X Y:Type} (body:X→Option (X ⊕ Y)):Nat→X→Option Y
 | 0,_=>none
 | n+1,x=>match body x with
  | none=>none
  | some (.inl x')=>azk body n x'
  | some (.inr y)=>some y
theorem aqm {α:Type} [Inhabited α] (f:α→List C) (l:List α) (i:Nat) (h:i < l.length):eg (l.map f) i=f (gt l i):=by
 simp [eg,gt,jb,h]
theorem aw3 {α:Type} (f:α→List C) (l:List α) (i:Nat) (h:l.length≤i):eg (l.map f) i=[]:=by
 simp [eg,jb,h]
theorem aw5 {α:Type} [Inhabited α] (l:List α) (i:Nat) (h:l.length≤i):gt l i=default:=by
 simp [gt,jb,h]
def lkBl:List (Nat×Blk)→Nat→Blk
 | [],_=>.dead
 | (i,b) :: r,k=>if k=i then b else lkBl r k
def stB (L:List (Nat×A)) (b:List (Nat×Blk)):S:=⟨lkT L,lkBl b⟩
def zipH:List (Option Nat)→List (Nat×Blk)→HL
 | o :: os,(i,b) :: r=>(i,o,b) :: zipH os r
 | _,_=>[]
theorem dyu:∀ {os:List (Option Nat)} {bs:List (Nat×Blk)},os.length=bs.length→lkB (zipH os bs)=lkBl bs
 | [],[],_=>rfl
 | [],_ :: _,h=>by simp at h
 | _ :: _,[],h=>by simp at h
 | o :: os,(i,b) :: r,h=>by
  funext k
  have:=congrFun (dyu (os:=os) (bs:=r) (by simpa using h)) k
  simp only [zipH,lkB,lkH,lkBl] at this ⊢
  by_cases e:k=i
  ·simp [e]
  ·simp only [e,if_false];exact this
theorem ey6 {L:List (Nat×A)} {bs:List (Nat×Blk)} (os:List (Option Nat)) (hkp:czq kp (zipH os bs)=true) (hl:os.length=bs.length) (ho:bqz (zipH os bs)=true) (hL:dj2 P (zipH os bs) s.hp s.tm L) (hH:bz5 P (zipH os bs) s.hp (zipH os bs)):Weak P kp s (stB L bs):=by
 have:=ejn (P:=P) (s:=s) hkp ho hL hH
 unfold stL at this
 rw [dyu hl] at this
 exact this
variable {Q:Exit→S→Prop} {a b c:Code}
theorem Sm.exit {id:Nat} (h:Q (.exit id) s):Sm P N kp (.exit id) s Q:=fun r w0 Q' act w hk hr hd hR hQ=>dkv (hQ _ _ _ _ _ (Ext.refl _) hd hR h)
theorem Sm.ret (h:Q .ret s):Sm P N kp .ret s Q:=fun r w0 Q' act w hk hr hd hR hQ=>ezf (hQ _ _ _ _ _ (Ext.refl _) hd hR h)
theorem Sm.skip (h:Q .normal s):Sm P N kp .skip s Q:=fun r w0 Q' act w hk hr hd hR hQ=>eq0 (hQ _ _ _ _ _ (Ext.refl _) hd hR h)
def dz6 (s:S) (t:Operand) (Ka Kb:Prop):Prop :=
 match opdA s.tm t with
 | .c .bool x=>(x.toBool=true→Ka)∧(x.toBool=false→Kb)
 | _=>False
theorem Sm.condK {t:Operand} (hok:bwh t=true) (h:∀ Ka Kb:Prop,(Sm P N kp a s Q→Ka)→(Sm P N kp b s Q→Kb)→dz6 s t Ka Kb):Sm P N kp (.cond t a b) s Q:=by
 have:=h (Sm P N kp a s Q) (Sm P N kp b s Q) id id
 unfold dz6 at this
 split at this
 ·rename_i x hx
  exact Sm.cond hok x hx this.1 this.2
 ·exact this.elim
theorem Sm.loopB {X Y:Type} (body:X→Option (X ⊕ Y)) (st:X→S) {n:Nat} {x0:X} {y:Y} (hy:azk body n x0=some y) (hw:Weak P kp s (st x0))
  (hr:∀ x z,body x=some z→Sm P N kp c (st x) fun e s'=>match e with | .normal=>∃ x',z = .inl x'∧Weak P kp s' (st x') | e=>(∃ y',z = .inr y')∧(z = .inr y→Q e s')):Sm P N kp (.loop c) s Q:=by
 refine Sm.loop (X:=Nat×X) (fun p=>st p.2) (fun p=>azk body p.1 p.2=some y) (fun p=>p.1) (n,x0) hy hw ?_
 rintro ⟨m,x⟩ hI
 dsimp only at hI ⊢
 cases m with
 | zero=>simp [azk] at hI
 | succ m =>
  simp only [azk] at hI
  cases hb:body x with
  | none=>simp [hb] at hI
  | some z =>
   refine (hr x z hb).mono fun e s' hq=>?_
   cases z with
   | inl x' =>
    simp only [hb] at hI
    cases e with
    | normal =>
     obtain ⟨x'',h1,h2⟩:=hq
     cases h1
     exact ⟨(m,x'),hI,by simp,h2⟩
    | _=>obtain ⟨⟨y',h⟩,_⟩:=hq;cases h
   | inr y' =>
    simp only [hb,Option.some.injEq] at hI
    subst hI
    cases e with
    | normal=>obtain ⟨x'',h1,h2⟩:=hq;cases h1
    | _=>exact hq.2 rfl
def az9 (tm:Nat→A) (d:Option Nat) (want:Bool):Option Bool :=
 match d with
 | some d=>match tm d with
  | .c .bool x=>some (x.toBool == want)
  | .when g (.c .bool x)=>some (g && x.toBool == want)
  | _=>none
 | none=>none
def gdst (ops:List Oper) (o:Oper):Option Nat :=
 match o.guard with
 | some (j,_)=>match ops[j]? with
  | some q=>q.dst
  | none=>none
 | none=>none
def resolve (ops:List Oper):List Oper→List (Option Nat×Oper)
 | []=>[]
 | o :: os=>(gdst ops o,o) :: resolve ops os
theorem czk (ops:List Oper) (tm:Nat→A) (j:Nat) (want:Bool):guardOf ops tm j want=az9 tm (match ops[j]? with | some q=>q.dst | none=>none) want:=by
 unfold guardOf az9
 cases ops[j]? with
 | none=>rfl
 | some q =>
  dsimp only
  cases q.dst with
  | none=>rfl
  | some v =>
   dsimp only
   cases tm v with
   | c k x=>cases k <;> rfl
   | when g a=>cases a with
    | c k x=>cases k <;> rfl
    | _=>rfl
   | _=>rfl
def effG (P:Program) (Γ:List Fn) (gd:Option Nat) (o:Oper) (tm:Nat→A) (hp:Nat→Blk):Option (Prop×Prop×A×(Nat→Blk)) :=
 match o.op with
 | .pick c a b =>
  match aj4 tm c with
  | .c .bool x =>
   match czx x.toBool (aj4 tm a) (aj4 tm b) with
   | some r=>match o.guard with
    | none=>some (aj6 tm [c]∧ayy x.toBool (akf tm a)∧ayy (!x.toBool) (akf tm b),True,r,hp)
    | some (_,want)=>match az9 tm gd want with
     | some g=>some ((g=true→aj6 tm [c])∧ayy (g && x.toBool) (akf tm a)∧ayy (g && !x.toBool) (akf tm b),True,.when g r,hp)
     | none=>none
   | none=>none
  | _=>none
 | _ =>
  match opA P Γ o tm hp (aj4 tm) with
  | none=>none
  | some r=>match o.guard with
   | none=>some (aj6 tm o.op.operands.toList∧r.pre,r.fact,r.val,r.hp)
   | some (_,want)=>match az9 tm gd want with
    | some g=>if r.q then some ((g=true→aj6 tm o.op.operands.toList∧r.pre),True,.when g r.val,hp) else none
    | none=>none
theorem bq5 (ops:List Oper) (o:Oper) (tm:Nat→A) (hp:Nat→Blk):eff P Γ ops o tm hp=effG P Γ (gdst ops o) o tm hp:=by
 obtain ⟨dst,op,type,pos,after,guard⟩:=o
 cases guard with
 | none=>cases op <;> rfl
 | some q =>
  obtain ⟨j,w⟩:=q
  cases op <;> (simp only [eff,effG,gdst,czk]) <;> rfl
def stepG (P:Program) (Γ:List Fn) (gd:Option Nat) (o:Oper) (s:S) (K:S→Prop):Prop :=
 match effG P Γ gd o s.tm s.hp with
 | none=>False
 | some (p,f,v,hp')=>p∧(f→K ⟨updD s.tm o.dst v,hp'⟩)
def ewy (P:Program) (Γ:List Fn) (gd:Option Nat) (o:Oper) (s:S) (K:S→Prop):Prop :=
 match effG P Γ gd o s.tm s.hp with
 | none=>False
 | some (p,_,v,hp')=>p∧(cjy o=true→hp'=s.hp)∧K ⟨updD s.tm o.dst v,hp'⟩
def bql (P:Program) (Γ:List Fn):List (Option Nat×Oper)→S→(S→Prop)→Prop
 | [],s,Q=>Q s
 | (g,o) :: os,s,Q=>stepG P Γ g o s fun s'=>bql P Γ os s' Q
def bke (P:Program) (Γ:List Fn):List (Option Nat×Oper)→S→(S→Prop)→Prop
 | [],s,Q=>Q s
 | (g,o) :: os,s,Q=>ewy P Γ g o s fun s'=>bke P Γ os s' Q
theorem dyy (ops:List Oper) {Q:S→Prop}:∀ (l:List Oper) (s:S),bql P Γ (resolve ops l) s Q→byh P Γ ops l s Q
 | [],s,h=>h
 | o :: os,s,h=>by
  simp only [resolve,bql,stepG,byh,ew4,ckr,bq5] at h ⊢
  cases hz:effG P Γ (gdst ops o) o s.tm s.hp with
  | none=>simp [hz] at h
  | some q =>
   simp only [hz,Option.map_some] at h ⊢
   exact ⟨h.1,fun hf=>dyy ops os _ (h.2 hf)⟩
theorem eji (ops:List Oper) {Q:S→Prop}:∀ (l:List Oper) (s:S),bke P Γ (resolve ops l) s Q→cqs P Γ ops l s Q
 | [],s,h=>h
 | o :: os,s,h=>by
  simp only [resolve,bke,ewy,cqs,bqq,bq5] at h ⊢
  cases hz:effG P Γ (gdst ops o) o s.tm s.hp with
  | none=>simp [hz] at h
  | some q =>
   simp only [hz] at h ⊢
   exact ⟨h.1,h.2.1,eji ops os _ h.2.2⟩
theorem Sm.regA {id:Nat} {ops:Array Oper} {Q:Exit→S→Prop} (h00:tyI P 0=none) (hm:P.follows .mixedOrders=true) (hΓ:∀ g,g∈Γ→aj9 P g) (hok:codeOk N (.region id ops false)=true)
  (h:bql P Γ (resolve ops.toList ops.toList) s (Q .normal)):Sm P N kp (.region id ops false) s Q:=by
 refine Sm.of (Γ:=Γ) h00 hm hΓ hok ?_
 simp only [wpA]
 exact dyy _ _ _ h
theorem Sm.regD {id:Nat} {ops:Array Oper} {Q:Exit→S→Prop} (h00:tyI P 0=none) (hm:P.follows .mixedOrders=true) (hΓ:∀ g,g∈Γ→aj9 P g) (hok:codeOk N (.region id ops true)=true)
  (h:bke P Γ (resolve ops.toList ops.toList) s (Q .normal)):Sm P N kp (.region id ops true) s Q:=by
 refine Sm.of (Γ:=Γ) h00 hm hΓ hok ?_
 simp only [wpA]
 exact eji _ _ _ h
theorem Sm.seqA {id:Nat} {ops:Array Oper} {b:Code} {Q:Exit→S→Prop} (h00:tyI P 0=none) (hm:P.follows .mixedOrders=true) (hΓ:∀ g,g∈Γ→aj9 P g) (hok:codeOk N (.region id ops false)=true)
  (h:∀ K:S→Prop,(∀ s',Sm P N kp b s' Q→K s')→bql P Γ (resolve ops.toList ops.toList) s K):Sm P N kp (.seq (.region id ops false) b) s Q :=
 Sm.seq (Sm.regA h00 hm hΓ hok (h (fun s'=>Sm P N kp b s' Q) (fun _ h=>h)))
theorem Sm.seqD {id:Nat} {ops:Array Oper} {b:Code} {Q:Exit→S→Prop} (h00:tyI P 0=none) (hm:P.follows .mixedOrders=true) (hΓ:∀ g,g∈Γ→aj9 P g) (hok:codeOk N (.region id ops true)=true)
  (h:∀ K:S→Prop,(∀ s',Sm P N kp b s' Q→K s')→bke P Γ (resolve ops.toList ops.toList) s K):Sm P N kp (.seq (.region id ops true) b) s Q :=
 Sm.seq (Sm.regD h00 hm hΓ hok (h (fun s'=>Sm P N kp b s' Q) (fun _ h=>h)))
theorem gcI {p q:Prop} (hq:q) (hp:p:=by first | with_reducible assumption | omega | (intro hh;(repeat refine ⟨hh,?_⟩);revert hh;with_reducible assumption)):p∧q:=⟨hp,hq⟩
theorem opsG {g:Option Nat} {o:Oper} {os:List (Option Nat×Oper)} {Q:S→Prop} (h:∀ K:S→Prop,(∀ s',bql P Γ os s' Q→K s')→stepG P Γ g o s K):bql P Γ ((g,o) :: os) s Q:=h _ fun _ x=>x
theorem opsH {g:Option Nat} {o:Oper} {os:List (Option Nat×Oper)} {Q:S→Prop} (h:∀ K:S→Prop,(∀ s',bke P Γ os s' Q→K s')→ewy P Γ g o s K):bke P Γ ((g,o) :: os) s Q:=h _ fun _ x=>x
theorem eqz {Q:S→Prop} (h:Q s):bql P Γ [] s Q:=h
theorem fjf {Q:S→Prop} (h:Q s):bke P Γ [] s Q:=h
def mkFn {A R:Type} [Inhabited R] (f:FuncId) (ps:List (Bool×List Kd)) (refs:Bool) (dec:List (List C)→A) (enc:A→List (List C)) (F:A→Option R) (res:R→List Go.AE.A) (rows:R→List Blk):Fn :=
 ⟨f,ps,refs,fun xs=>⟨xs=enc (dec xs)∧(F (dec xs)).isSome=true,res ((F (dec xs)).getD default),rows ((F (dec xs)).getD default)⟩⟩
theorem bwr {A R:Type} [Inhabited R] {f:FuncId} {ps:List (Bool×List Kd)} {refs:Bool} {dec:List (List C)→A} {enc:A→List (List C)} {F:A→Option R} {res:R→List Go.AE.A} {rows:R→List Blk} {fn:Func} (c:Code)
  (h00:tyI P 0=none) (hf:P.funcs[f]? = some fn) (hb:fn.body=some c) (henter:∀ args w,(callFunc f args).run P w = .ok (.enter f args) w) (hN:ps.length≤fn.ntmps)
  (hscalar:refs=false→∀ r,akk (res r)=true∧∀ b∈rows r,∃ t es E,b = .row t es∧tyI P t=some E∧E.kinds.all aqo=true)
  (h:∀ (a:A) (r:R),F a=some r→Sm P fn.ntmps 0 c ⟨bkq ps (enc a) 0,fun _=>.dead⟩ (Ret P fn.results.toList ⟨True,res r,rows r⟩)):aj9 P (mkFn f ps refs dec enc F res rows):=by
 refine dq1 h00 hf hb henter hN (fun hr cs=>hscalar hr _) fun cs h1 h2 hpre=>?_
 obtain ⟨hc,hs⟩:=hpre
 obtain ⟨r,hF⟩:=Option.isSome_iff_exists.1 hs
 have:=h (dec cs) r hF
 rw [← hc] at this
 refine this.mono fun e s hq=>?_
 have e1:(F (dec cs)).getD default=r:=by rw [hF];rfl
 cases e with
 | normal=>obtain ⟨ret,hq⟩:=hq;refine ⟨ret,?_⟩;unfold cjd at hq ⊢;simp only [mkFn,e1];exact hq
 | ret=>obtain ⟨ret,hq⟩:=hq;refine ⟨ret,?_⟩;unfold cjd at hq ⊢;simp only [mkFn,e1];exact hq
 | _=>exact hq
end Go.AE
