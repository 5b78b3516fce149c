/- Text. -/
import Derived.Test.YtcdofkflbnpjjaaAE29
set_option linter.unusedVariables false
namespace Go.AE
variable {P:Program} {w0:Base} {w:World} {N kp:Nat} {σ:Nat→RefI} {s:S} {tms:Array Value} {ρ:Operand→Value} {al:Nat→Prop} {Γ:List Fn} {Q:Exit→S→Prop} {c:Code}
def loopE {X E Y:Type} (body:X→Option E→Option (X ⊕ Y)):Nat→X→List E→Option Y
  | 0,_,_=>none
  | n+1,x,[]=>match body x none with
    | some (.inl x')=>loopE body n x' []
    | some (.inr y)=>some y
    | none=>none
  | n+1,x,e :: r=>match body x (some e) with
    | some (.inl x')=>loopE body n x' r
    | some (.inr y)=>some y
    | none=>none
def Sel {E:Type} (l:List E) (o:Option E) (l':List E):Prop :=
  match o with
  | none=>l=[]∧l'=[]
  | some e=>l.Perm (e :: l')
theorem Sm.loopE {X E Y R:Type} (body:X→Option E→Option (X ⊕ Y)) (st:X→List E→S) (k:Y→Option R) {n:Nat} {x0:X} {l0:List E} {res:R} (hy:∀ r,r.Perm l0→(Go.AE.loopE body n x0 r).bind k=some res) (hw:Weak P kp s (st x0 l0))
    (hr:∀ x l,(∀ o l',Sel l o l'→∃ z,body x o=some z)→Sm P N kp c (st x l) fun e s'=>∃ o l' z,Sel l o l'∧body x o=some z∧(match e with | .normal=>∃ x',z = .inl x'∧Weak P kp s' (st x' l') | e=>(∃ y',z = .inr y')∧(∀ y,z = .inr y→k y=some res→Q e s'))):Sm P N kp (.loop c) s Q:=by
  refine Sm.loop (X:=Nat×X×List E) (fun p=>st p.2.1 p.2.2) (fun p=>∀ r,r.Perm p.2.2→(Go.AE.loopE body p.1 p.2.1 r).bind k=some res) (fun p=>p.1) (n,x0,l0) hy hw ?_
  rintro ⟨m,x,l⟩ hI
  dsimp only at hI ⊢
  cases m with
  | zero=>have:=hI l (.refl _);simp [Go.AE.loopE] at this
  | succ m =>
    have key:∀ o l',Sel l o l'→∃ z,body x o=some z∧(match z with | .inl x'=>∀ r,r.Perm l'→(Go.AE.loopE body m x' r).bind k=some res | .inr y'=>k y'=some res):=by
      intro o l' hs
      cases o with
      | none =>
        obtain ⟨rfl,rfl⟩:=hs
        have h:=hI [] (.refl _)
        simp only [Go.AE.loopE] at h
        cases hb:body x none with
        | none=>simp [hb] at h
        | some z =>
          refine ⟨z,rfl,?_⟩
          cases z with
          | inl x' =>
            simp only [hb] at h
            intro r hr
            rw [List.Perm.eq_nil hr];exact h
          | inr y'=>simpa [hb] using h
      | some e =>
        have h:∀ r',r'.Perm l'→(Go.AE.loopE body (m+1) x (e :: r')).bind k=some res:=fun r' hr'=>hI _ ((hr'.cons e).trans hs.symm)
        have h1:=h l' (.refl _)
        simp only [Go.AE.loopE] at h h1
        cases hb:body x (some e) with
        | none=>simp [hb] at h1
        | some z =>
          refine ⟨z,rfl,?_⟩
          cases z with
          | inl x'=>simpa [hb] using h
          | inr y'=>simpa [hb] using h1
    refine (hr x l (fun o l' hs=>let ⟨z,h,_⟩:=key o l' hs;⟨z,h⟩)).mono fun e s' hq=>?_
    obtain ⟨o,l',z,hs,hb,hq⟩:=hq
    obtain ⟨z',hb',hz⟩:=key o l' hs
    rw [hb] at hb'
    cases hb'
    cases z with
    | inl x' =>
      cases e with
      | normal =>
        obtain ⟨x'',h1,h2⟩:=hq
        cases h1
        exact ⟨(m,x',l'),hz,by simp,h2⟩
      | _=>obtain ⟨⟨y',h⟩,_⟩:=hq;cases h
    | inr y' =>
      dsimp only at hz
      cases e with
      | normal=>obtain ⟨x'',h1,_⟩:=hq;cases h1
      | _=>exact hq.2 y' rfl hz
def insE {α:Type} (x:α):List α→List (List α)
  | []=>[[x]]
  | y :: ys=>(x :: y :: ys) :: (insE x ys).map (y :: ·)
def permsE {α:Type}:List α→List (List α)
  | []=>[[]]
  | x :: xs=>(permsE xs).flatMap (insE x)
theorem mem_insE {α:Type} {x:α}:∀ {a b:List α},a ++ x :: b∈insE x (a ++ b)
  | [],[]=>by simp [insE]
  | [],y :: b=>by simp [insE]
  | y :: a,b=>by
    simp only [List.cons_append,insE,List.mem_cons,List.mem_map]
    exact .inr ⟨a ++ x :: b,mem_insE,rfl⟩
theorem mem_permsE {α:Type}:∀ {l r:List α},r.Perm l→r∈permsE l
  | [],r,h=>by rw [h.eq_nil];simp [permsE]
  | x :: l,r,h=>by
    obtain ⟨a,b,rfl⟩:=List.append_of_mem (h.mem_iff.2 List.mem_cons_self)
    have h2:(a ++ b).Perm l:=(List.perm_middle.symm.trans h).cons_inv
    simp only [permsE,List.mem_flatMap]
    exact ⟨_,mem_permsE h2,mem_insE⟩
def allP {E R:Type} [DecidableEq R] (l:List E) (f:List E→Option R):Option R :=
  if (permsE l).all (fun r=>decide (f r=f l))=true then f l else none
theorem allP_some {E R:Type} [DecidableEq R] {l:List E} {f:List E→Option R} {r:R} (h:allP l f=some r):∀ q,q.Perm l→f q=some r:=by
  intro q hq
  unfold allP at h
  split at h
  · rename_i ha
    rw [List.all_eq_true] at ha
    have:=ha q (mem_permsE hq)
    simp only [decide_eq_true_eq] at this
    rw [this];exact h
  · cases h
theorem perm_map_cons {E X:Type} {f:E→X} {l:List E} {a:X} {r:List X} (h:(l.map f).Perm (a :: r)):∃ e l',a=f e∧l.Perm (e :: l')∧(l'.map f).Perm r:=by
  have hm:a∈l.map f:=h.mem_iff.2 List.mem_cons_self
  obtain ⟨e,he,rfl⟩:=List.mem_map.1 hm
  obtain ⟨p,q,rfl⟩:=List.append_of_mem he
  refine ⟨e,p ++ q,rfl,List.perm_middle,?_⟩
  have h1:((p ++ e :: q).map f).Perm (f e :: (p ++ q).map f):=by
    exact (List.perm_middle (a:=e) (l₁:=p) (l₂:=q)).map f
  exact (h1.symm.trans h).cons_inv
theorem it_perm {id:Nat} {kk:Kd} {vp:Bool×List Kd} {cur:Option (C×List C)} {l l':List (C×List C)} (hb:s.hp id = .it kk vp cur l) (hp:l.Perm l') (w0:Base) (N:Nat) (tms:Array Value) (w:World) (hR:Rel P w0 N s tms w):Rel P w0 N ⟨s.tm,upd s.hp id (.it kk vp cur l')⟩ tms w:=by
  obtain ⟨σ,hR⟩:=hR
  refine ⟨σ,?_⟩
  have hal:∀ c,Al w0 w σ s.hp c→Al w0 w σ (upd s.hp id (.it kk vp cur l')) c:=by
    intro c hc
    refine ⟨hc.1,fun i hi=>?_,hc.2.2⟩
    have:=hc.2.1 i hi
    simp only [upd]
    by_cases e:i=id
    · subst e;rw [hb] at this;exact this.elim
    · simp only [e,if_false];exact this
  refine hR.change hR.below (Nat.le_refl _) hal (fun _ _=>rfl) (fun _ _=>.inl rfl) (fun i=>?_) hR.inj
  by_cases e:i=id
  · subst e
    refine .inr ?_
    have hB:=hR.blks i
    rw [hb] at hB
    have e0:upd s.hp i (.it kk vp cur l') i = .it kk vp cur l':=by simp [upd]
    rw [e0]
    obtain ⟨r,b,es,clock,since,seen,c0,h1,h2,h3,h4,h5,h6,⟨L,hL,hm⟩,hc⟩:=hB
    refine ⟨r,b,es,clock,since,seen,c0,h1,h2,h3,h4,h5,h6,?_,hc.mono (fun _ _=>rfl) hal⟩
    have key:∀ {l l':List (C×List C)},l.Perm l'→∀ {L:List MapEntry},MRel P w (Al w0 w σ s.hp) kk vp L l→∃ L',L'.Perm L∧MRel P w (Al w0 w σ s.hp) kk vp L' l':=by
      intro l l' hp
      induction hp with
      | nil=>intro L h;exact ⟨L,.refl _,h⟩
      | cons x _ ih =>
        intro L h
        cases L with
        | nil=>exact h.elim
        | cons a L =>
          obtain ⟨L',q1,q2⟩:=ih h.2.2
          exact ⟨a :: L',q1.cons a,h.1,h.2.1,q2⟩
      | swap x y l =>
        intro L h
        match L,h with
        | a :: b :: L,h=>exact ⟨b :: a :: L,.swap _ _ _,h.2.2.1,h.2.2.2.1,h.1,h.2.1,h.2.2.2.2⟩
        | [_],h=>exact h.2.2.elim
        | [],h=>exact h.elim
      | trans _ _ ih1 ih2 =>
        intro L h
        obtain ⟨L',q1,q2⟩:=ih1 h
        obtain ⟨L'',q3,q4⟩:=ih2 q2
        exact ⟨L'',q3.trans q1,q4⟩
    obtain ⟨L',q1,q2⟩:=key hp hm
    exact ⟨L',q1.trans hL,q2.mono (fun _ _=>rfl) hal⟩
  · exact .inl ⟨rfl,by simp [upd,e],fun _ _=>rfl⟩
def stepLT {E:Type} (f:E→C×List C) (L:List E) (o:Oper) (s:S) (K:S→Prop):Prop :=
  match o.guard,o.op with
  | none,.next x false=>match plainTm s.tm x with
    | .mref id=>match s.hp id with
      | .it kk vp _ l=>l=L.map f∧allNeeds s.tm [x]∧(L=[]→K ⟨updD s.tm o.dst (.tup [kb false]),s.hp⟩)∧(∀ e L',L.Perm (e :: L')→K ⟨updD s.tm o.dst (.tup [kb true,.unk,.unk]),upd s.hp id (.it kk vp (some (f e)) (L'.map f))⟩)
      | _=>False
    | _=>False
  | _,_=>False
theorem stepLT_ok {E:Type} (f:E→C×List C) (L:List E):StepSound P (stepLT f L):=by
  intro N ops o s K hok h
  unfold stepLT at h
  split at h
  · rename_i x hg ho
    split at h
    · rename_i id hx
      split at h
      · rename_i kk vp cur l hb
        obtain ⟨rfl,hn,h1,h2⟩:=h
        have hK:=stepL_ok (P:=P) N ops o s (fun s'=>∃ s2,K s2∧∀ w0 N tms w,Rel P w0 N s' tms w→Rel P w0 N s2 tms w) hok (by
          simp only [stepL,hg,ho,hx,hb]
          refine ⟨hn,fun hl=>⟨_,h1 (by simpa using hl),fun _ _ _ _ h=>h⟩,fun e l' hp=>?_⟩
          obtain ⟨e',L',rfl,hp',hr⟩:=perm_map_cons hp
          refine ⟨_,h2 e' L' hp',fun w0 N tms w hR=>?_⟩
          have:=it_perm (P:=P) (s:=⟨updD s.tm o.dst (.tup [kb true,.unk,.unk]),upd s.hp id (.it kk vp (some (f e')) l')⟩) (id:=id) (kk:=kk) (vp:=vp) (cur:=some (f e')) (l:=l') (l':=L'.map f) (by simp [upd]) hr.symm w0 N tms w hR
          have e0:upd (upd s.hp id (.it kk vp (some (f e')) l')) id (.it kk vp (some (f e')) (L'.map f))=upd s.hp id (.it kk vp (some (f e')) (L'.map f)):=by
            funext k;simp only [upd];split <;> rfl
          simpa only [e0] using this)
        intro w0 a w hR
        obtain ⟨q1,q2⟩:=hK w0 a w hR
        obtain ⟨σw,hRl⟩:=hR
        refine ⟨fun hw K' Q hq=>q1 hw K' Q (fun s' a' w' e1 ⟨s2,k2,hw2⟩ hR'=>hq s2 a' w' e1 k2 (hw2 _ _ _ _ hR')),fun hw=>by rw [wanted_none hg] at hw;cases hw⟩
      · exact h.elim
    · exact h.elim
  · exact h.elim
end Go.AE
