/- Text. -/
import Derived.Test.YtfhnelkbiihpiaaGreatDoorAE24
import Derived.Scope
set_option linter.unusedVariables false
open _root_.Array renaming mem_toList_iff→jp,mem_append→j7
open _root_.List renaming length_append→jh,length_map→jL,getD_eq_getElem?_getD→jb,getElem?_append_left→jr,getElem_mem→jC,getElem?_append_right→jt
open Go.Op renaming operands→jc
open _root_.Option.some renaming injEq→ja
open Go.Result renaming andThen_ok→jl
open Go.Sem renaming run_bind→jn,run_pure→jy
namespace Go.AE
open Go.RowKit (Below)
variable {P:Program} {w0:Base} {w:World} {N kp:Nat} {σ:Nat→RefI} {s:S} {tms:Array Value} {ρ:Operand→Value} {al:Nat→Prop} {Γ:List Fn}
def dyl (P:Program) (o:Oper) (s:S) (K:S→Prop):Prop :=
 match o.guard with
 | none=>match opX P o s.hp (aj4 s.tm) with
  | some r=>aj6 s.tm o.op.operands.toList∧r.pre∧(r.fact→K ⟨updD s.tm o.dst r.val,r.hp⟩)
  | none=>False
 | some _=>False
def cy4 (hp:Nat→Blk):A→Option (List (List C))
 | .c (.slice _) c=>some c.toSl
 | .own id _ off len=>match hp id with
  | .row _ es=>some ((es.drop off).take len)
  | .frz _ es=>some ((es.drop off).take len)
  | _=>none
 | .nilsl=>some []
 | .rg id (.slice _) c=>match hp id with
  | .reg=>some c.toSl
  | _=>none
 | _=>none
def ej4 (P:Program) (o:Oper) (s:S) (K:S→Prop):Prop :=
 match o.guard,o.op with
 | none,.binOp op t x y _=>match aj4 s.tm y,cy4 s.hp (aj4 s.tm x),slE P t with
  | .nilsl,some l,some _=>match op with
   | .eql=>aj6 s.tm [x,y]∧∀ b:Bool,(b=true→l=[])→K ⟨updD s.tm o.dst (kb b),s.hp⟩
   | .neq=>aj6 s.tm [x,y]∧∀ b:Bool,(b=true→l=[])→K ⟨updD s.tm o.dst (kb (!b)),s.hp⟩
   | _=>False
  | _,_,_=>False
 | _,_=>False
structure eyp (P:Program) (g:FuncId) (acts:List A) (hp:Nat→Blk) (val:A) (hp':Nat→Blk):Prop where
 ex:∃ as hs res hs' ids keys,bjw P g as hs res hs'∧bja hp (mL ids) hs.length ids hs∧aq1 hp (mL ids) hs.length as acts∧disj ids (aqw as acts)=true∧bqg (ids ++ keys)=true∧ak6 hp keys=true ∧
  keys.length+hs.length=hs'.length∧val=ayh (bj8 (mL (ids ++ keys)) res)∧hp'=putAll (ids ++ keys) (hs'.map (renB (mL (ids ++ keys)))) (freezeAll hp (aqw as acts))
def djw (P:Program) (o:Oper) (s:S) (K:S→Prop):Prop :=
 match o.guard,o.op with
 | none,.call c=>match c.callee with
  | .value f=>match aj4 s.tm f with
   | .fnv g caps=>aj6 s.tm o.op.operands.toList∧∃ val hp',eyp P g (c.args.toList.map (aj4 s.tm) ++ caps) s.hp val hp'∧K ⟨updD s.tm o.dst val,hp'⟩
   | .fnb g caps=>aj6 s.tm o.op.operands.toList∧∃ val hp',eyp P g (caps ++ c.args.toList.map (aj4 s.tm)) s.hp val hp'∧K ⟨updD s.tm o.dst val,hp'⟩
   | _=>False
  | _=>False
 | _,_=>False
def akc (P:Program) (N:Nat) (ops:List Oper) (o:Oper) (s:S) (K:S→Prop):Prop :=
 ∀ (w0:Base) (a:Act) (w:World),Rel P w0 N s a.tmps w →
  (Region.wanted o (yielded ops.toArray a.tmps)=true→∀ (K':Act→World→Prop) (Q:Exit→Act→World→Prop),(∀ s' a' w',a'.defers=a.defers→K s'→Rel P w0 N s' a'.tmps w'→K' a' w')→o.wp P a w K' Q) ∧
  (Region.wanted o (yielded ops.toArray a.tmps)=false→∃ s',K s'∧Rel P w0 N s' (a.put o.dst undef).tmps w)
theorem akc.mono {ops:List Oper} {o:Oper} {K K2:S→Prop} (h:akc P N ops o s K) (hK:∀ s,K s→K2 s):akc P N ops o s K2:=fun w0 a w hR =>
 ⟨fun hw K' Q hq=>(h w0 a w hR).1 hw K' Q (fun s' a' w' h1 h2 h3=>hq s' a' w' h1 (hK _ h2) h3),fun hw=>by obtain ⟨s',h1,h2⟩:=(h w0 a w hR).2 hw;exact ⟨s',hK _ h1,h2⟩⟩
theorem czy {ops:List Oper} {o:Oper} {K:S→Prop} (h00:tyI P 0=none) (hΓ:∀ g,g∈Γ→aj9 P g) (hok:awj N o=true) (h:stepG P Γ (gdst ops o) o s K):akc P N ops o s K:=by
 intro w0 a w hR
 obtain ⟨hd,ho⟩:=aqp hok
 unfold stepG at h
 cases hz:effG P Γ (gdst ops o) o s.tm s.hp with
 | none=>rw [hz] at h;exact h.elim
 | some q =>
  obtain ⟨p,f,v,hp'⟩:=q
  rw [hz] at h
  dsimp only at h
  have hst:ckr P Γ ops o s=some (p,f,⟨updD s.tm o.dst v,hp'⟩):=by
   simp only [ckr,bq5,hz,Option.map_some]
  obtain ⟨h1,h2⟩:=bzo h00 hΓ hd ho hR hst h.1
  exact ⟨fun hw K' Q hq=>h1 hw K' Q (fun a' w' e hf hr=>hq _ a' w' e (h.2 hf) hr),fun hw=>⟨_,h.2 (h2 hw).1,(h2 hw).2⟩⟩
theorem awc {ops:List Oper} {o:Oper} {a:Act} (hg:o.guard=none):Region.wanted o (yielded ops.toArray a.tmps)=true:=by simp [Region.wanted,hg]
theorem cwe {ops:List Oper} {o:Oper} {K:S→Prop} (hg:o.guard=none) (hok:awj N o=true) (r:Out)
  (h:∀ (w0:Base) (a:Act) (w:World) (σ:Nat→RefI),RelL P w0 N σ s a.tmps w→OpOk P w0 N s a.tmps o a.eval w r) (hK:r.fact→K ⟨updD s.tm o.dst r.val,r.hp⟩):akc P N ops o s K:=by
 intro w0 a w hR
 obtain ⟨hd,_⟩:=aqp hok
 refine ⟨fun _ K' Q hq=>?_,fun hw=>by rw [awc hg] at hw;cases hw⟩
 obtain ⟨σ,hR⟩:=hR
 unfold Oper.wp
 rcases h w0 a w σ hR with ⟨v,w',hr,hf,σ',hR',hv⟩ | ⟨w',hr,hv,hf,σ',hR'⟩ | ⟨g,args,hr,hf,hc⟩
 ·rw [hr]
  exact hq _ _ _ (put_defers _ _ _) (hK hf) ⟨σ',Rel.putD hd hR' hv⟩
 ·rw [hr]
  refine hq _ _ _ (put_defers _ _ _) (hK hf) ⟨σ',Rel.putD hd hR' ?_⟩
  rw [hv];exact .unk _
 ·rw [hr]
  refine hc.mono ?_
  rintro e w' ⟨v,rfl,σ',hR',hv⟩
  exact hq _ _ _ (put_defers _ _ _) (hK hf) ⟨σ',Rel.putD hd hR' hv⟩
theorem dwt {ops:List Oper} {o:Oper} {K:S→Prop} (hok:awj N o=true) (h:dyl P o s K):akc P N ops o s K:=by
 unfold dyl at h
 split at h
 ·rename_i hg
  split at h
  ·rename_i r hop
   obtain ⟨hn,hp,hK⟩:=h
   obtain ⟨_,ho⟩:=aqp hok
   exact cwe hg hok r (fun w0 a w σ hR=>ej2 hR hop (fun x hx=>aqb hR (ho x hx) (ajo hn x (jp.2 hx))) hp) hK
  ·exact h.elim
 ·exact h.elim
theorem dy9 {x:A} {v:Value} {l:List (List C)} (h:RelL P w0 N σ s tms w) (hn:cy4 s.hp x=some l) (hx:ARel P w (Al w0 w σ s.hp) σ v x):∃ a n c,v = .slice a n c∧(a=none→l=[]):=by
 have own:∀ id ks off len t es,x = .own id ks off len→(s.hp id = .row t es∨s.hp id = .frz t es)→l=(es.drop off).take len→∃ a n c,v = .slice a n c∧(a=none→l=[]):=by
  rintro id ks off len t es rfl hb rfl
  have hl:live s.hp id=true:=by unfold live;rcases hb with hb | hb <;> simp [hb]
  obtain ⟨t',es',_,_,_,_,hv⟩:=azs h hl hx
  rcases hv with ⟨rfl,rfl,_⟩ | ⟨rfl,_,a,c,rfl⟩ | ⟨b,cap,c,_,rfl,_⟩
  ·exact ⟨_,_,_,rfl,fun _=>by simp⟩
  ·exact ⟨_,_,_,rfl,fun _=>by simp⟩
  ·exact ⟨_,_,_,rfl,fun e=>by cases e⟩
 unfold cy4 at hn
 split at hn
 ·rename_i t c
  simp only [ja] at hn;subst hn
  rcases ay4 hx.c_inv with ⟨a,cc,rfl,he⟩ | ⟨b,off,cap,E',f,rfl,_⟩
  ·exact ⟨_,_,_,rfl,fun _=>he⟩
  ·exact ⟨_,_,_,rfl,fun e=>by cases e⟩
 ·rename_i id ks off len
  split at hn
  ·rename_i t es hb
   simp only [ja] at hn
   exact own id ks off len t es rfl (.inl hb) hn.symm
  ·rename_i t es hb
   simp only [ja] at hn
   exact own id ks off len t es rfl (.inr hb) hn.symm
  ·cases hn
 ·simp only [ja] at hn;subst hn
  cases hx;exact ⟨_,_,_,rfl,fun _=>rfl⟩
 ·rename_i id t c
  split at hn
  ·rename_i hb
   simp only [ja] at hn;subst hn
   have hB:=h.blks id
   rw [hb] at hB
   obtain ⟨W,Q,hσ,_⟩:=hB
   cases hx with
   | rg _ _ _ _ W' Q' hs hr =>
    rcases ay4 hr with ⟨a,cc,rfl,he⟩ | ⟨b,off,cap,E',f,rfl,_⟩
    ·exact ⟨_,_,_,rfl,fun _=>he⟩
    ·exact ⟨_,_,_,rfl,fun e=>by cases e⟩
   | rgGone _ _ _ _ hs=>rw [hσ] at hs;cases hs
  ·cases hn
 ·cases hn
theorem cq3 {t e:TypeId} (h:P.underlying t=some (.slice e)) (d:Nat) (a:Option Addr) (n c:Nat):(Op.equalIn (d+1) t (.slice a n c) (.slice none 0 0)).run P w = .ok a.isNone w:=by
 cases a <;> simp [Op.equalIn,run_underlying h]
theorem dwm {ops:List Oper} {o:Oper} {K:S→Prop} (hok:awj N o=true) (h:ej4 P o s K):akc P N ops o s K:=by
 unfold ej4 at h
 split at h
 ·rename_i op t x y yt hg ho
  split at h
  ·rename_i l q hy hl hsl
   have base:(op = .eql∨op = .neq)→aj6 s.tm [x,y]→(∀ b:Bool,(b=true→l=[])→K ⟨updD s.tm o.dst (kb (if op = .eql then b else !b)),s.hp⟩)→akc P N ops o s K:=by
    intro hop hn hK w0 a w hR
    obtain ⟨hd,hop'⟩:=aqp hok
    refine ⟨fun _ K' Q hq=>?_,fun hw=>by rw [awc hg] at hw;cases hw⟩
    obtain ⟨σ,hR⟩:=hR
    have hx:=aqb hR (hop' x (by rw [ho];simp [jc])) (ajo hn x (by simp))
    have hyv:=aqb hR (hop' y (by rw [ho];simp [jc])) (ajo hn y (by simp))
    rw [hy] at hyv
    obtain ⟨ad,n,c,hv,hnil⟩:=dy9 hR hl hx
    have hye:a.eval y = .slice none 0 0:=by generalize a.eval y=u at hyv;cases hyv;rfl
    obtain ⟨hu,_⟩:=aqa (e:=q.1) (E:=q.2) (by rw [hsl])
    have hr:(execOp a.eval o).run P w = .ok (.value (.bool (if op = .eql then ad.isNone else !ad.isNone))) w:=by
     simp only [execOp,ho,hv,hye]
     refine run_value ?_
     have hg0:(eqGuard op t x y (.slice ad n c) (.slice none 0 0)).run P w = .ok () w:=by
      unfold eqGuard
      rcases hop with rfl | rfl <;> rfl
     have he:(Op.equal t (.slice ad n c) (.slice none 0 0)).run P w = .ok ad.isNone w:=by
      exact cq3 hu 9999 ad n c
     rcases hop with rfl | rfl
     ·have hb:binOp .eql t (.slice ad n c) (.slice none 0 0)=(do pure (.bool (← Op.equal t (.slice ad n c) (.slice none 0 0)))):=rfl
      rw [hb]
      simp only [jn,hg0,jl,he,jy,if_true]
     ·have hb:binOp .neq t (.slice ad n c) (.slice none 0 0)=(do pure (.bool (!(← Op.equal t (.slice ad n c) (.slice none 0 0))))):=rfl
      rw [hb]
      simp only [jn,hg0,jl,he,jy]
      rfl
    unfold Oper.wp
    rw [hr]
    refine hq _ _ _ (put_defers _ _ _) (hK ad.isNone (fun e=>hnil (by cases ad;rfl;simp at e))) ⟨σ,Rel.putD hd hR (ARel.mk_bool _)⟩
   split at h
   ·exact base (.inl rfl) h.1 (fun b hb=>by simpa using h.2 b hb)
   ·exact base (.inr rfl) h.1 (fun b hb=>by simpa using h.2 b hb)
   ·exact h.elim
  ·exact h.elim
 ·exact h.elim
theorem cjm {ops:List Oper} {o:Oper} {K:S→Prop} (h00:tyI P 0=none) (hok:awj N o=true) (h:djw P o s K):akc P N ops o s K:=by
 unfold djw at h
 split at h
 ·rename_i c hg ho
  split at h
  ·rename_i f hcal
   split at h
   ·rename_i g caps hf
    obtain ⟨hn,val,hp',⟨⟨as,hs,res,hs',ids,keys,C0,h1,h2,h3,h4,h5,h6,rfl,rfl⟩⟩,hK⟩:=h
    obtain ⟨hd,hop'⟩:=aqp hok
    intro w0 a w hR
    refine ⟨fun _ K' Q hq=>?_,fun hw=>by rw [awc hg] at hw;cases hw⟩
    obtain ⟨σ,hR⟩:=hR
    have hmem:∀ x,(x=f∨x∈c.args.toList)→x∈o.op.operands:=by
     intro x hx
     rw [ho]
     simp only [jc,Call.operands,hcal]
     rcases hx with rfl | hx
     ·exact j7.2 (.inl (by simp))
     ·exact j7.2 (.inr (jp.1 hx))
    have hv:∀ x,(x=f∨x∈c.args.toList)→ARel P w (Al w0 w σ s.hp) σ (a.eval x) (aj4 s.tm x):=fun x hx =>
     aqb hR (hop' x (hmem x hx)) (ajo hn x (jp.2 (hmem x hx)))
    have hfv:=hv f (.inl rfl)
    rw [hf] at hfv
    obtain ⟨us,hul,hur,hfe⟩:∃ us:List Value,us.length=caps.length∧(∀ i,i < caps.length→ARel P w (Al w0 w σ s.hp) σ (us.getD i undef) (caps.getD i .unk))∧a.eval f = .func (.func g) #[] us.toArray:=by
     generalize a.eval f=u at hfv
     cases hfv with
     | fnv _ _ vs hl hh=>exact ⟨vs,hl,hh,rfl⟩
    have hcm:=cqg (vs:=c.args.toList.map a.eval ++ us) h00 C0 hR h1 h2 h3 h4 h5 h6 (by simp [hul]) (fun i hi=>by
     simp only [jh,jL] at hi
     by_cases hlt:i < c.args.toList.length
     ·have e1:(c.args.toList.map a.eval ++ us).getD i undef=a.eval c.args.toList[i]:=by
       rw [jb,jr (by simpa using hlt)];simp [show i < c.args.size by simpa using hlt]
      have e2:(c.args.toList.map (aj4 s.tm) ++ caps).getD i .unk=aj4 s.tm c.args.toList[i]:=by
       rw [jb,jr (by simpa using hlt)];simp [show i < c.args.size by simpa using hlt]
      rw [e1,e2]
      exact hv _ (.inr (jC hlt))
     ·have e1:(c.args.toList.map a.eval ++ us).getD i undef=us.getD (i - c.args.toList.length) undef:=by
       rw [jb,jt (by simpa using Nat.le_of_not_lt hlt),jL,← jb]
      have e2:(c.args.toList.map (aj4 s.tm) ++ caps).getD i .unk=caps.getD (i - c.args.toList.length) .unk:=by
       rw [jb,jt (by simpa using Nat.le_of_not_lt hlt),jL,← jb]
      rw [e1,e2]
      exact hur _ (by omega))
    have hr:(execOp a.eval o).run P w = .ok (.enter g (c.args.toList.map a.eval ++ us).toArray) w:=by
     have hcf:=C0.enter (c.args.toList.map a.eval ++ us).toArray w
     have e2:c.args.map a.eval ++ us.toArray=(c.args.toList.map a.eval ++ us).toArray:=by
      rw [← Array.toList_map];simp
     obtain ⟨callee,args,argTypes⟩:=c
     simp only at hcal
     subst hcal
     simp only [execOp,ho,Go.resolve,jn,hfe,Deferred.ofValue,jy,jl,invoke]
     simpa [e2] using hcf
    unfold Oper.wp
    rw [hr]
    refine hcm.mono ?_
    rintro e w' ⟨v,rfl,σ',hR',hv'⟩
    exact hq _ _ _ (put_defers _ _ _) hK ⟨σ',Rel.putD hd hR' hv'⟩
   ·rename_i g caps hf
    obtain ⟨hn,val,hp',⟨⟨as,hs,res,hs',ids,keys,C0,h1,h2,h3,h4,h5,h6,rfl,rfl⟩⟩,hK⟩:=h
    obtain ⟨hd,hop'⟩:=aqp hok
    intro w0 a w hR
    refine ⟨fun _ K' Q hq=>?_,fun hw=>by rw [awc hg] at hw;cases hw⟩
    obtain ⟨σ,hR⟩:=hR
    have hmem:∀ x,(x=f∨x∈c.args.toList)→x∈o.op.operands:=by
     intro x hx
     rw [ho]
     simp only [jc,Call.operands,hcal]
     rcases hx with rfl | hx
     ·exact j7.2 (.inl (by simp))
     ·exact j7.2 (.inr (jp.1 hx))
    have hv:∀ x,(x=f∨x∈c.args.toList)→ARel P w (Al w0 w σ s.hp) σ (a.eval x) (aj4 s.tm x):=fun x hx =>
     aqb hR (hop' x (hmem x hx)) (ajo hn x (jp.2 (hmem x hx)))
    have hfv:=hv f (.inl rfl)
    rw [hf] at hfv
    obtain ⟨us,hul,hur,hfe⟩:∃ us:List Value,us.length=caps.length∧(∀ i,i < caps.length→ARel P w (Al w0 w σ s.hp) σ (us.getD i undef) (caps.getD i .unk))∧a.eval f = .func (.func g) us.toArray #[]:=by
     generalize a.eval f=u at hfv
     cases hfv with
     | fnb _ _ vs hl hh=>exact ⟨vs,hl,hh,rfl⟩
    have hcm:=cqg (vs:=us ++ c.args.toList.map a.eval) h00 C0 hR h1 h2 h3 h4 h5 h6 (by simp [hul]) (fun i hi=>by
     simp only [jh,jL] at hi
     by_cases hlt:i < us.length
     ·have e1:(us ++ c.args.toList.map a.eval).getD i undef=us.getD i undef:=by
       rw [jb,jr hlt,← jb]
      have e2:(caps ++ c.args.toList.map (aj4 s.tm)).getD i .unk=caps.getD i .unk:=by
       rw [jb,jr (by omega),← jb]
      rw [e1,e2]
      exact hur _ (by omega)
     ·have hlt':i - us.length < c.args.toList.length:=by omega
      have hlt2:i - us.length < c.args.size:=by simpa using hlt'
      have e1:(us ++ c.args.toList.map a.eval).getD i undef=a.eval c.args.toList[i - us.length]:=by
       rw [jb,jt (Nat.le_of_not_lt hlt)];simp [hlt2]
      have e2:(caps ++ c.args.toList.map (aj4 s.tm)).getD i .unk=aj4 s.tm c.args.toList[i - us.length]:=by
       rw [jb,jt (by omega),← hul];simp [hlt2]
      rw [e1,e2]
      exact hv _ (.inr (jC hlt')))
    have hr:(execOp a.eval o).run P w = .ok (.enter g (us ++ c.args.toList.map a.eval).toArray) w:=by
     have hcf:=C0.enter (us ++ c.args.toList.map a.eval).toArray w
     have e2:us.toArray ++ c.args.map a.eval=(us ++ c.args.toList.map a.eval).toArray:=by
      rw [← Array.toList_map];simp
     obtain ⟨callee,args,argTypes⟩:=c
     simp only at hcal
     subst hcal
     simp only [execOp,ho,Go.resolve,jn,hfe,Deferred.ofValue,jy,jl,invoke]
     simpa [e2] using hcf
    unfold Oper.wp
    rw [hr]
    refine hcm.mono ?_
    rintro e w' ⟨v,rfl,σ',hR',hv'⟩
    exact hq _ _ _ (put_defers _ _ _) hK ⟨σ',Rel.putD hd hR' hv'⟩
   ·exact h.elim
  ·exact h.elim
 ·exact h.elim
def ajn (o:Oper):Oper:={ o with guard:=none }
def eyo (P:Program) (Γ:List Fn) (o:Oper) (s:S) (K:S→Prop):Prop :=
 stepG P Γ none (ajn o) s K∨dyl P (ajn o) s K∨ej4 P (ajn o) s K∨djw P (ajn o) s K
def stepT (P:Program) (Γ:List Fn) (gd:Option Nat) (o:Oper) (s:S) (K:S→Prop):Prop :=
 match o.guard with
 | some (_,want)=>match az9 s.tm gd want with
  | some g=>g=true∧eyo P Γ o s K
  | none=>False
 | none=>False
def dzo (gd:Option Nat) (o:Oper) (s:S) (K:S→Prop):Prop :=
 match o.guard with
 | some (_,want)=>match az9 s.tm gd want with
  | some g=>g=false∧K ⟨updD s.tm o.dst (.when false (.c .bool (.bool false))),s.hp⟩
  | none=>False
 | none=>False
def cj5 (o:Oper) (s:S) (K:S→Prop):Prop :=
 match o.guard,o.op with
 | none,.pick c a b=>match aj4 s.tm c with
  | .c .bool x=>aj6 s.tm [c]∧((x.toBool=true∧aj6 s.tm [a]∧K ⟨updD s.tm o.dst (aj4 s.tm a),s.hp⟩)∨(x.toBool=false∧aj6 s.tm [b]∧K ⟨updD s.tm o.dst (aj4 s.tm b),s.hp⟩))
  | _=>False
 | _,_=>False
theorem awo {ops:List Oper} {o:Oper} {j:Nat} {want:Bool} (hg:o.guard=some (j,want)) (tm:Nat→A):guardOf ops tm j want=az9 tm (gdst ops o) want:=by
 rw [czk]
 unfold gdst
 rw [hg]
theorem ewq {ops:List Oper} {o:Oper} {K:S→Prop} (h00:tyI P 0=none) (hΓ:∀ g,g∈Γ→aj9 P g) (hok:awj N o=true) (h:eyo P Γ o s K):akc P N ops (ajn o) s K:=by
 have hok':awj N (ajn o)=true:=hok
 have e:gdst ops (ajn o)=none:=rfl
 rcases h with h | h | h | h
 ·exact czy h00 hΓ hok' (by rw [e];exact h)
 ·exact dwt hok' h
 ·exact dwm hok' h
 ·exact cjm h00 hok' h
theorem dzd {ops:List Oper} {o:Oper} {K:S→Prop} (h00:tyI P 0=none) (hΓ:∀ g,g∈Γ→aj9 P g) (hok:awj N o=true) (h:stepT P Γ (gdst ops o) o s K):akc P N ops o s K:=by
 unfold stepT at h
 split at h
 ·rename_i j want hg
  split at h
  ·rename_i g hgt
   obtain ⟨rfl,h⟩:=h
   have hU:=ewq (ops:=ops) h00 hΓ hok h
   intro w0 a w hR
   have hR0:=hR
   obtain ⟨σ,hR'⟩:=hR
   have hw:=aw9 hR' hg ((awo hg s.tm).trans hgt)
   refine ⟨fun _ K' Q hq=>?_,fun hw'=>by rw [hw] at hw';cases hw'⟩
   exact (hU w0 a w hR0).1 (awc rfl) K' Q hq
  ·exact h.elim
 ·exact h.elim
theorem ckm {ops:List Oper} {o:Oper} {K:S→Prop} (hok:awj N o=true) (h:dzo (gdst ops o) o s K):akc P N ops o s K:=by
 unfold dzo at h
 split at h
 ·rename_i j want hg
  split at h
  ·rename_i g hgt
   obtain ⟨rfl,h⟩:=h
   intro w0 a w hR
   obtain ⟨hd,_⟩:=aqp hok
   obtain ⟨σ,hR'⟩:=hR
   have hw:=aw9 hR' hg ((awo hg s.tm).trans hgt)
   refine ⟨fun hw'=>?_,fun _=>⟨_,h,⟨σ,Rel.putD hd hR' (.whenF _)⟩⟩⟩
   rw [hw] at hw';cases hw'
  ·exact h.elim
 ·exact h.elim
theorem cjt {ops:List Oper} {o:Oper} {K:S→Prop} (hok:awj N o=true) (h:cj5 o s K):akc P N ops o s K:=by
 unfold cj5 at h
 split at h
 ·rename_i c x y hg ho
  split at h
  ·rename_i cx hc
   obtain ⟨hn,h⟩:=h
   intro w0 a w hR
   obtain ⟨hd,hop⟩:=aqp hok
   refine ⟨fun _ K' Q hq=>?_,fun hw=>by rw [awc hg] at hw;cases hw⟩
   obtain ⟨σ,hR⟩:=hR
   have hcv:=aqb hR (hop c (by rw [ho];simp [jc])) (ajo hn c (by simp))
   rw [hc] at hcv
   have hcb:a.eval c = .bool cx.toBool:=hcv.bool_inv
   have hr:(execOp a.eval o).run P w = .ok (.value (if cx.toBool then a.eval x else a.eval y)) w:=by
    simp only [execOp,ho,hcb,asBool,pure_bind]
    rfl
   unfold Oper.wp
   rw [hr]
   rcases h with ⟨h1,h2,h3⟩ | ⟨h1,h2,h3⟩
   ·refine hq _ _ _ (put_defers _ _ _) h3 ⟨σ,Rel.putD hd hR ?_⟩
    rw [h1]
    exact aqb hR (hop x (by rw [ho];simp [jc])) (ajo h2 x (by simp))
   ·refine hq _ _ _ (put_defers _ _ _) h3 ⟨σ,Rel.putD hd hR ?_⟩
    rw [h1]
    exact aqb hR (hop y (by rw [ho];simp [jc])) (ajo h2 y (by simp))
  ·exact h.elim
 ·exact h.elim
def akl (P:Program) (st:Oper→S→(S→Prop)→Prop):Prop :=
 ∀ (N:Nat) (ops:List Oper) (o:Oper) (s:S) (K:S→Prop),awj N o=true→st o s K→akc P N ops o s K
def ajh (P:Program) (Γ:List Fn):List (Option Nat×Oper)→S→(S→Prop)→Prop
 | [],s,Q=>Q s
 | (g,o) :: os,s,Q=>stepG P Γ g o s (fun s'=>ajh P Γ os s' Q)∨dyl P o s (fun s'=>ajh P Γ os s' Q)∨ej4 P o s (fun s'=>ajh P Γ os s' Q)∨djw P o s (fun s'=>ajh P Γ os s' Q) ∨
   stepT P Γ g o s (fun s'=>ajh P Γ os s' Q)∨dzo g o s (fun s'=>ajh P Γ os s' Q)∨cj5 o s (fun s'=>ajh P Γ os s' Q) ∨
   (∃ st,akl P st∧st o s (fun s'=>ajh P Γ os s' Q))∨(∃ st,akl P st∧∃ j want,o.guard=some (j,want)∧az9 s.tm g want=some true∧st (ajn o) s (fun s'=>ajh P Γ os s' Q))
theorem bw1 {ops:List Oper} {Q':Exit→Act→World→Prop} (h00:tyI P 0=none) (hΓ:∀ g,g∈Γ→aj9 P g) (Q:S→Prop):∀ (l:List Oper) (s:S) (a:Act) (w:World),(∀ o,o∈l→awj N o=true) →
  ajh P Γ (resolve ops l) s Q→Rel P w0 N s a.tmps w→(∀ s' a' w',a'.defers=a.defers→Rel P w0 N s' a'.tmps w'→Q s'→Q' .normal a' w')→wpList P ops.toArray Q' l a w
 | [],s,a,w,_,h,hR,hQ=>hQ s a w rfl hR h
 | o :: l,s,a,w,hok,h,hR,hQ=>by
  simp only [resolve,ajh] at h
  have ho:=hok o (by simp)
  have hst:akc P N ops o s (fun s'=>ajh P Γ (resolve ops l) s' Q):=by
   rcases h with h | h | h | h | h | h | h | ⟨st,hs,h⟩ | ⟨st,hs,j,want,hg,hgt,h⟩
   ·exact czy h00 hΓ ho h
   ·exact dwt ho h
   ·exact dwm ho h
   ·exact cjm h00 ho h
   ·exact dzd h00 hΓ ho h
   ·exact ckm ho h
   ·exact cjt ho h
   ·exact hs _ _ _ _ _ ho h
   ·have hU:=hs N ops (ajn o) s _ ho h
    intro w0 a w hR
    have hR0:=hR
    obtain ⟨σ,hR'⟩:=hR
    have hw:=aw9 hR' hg ((awo hg s.tm).trans hgt)
    refine ⟨fun _ K' Q hq=>?_,fun hw'=>by rw [hw] at hw';cases hw'⟩
    exact (hU w0 a w hR0).1 (awc rfl) K' Q hq
  obtain ⟨h1,h2⟩:=hst w0 a w hR
  simp only [wpList]
  cases hw:Region.wanted o (yielded ops.toArray a.tmps) with
  | true=>exact .inl (h1 hw _ _ (fun s' a' w' e hK hR'=>bw1 h00 hΓ Q l s' a' w' (fun o ho=>hok o (by simp [ho])) hK hR' (fun s2 a2 w2 e2 hr hq=>hQ s2 a2 w2 (e2.trans e) hr hq)))
  | false =>
   simp only [Bool.false_eq_true,if_false]
   obtain ⟨s',hK,hR'⟩:=h2 hw
   exact bw1 h00 hΓ Q l s' _ w (fun o ho=>hok o (by simp [ho])) hK hR' (fun s2 a2 w2 e2 hr hq=>hQ s2 a2 w2 (e2.trans (put_defers _ _ _)) hr hq)
theorem Sm.regX {id:Nat} {ops:Array Oper} {Q:Exit→S→Prop} (h00:tyI P 0=none) (hΓ:∀ g,g∈Γ→aj9 P g) (hok:codeOk N (.region id ops false)=true)
  (h:ajh P Γ (resolve ops.toList ops.toList) s (Q .normal)):Sm P N kp (.region id ops false) s Q:=by
 intro r w0 Q' a w hk hr hd hR hQ
 simp only [codeOk,Bool.and_eq_true,List.all_eq_true] at hok
 have:=bw1 (Q':=dwe Q') h00 hΓ (Q .normal) ops.toList s a w hok.1 h hR (fun s' a' w' h1 h2 h3=>⟨by simp,hQ _ _ _ _ _ (Ext.refl _) (h1 ▸ hd) h2 h3⟩)
 exact bza (akz hok.1) (by simpa using this)
theorem Sm.seqX {id:Nat} {ops:Array Oper} {b:Code} {Q:Exit→S→Prop} (h00:tyI P 0=none) (hm:P.follows .mixedOrders=true) (hΓ:∀ g,g∈Γ→aj9 P g) (hok:codeOk N (.region id ops false)=true)
  (h:∀ K:S→Prop,(∀ s',Sm P N kp b s' Q→K s')→ajh P Γ (resolve ops.toList ops.toList) s K):Sm P N kp (.seq (.region id ops false) b) s Q :=
 Sm.seq (Sm.regX h00 hΓ hok (h (fun s'=>Sm P N kp b s' Q) (fun _ h=>h)))
variable {g:Option Nat} {o:Oper} {os:List (Option Nat×Oper)} {Q:S→Prop}
theorem opsX {g:Option Nat} {o:Oper} {os:List (Option Nat×Oper)} {Q:S→Prop} (h:∀ K:S→Prop,(∀ s',ajh P Γ os s' Q→K s')→stepG P Γ g o s K):ajh P Γ ((g,o) :: os) s Q:=.inl (h _ fun _ x=>x)
theorem eyt {g:Option Nat} {o:Oper} {os:List (Option Nat×Oper)} {Q:S→Prop} {j:Nat} {want:Bool} (hg:o.guard=some (j,want)) (ht:az9 s.tm g want=some true) (h:∀ K:S→Prop,(∀ s',ajh P Γ os s' Q→K s')→stepG P Γ none (ajn o) s K):ajh P Γ ((g,o) :: os) s Q:=by
 refine .inr (.inr (.inr (.inr (.inl ?_))))
 simp only [stepT,hg,ht]
 exact ⟨trivial,.inl (h _ fun _ x=>x)⟩
theorem opsF {g:Option Nat} {o:Oper} {os:List (Option Nat×Oper)} {Q:S→Prop} {j:Nat} {want:Bool} (hg:o.guard=some (j,want)) (ht:az9 s.tm g want=some false) (h:ajh P Γ os ⟨updD s.tm o.dst (.when false (.c .bool (.bool false))),s.hp⟩ Q):ajh P Γ ((g,o) :: os) s Q:=by
 refine .inr (.inr (.inr (.inr (.inr (.inl ?_)))))
 simp only [dzo,hg,ht]
 exact ⟨trivial,h⟩
theorem opsP {g:Option Nat} {o:Oper} {os:List (Option Nat×Oper)} {Q:S→Prop} (h:∀ K:S→Prop,(∀ s',ajh P Γ os s' Q→K s')→cj5 o s K):ajh P Γ ((g,o) :: os) s Q:=.inr (.inr (.inr (.inr (.inr (.inr (.inl (h _ fun _ x=>x)))))))
theorem opsE {g:Option Nat} {o:Oper} {os:List (Option Nat×Oper)} {Q:S→Prop} {st:Oper→S→(S→Prop)→Prop} (hst:akl P st) (h:∀ K:S→Prop,(∀ s',ajh P Γ os s' Q→K s')→st o s K):ajh P Γ ((g,o) :: os) s Q:=.inr (.inr (.inr (.inr (.inr (.inr (.inr (.inl ⟨st,hst,h _ fun _ x=>x⟩)))))))
theorem ekl {g:Option Nat} {o:Oper} {os:List (Option Nat×Oper)} {Q:S→Prop} {st:Oper→S→(S→Prop)→Prop} (hst:akl P st) {j:Nat} {want:Bool} (hg:o.guard=some (j,want)) (ht:az9 s.tm g want=some true) (h:∀ K:S→Prop,(∀ s',ajh P Γ os s' Q→K s')→st (ajn o) s K):ajh P Γ ((g,o) :: os) s Q:=.inr (.inr (.inr (.inr (.inr (.inr (.inr (.inr ⟨st,hst,j,want,hg,ht,h _ fun _ x=>x⟩)))))))
theorem cq9 {α:Type} {c:Bool} {a b:Option α} {r:α} {p:Prop} (H:cond c a b=some r) (h1:c=true→a=some r→p) (h2:c=false→b=some r→p):p:=by
 cases c
 ·exact h2 rfl H
 ·exact h1 rfl H
theorem opsM {g:Option Nat} {d:Option Nat} {f:Operand} {args:Array Operand} {argTypes:Array TypeId} {ty:TypeId} {pos:String} {after:Array Edge} {os:List (Option Nat×Oper)} {Q:S→Prop} {gf:FuncId} {caps:List A} {as:List Arg} {hs:List Blk} {res:List A} {hs':List Blk}
  (C0:bjw P gf as hs res hs') (ids keys:List Nat) (hf:aj4 s.tm f = .fnv gf caps) (hn:aj6 s.tm (Op.call ⟨.value f,args,argTypes⟩).operands.toList) (hb:bja s.hp (mL ids) hs.length ids hs)
  (ha:aq1 s.hp (mL ids) hs.length as (args.toList.map (aj4 s.tm) ++ caps)) (hd:disj ids (aqw as (args.toList.map (aj4 s.tm) ++ caps))=true) (hnd:bqg (ids ++ keys)=true) (hk:ak6 s.hp keys=true) (hl:keys.length+hs.length=hs'.length)
  (h:ajh P Γ os ⟨updD s.tm d (ayh (bj8 (mL (ids ++ keys)) res)),putAll (ids ++ keys) (hs'.map (renB (mL (ids ++ keys)))) (freezeAll s.hp (aqw as (args.toList.map (aj4 s.tm) ++ caps)))⟩ Q) :
  ajh P Γ ((g,⟨d,.call ⟨.value f,args,argTypes⟩,ty,pos,after,none⟩) :: os) s Q:=by
 refine .inr (.inr (.inr (.inl ?_)))
 simp only [djw,hf]
 exact ⟨hn,_,_,⟨⟨as,hs,res,hs',ids,keys,C0,hb,ha,hd,hnd,hk,hl,rfl,rfl⟩⟩,h⟩
theorem fj1 {g:Option Nat} {d:Option Nat} {f:Operand} {args:Array Operand} {argTypes:Array TypeId} {ty:TypeId} {pos:String} {after:Array Edge} {os:List (Option Nat×Oper)} {Q:S→Prop} {gf:FuncId} {caps:List A} {as:List Arg} {j0:Nat} {want:Bool} {hs:List Blk} {res:List A} {hs':List Blk}
  (C0:bjw P gf as hs res hs') (ids keys:List Nat) (ht:az9 s.tm g want=some true) (hf:aj4 s.tm f = .fnv gf caps) (hn:aj6 s.tm (Op.call ⟨.value f,args,argTypes⟩).operands.toList) (hb:bja s.hp (mL ids) hs.length ids hs)
  (ha:aq1 s.hp (mL ids) hs.length as (args.toList.map (aj4 s.tm) ++ caps)) (hd:disj ids (aqw as (args.toList.map (aj4 s.tm) ++ caps))=true) (hnd:bqg (ids ++ keys)=true) (hk:ak6 s.hp keys=true) (hl:keys.length+hs.length=hs'.length)
  (h:ajh P Γ os ⟨updD s.tm d (ayh (bj8 (mL (ids ++ keys)) res)),putAll (ids ++ keys) (hs'.map (renB (mL (ids ++ keys)))) (freezeAll s.hp (aqw as (args.toList.map (aj4 s.tm) ++ caps)))⟩ Q) :
  ajh P Γ ((g,⟨d,.call ⟨.value f,args,argTypes⟩,ty,pos,after,some (j0,want)⟩) :: os) s Q:=by
 refine .inr (.inr (.inr (.inr (.inl ?_))))
 simp only [stepT,ht]
 refine ⟨trivial,.inr (.inr (.inr ?_))⟩
 simp only [djw,ajn,hf]
 exact ⟨hn,_,_,⟨⟨as,hs,res,hs',ids,keys,C0,hb,ha,hd,hnd,hk,hl,rfl,rfl⟩⟩,h⟩
theorem RetM.mk {k:Nat} {rs:List ResultVar} {res:List A} {hs':List Blk} {e:Exit} (he:e = .normal∨e = .ret) (ids:List (Option Nat)) (hp:by8 0 k ids=true) (h:cqd P s rs ids res hs'):RetM P k rs res hs' e s:=by
 rcases he with rfl | rfl <;> exact ⟨ids,hp,h⟩
end Go.AE
