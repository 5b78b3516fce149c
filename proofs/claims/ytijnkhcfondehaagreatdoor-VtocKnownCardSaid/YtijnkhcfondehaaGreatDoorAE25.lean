/- Text. -/
import Derived.Test.YtijnkhcfondehaaGreatDoorAE24
import Derived.Scope
set_option linter.unusedVariables false
open _root_.Array renaming mem_toList_iff→jx
open _root_.List renaming length_map→jH,getD_eq_getElem?_getD→ja,getElem?_append_left→jA,getElem?_append_right→jE
open Go.Op renaming operands→je
open _root_.Option.some renaming injEq→jb
open Go.Result renaming andThen_ok→jq
open Go.Sem renaming run_bind→jy,run_pure→jJ
namespace Go.AE
open Go.RowKit (Below)
variable {P:Program} {w0:Base} {w:World} {N kp:Nat} {σ:Nat→RefI} {s:S} {tms:Array Value} {ρ:Operand→Value} {al:Nat→Prop} {Γ:List Fn}
def ewx (P:Program) (o:Oper) (s:S) (K:S→Prop):Prop :=
 match o.guard with
 | none=>match opX P o s.hp (aj8 s.tm) with
  | some r=>ajc s.tm o.op.operands.toList∧r.pre∧(r.fact→K ⟨updD s.tm o.dst r.val,r.hp⟩)
  | none=>False
 | some _=>False
def ezs (hp:Nat→Blk):A→Option (List (List C))
 | .c (.slice _) c=>some c.toSl
 | .own id _ off len=>match hp id with
  | .row _ es=>some ((es.drop off).take len)
  | .frz _ es=>some ((es.drop off).take len)
  | _=>none
 | .nilsl=>some []
 | .rg id (.slice _) c=>match hp id with
  | .reg=>some c.toSl
  | _=>none
 | _=>none
def fw7 (P:Program) (o:Oper) (s:S) (K:S→Prop):Prop :=
 match o.guard,o.op with
 | none,.binOp op t x y _=>match aj8 s.tm y,ezs s.hp (aj8 s.tm x),slE P t with
  | .nilsl,some l,some _=>match op with
   | .eql=>ajc s.tm [x,y]∧∀ b:Bool,(b=true→l=[])→K ⟨updD s.tm o.dst (kb b),s.hp⟩
   | .neq=>ajc s.tm [x,y]∧∀ b:Bool,(b=true→l=[])→K ⟨updD s.tm o.dst (kb (!b)),s.hp⟩
   | _=>False
  | _,_,_=>False
 | _,_=>False
structure gke (P:Program) (g:FuncId) (acts:List A) (hp:Nat→Blk) (val:A) (hp':Nat→Blk):Prop where
 ex:∃ as hs res hs' ids keys,awi P g as hs res hs'∧cze hp (mL ids) hs.length ids hs∧aqf hp (mL ids) hs.length as acts∧disj ids (az3 as acts)=true∧cza (ids ++ keys)=true∧bwt hp keys=true ∧
  keys.length+hs.length=hs'.length∧val=bkp (bkb (mL (ids ++ keys)) res)∧hp'=bjb (ids ++ keys) (hs'.map (renB (mL (ids ++ keys)))) (freezeAll hp (az3 as acts))
def gj4 (P:Program) (o:Oper) (s:S) (K:S→Prop):Prop :=
 match o.guard,o.op with
 | none,.call c=>match c.callee with
  | .value f=>match aj8 s.tm f with
   | .fnv g caps=>ajc s.tm o.op.operands.toList∧∃ val hp',gke P g (c.args.toList.map (aj8 s.tm) ++ caps) s.hp val hp'∧K ⟨updD s.tm o.dst val,hp'⟩
   | _=>False
  | _=>False
 | _,_=>False
def bw6 (P:Program) (N:Nat) (ops:List Oper) (o:Oper) (s:S) (K:S→Prop):Prop :=
 ∀ (w0:Base) (a:Act) (w:World),Rel P w0 N s a.tmps w →
  (Region.wanted o (yielded ops.toArray a.tmps)=true→∀ (K':Act→World→Prop) (Q:Exit→Act→World→Prop),(∀ s' a' w',a'.defers=a.defers→K s'→Rel P w0 N s' a'.tmps w'→K' a' w')→o.wp P a w K' Q) ∧
  (Region.wanted o (yielded ops.toArray a.tmps)=false→∃ s',K s'∧Rel P w0 N s' (a.put o.dst undef).tmps w)
theorem ew4 {ops:List Oper} {o:Oper} {K:S→Prop} (h00:tyI P 0=none) (hΓ:∀ g,g∈Γ→aj1 P g) (hok:azc N o=true) (h:stepG P Γ (gdst ops o) o s K):bw6 P N ops o s K:=by
 intro w0 a w hR
 obtain ⟨hd,ho⟩:=aq2 hok
 unfold stepG at h
 cases hz:effG P Γ (gdst ops o) o s.tm s.hp with
 | none=>rw [hz] at h;exact h.elim
 | some q =>
  obtain ⟨p,f,v,hp'⟩:=q
  rw [hz] at h
  dsimp only at h
  have hst:ewb P Γ ops o s=some (p,f,⟨updD s.tm o.dst v,hp'⟩):=by
   simp only [ewb,bzr,hz,Option.map_some]
  obtain ⟨h1,h2⟩:=ck8 h00 hΓ hd ho hR hst h.1
  exact ⟨fun hw K' Q hq=>h1 hw K' Q (fun a' w' e hf hr=>hq _ a' w' e (h.2 hf) hr),fun hw=>⟨_,h.2 (h2 hw).1,(h2 hw).2⟩⟩
theorem aki {ops:List Oper} {o:Oper} {a:Act} (hg:o.guard=none):Region.wanted o (yielded ops.toArray a.tmps)=true:=by simp [Region.wanted,hg]
theorem bqo {ops:List Oper} {o:Oper} {K:S→Prop} (hg:o.guard=none) (hok:azc N o=true) (r:Out)
  (h:∀ (w0:Base) (a:Act) (w:World) (σ:Nat→RefI),RelL P w0 N σ s a.tmps w→OpOk P w0 N s a.tmps o a.eval w r) (hK:r.fact→K ⟨updD s.tm o.dst r.val,r.hp⟩):bw6 P N ops o s K:=by
 intro w0 a w hR
 obtain ⟨hd,_⟩:=aq2 hok
 refine ⟨fun _ K' Q hq=>?_,fun hw=>by rw [aki hg] at hw;cases hw⟩
 obtain ⟨σ,hR⟩:=hR
 unfold Oper.wp
 rcases h w0 a w σ hR with ⟨v,w',hr,hf,σ',hR',hv⟩ | ⟨w',hr,hv,hf,σ',hR'⟩ | ⟨g,args,hr,hf,hc⟩
 ·rw [hr]
  exact hq _ _ _ (put_defers _ _ _) (hK hf) ⟨σ',Rel.putD hd hR' hv⟩
 ·rw [hr]
  refine hq _ _ _ (put_defers _ _ _) (hK hf) ⟨σ',Rel.putD hd hR' ?_⟩
  rw [hv];exact .unk _
 ·rw [hr]
  refine hc.mono ?_
  rintro e w' ⟨v,rfl,σ',hR',hv⟩
  exact hq _ _ _ (put_defers _ _ _) (hK hf) ⟨σ',Rel.putD hd hR' hv⟩
theorem fjm {ops:List Oper} {o:Oper} {K:S→Prop} (hok:azc N o=true) (h:ewx P o s K):bw6 P N ops o s K:=by
 unfold ewx at h
 split at h
 ·rename_i hg
  split at h
  ·rename_i r hop
   obtain ⟨hn,hp,hK⟩:=h
   obtain ⟨_,ho⟩:=aq2 hok
   exact bqo hg hok r (fun w0 a w σ hR=>fk1 hR hop (fun x hx=>ajs hR (ho x hx) (ajk hn x (jx.2 hx))) hp) hK
  ·exact h.elim
 ·exact h.elim
theorem fyg {x:A} {v:Value} {l:List (List C)} (h:RelL P w0 N σ s tms w) (hn:ezs s.hp x=some l) (hx:ARel P w (Al w0 w σ s.hp) σ v x):∃ a n c,v = .slice a n c∧(a=none→l=[]):=by
 have own:∀ id ks off len t es,x = .own id ks off len→(s.hp id = .row t es∨s.hp id = .frz t es)→l=(es.drop off).take len→∃ a n c,v = .slice a n c∧(a=none→l=[]):=by
  rintro id ks off len t es rfl hb rfl
  have hl:live s.hp id=true:=by unfold live;rcases hb with hb | hb <;> simp [hb]
  obtain ⟨t',es',_,_,_,_,hv⟩:=azd h hl hx
  rcases hv with ⟨rfl,rfl,_⟩ | ⟨rfl,_,a,c,rfl⟩ | ⟨b,cap,c,_,rfl,_⟩
  ·exact ⟨_,_,_,rfl,fun _=>by simp⟩
  ·exact ⟨_,_,_,rfl,fun _=>by simp⟩
  ·exact ⟨_,_,_,rfl,fun e=>by cases e⟩
 unfold ezs at hn
 split at hn
 ·rename_i t c
  simp only [jb] at hn;subst hn
  rcases ayz hx.c_inv with ⟨a,cc,rfl,he⟩ | ⟨b,off,cap,E',f,rfl,_⟩
  ·exact ⟨_,_,_,rfl,fun _=>he⟩
  ·exact ⟨_,_,_,rfl,fun e=>by cases e⟩
 ·rename_i id ks off len
  split at hn
  ·rename_i t es hb
   simp only [jb] at hn
   exact own id ks off len t es rfl (.inl hb) hn.symm
  ·rename_i t es hb
   simp only [jb] at hn
   exact own id ks off len t es rfl (.inr hb) hn.symm
  ·cases hn
 ·simp only [jb] at hn;subst hn
  cases hx;exact ⟨_,_,_,rfl,fun _=>rfl⟩
 ·rename_i id t c
  split at hn
  ·rename_i hb
   simp only [jb] at hn;subst hn
   have hB:=h.blks id
   rw [hb] at hB
   obtain ⟨W,Q,hσ,_⟩:=hB
   cases hx with
   | rg _ _ _ _ W' Q' hs hr =>
    rcases ayz hr with ⟨a,cc,rfl,he⟩ | ⟨b,off,cap,E',f,rfl,_⟩
    ·exact ⟨_,_,_,rfl,fun _=>he⟩
    ·exact ⟨_,_,_,rfl,fun e=>by cases e⟩
   | rgGone _ _ _ _ hs=>rw [hσ] at hs;cases hs
  ·cases hn
 ·cases hn
theorem dkf {t e:TypeId} (h:P.underlying t=some (.slice e)) (d:Nat) (a:Option Addr) (n c:Nat):(Op.equalIn (d+1) t (.slice a n c) (.slice none 0 0)).run P w = .ok a.isNone w:=by
 cases a <;> simp [Op.equalIn,run_underlying h]
theorem fju {ops:List Oper} {o:Oper} {K:S→Prop} (hok:azc N o=true) (h:fw7 P o s K):bw6 P N ops o s K:=by
 unfold fw7 at h
 split at h
 ·rename_i op t x y yt hg ho
  split at h
  ·rename_i l q hy hl hsl
   have base:(op = .eql∨op = .neq)→ajc s.tm [x,y]→(∀ b:Bool,(b=true→l=[])→K ⟨updD s.tm o.dst (kb (if op = .eql then b else !b)),s.hp⟩)→bw6 P N ops o s K:=by
    intro hop hn hK w0 a w hR
    obtain ⟨hd,hop'⟩:=aq2 hok
    refine ⟨fun _ K' Q hq=>?_,fun hw=>by rw [aki hg] at hw;cases hw⟩
    obtain ⟨σ,hR⟩:=hR
    have hx:=ajs hR (hop' x (by rw [ho];simp [je])) (ajk hn x (by simp))
    have hyv:=ajs hR (hop' y (by rw [ho];simp [je])) (ajk hn y (by simp))
    rw [hy] at hyv
    obtain ⟨ad,n,c,hv,hnil⟩:=fyg hR hl hx
    have hye:a.eval y = .slice none 0 0:=by generalize a.eval y=u at hyv;cases hyv;rfl
    obtain ⟨hu,_⟩:=ajx (e:=q.1) (E:=q.2) (by rw [hsl])
    have hr:(execOp a.eval o).run P w = .ok (.value (.bool (if op = .eql then ad.isNone else !ad.isNone))) w:=by
     simp only [execOp,ho,hv,hye]
     refine aje ?_
     have hg0:(eqGuard op t x y (.slice ad n c) (.slice none 0 0)).run P w = .ok () w:=by
      unfold eqGuard
      rcases hop with rfl | rfl <;> rfl
     have he:(Op.equal t (.slice ad n c) (.slice none 0 0)).run P w = .ok ad.isNone w:=by
      exact dkf hu 9999 ad n c
     rcases hop with rfl | rfl
     ·have hb:binOp .eql t (.slice ad n c) (.slice none 0 0)=(do pure (.bool (← Op.equal t (.slice ad n c) (.slice none 0 0)))):=rfl
      rw [hb]
      simp only [jy,hg0,jq,he,jJ,if_true]
     ·have hb:binOp .neq t (.slice ad n c) (.slice none 0 0)=(do pure (.bool (!(← Op.equal t (.slice ad n c) (.slice none 0 0))))):=rfl
      rw [hb]
      simp only [jy,hg0,jq,he,jJ]
      rfl
    unfold Oper.wp
    rw [hr]
    refine hq _ _ _ (put_defers _ _ _) (hK ad.isNone (fun e=>hnil (by cases ad;rfl;simp at e))) ⟨σ,Rel.putD hd hR (ARel.mk_bool _)⟩
   split at h
   ·exact base (.inl rfl) h.1 (fun b hb=>by simpa using h.2 b hb)
   ·exact base (.inr rfl) h.1 (fun b hb=>by simpa using h.2 b hb)
   ·exact h.elim
  ·exact h.elim
 ·exact h.elim
theorem fjh {ops:List Oper} {o:Oper} {K:S→Prop} (h00:tyI P 0=none) (hok:azc N o=true) (h:gj4 P o s K):bw6 P N ops o s K:=by
 unfold gj4 at h
 split at h
 ·rename_i c hg ho
  split at h
  ·rename_i f hcal
   split at h
   ·rename_i g caps hf
    obtain ⟨hn,val,hp',⟨⟨as,hs,res,hs',ids,keys,C0,h1,h2,h3,h4,h5,h6,rfl,rfl⟩⟩,hK⟩:=h
    obtain ⟨hd,hop'⟩:=aq2 hok
    intro w0 a w hR
    refine ⟨fun _ K' Q hq=>?_,fun hw=>by rw [aki hg] at hw;cases hw⟩
    obtain ⟨σ,hR⟩:=hR
    have hmem:∀ x,(x=f∨x∈c.args.toList)→x∈o.op.operands:=by
     intro x hx
     rw [ho]
     simp only [je,Call.operands,hcal]
     rcases hx with rfl | hx
     ·exact Array.mem_append.2 (.inl (by simp))
     ·exact Array.mem_append.2 (.inr (jx.1 hx))
    have hv:∀ x,(x=f∨x∈c.args.toList)→ARel P w (Al w0 w σ s.hp) σ (a.eval x) (aj8 s.tm x):=fun x hx =>
     ajs hR (hop' x (hmem x hx)) (ajk hn x (jx.2 (hmem x hx)))
    have hfv:=hv f (.inl rfl)
    rw [hf] at hfv
    obtain ⟨us,hul,hur,hfe⟩:∃ us:List Value,us.length=caps.length∧(∀ i,i < caps.length→ARel P w (Al w0 w σ s.hp) σ (us.getD i undef) (caps.getD i .unk))∧a.eval f = .func (.func g) #[] us.toArray:=by
     generalize a.eval f=u at hfv
     cases hfv with
     | fnv _ _ vs hl hh=>exact ⟨vs,hl,hh,rfl⟩
    have hcm:=ey6 (vs:=c.args.toList.map a.eval ++ us) h00 C0 hR h1 h2 h3 h4 h5 h6 (by simp [hul]) (fun i hi=>by
     simp only [List.length_append,jH] at hi
     by_cases hlt:i < c.args.toList.length
     ·have e1:(c.args.toList.map a.eval ++ us).getD i undef=a.eval c.args.toList[i]:=by
       rw [ja,jA (by simpa using hlt)];simp [show i < c.args.size by simpa using hlt]
      have e2:(c.args.toList.map (aj8 s.tm) ++ caps).getD i .unk=aj8 s.tm c.args.toList[i]:=by
       rw [ja,jA (by simpa using hlt)];simp [show i < c.args.size by simpa using hlt]
      rw [e1,e2]
      exact hv _ (.inr (List.getElem_mem hlt))
     ·have e1:(c.args.toList.map a.eval ++ us).getD i undef=us.getD (i - c.args.toList.length) undef:=by
       rw [ja,jE (by simpa using Nat.le_of_not_lt hlt),jH,← ja]
      have e2:(c.args.toList.map (aj8 s.tm) ++ caps).getD i .unk=caps.getD (i - c.args.toList.length) .unk:=by
       rw [ja,jE (by simpa using Nat.le_of_not_lt hlt),jH,← ja]
      rw [e1,e2]
      exact hur _ (by omega))
    have hr:(execOp a.eval o).run P w = .ok (.enter g (c.args.toList.map a.eval ++ us).toArray) w:=by
     have hcf:=C0.enter (c.args.toList.map a.eval ++ us).toArray w
     have e2:c.args.map a.eval ++ us.toArray=(c.args.toList.map a.eval ++ us).toArray:=by
      rw [← Array.toList_map];simp
     obtain ⟨callee,args,argTypes⟩:=c
     simp only at hcal
     subst hcal
     simp only [execOp,ho,Go.resolve,jy,hfe,Deferred.ofValue,jJ,jq,invoke]
     simpa [e2] using hcf
    unfold Oper.wp
    rw [hr]
    refine hcm.mono ?_
    rintro e w' ⟨v,rfl,σ',hR',hv'⟩
    exact hq _ _ _ (put_defers _ _ _) hK ⟨σ',Rel.putD hd hR' hv'⟩
   ·exact h.elim
  ·exact h.elim
 ·exact h.elim
def aq1 (o:Oper):Oper:={ o with guard:=none }
def gzs (P:Program) (Γ:List Fn) (o:Oper) (s:S) (K:S→Prop):Prop :=
 stepG P Γ none (aq1 o) s K∨ewx P (aq1 o) s K∨fw7 P (aq1 o) s K∨gj4 P (aq1 o) s K
def stepT (P:Program) (Γ:List Fn) (gd:Option Nat) (o:Oper) (s:S) (K:S→Prop):Prop :=
 match o.guard with
 | some (_,want)=>match akp s.tm gd want with
  | some g=>g=true∧gzs P Γ o s K
  | none=>False
 | none=>False
def fwi (gd:Option Nat) (o:Oper) (s:S) (K:S→Prop):Prop :=
 match o.guard with
 | some (_,want)=>match akp s.tm gd want with
  | some g=>g=false∧K ⟨updD s.tm o.dst (.when false (.c .bool (.bool false))),s.hp⟩
  | none=>False
 | none=>False
def eqa (o:Oper) (s:S) (K:S→Prop):Prop :=
 match o.guard,o.op with
 | none,.pick c a b=>match aj8 s.tm c with
  | .c .bool x=>ajc s.tm [c]∧((x.toBool=true∧ajc s.tm [a]∧K ⟨updD s.tm o.dst (aj8 s.tm a),s.hp⟩)∨(x.toBool=false∧ajc s.tm [b]∧K ⟨updD s.tm o.dst (aj8 s.tm b),s.hp⟩))
  | _=>False
 | _,_=>False
theorem awz {ops:List Oper} {o:Oper} {j:Nat} {want:Bool} (hg:o.guard=some (j,want)) (tm:Nat→A):guardOf ops tm j want=akp tm (gdst ops o) want:=by
 rw [ejh]
 unfold gdst
 rw [hg]
theorem gqp {ops:List Oper} {o:Oper} {K:S→Prop} (h00:tyI P 0=none) (hΓ:∀ g,g∈Γ→aj1 P g) (hok:azc N o=true) (h:gzs P Γ o s K):bw6 P N ops (aq1 o) s K:=by
 have hok':azc N (aq1 o)=true:=hok
 have e:gdst ops (aq1 o)=none:=rfl
 rcases h with h | h | h | h
 ·exact ew4 h00 hΓ hok' (by rw [e];exact h)
 ·exact fjm hok' h
 ·exact fju hok' h
 ·exact fjh h00 hok' h
theorem fjz {ops:List Oper} {o:Oper} {K:S→Prop} (h00:tyI P 0=none) (hΓ:∀ g,g∈Γ→aj1 P g) (hok:azc N o=true) (h:stepT P Γ (gdst ops o) o s K):bw6 P N ops o s K:=by
 unfold stepT at h
 split at h
 ·rename_i j want hg
  split at h
  ·rename_i g hgt
   obtain ⟨rfl,h⟩:=h
   have hU:=gqp (ops:=ops) h00 hΓ hok h
   intro w0 a w hR
   have hR0:=hR
   obtain ⟨σ,hR'⟩:=hR
   have hw:=azz hR' hg ((awz hg s.tm).trans hgt)
   refine ⟨fun _ K' Q hq=>?_,fun hw'=>by rw [hw] at hw';cases hw'⟩
   exact (hU w0 a w hR0).1 (aki rfl) K' Q hq
  ·exact h.elim
 ·exact h.elim
theorem eqx {ops:List Oper} {o:Oper} {K:S→Prop} (hok:azc N o=true) (h:fwi (gdst ops o) o s K):bw6 P N ops o s K:=by
 unfold fwi at h
 split at h
 ·rename_i j want hg
  split at h
  ·rename_i g hgt
   obtain ⟨rfl,h⟩:=h
   intro w0 a w hR
   obtain ⟨hd,_⟩:=aq2 hok
   obtain ⟨σ,hR'⟩:=hR
   have hw:=azz hR' hg ((awz hg s.tm).trans hgt)
   refine ⟨fun hw'=>?_,fun _=>⟨_,h,⟨σ,Rel.putD hd hR' (.whenF _)⟩⟩⟩
   rw [hw] at hw';cases hw'
  ·exact h.elim
 ·exact h.elim
theorem ewn {ops:List Oper} {o:Oper} {K:S→Prop} (hok:azc N o=true) (h:eqa o s K):bw6 P N ops o s K:=by
 unfold eqa at h
 split at h
 ·rename_i c x y hg ho
  split at h
  ·rename_i cx hc
   obtain ⟨hn,h⟩:=h
   intro w0 a w hR
   obtain ⟨hd,hop⟩:=aq2 hok
   refine ⟨fun _ K' Q hq=>?_,fun hw=>by rw [aki hg] at hw;cases hw⟩
   obtain ⟨σ,hR⟩:=hR
   have hcv:=ajs hR (hop c (by rw [ho];simp [je])) (ajk hn c (by simp))
   rw [hc] at hcv
   have hcb:a.eval c = .bool cx.toBool:=hcv.bool_inv
   have hr:(execOp a.eval o).run P w = .ok (.value (if cx.toBool then a.eval x else a.eval y)) w:=by
    simp only [execOp,ho,hcb,asBool,pure_bind]
    rfl
   unfold Oper.wp
   rw [hr]
   rcases h with ⟨h1,h2,h3⟩ | ⟨h1,h2,h3⟩
   ·refine hq _ _ _ (put_defers _ _ _) h3 ⟨σ,Rel.putD hd hR ?_⟩
    rw [h1]
    exact ajs hR (hop x (by rw [ho];simp [je])) (ajk h2 x (by simp))
   ·refine hq _ _ _ (put_defers _ _ _) h3 ⟨σ,Rel.putD hd hR ?_⟩
    rw [h1]
    exact ajs hR (hop y (by rw [ho];simp [je])) (ajk h2 y (by simp))
  ·exact h.elim
 ·exact h.elim
def az4 (P:Program) (st:Oper→S→(S→Prop)→Prop):Prop :=
 ∀ (N:Nat) (ops:List Oper) (o:Oper) (s:S) (K:S→Prop),azc N o=true→st o s K→bw6 P N ops o s K
def ajl (P:Program) (Γ:List Fn):List (Option Nat×Oper)→S→(S→Prop)→Prop
 | [],s,Q=>Q s
 | (g,o) :: os,s,Q=>stepG P Γ g o s (fun s'=>ajl P Γ os s' Q)∨ewx P o s (fun s'=>ajl P Γ os s' Q)∨fw7 P o s (fun s'=>ajl P Γ os s' Q)∨gj4 P o s (fun s'=>ajl P Γ os s' Q) ∨
   stepT P Γ g o s (fun s'=>ajl P Γ os s' Q)∨fwi g o s (fun s'=>ajl P Γ os s' Q)∨eqa o s (fun s'=>ajl P Γ os s' Q) ∨
   (∃ st,az4 P st∧st o s (fun s'=>ajl P Γ os s' Q))∨(∃ st,az4 P st∧∃ j want,o.guard=some (j,want)∧akp s.tm g want=some true∧st (aq1 o) s (fun s'=>ajl P Γ os s' Q))
theorem cqg {ops:List Oper} {Q':Exit→Act→World→Prop} (h00:tyI P 0=none) (hΓ:∀ g,g∈Γ→aj1 P g) (Q:S→Prop):∀ (l:List Oper) (s:S) (a:Act) (w:World),(∀ o,o∈l→azc N o=true) →
  ajl P Γ (resolve ops l) s Q→Rel P w0 N s a.tmps w→(∀ s' a' w',a'.defers=a.defers→Rel P w0 N s' a'.tmps w'→Q s'→Q' .normal a' w')→wpList P ops.toArray Q' l a w
 | [],s,a,w,_,h,hR,hQ=>hQ s a w rfl hR h
 | o :: l,s,a,w,hok,h,hR,hQ=>by
  simp only [resolve,ajl] at h
  have ho:=hok o (by simp)
  have hst:bw6 P N ops o s (fun s'=>ajl P Γ (resolve ops l) s' Q):=by
   rcases h with h | h | h | h | h | h | h | ⟨st,hs,h⟩ | ⟨st,hs,j,want,hg,hgt,h⟩
   ·exact ew4 h00 hΓ ho h
   ·exact fjm ho h
   ·exact fju ho h
   ·exact fjh h00 ho h
   ·exact fjz h00 hΓ ho h
   ·exact eqx ho h
   ·exact ewn ho h
   ·exact hs _ _ _ _ _ ho h
   ·have hU:=hs N ops (aq1 o) s _ ho h
    intro w0 a w hR
    have hR0:=hR
    obtain ⟨σ,hR'⟩:=hR
    have hw:=azz hR' hg ((awz hg s.tm).trans hgt)
    refine ⟨fun _ K' Q hq=>?_,fun hw'=>by rw [hw] at hw';cases hw'⟩
    exact (hU w0 a w hR0).1 (aki rfl) K' Q hq
  obtain ⟨h1,h2⟩:=hst w0 a w hR
  simp only [wpList]
  cases hw:Region.wanted o (yielded ops.toArray a.tmps) with
  | true=>exact .inl (h1 hw _ _ (fun s' a' w' e hK hR'=>cqg h00 hΓ Q l s' a' w' (fun o ho=>hok o (by simp [ho])) hK hR' (fun s2 a2 w2 e2 hr hq=>hQ s2 a2 w2 (e2.trans e) hr hq)))
  | false =>
   simp only [Bool.false_eq_true,if_false]
   obtain ⟨s',hK,hR'⟩:=h2 hw
   exact cqg h00 hΓ Q l s' _ w (fun o ho=>hok o (by simp [ho])) hK hR' (fun s2 a2 w2 e2 hr hq=>hQ s2 a2 w2 (e2.trans (put_defers _ _ _)) hr hq)
theorem Sm.regX {id:Nat} {ops:Array Oper} {Q:Exit→S→Prop} (h00:tyI P 0=none) (hΓ:∀ g,g∈Γ→aj1 P g) (hok:codeOk N (.region id ops false)=true)
  (h:ajl P Γ (resolve ops.toList ops.toList) s (Q .normal)):Sm P N kp (.region id ops false) s Q:=by
 intro r w0 Q' a w hk hr hd hR hQ
 simp only [codeOk,Bool.and_eq_true,List.all_eq_true] at hok
 have:=cqg (Q':=eyf Q') h00 hΓ (Q .normal) ops.toList s a w hok.1 h hR (fun s' a' w' h1 h2 h3=>⟨by simp,hQ _ _ _ _ _ (Ext.refl _) (h1 ▸ hd) h2 h3⟩)
 exact cwl (ayo hok.1) (by simpa using this)
theorem Sm.seqX {id:Nat} {ops:Array Oper} {b:Code} {Q:Exit→S→Prop} (h00:tyI P 0=none) (hm:P.follows .mixedOrders=true) (hΓ:∀ g,g∈Γ→aj1 P g) (hok:codeOk N (.region id ops false)=true)
  (h:∀ K:S→Prop,(∀ s',Sm P N kp b s' Q→K s')→ajl P Γ (resolve ops.toList ops.toList) s K):Sm P N kp (.seq (.region id ops false) b) s Q :=
 Sm.seq (Sm.regX h00 hΓ hok (h (fun s'=>Sm P N kp b s' Q) (fun _ h=>h)))
theorem Sm.rgX {id:Nat} {ops:Array Oper} {Q:Exit→S→Prop} (h00:tyI P 0=none) (hm:P.follows .mixedOrders=true) (hΓ:∀ g,g∈Γ→aj1 P g) (hok:codeOk N (.region id ops false)=true)
  (h:ajl P Γ (resolve ops.toList ops.toList) s (Q .normal)):Sm P N kp (.region id ops false) s Q:=Sm.regX h00 hΓ hok h
theorem gqr {r:Option Nat} {c:Code} {Q':Exit→Act→World→Prop} {a:Act} {w:World} (h:cwp r P c (Exit.noGoto Q') a w):cwp r P (.scope c) Q' a w:=by
 intro b k cs hro hb hr
 have s1:step P (lone (b.atR a (.code (.scope c) :: k)) cs w) = .next (lone (b.atR a (.code c :: .inScope c :: k)) cs w):=step_lone_go (by simp [Go.stepG,Go.stepG.exec,Frame.atR])
 have s2:∀ a w,step P (lone (b.atR a (.inScope c :: k)) cs w) = .next (lone (b.atR a k) cs w):=fun a w=>step_lone_go (by simp [Go.stepG,Go.stepG.exec,Frame.atR])
 have h0:(lone (b.atR a (.code (.scope c) :: k)) cs w).fenced P (fo r):=fenced_calm hb hr rfl
 obtain ⟨e,a₁,w₁,hq,harr⟩:=h b (.inScope c :: k) cs hro hb hr
 cases e with
 | normal=>exact ⟨.normal,a₁,w₁,hq,.head h0 s1 (StepsIn.trans harr (.one (fenced_calm hb hr rfl) (s2 _ _)))⟩
 | exit id =>
  have hx:exitTo id (.inScope c :: k)=exitTo id k:=by simp [exitTo]
  exact ⟨.exit id,a₁,w₁,hq,fun k' hk=>.head h0 s1 (harr.1 k' (by rw [hx];exact hk)),
   fun hr' hk=>let ⟨k₁,h1,h2⟩:=harr.2 hr' (by rw [hx];exact hk);⟨k₁,h1,.head h0 s1 h2⟩⟩
 | goto l=>exact hq.elim
 | ret=>exact ⟨_,a₁,w₁,hq,.of_steps (.one h0 s1) harr⟩
 | panic ch=>exact ⟨_,a₁,w₁,hq,.of_steps (.one h0 s1) harr⟩
 | outgrown=>exact ⟨_,a₁,w₁,hq,.of_steps (.one h0 s1) harr⟩
theorem Sm.scope {c:Code} {Q:Exit→S→Prop} (h:Sm P N kp c s fun e s'=>match e with | .goto _=>False | e=>Q e s'):Sm P N kp (.scope c) s Q:=by
 intro r w0 Q' act w hk hr hd hR hQ
 refine gqr (h r w0 _ act w hk hr hd hR (fun w1 e s' a' w' hx hd' hR' hq=>?_))
 cases e <;> first | exact hq.elim | exact hQ _ _ _ _ _ hx hd' hR' hq
variable {g:Option Nat} {o:Oper} {os:List (Option Nat×Oper)} {Q:S→Prop}
theorem opsX {g:Option Nat} {o:Oper} {os:List (Option Nat×Oper)} {Q:S→Prop} (h:∀ K:S→Prop,(∀ s',ajl P Γ os s' Q→K s')→stepG P Γ g o s K):ajl P Γ ((g,o) :: os) s Q:=.inl (h _ fun _ x=>x)
theorem opsY {g:Option Nat} {o:Oper} {os:List (Option Nat×Oper)} {Q:S→Prop} (h:∀ K:S→Prop,(∀ s',ajl P Γ os s' Q→K s')→ewx P o s K):ajl P Γ ((g,o) :: os) s Q:=.inr (.inl (h _ fun _ x=>x))
theorem opsN {g:Option Nat} {o:Oper} {os:List (Option Nat×Oper)} {Q:S→Prop} (h:∀ K:S→Prop,(∀ s',ajl P Γ os s' Q→K s')→fw7 P o s K):ajl P Γ ((g,o) :: os) s Q:=.inr (.inr (.inl (h _ fun _ x=>x)))
theorem gkj {g:Option Nat} {o:Oper} {os:List (Option Nat×Oper)} {Q:S→Prop} {j:Nat} {want:Bool} (hg:o.guard=some (j,want)) (ht:akp s.tm g want=some true) (h:∀ K:S→Prop,(∀ s',ajl P Γ os s' Q→K s')→stepG P Γ none (aq1 o) s K):ajl P Γ ((g,o) :: os) s Q:=by
 refine .inr (.inr (.inr (.inr (.inl ?_))))
 simp only [stepT,hg,ht]
 exact ⟨trivial,.inl (h _ fun _ x=>x)⟩
theorem opsF {g:Option Nat} {o:Oper} {os:List (Option Nat×Oper)} {Q:S→Prop} {j:Nat} {want:Bool} (hg:o.guard=some (j,want)) (ht:akp s.tm g want=some false) (h:ajl P Γ os ⟨updD s.tm o.dst (.when false (.c .bool (.bool false))),s.hp⟩ Q):ajl P Γ ((g,o) :: os) s Q:=by
 refine .inr (.inr (.inr (.inr (.inr (.inl ?_)))))
 simp only [fwi,hg,ht]
 exact ⟨trivial,h⟩
theorem opsP {g:Option Nat} {o:Oper} {os:List (Option Nat×Oper)} {Q:S→Prop} (h:∀ K:S→Prop,(∀ s',ajl P Γ os s' Q→K s')→eqa o s K):ajl P Γ ((g,o) :: os) s Q:=.inr (.inr (.inr (.inr (.inr (.inr (.inl (h _ fun _ x=>x)))))))
theorem opsE {g:Option Nat} {o:Oper} {os:List (Option Nat×Oper)} {Q:S→Prop} {st:Oper→S→(S→Prop)→Prop} (hst:az4 P st) (h:∀ K:S→Prop,(∀ s',ajl P Γ os s' Q→K s')→st o s K):ajl P Γ ((g,o) :: os) s Q:=.inr (.inr (.inr (.inr (.inr (.inr (.inr (.inl ⟨st,hst,h _ fun _ x=>x⟩)))))))
theorem gki {g:Option Nat} {o:Oper} {os:List (Option Nat×Oper)} {Q:S→Prop} {st:Oper→S→(S→Prop)→Prop} (hst:az4 P st) {j:Nat} {want:Bool} (hg:o.guard=some (j,want)) (ht:akp s.tm g want=some true) (h:∀ K:S→Prop,(∀ s',ajl P Γ os s' Q→K s')→st (aq1 o) s K):ajl P Γ ((g,o) :: os) s Q:=.inr (.inr (.inr (.inr (.inr (.inr (.inr (.inr ⟨st,hst,j,want,hg,ht,h _ fun _ x=>x⟩)))))))
theorem azn {α:Type} {c:Bool} {a b:Option α} {r:α} {p:Prop} (H:cond c a b=some r) (h1:c=true→a=some r→p) (h2:c=false→b=some r→p):p:=by
 cases c
 ·exact h2 rfl H
 ·exact h1 rfl H
theorem fwe {Q:S→Prop} (h:Q s):ajl P Γ [] s Q:=h
theorem opsM {g:Option Nat} {d:Option Nat} {f:Operand} {args:Array Operand} {argTypes:Array TypeId} {ty:TypeId} {pos:String} {after:Array Edge} {os:List (Option Nat×Oper)} {Q:S→Prop} {gf:FuncId} {caps:List A} {as:List Arg} {hs:List Blk} {res:List A} {hs':List Blk}
  (C0:awi P gf as hs res hs') (ids keys:List Nat) (hf:aj8 s.tm f = .fnv gf caps) (hn:ajc s.tm (Op.call ⟨.value f,args,argTypes⟩).operands.toList) (hb:cze s.hp (mL ids) hs.length ids hs)
  (ha:aqf s.hp (mL ids) hs.length as (args.toList.map (aj8 s.tm) ++ caps)) (hd:disj ids (az3 as (args.toList.map (aj8 s.tm) ++ caps))=true) (hnd:cza (ids ++ keys)=true) (hk:bwt s.hp keys=true) (hl:keys.length+hs.length=hs'.length)
  (h:ajl P Γ os ⟨updD s.tm d (bkp (bkb (mL (ids ++ keys)) res)),bjb (ids ++ keys) (hs'.map (renB (mL (ids ++ keys)))) (freezeAll s.hp (az3 as (args.toList.map (aj8 s.tm) ++ caps)))⟩ Q) :
  ajl P Γ ((g,⟨d,.call ⟨.value f,args,argTypes⟩,ty,pos,after,none⟩) :: os) s Q:=by
 refine .inr (.inr (.inr (.inl ?_)))
 simp only [gj4,hf]
 exact ⟨hn,_,_,⟨⟨as,hs,res,hs',ids,keys,C0,hb,ha,hd,hnd,hk,hl,rfl,rfl⟩⟩,h⟩
def uniB {E R:Type} [DecidableEq R] (l:List E) (f:Bool→Option R):Option R :=
 if l.isEmpty=true then (if f true=f false then f false else none) else f false
theorem fyv {E R:Type} [DecidableEq R] {l:List E} {f:Bool→Option R} {r:R} (h:uniB l f=some r):∀ b:Bool,(b=true→l=[])→f b=some r:=by
 intro b hb
 unfold uniB at h
 split at h
 ·split at h
  ·rename_i e
   cases b
   ·exact h
   ·rw [e];exact h
  ·cases h
 ·rename_i e
  cases b
  ·exact h
  ·rw [hb rfl] at e;simp at e
theorem RetM.mk {k:Nat} {rs:List ResultVar} {res:List A} {hs':List Blk} {e:Exit} (he:e = .normal∨e = .ret) (ids:List (Option Nat)) (hp:cju 0 k ids=true) (h:dki P s rs ids res hs'):RetM P k rs res hs' e s:=by
 rcases he with rfl | rfl <;> exact ⟨ids,hp,h⟩
end Go.AE
