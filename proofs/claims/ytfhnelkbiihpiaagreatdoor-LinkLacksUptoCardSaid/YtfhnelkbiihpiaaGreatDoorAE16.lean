/- Text. -/
import Derived.Test.YtfhnelkbiihpiaaGreatDoorAE15
set_option linter.unusedVariables false
open _root_.List renaming append_nil→JA
namespace Go.AE
open Go.RowKit (Below)
open Go.ChangeShapes
variable {P:Program} {w:World} {al:Nat→Prop}
def CanL (P:Program) (ks:List Kd) (xs:List C):Prop:=xs.length=ks.length∧∀ j,j < ks.length→Can P (ks.getD j .other) (cg xs j)
section
variable {H:Type} {enc:TypeId×Value→H}
theorem dqw {t:TypeId} {T:TyI} {v:Value} {d:DataW H} {ps:List MemPlace} {n base b0:Nat} {sp:Nat→Bool} {hd:Bool} {r:Reach} {w1:World} (hT:tyI P t=some T) (hok:okF P n t=true) (hv:Value.okWide P w1 r b0 t v)
  (h:DataW.Trod enc P w base sp hd t v d ps) (hb:bulk d≤1048576) (hz:w.noneFrozen ps):ArgRel P w (fun b=>b < w.heap.size) (T.agg,T.kinds) v (bqp d)∧CanL P T.kinds (bqp d):=by
 obtain ⟨fuel,h⟩:=h
 obtain ⟨S⟩:=ajk hT
 obtain ⟨h1,h2,h3⟩:=czz n t 12 fuel T.kinds _ d ps hok S.kinds h hb hz
 refine ⟨?_,h1,fun j hj=>(h3 j hj).2⟩
 have h3:=fun j hj=>(h3 j hj).1
 have ha:=S.agg
 have hu:=S.und
 cases n with
 | zero=>simp [okF] at hok
 | succ n =>
  have single:T.agg=false→v.cells = #[v]→ArgRel P w (fun b=>b < w.heap.size) (T.agg,T.kinds) v (bqp d):=by
   intro e hc
   rw [hc] at h2 h3
   simp only [ArgRel,e]
   have hl:T.kinds.length=1:=by simpa using h2.symm
   refine ⟨hl,by omega,?_⟩
   simpa using h3 0 (by omega)
  generalize S.d=D at *
  cases D with
  | bool =>
   obtain ⟨b,rfl⟩:=WideShapes.okWide_bool hu hv
   exact single ha rfl
  | int k =>
   obtain ⟨b,rfl⟩:=WideShapes.okWide_int hu hv
   exact single ha rfl
  | string =>
   obtain ⟨b,rfl⟩:=WideShapes.okWide_string hu hv
   exact single ha rfl
  | slice e =>
   obtain ⟨a,l,c,rfl⟩:=WideShapes.okWide_slice hu hv
   exact single ha rfl
  | struct fs =>
   obtain ⟨cs,rfl,hcs⟩:=WideShapes.okWide_struct hu hv
   have e:T.agg=true:=ha
   simp only [ArgRel,e]
   simp only [Value.cells] at h2 h3
   exact ⟨cs.toList,by simp,h2,h1,h3⟩
  | _=>simp [okF,hu] at hok
theorem byl {base b0 n:Nat} {sp:Nat→Bool} {hd:Bool} {r:Reach} {w1:World}:∀ {ts:List TypeId} {ps:List (Bool×List Kd)} {vs:List Value} {ds:List (DataW H)} {pl:List MemPlace},
  ts.map (fun t=>(tyI P t).map fun T=>(T.agg,T.kinds))=ps.map some→ts.all (okF P n)=true→(∀ (j:Nat) t v,ts[j]? = some t→vs[j]? = some v→Value.okWide P w1 r b0 t v) →
  DataW.TrodAll enc P w base sp hd ts vs ds pl→aqq ds≤1048576→w.noneFrozen pl →
  vs.length=ps.length∧ds.length=ps.length∧∀ i,i < ps.length→ArgRel P w (fun b=>b < w.heap.size) (ps.getD i (false,[])) (vs.getD i undef) ((akw ds).getD i [])∧CanL P (ps.getD i (false,[])).2 ((akw ds).getD i [])
 | [],ps,vs,ds,pl,hps,hok,hv,h,hb,hz=>by
  obtain ⟨rfl,rfl,rfl⟩:=trodAll_nil h
  have:ps=[]:=by simpa using hps.symm
  subst this
  exact ⟨rfl,rfl,fun i hi=>by simp at hi⟩
 | t :: ts,ps,vs,ds,pl,hps,hok,hv,h,hb,hz=>by
  cases ps with
  | nil=>simp at hps
  | cons p ps =>
   obtain ⟨v0,vs0,d0,ds0,p0,q0,rfl,rfl,rfl,h0,r0⟩:=trodAll_cons h
   simp only [List.map_cons,List.cons.injEq] at hps
   simp only [List.all_cons,Bool.and_eq_true] at hok
   simp only [aqq] at hb
   obtain ⟨T,hT,hp⟩:=Option.map_eq_some_iff.1 hps.1
   obtain ⟨a1,a2,a3⟩:=byl hps.2 hok.2 (fun j t v ht hv'=>hv (j+1) t v (by simpa using ht) (by simpa using hv')) r0 (by omega) (fun b off h=>hz b off (by simp [h]))
   refine ⟨by simp [a1],by simp [a2],fun i hi=>?_⟩
   cases i with
   | zero =>
    have:=dqw hT hok.1 (hv 0 t v0 rfl rfl) h0 (by omega) (fun b off h=>hz b off (by simp [h]))
    rw [← hp]
    simpa [akw] using this
   | succ i=>simpa [akw] using a3 i (by simpa using hi)
theorem bk5 {W W':World} (hl:laidOutB P=true) (hb:Below W.heap.size W W'):∀ {ts:List TypeId} {vs:List Value} {ds:List (DataW H)} {ps:List MemPlace},(∀ t∈ts,P.readableRec t=true∧t < P.types.size) →
  DataW.TrodAll enc P W 0 (fun _=>true) true ts vs ds ps→(∀ x∈ps,x.block < W.heap.size)→∀ sp:Nat→Bool,(∀ x∈ps,sp x.block=true)→DataW.TrodAll enc P W' 0 sp true ts vs ds ps
 | [],vs,ds,ps,ht,h,hlt,sp,hsp=>by
  obtain ⟨rfl,rfl,rfl⟩:=trodAll_nil h
  exact rfl
 | t :: ts,vs,ds,ps,ht,h,hlt,sp,hsp=>by
  obtain ⟨v0,vs0,d0,ds0,p0,q0,rfl,rfl,rfl,h0,r0⟩:=trodAll_cons h
  refine ⟨p0,q0,?_,?_,rfl⟩
  ·exact WideElems.Trod_stays hl (ht t (by simp)).1 (ht t (by simp)).2 h0 (fun x hx=>hb.same (hlt x (by simp [hx]))) (fun x hx=>hsp x (by simp [hx]))
  ·exact bk5 hl hb (fun u hu=>ht u (by simp [hu])) r0 (fun x hx=>hlt x (by simp [hx])) sp (fun x hx=>hsp x (by simp [hx]))
theorem ck0 {f:Func} {s:ChangeSpec} {apart fresh handsOn again:Bool} {W W':World} {args:Array Value} {ds gs:List (DataW H)} {before:List MemPlace} {bt:TypeId} (hl:laidOutB P=true)
  (hr:∀ t∈f.params.toList,P.readableRec t=true∧t < P.types.size) (hvars:s.vars=[]) (hres:f.resultTypes = #[bt]) (hbt:P.underlying bt=some .bool)
  (hfn:∀ ds:List (DataW H),ds.length=f.params.size→s.fn H ds={ results:=[.lit (.bool true)],args:=ds })
  (hW:DataW.Whole enc P f.params.toList s.vars apart W args.toList ds gs before) (hb:Below W.heap.size W W'):s.post enc P f apart fresh handsOn again W args (.bool true) W':=by
 have hlt:=hW.lt
 have hW0:=hW
 obtain ⟨p,q,hA,hV,rfl,hz,hn⟩:=hW
 rw [hvars] at hV
 obtain ⟨rfl,rfl⟩:=trodVars_none hV
 have hlen:∀ {ts:List TypeId} {vs:List Value} {ds:List (DataW H)} {ps:List MemPlace},DataW.TrodAll enc P W 0 (fun _=>true) true ts vs ds ps→ds.length=ts.length:=by
  intro ts
  induction ts with
  | nil=>intro vs ds ps h;obtain ⟨_,rfl,_⟩:=trodAll_nil h;rfl
  | cons t ts ih =>
   intro vs ds ps h
   obtain ⟨v0,vs0,d0,ds0,p0,q0,rfl,rfl,rfl,h0,r0⟩:=trodAll_cons h
   simp [ih r0]
 have hfd:=hfn ds (by simpa using hlen hA)
 simp only [JA] at hlt hz hn hfd ⊢
 have lt:∀ x∈p,x.block < W.heap.size:=fun x hx=>hlt x (by simpa using hx)
 have stay:=bk5 hl hb hr hA lt
 have hrl:(Value.bool true).resultList f.resultTypes.size=[.bool true]:=by rw [hres];rfl
 have rr:∀ (b:Nat) (sp:Nat→Bool) (hd:Bool),DataW.TrodAll enc P W' b sp hd f.resultTypes.toList ((Value.bool true).resultList f.resultTypes.size) [.lit (.bool true)] []:=by
  intro b sp hd
  rw [hrl,hres]
  exact trodAll_mk1 (RowKit.shut_bool hbt _)
 refine ⟨ds,[],p ++ [],[],p,[],hW0,?_,?_,?_,?_,fun _=>?_⟩
 ·rw [JA,hfd];exact rr _ _ _
 ·rw [JA,hfd];exact stay _ (fun x hx=>by simpa using lt x hx)
 ·rw [hvars,JA,hfd];exact rfl
 ·exact World.keptBut_mono (fun x hx=>⟨hx,.inr (.inl (by simpa using hx))⟩) (hb.frame _)
 ·refine ⟨?_,_,[],([] ++ p) ++ [],⟨[] ++ p,[],trodAll_append (stay _ (fun _ _=>rfl)) (rr _ _ _),?_,rfl,?_,?_⟩,?_⟩
  ·refine RowKit.ok_one hres rfl ?_
   simp only [Value.okWide,hbt,Cell.okWide,Cell.ok]
  ·rw [hvars];exact rfl
  ·intro b off hx
   have hx':MemPlace.cell b off∈p:=by simpa using hx
   rw [hb.frozen (p:=⟨b,off,none⟩) (lt _ hx')]
   exact hz b off hx'
  ·intro ha;simpa using hn ha
  ·intro x hx _;simpa using hx
theorem dyf {g:Fn} {f:Func} {s:ChangeSpec} {bt:TypeId} {n:Nat} (K:aj9 P g) (hl:laidOutB P=true)
  (hps:f.params.toList.map (fun t=>(tyI P t).map fun T=>(T.agg,T.kinds))=g.ps.map some) (hok:f.params.toList.all (okF P n)=true)
  (hr:∀ t∈f.params.toList,P.readableRec t=true∧t < P.types.size) (hvars:s.vars=[]) (hres:f.resultTypes = #[bt]) (hbt:P.underlying bt=some .bool)
  (hfn:∀ ds:List (DataW H),ds.length=f.params.size→s.fn H ds={ results:=[.lit (.bool true)],args:=ds })
  (hsem:∀ cs:List (List C),cs.length=g.ps.length→(∀ i,i < g.ps.length→CanL P (g.ps.getD i (false,[])).2 (cs.getD i []))→cbss cs≤2097152→(g.sem cs).pre∧(g.sem cs).rows=[]∧(g.sem cs).res=[kb true])
  {W:World} {base:Nat} {args:Array Value} {ds gs:List (DataW H)} {before:List MemPlace} (hval:∀ (j:Nat) t v,f.params[j]? = some t→args[j]? = some v→Value.okWide P W .any base t v)
  (hW:DataW.Whole enc P f.params.toList s.vars false W args.toList ds gs before) (hk:aqq ds≤1048576) :
  Calls P g.f args W fun e W'=>∃ v,e = .returned v∧s.post enc P f false true false false W args v W':=by
 have hW0:=hW
 obtain ⟨p,q,hA,hV,rfl,hz,hn⟩:=hW
 obtain ⟨a1,a2,a3⟩:=byl hps hok (fun j t v ht hv=>hval j t v (by simpa using ht) (by simpa using hv)) hA hk (fun b off h=>hz b off (by simp [h]))
 have hfl:(akw ds).length=g.ps.length:=by rw [bwk,a2]
 have hcb:cbss (akw ds)≤2097152:=by have:=bwo ds;omega
 obtain ⟨s1,s2,s3⟩:=hsem (akw ds) hfl (fun i hi=>(a3 i hi).2) hcb
 have:=K.calls W (fun b=>b < W.heap.size) args.toList (akw ds) (fun b h=>h) a1 hfl (fun i hi=>(a3 i hi).1) s1
 rw [show args.toList.toArray=args from by simp] at this
 refine this.mono fun e W' ⟨v,he,hb,hrow,σr,h1,h2,h3⟩=>?_
 rw [s3] at h3
 have hv:v = .bool true:=h3.bool_inv
 subst hv
 exact ⟨_,he,ck0 hl hr hvars hres hbt hfn hW0 hb⟩
end
end Go.AE
