/- Text. -/
import Derived.Test.YtfhnelkbiihpiaaGreatDoorAE12
import Derived.Deep.Quiet
set_option linter.unusedVariables false
set_option linter.unusedSimpArgs false
open _root_.Array renaming mem_toList_iff→jp,getElem?_eq_some_iff→jg,replicate→j6
open _root_.Bool renaming and_eq_true→jd
open _root_.List renaming map_congr_left→jz,mem_append→jf
open Go.Op renaming operands→jc
open _root_.Option.some renaming injEq→ja
open _root_.Prod.mk renaming injEq→jj
namespace Go.AE
open Go.RowKit (Below)
variable {P:Program} {w0:Base} {w:World} {N:Nat} {σ:Nat→RefI} {s:S} {tms:Array Value} {ρ:Operand→Value} {al:Nat→Prop} {Γ:List Fn}
def cls0 (o:Oper):Bool :=
 match o.op with
 | .move _=>true
 | .assign _=>true
 | .binOp ..=>true
 | .unOp ..=>true
 | .convert ..=>true
 | .index ..=>true
 | .extract ..=>true
 | .pick ..=>true
 | .call c=>match c.callee with
  | .builtin .min=>true
  | .builtin .max=>true
  | _=>false
 | _=>false
theorem eqp {ops:List Oper} {o:Oper}:ckr P Γ ops o s=(eff P Γ ops o s.tm s.hp).map fun q=>(q.1,q.2.1,⟨updD s.tm o.dst q.2.2.1,q.2.2.2⟩):=rfl
theorem eqj {o:Oper} {tm tm':Nat→A} {hp:Nat→Blk} {v v':Operand→A} (h:∀ x,x∈o.op.operands→v x=v' x):opA P Γ o tm hp v=opA P Γ o tm' hp v':=by
 obtain ⟨dst,op,type,pos,after,guard⟩:=o
 have two:∀ {a b:Operand},(∀ x,x∈(#[a,b]:Array Operand)→v x=v' x)→v a=v' a∧v b=v' b:=fun h=>⟨h _ (by simp),h _ (by simp)⟩
 cases op with
 | move x=>simp only [opA];rw [h x (by simp [jc])]
 | assign x=>simp only [opA];rw [h x (by simp [jc])]
 | binOp op t x y yt=>simp only [opA];rw [h x (by simp [jc]),h y (by simp [jc])]
 | unOp op t x=>simp only [opA];rw [h x (by simp [jc])]
 | convert t u x=>simp only [opA];rw [h x (by simp [jc])]
 | box t x=>simp only [opA];rw [h x (by simp [jc])]
 | alloc t=>simp only [opA]
 | load t x=>simp only [opA];rw [h x (by simp [jc])]
 | store t x y=>simp only [opA];rw [h x (by simp [jc]),h y (by simp [jc])]
 | fieldAddr t x f=>simp only [opA];rw [h x (by simp [jc])]
 | indexAddr t x i=>simp only [opA];rw [h x (by simp [jc]),h i (by simp [jc])]
 | index t x i=>simp only [opA];rw [h x (by simp [jc]),h i (by simp [jc])]
 | slice t x lo hi mx =>
  cases mx with
  | some m=>simp only [opA]
  | none =>
   have e1:lo.map v=lo.map v':=by
    cases lo with
    | none=>rfl
    | some l=>simp only [Option.map_some];rw [h l (by simp [jc])]
   have e2:hi.map v=hi.map v':=by
    cases hi with
    | none=>rfl
    | some l=>simp only [Option.map_some];rw [h l (by simp [jc])]
   simp only [opA];rw [h x (by simp [jc]),e1,e2]
 | extract x i=>simp only [opA];rw [h x (by simp [jc])]
 | lookup t x y ok=>simp only [opA];rw [h x (by simp [jc]),h y (by simp [jc])]
 | mapUpdate t x y z=>simp only [opA];rw [h x (by simp [jc]),h y (by simp [jc]),h z (by simp [jc])]
 | makeMap t r0=>cases r0 <;> simp only [opA]
 | build t parts =>
  have e:(parts.toList.map fun p=>(p.1,v p.2))=(parts.toList.map fun p=>(p.1,v' p.2)):=jz fun p hp=>by
   rw [h p.2 (by simp only [jc];simp;exact ⟨p.1,jp.1 hp⟩)]
  simp only [opA];rw [e]
 | buildSlice t n parts =>
  have e:(parts.toList.map fun p=>(p.1,v p.2))=(parts.toList.map fun p=>(p.1,v' p.2)):=jz fun p hp=>by
   rw [h p.2 (by simp only [jc];simp;exact ⟨p.1,jp.1 hp⟩)]
  have e2:(parts.toList.map fun p=>v p.2)=(parts.toList.map fun p=>v' p.2):=jz fun p hp=>by
   rw [h p.2 (by simp only [jc];simp;exact ⟨p.1,jp.1 hp⟩)]
  simp only [opA];rw [e,e2]
 | call c =>
  obtain ⟨callee,args,argTypes⟩:=c
  have ha:∀ x,x∈args.toList→v x=v' x:=fun x hx=>h x (by
   simp only [jc,Call.operands]
   exact Array.mem_append.2 (.inr (jp.1 hx)))
  have em:args.toList.map v=args.toList.map v':=jz ha
  cases callee with
  | invoke rv m=>simp only [opA]
  | value f =>
   simp only [opA];rw [h f (by simp [jc,Call.operands]),em]
  | builtin b =>
   cases b with
   | len =>
    simp only [opA]
    split
    ·rename_i x t hax hat;rw [ha x (by rw [hax];simp)]
    ·rfl
   | min =>
    simp only [opA]
    split
    ·rename_i x r hax
     rw [ha x (by rw [hax];simp),jz (fun y hy=>ha y (by rw [hax];simp [hy]))]
    ·rfl
   | max =>
    simp only [opA]
    split
    ·rename_i x r hax
     rw [ha x (by rw [hax];simp),jz (fun y hy=>ha y (by rw [hax];simp [hy]))]
    ·rfl
   | append =>
    simp only [opA]
    split
    ·rename_i x y t u d hax hat
     rw [ha x (by rw [hax];simp),ha y (by rw [hax];simp)]
    ·rfl
   | delete =>
    simp only [opA]
    split
    ·rename_i x y t l hax hat
     rw [ha x (by rw [hax];simp),ha y (by rw [hax];simp)]
    ·rfl
   | _=>simp only [opA]
 | _=>simp only [opA]
theorem aki {tm tm':Nat→A} {x:Operand} (h:∀ t,x = .tmp t→tm t=tm' t):aj4 tm x=aj4 tm' x∧akf tm x=akf tm' x:=by
 cases x with
 | tmp t=>simp only [aj4,opdA,akf,h t rfl];exact ⟨trivial,trivial⟩
 | const v=>exact ⟨rfl,rfl⟩
 | global g=>exact ⟨rfl,rfl⟩
 | func f=>exact ⟨rfl,rfl⟩
theorem az5 {tm tm':Nat→A}:∀ {xs:List Operand},(∀ x,x∈xs→akf tm x=akf tm' x)→aj6 tm xs=aj6 tm' xs
 | [],_=>rfl
 | x :: xs,h=>by simp only [aj6];rw [h x (by simp),az5 (fun y hy=>h y (by simp [hy]))]
theorem ayi {tm tm':Nat→A} {ops:List Oper} {j:Nat} {want:Bool} (h:∀ o d,ops[j]? = some o→o.dst=some d→tm d=tm' d):guardOf ops tm j want=guardOf ops tm' j want:=by
 unfold guardOf
 split
 ·rename_i o ho
  split
  ·rename_i d hd;rw [h o d ho hd]
  ·rfl
 ·rfl
theorem bkl {ops:List Oper} {o:Oper} {tm tm':Nat→A} {hp:Nat→Blk} (h:∀ t,t∈o.looksAt ops.toArray→tm t=tm' t):eff P Γ ops o tm hp=eff P Γ ops o tm' hp:=by
 have hop:∀ x,x∈o.op.operands→aj4 tm x=aj4 tm' x∧akf tm x=akf tm' x:=fun x hx=>aki (fun t ht=>h t (by
  simp only [Oper.looksAt]
  refine jf.2 (.inl ?_)
  rw [List.mem_filterMap]
  exact ⟨x,jp.2 hx,by rw [ht]⟩))
 have hg:∀ j want,o.guard=some (j,want)→guardOf ops tm j want=guardOf ops tm' j want:=fun j want hgd=>ayi (fun oj d ho hd=>h d (by
  simp only [Oper.looksAt,hgd]
  refine jf.2 (.inr ?_)
  simp [ho,hd]))
 have hn:aj6 tm o.op.operands.toList=aj6 tm' o.op.operands.toList:=az5 (fun x hx=>(hop x (jp.1 hx)).2)
 unfold eff
 split
 ·rename_i c a b ho
  have hc:=hop c (by rw [ho];simp [jc])
  have ha:=hop a (by rw [ho];simp [jc])
  have hb:=hop b (by rw [ho];simp [jc])
  have hcn:aj6 tm [c]=aj6 tm' [c]:=az5 (fun x hx=>by simp at hx;subst hx;exact hc.2)
  rw [hc.1,ha.1,hb.1,ha.2,hb.2,hcn]
  cases hgd:o.guard with
  | none=>rfl
  | some p=>obtain ⟨j,want⟩:=p;simp only [hg j want hgd]
 ·rw [eqj (v:=aj4 tm) (v':=aj4 tm') (tm':=tm') (fun x hx=>(hop x hx).1),hn]
  cases hgd:o.guard with
  | none=>rfl
  | some p=>obtain ⟨j,want⟩:=p;simp only [hg j want hgd]
theorem ew2 {o:Oper} {tm:Nat→A} {hp:Nat→Blk} {v:Operand→A} {r:Out} (hc:cls0 o=true) (h:opA P Γ o tm hp v=some r) :
  r.hp=hp∧r.q=true∧∀ hp',opA P Γ o tm hp' v=some { r with hp:=hp' }:=by
 obtain ⟨dst,op,type,pos,after,guard⟩:=o
 cases op with
 | move x=>simp only [opA,ja] at h ⊢;subst h;exact ⟨rfl,rfl,fun _=>rfl⟩
 | assign x=>simp only [opA,ja] at h ⊢;subst h;exact ⟨rfl,rfl,fun _=>rfl⟩
 | binOp op t x y yt =>
  simp only [opA] at h ⊢
  split at h
  ·rename_i p a hb;simp only [ja] at h;subst h;exact ⟨rfl,rfl,fun _=>by simp only [hb]⟩
  ·cases h
 | unOp op t x =>
  simp only [opA] at h ⊢
  split at h
  ·rename_i a hb;simp only [ja] at h;subst h;exact ⟨rfl,rfl,fun _=>by simp only [hb]⟩
  ·cases h
 | convert t u x =>
  simp only [opA] at h ⊢
  split at h
  ·rename_i T hT
   split at h
   ·rename_i a hb;simp only [ja] at h;subst h;exact ⟨rfl,rfl,fun _=>by simp only [hT,hb]⟩
   ·cases h
  ·cases h
 | index t x i =>
  simp only [opA] at h ⊢
  split at h
  ·rename_i c k n hx hi
   split at h
   ·rename_i hs;simp only [ja] at h;subst h;exact ⟨rfl,rfl,fun _=>by simp only [hx,hi,hs,if_true]⟩
   ·cases h
  ·cases h
 | extract x i =>
  simp only [opA] at h ⊢
  split at h
  ·rename_i xs hx
   split at h
   ·rename_i a hb;simp only [ja] at h;subst h;exact ⟨rfl,rfl,fun _=>by simp only [hx,hb]⟩
   ·cases h
  ·cases h
 | call c =>
  obtain ⟨callee,args,argTypes⟩:=c
  cases callee with
  | builtin b =>
   cases b with
   | min =>
    simp only [opA] at h ⊢
    split at h
    ·rename_i x q hx
     split at h
     ·rename_i a hb;simp only [ja] at h;subst h;exact ⟨rfl,rfl,fun _=>by simp only [hx,hb]⟩
     ·cases h
    ·cases h
   | max =>
    simp only [opA] at h ⊢
    split at h
    ·rename_i x q hx
     split at h
     ·rename_i a hb;simp only [ja] at h;subst h;exact ⟨rfl,rfl,fun _=>by simp only [hx,hb]⟩
     ·cases h
    ·cases h
   | _=>simp [cls0] at hc
  | _=>simp [cls0] at hc
 | pick c a b=>simp [opA] at h
 | _=>simp [cls0] at hc
theorem dzb {ops:List Oper} {o:Oper} {tm:Nat→A} {hp hp1:Nat→Blk} {p f:Prop} {v:A} (hc:cls0 o=true) (h:eff P Γ ops o tm hp=some (p,f,v,hp1)) :
  hp1=hp∧∀ hp',eff P Γ ops o tm hp'=some (p,f,v,hp'):=by
 unfold eff at h ⊢
 split at h
 ·split at h
  ·split at h
   ·split at h
    ·simp only [ja,jj] at h
     obtain ⟨rfl,rfl,rfl,rfl⟩:=h
     exact ⟨rfl,fun _=>rfl⟩
    ·split at h
     ·simp only [ja,jj] at h
      obtain ⟨rfl,rfl,rfl,rfl⟩:=h
      exact ⟨rfl,fun _=>rfl⟩
     ·cases h
   ·cases h
  ·cases h
 ·split at h
  ·cases h
  ·rename_i r hop
   obtain ⟨e1,e2,e3⟩:=ew2 hc hop
   split at h
   ·simp only [ja,jj] at h
    obtain ⟨rfl,rfl,rfl,rfl⟩:=h
    refine ⟨e1,fun hp'=>?_⟩
    rw [e3 hp']
   ·split at h
    ·split at h
     ·simp only [ja,jj] at h
      obtain ⟨rfl,rfl,rfl,rfl⟩:=h
      refine ⟨rfl,fun hp'=>?_⟩
      rw [e3 hp']
      simp only [e2,if_true]
     ·rename_i hq;exact absurd e2 hq
    ·cases h
def cjy (o:Oper):Bool :=
 match o.op with
 | .box ..=>false
 | .alloc _=>false
 | .store ..=>false
 | .buildSlice ..=>false
 | .makeMap ..=>false
 | .mapUpdate ..=>false
 | .call c=>match c.callee with
  | .builtin .append=>false
  | .builtin .delete=>false
  | _=>true
 | _=>true
def HExt (hp hp':Nat→Blk):Prop:=∀ id,hp' id=hp id∨hp id = .dead∨∃ t es,hp id = .row t es∧hp' id = .frz t es
theorem HExt.live {hp hp':Nat→Blk} (h:HExt hp hp') {id:Nat} (hl:live hp id=true):live hp' id=true:=by
 rcases h id with e | e | ⟨t,es,e1,e2⟩
 ·unfold Go.AE.live at *;rw [e];exact hl
 ·simp [Go.AE.live,e] at hl
 ·simp [Go.AE.live,e2]
def rdOp (o:Oper):Bool :=
 match o.op with
 | .load ..=>true
 | .fieldAddr ..=>true
 | .indexAddr ..=>true
 | .call c=>match c.callee with
  | .builtin .len=>true
  | _=>false
 | _=>false
def ejl (o:Oper):Bool :=
 match o.op with
 | .alloc _=>true
 | .box ..=>true
 | .buildSlice ..=>true
 | _=>false
theorem dyt {T:TyI} {hp hp':Nat→Blk} {x:A} {q:Prop×A} (h:HExt hp hp') (hl:bqo T hp x=some q):bqo T hp' x=some q:=by
 cases x with
 | box id off =>
  simp only [bqo] at hl ⊢
  rcases h id with e | e | ⟨t,es,e1,e2⟩
  ·rw [e];exact hl
  ·simp [e] at hl
  ·simp [e1] at hl
 | elt id sz ks i off =>
  simp only [bqo] at hl ⊢
  rcases h id with e | e | ⟨t,es,e1,e2⟩
  ·rw [e];exact hl
  ·simp [e] at hl
  ·rw [e1] at hl;rw [e2];exact hl
 | _=>exact hl
theorem dzm {T:TyI} {hp hp':Nat→Blk} {f:Nat} {x:A} {q:A} (h:HExt hp hp') (hl:bji T hp f x=some q):bji T hp' f x=some q:=by
 cases x with
 | elt id sz ks i off =>
  simp only [bji] at hl ⊢
  split at hl
  ·rename_i e;rw [if_pos (h.live e)];exact hl
  ·cases hl
 | _=>exact hl
theorem cwm {e:TypeId} {E:TyI} {hp hp':Nat→Blk} {x:A} {i:Int} {q:Prop×A} (h:HExt hp hp') (hl:aqy e E hp x i=some q):aqy e E hp' x i=some q:=by
 cases x with
 | own id ks off len =>
  simp only [aqy] at hl ⊢
  split at hl
  ·rename_i e;rw [if_pos (h.live e)];exact hl
  ·cases hl
 | c k x=>cases k <;> exact hl
 | _=>exact hl
theorem ckx {m:Nat} {e:TypeId} {E:TyI} {hp hp':Nat→Blk} {x:A} {i:Int} {q:Prop×A} (h:HExt hp hp') (hl:azb m e E hp x i=some q):azb m e E hp' x i=some q:=by
 unfold azb at hl ⊢
 split at hl
 ·rename_i id sz ks
  rcases h id with e | e | ⟨t,es,e1,e2⟩
  ·simp only [e];exact hl
  ·simp [e] at hl
  ·simp only [e1] at hl;simp only [e2];exact hl
 ·cases hl
theorem dyd {hp hp':Nat→Blk} {x:A} {q:Prop×A} (h:HExt hp hp') (hl:cja hp x=some q):cja hp' x=some q:=by
 cases x with
 | own id ks off len =>
  simp only [cja] at hl ⊢
  split at hl
  ·rename_i e;rw [if_pos (h.live e)];exact hl
  ·cases hl
 | c k x=>cases k <;> exact hl
 | _=>exact hl
theorem ewi {t:TypeId} {hp hp':Nat→Blk} {x:A} {q:Prop×A} (h:HExt hp hp') (hl:lenA P t hp x=some q):lenA P t hp' x=some q:=by
 unfold lenA at hl ⊢
 split at hl
 ·exact hl
 ·split at hl
  ·rename_i e;rw [if_pos e];exact dyd h hl
  ·cases hl
theorem eqh {o:Oper} {tm:Nat→A} {hp hp':Nat→Blk} {v:Operand→A} {r:Out} (hc:rdOp o=true) (hx:HExt hp hp') (h:opA P Γ o tm hp v=some r) :
  r.hp=hp∧r.q=true∧opA P Γ o tm hp' v=some { r with hp:=hp' }:=by
 obtain ⟨dst,op,type,pos,after,guard⟩:=o
 cases op with
 | load t x =>
  simp only [opA] at h ⊢
  split at h
  ·rename_i T hT
   split at h
   ·rename_i p a hl
    simp only [ja] at h;subst h
    rw [dyt hx hl]
    exact ⟨rfl,rfl,rfl⟩
   ·cases h
  ·cases h
 | fieldAddr t x f =>
  simp only [opA] at h ⊢
  split at h
  ·rename_i T hT
   split at h
   ·rename_i a hl
    simp only [ja] at h;subst h
    rw [dzm hx hl]
    exact ⟨rfl,rfl,rfl⟩
   ·cases h
  ·cases h
 | indexAddr t x i =>
  simp only [opA] at h ⊢
  split at h
  ·rename_i e E k n hE hi
   split at h
   ·rename_i p a hl
    simp only [ja] at h;subst h
    rw [cwm hx hl]
    exact ⟨rfl,rfl,rfl⟩
   ·cases h
  ·rename_i k n hE hi
   split at h
   ·rename_i m e E hA
    split at h
    ·rename_i p a hl
     simp only [ja] at h;subst h
     rw [ckx hx hl]
     exact ⟨rfl,rfl,rfl⟩
    ·cases h
   ·cases h
  ·cases h
 | call c =>
  obtain ⟨callee,args,argTypes⟩:=c
  cases callee with
  | builtin b =>
   cases b with
   | len =>
    simp only [opA] at h ⊢
    split at h
    ·rename_i x t ha ht
     split at h
     ·rename_i p a hl
      simp only [ja] at h;subst h
      rw [ewi hx hl]
      exact ⟨rfl,rfl,rfl⟩
     ·cases h
    ·cases h
   | _=>simp [rdOp] at hc
  | _=>simp [rdOp] at hc
 | _=>simp [rdOp] at hc
theorem HExt.refl (hp:Nat→Blk):HExt hp hp:=fun _=>.inl rfl
theorem HExt.freeze1 {hp:Nat→Blk} {hp':Nat→Blk} (h:HExt hp hp') (id:Nat):HExt hp (freeze1 hp' id):=by
 intro k
 unfold Go.AE.freeze1
 cases hr:hp' id with
 | row t es =>
  simp only [bjq]
  split
  ·rename_i e;subst e
   rcases h k with e | e | ⟨t',es',e1,e2⟩
   ·exact .inr (.inr ⟨t,es,by rw [← e];exact hr,rfl⟩)
   ·exact .inr (.inl e)
   ·rw [e2] at hr;cases hr
  ·exact h k
 | _=>exact h k
theorem HExt.freezeAll {hp:Nat→Blk}:∀ (ids:List Nat) {hp':Nat→Blk},HExt hp hp'→HExt hp (freezeAll hp' ids)
 | [],_,h=>h
 | id :: ids,_,h=>by
  simp only [Go.AE.freezeAll]
  exact HExt.freezeAll ids (h.freeze1 id)
theorem HExt.new {hp hp':Nat→Blk} (h:HExt hp hp') {id:Nat} (hd:aqh (hp id)=true) (b:Blk):HExt hp (upd hp' id b):=by
 intro k
 simp only [bjq]
 split
 ·rename_i e;subst e
  unfold aqh at hd
  split at hd
  ·rename_i e;exact .inr (.inl e)
  ·cases hd
 ·exact h k
theorem ezo {o:Oper} {tm:Nat→A} {hp:Nat→Blk} {v:Operand→A} {r:Out} (hc:ejl o=true) (h:opA P Γ o tm hp v=some r):HExt hp r.hp∧r.q=false:=by
 obtain ⟨dst,op,type,pos,after,guard⟩:=o
 cases op with
 | alloc t =>
  simp only [opA] at h
  split at h
  ·split at h
   ·rename_i hd
    simp only [ja] at h;subst h
    exact ⟨(HExt.refl _).new hd _,rfl⟩
   ·cases h
  ·cases h
 | box t x =>
  simp only [opA] at h
  split at h
  ·split at h
   ·rename_i hd
    simp only [jd] at hd
    simp only [ja] at h;subst h
    exact ⟨(HExt.refl _).new hd.1 _,rfl⟩
   ·cases h
  ·cases h
 | buildSlice t n parts =>
  simp only [opA] at h
  split at h
  ·split at h
   ·rename_i hd
    split at h
    ·simp only [ja] at h;subst h
     exact ⟨(HExt.freezeAll _ (HExt.refl _)).new hd _,rfl⟩
    ·cases h
   ·cases h
  ·cases h
 | _=>simp [ejl] at hc
theorem ey8 {ops:List Oper} {o:Oper} {tm:Nat→A} {hp hp1:Nat→Blk} {p f:Prop} {v:A} (hc:rdOp o=true) (h:eff P Γ ops o tm hp=some (p,f,v,hp1)) :
  hp1=hp∧∀ hp',HExt hp hp'→eff P Γ ops o tm hp'=some (p,f,v,hp'):=by
 unfold eff at h ⊢
 split at h
 ·rename_i ho;simp [rdOp,ho] at hc
 ·split at h
  ·cases h
  ·rename_i r hop
   obtain ⟨e1,e2,_⟩:=eqh hc (HExt.refl hp) hop
   split at h
   ·simp only [ja,jj] at h
    obtain ⟨rfl,rfl,rfl,rfl⟩:=h
    refine ⟨e1,fun hp' hx=>?_⟩
    rw [(eqh hc hx hop).2.2]
   ·split at h
    ·split at h
     ·simp only [ja,jj] at h
      obtain ⟨rfl,rfl,rfl,rfl⟩:=h
      refine ⟨rfl,fun hp' hx=>?_⟩
      rw [(eqh hc hx hop).2.2]
      simp only [e2,if_true]
     ·rename_i hq;exact absurd e2 hq
    ·cases h
theorem ezu {ops:List Oper} {o:Oper} {tm:Nat→A} {hp hp1:Nat→Blk} {p f:Prop} {v:A} (hc:ejl o=true) (h:eff P Γ ops o tm hp=some (p,f,v,hp1)):HExt hp hp1:=by
 unfold eff at h
 split at h
 ·rename_i ho;simp [ejl,ho] at hc
 ·split at h
  ·cases h
  ·rename_i r hop
   obtain ⟨e1,e2⟩:=ezo hc hop
   split at h
   ·simp only [ja,jj] at h
    obtain ⟨rfl,rfl,rfl,rfl⟩:=h
    exact e1
   ·split at h
    ·split at h
     ·rename_i hq;rw [e2] at hq;cases hq
     ·cases h
    ·cases h
def cj3 (x y:Oper):Bool:=cls0 x || (cls0 y || (cjy x && cjy y || rdOp x && ejl y))
def bqq (P:Program) (Γ:List Fn) (ops:List Oper) (o:Oper) (s:S) (K:S→Prop):Prop :=
 match eff P Γ ops o s.tm s.hp with
 | none=>False
 | some (p,_,v,hp')=>p∧(cjy o=true→hp'=s.hp)∧K ⟨updD s.tm o.dst v,hp'⟩
def cqs (P:Program) (Γ:List Fn) (ops:List Oper):List Oper→S→(S→Prop)→Prop
 | [],s,Q=>Q s
 | o :: os,s,Q=>bqq P Γ ops o s fun s'=>cqs P Γ ops os s' Q
theorem dj9 {tm:Nat→A} {x y:Option Nat} {v u:A} (h:∀ d,x=some d→y≠some d):updD (updD tm x v) y u=updD (updD tm y u) x v:=by
 cases x with
 | none=>rfl
 | some d =>
  cases y with
  | none=>rfl
  | some e =>
   have hne:d≠e:=fun he=>h d rfl (he ▸ rfl)
   funext k
   simp only [updD,upd]
   by_cases h1:k=e
   ·subst h1;simp [Ne.symm hne]
   ·by_cases h2:k=d
    ·subst h2;simp [h1]
    ·simp [h1,h2]
theorem ayk {tm:Nat→A} {x:Option Nat} {v:A} {t:Nat} (h:∀ d,x=some d→d≠t):updD tm x v t=tm t:=by
 cases x with
 | none=>rfl
 | some d=>simp [updD,upd,Ne.symm (h d rfl)]
theorem dkf {ops:List Oper} {oi oj:Oper} {K:S→Prop} (hap:oi.apart ops.toArray oj=true) (hcm:cj3 oi oj=true) (h:bqq P Γ ops oi s fun s'=>bqq P Γ ops oj s' K) :
  bqq P Γ ops oj s fun s'=>bqq P Γ ops oi s' K:=by
 obtain ⟨h1,h2,h3⟩:=Oper.apart_spec hap
 unfold bqq at h
 split at h
 ·exact h.elim
 ·rename_i p1 f1 v1 hp1 he1
  obtain ⟨hq1,hk1,h⟩:=h
  dsimp only at h
  split at h
  ·exact h.elim
  ·rename_i p2 f2 v2 hp2 he2
   obtain ⟨hq2,hk2,hK⟩:=h
   have c1:∀ hp,eff P Γ ops oj (updD s.tm oi.dst v1) hp=eff P Γ ops oj s.tm hp:=fun hp=>bkl (fun t ht=>ayk (fun d hd e=>h1 d hd (e ▸ ht)))
   have c2:∀ hp,eff P Γ ops oi (updD s.tm oj.dst v2) hp=eff P Γ ops oi s.tm hp:=fun hp=>bkl (fun t ht=>ayk (fun d hd e=>h3 d hd (e ▸ ht)))
   rw [c1] at he2
   have hcomm:=dj9 (tm:=s.tm) (v:=v1) (u:=v2) h2
   have hK':K ⟨updD (updD s.tm oj.dst v2) oi.dst v1,hp2⟩:=by rw [← hcomm];exact hK
   simp only [cj3,Bool.or_eq_true,jd] at hcm
   rcases hcm with hc | hc | ⟨hc1,hc2⟩ | ⟨hc1,hc2⟩
   ·obtain ⟨rfl,e3⟩:=dzb hc he1
    unfold bqq
    rw [he2]
    dsimp only
    rw [c2,e3 hp2]
    exact ⟨hq2,hk2,hq1,fun _=>rfl,hK'⟩
   ·obtain ⟨rfl,e3⟩:=dzb hc he2
    unfold bqq
    rw [e3 s.hp]
    dsimp only
    rw [c2,he1]
    exact ⟨hq2,fun _=>rfl,hq1,hk1,hK'⟩
   ·have e1:=hk1 hc1
    subst e1
    have e2:=hk2 hc2
    subst e2
    unfold bqq
    rw [he2]
    dsimp only
    rw [c2,he1]
    exact ⟨hq2,fun _=>rfl,hq1,fun _=>rfl,hK'⟩
   ·obtain ⟨rfl,e3⟩:=ey8 hc1 he1
    unfold bqq
    rw [he2]
    dsimp only
    rw [c2,e3 hp2 (ezu hc2 he2)]
    exact ⟨hq2,hk2,hq1,fun _=>rfl,hK'⟩
theorem cz0 {ops:List Oper} {o:Oper} {K K':S→Prop} (hK:∀ s,K s→K' s) (h:bqq P Γ ops o s K):bqq P Γ ops o s K':=by
 unfold bqq at *
 split at h
 ·exact h
 ·exact ⟨h.1,h.2.1,hK _ h.2.2⟩
def aOp (P:Program) (Γ:List Fn) (ops:Array Oper) (i:Nat) (K:S→Prop) (s:S):Prop :=
 match ops[i]? with
 | none=>K s
 | some o=>bqq P Γ ops.toList o s K
theorem dwr {ops:Array Oper} {i:Nat} {K K':S→Prop} (hK:∀ s,K s→K' s) (h:aOp P Γ ops i K s):aOp P Γ ops i K' s:=by
 unfold aOp at *
 split
 ·rename_i ho;rw [ho] at h;exact hK _ h
 ·rename_i o ho;rw [ho] at h;exact cz0 hK h
def cz3 (P:Program) (Γ:List Fn) (md:Region.Mode) (ops:Array Oper) (Q:S→Prop):Nat→Array Bool→S→Prop
 | 0,listed,s=>Region.ready md ops listed=[]∧Q s
 | fuel+1,listed,s =>
  (Region.ready md ops listed=[]→Q s)∧∀ i∈Region.ready md ops listed,aOp P Γ ops i (cz3 P Γ md ops Q fuel (listed.setIfInBounds i true)) s
theorem eqt {ops:Array Oper} {i j:Nat} {oi oj:Oper} {K:S→Prop} (hi:ops[i]? = some oi) (hj:ops[j]? = some oj) (hap:oi.apart ops oj=true) (hcm:cj3 oi oj=true) (h:aOp P Γ ops i (fun s'=>aOp P Γ ops j K s') s) :
  aOp P Γ ops j (fun s'=>aOp P Γ ops i K s') s:=by
 unfold aOp at *
 simp only [hi,hj] at *
 exact dkf (by simpa using hap) hcm h
theorem djl {md:Region.Mode} {ops:Array Oper} {Q:S→Prop} {i:Nat} {oi:Oper} (hi:ops[i]? = some oi) {D:Nat→Bool}
  (hDe:∀ j,D j=true→j≠i→∃ oj e,ops[j]? = some oj∧e∈oj.after∧Region.binds md e=true∧D e.on=true) :
  ∀ (fuel:Nat) (listed:Array Bool) (s:S),(∀ j,D j=true→listed.getD j true=false) →
   (∀ j oj,ops[j]? = some oj→j≠i→listed.getD j true=false→D j=false→oi.apart ops oj=true∧cj3 oi oj=true) →
   i∈Region.ready md ops listed→aOp P Γ ops i (cz3 P Γ md ops Q fuel (listed.setIfInBounds i true)) s→cz3 P Γ md ops Q (fuel+1) listed s:=by
 intro fuel
 induction fuel with
 | zero =>
  intro listed s _ _ hr H
  refine ⟨fun h=>(by rw [h] at hr;cases hr),fun j hj=>?_⟩
  by_cases hji:j=i
  ·subst hji;exact H
  ·have h1:=ready_mono hj hji
   unfold aOp at H
   simp only [hi] at H
   unfold bqq at H
   split at H
   ·exact H.elim
   ·have:=H.2.2.1
    rw [this] at h1;cases h1
 | succ fuel ih =>
  intro listed s hDl hfree hr H
  refine ⟨fun h=>(by rw [h] at hr;cases hr),fun j hj=>?_⟩
  by_cases hji:j=i
  ·subst hji;exact H
  ·obtain ⟨hjun,oj,hoj,hall⟩:=mem_ready.1 hj
   have hDj:D j=false:=by
    cases hd:D j with
    | false=>rfl
    | true =>
     obtain ⟨oj',e,hoj',he,hb,hde⟩:=hDe j hd hji
     rw [hoj] at hoj';cases hoj'
     have h1:=hall e he hb
     have h0:=hDl e.on hde
     rcases Nat.lt_or_ge e.on listed.size with h' | h'
     ·simp [h'] at h0 h1;rw [h0] at h1;cases h1
     ·simp [Array.getElem?_eq_none h'] at h1
   obtain ⟨hap,hcm⟩:=hfree j oj hoj hji hjun hDj
   have H':aOp P Γ ops i (fun s'=>aOp P Γ ops j (cz3 P Γ md ops Q fuel ((listed.setIfInBounds i true).setIfInBounds j true)) s') s :=
    dwr (fun s' h=>h.2 j (ready_mono hj hji)) H
   have H2:=eqt hi hoj hap hcm H'
   have hfree':∀ k ok,ops[k]? = some ok→k≠i→(listed.setIfInBounds j true).getD k true=false →
     D k=false→oi.apart ops ok=true∧cj3 oi ok=true:=fun k ok hk hki hun hno=>by
    refine hfree k ok hk hki ?_ hno
    by_cases hjk:j=k
    ·subst hjk;exact hjun
    ·rw [getD_set_ne true hjk] at hun;exact hun
   have hDl':∀ k,D k=true→(listed.setIfInBounds j true).getD k true=false:=fun k hk=>by
    have hjk:j≠k:=fun e=>by subst e;rw [hk] at hDj;cases hDj
    rw [getD_set_ne true hjk];exact hDl k hk
   refine dwr (fun s' h3=>ih (listed.setIfInBounds j true) s' hDl' hfree' (ready_mono hr (Ne.symm hji)) ?_) H2
   rw [Array.setIfInBounds_comm _ _ hji]
   exact h3
def depD (md:Region.Mode) (ops:Array Oper) (listed:Array Bool) (k:Nat):Nat→Nat→Bool
 | 0,j=>!listed.getD j true && j == k
 | n+1,j=>!listed.getD j true && (j == k || (match ops[j]? with
  | some oj=>oj.after.any (fun e=>Region.binds md e && depD md ops listed k n e.on)
  | none=>false))
theorem ej1 {md:Region.Mode} {ops:Array Oper} {listed:Array Bool} {k n j:Nat} (h:depD md ops listed k n j=true):listed.getD j true=false:=by
 cases n <;> rw [depD] at h <;> simp only [jd] at h <;> simpa using h.1
theorem djx {md:Region.Mode} {ops:Array Oper} {listed:Array Bool} {k:Nat}:∀ (n j:Nat),depD md ops listed k n j=true→depD md ops listed k (n+1) j=true
 | 0,j,h=>by
  simp only [depD] at h ⊢
  simp only [jd,Bool.or_eq_true] at h ⊢
  exact ⟨h.1,.inl h.2⟩
 | n+1,j,h=>by
  rw [depD] at h
  rw [depD.eq_2]
  simp only [jd] at h ⊢
  refine ⟨h.1,?_⟩
  have h:=h.2
  cases ho:ops[j]? with
  | none=>simpa [ho] using h
  | some oj =>
   simp only [ho,Bool.or_eq_true,Array.any_eq_true'] at h ⊢
   rcases h with h | ⟨e,he,hb⟩
   ·exact .inl h
   ·simp only [jd] at hb
    exact .inr ⟨e,he,by simp only [jd];exact ⟨hb.1,djx n e.on hb.2⟩⟩
theorem dj0 {md:Region.Mode} {ops:Array Oper} {listed:Array Bool} {k n j:Nat} (h:depD md ops listed k n j=true) (hj:j≠k):∃ oj e,ops[j]? = some oj∧e∈oj.after∧Region.binds md e=true∧depD md ops listed k n e.on=true:=by
 cases n with
 | zero=>simp [depD,hj] at h
 | succ n =>
  rw [depD] at h
  simp only [jd] at h
  have h:=h.2
  cases ho:ops[j]? with
  | none=>simp [ho,hj] at h
  | some oj =>
   simp only [ho,Bool.or_eq_true,Array.any_eq_true',beq_iff_eq,hj,false_or] at h
   obtain ⟨e,he,hb⟩:=h
   simp only [jd] at hb
   exact ⟨oj,e,rfl,he,hb.1,djx n e.on hb.2⟩
def ezz (md:Region.Mode) (ops:Array Oper) (listed:Array Bool) (k:Nat):Bool :=
 match ops[k]? with
 | none=>false
 | some ok=>(List.range ops.size).all fun j=>j == k || (listed.getD j true || (match ops[j]? with
  | none=>true
  | some oj=>(ok.apart ops oj && cj3 ok oj) || depD md ops listed k 8 j))
theorem dzt {md:Region.Mode} {ops:Array Oper} {listed:Array Bool} {k:Nat} {ok:Oper} (hk:ops[k]? = some ok) (h:ezz md ops listed k=true) :
  ∀ j oj,ops[j]? = some oj→j≠k→listed.getD j true=false→depD md ops listed k 8 j=false→ok.apart ops oj=true∧cj3 ok oj=true:=by
 unfold ezz at h
 simp only [hk,List.all_eq_true,List.mem_range] at h
 intro j oj hj hjk hl hd
 have:=h j (jg.1 hj).1
 simp only [hd,hj,Bool.or_eq_true,beq_iff_eq,hjk,false_or,hl,Bool.false_eq_true,or_false,jd] at this
 exact this
def bkn (md:Region.Mode) (ops:Array Oper):Nat→Nat→Array Bool→Bool
 | 0,_,listed=>(Region.ready md ops listed).isEmpty
 | fuel+1,k,listed=>((Region.ready md ops listed).contains k && ezz md ops listed k) && bkn md ops fuel (k+1) (listed.setIfInBounds k true)
def lexD (ops:Array Oper):Bool:=bkn .any ops ops.size 0 (j6 ops.size false)
theorem cws {md:Region.Mode} {ops:Array Oper} {Q:S→Prop}:∀ (l:List Oper) (k:Nat) (listed:Array Bool) (s:S),(∀ j,l[j]? = ops[k+j]?) →
  bkn md ops l.length k listed=true→cqs P Γ ops.toList l s Q→cz3 P Γ md ops Q l.length listed s
 | [],_,_,_,_,hB,h=>⟨by simpa [bkn] using hB,h⟩
 | o :: l,k,listed,s,hl,hB,h=>by
  have h0:ops[k]? = some o:=by simpa using (hl 0).symm
  simp only [List.length_cons,bkn,jd] at hB
  obtain ⟨⟨hr,hf⟩,hB'⟩:=hB
  refine djl h0 (D:=depD md ops listed k 8) (fun j hd hj=>dj0 hd hj) l.length listed s (fun j hd=>ej1 hd) (dzt h0 hf) (by simpa using hr) ?_
  unfold aOp
  simp only [h0]
  refine cz0 (fun s' h'=>?_) (show bqq P Γ ops.toList o s (fun s'=>cqs P Γ ops.toList l s' Q) from h)
  exact cws l (k+1) _ s' (fun j=>by have:=hl (j+1);simpa [Nat.add_assoc,Nat.add_comm 1 j] using this) hB' h'
theorem bqu {md:Region.Mode} {ops:Array Oper} {Q:S→Prop} {Q':Exit→Act→World→Prop} {a0:Act} (h00:tyI P 0=none) (hΓ:∀ g,g∈Γ→aj9 P g) (hok:∀ o,o∈ops.toList→awj N o=true)
  (hQ:∀ s' a' w',a'.defers=a0.defers→Rel P w0 N s' a'.tmps w'→Q s'→Q' .normal a' w') :
  ∀ (fuel:Nat) (listed:Array Bool) (s:S) (a:Act) (w:World),a.defers=a0.defers→cz3 P Γ md ops Q fuel listed s→Rel P w0 N s a.tmps w→wpAny P md ops Q' fuel listed a w
 | 0,_,s,a,w,hd,h,hR=>⟨h.1,hQ s a w hd hR h.2⟩
 | fuel+1,listed,s,a,w,hd,h,hR=>by
  refine ⟨fun h0=>hQ s a w hd hR (h.1 h0),fun i hi=>?_⟩
  have h1:=h.2 i hi
  unfold aOp at h1
  unfold wpOp
  cases ho:ops[i]? with
  | none =>
   simp only [ho] at h1 ⊢
   exact bqu h00 hΓ hok hQ fuel _ s a w hd h1 hR
  | some o =>
   simp only [ho] at h1 ⊢
   unfold bqq at h1
   split at h1
   ·exact h1.elim
   ·rename_i p f v hp' he
    obtain ⟨hp,_,hK⟩:=h1
    have hst:ckr P Γ ops.toList o s=some (p,f,⟨updD s.tm o.dst v,hp'⟩):=by rw [eqp,he];rfl
    have hm:o∈ops.toList:=by
     obtain ⟨hlt,e⟩:=jg.1 ho
     rw [← e];simp
    obtain ⟨hdd,hoo⟩:=aqp (hok o hm)
    obtain ⟨k1,k2⟩:=bzo h00 hΓ hdd hoo hR hst hp
    have ih:∀ a' w',a'.defers=a.defers→Rel P w0 N ⟨updD s.tm o.dst v,hp'⟩ a'.tmps w'→wpAny P md ops Q' fuel (listed.setIfInBounds i true) a' w':=fun a' w' hdf hR' =>
     bqu h00 hΓ hok hQ fuel _ _ a' w' (hdf.trans hd) hK hR'
    simp only [Array.toArray_toList] at k1 k2
    cases hw:Region.wanted o (yielded ops a.tmps) with
    | true=>exact .inl (k1 hw _ _ (fun a' w' h1 _ h2=>ih a' w' h1 h2))
    | false=>exact ih _ _ (put_defers _ _ _) (k2 hw).2
theorem by9 {r:Option Nat} {id:Nat} {ops:Array Oper} {Q:S→Prop} {Q':Exit→Act→World→Prop} {a:Act} (h00:tyI P 0=none) (hm:P.follows .mixedOrders=true) (hΓ:∀ g,g∈Γ→aj9 P g) (hok:∀ o,o∈ops.toList→awj N o=true) (hlex:lexD ops=true)
  (h:cqs P Γ ops.toList ops.toList s Q) (hR:Rel P w0 N s a.tmps w) (hQ:∀ s' a' w',a'.defers=a.defers→Rel P w0 N s' a'.tmps w'→Q s'→Q' .normal a' w'):cwp r P (.region id ops true) Q' a w:=by
 refine bka hm (akz hok) ?_
 obtain ⟨σ,hR'⟩:=hR
 have hR2:Rel P w0 N s a.tmps { w with drawn:=w.drawn+1 }:=⟨σ,hR'.world (Below.refl _ _).drew⟩
 have hA:=cws (md:=.any) ops.toList 0 (j6 ops.size false) s (by simp) (by rw [Array.length_toList];exact hlex) h
 have:=bqu (Q':=dwe Q') h00 hΓ hok (fun s' a' w' h1 h2 h3=>⟨by simp,hQ s' a' w' h1 h2 h3⟩) ops.toList.length _ s a _ rfl hA hR2
 simpa using this
end Go.AE
