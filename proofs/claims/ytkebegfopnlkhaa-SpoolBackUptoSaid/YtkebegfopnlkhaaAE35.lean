/- Text. -/
import Derived.Test.YtkebegfopnlkhaaAE33
import Derived.RangeFuncNested
set_option linter.unusedSimpArgs false
set_option linter.unusedVariables false
set_option linter.unusedVariables false
namespace Go.AE
open Go.RowKit (Below)
variable {P:Program} {w:World}
def IterK {δ:Type} (P:Program) (gf:Nat) (lb:Array Value) (len:Nat) (G:δ→World→Prop) (V:Nat→δ→Array Value→World→Prop) (w:World):Prop :=
  ∀ (l:Nat) (J:Nat→δ→World→Prop) (Jx:Nat→World→Prop) (W:World),w.heap.size≤W.heap.size→(∀ k d A,J k d A→G d A) →
    (∀ k d A B,J k d A→A.grownBy B none→J k d B)→(∀ k A B,Jx k A→A.grownBy B none→Jx k B) →
    (∀ k d W1 vals,k < len→J k d W1→V k d vals W1→YieldAt Fence.wide 7 P l vals W1 fun e W' =>
      (e = .returned (.bool true)∧∃ d',J (k+1) d' W')∨(e = .returned (.bool false)∧Jx k W')) →
    (∃ d,J 0 d W) →
    CallsIn Fence.wide 8 P gf (#[.func (.yield l) #[] #[]] ++ lb) W fun e W'=>(∃ v,e = .returned v)∧((∃ d,J len d W')∨∃ k,k < len∧Jx k W')
def MarkAt (B:Nat) (mk:List Deferred) (W:World):Prop:=mk=[]∨∃ D,mk=[mkDf D]∧B≤D∧W.heap[D]? = some (.deferred (some []))
theorem grown_alloc (w:World) (o:Obj):w.grownBy (w.alloc o) none:=⟨rfl,rfl,rfl,by simp,fun k hk _=>Below.heap_alloc w o k hk⟩
theorem grown_trans {a b c:World} (h:a.grownBy b none) (h':b.grownBy c none):a.grownBy c none :=
  ⟨h'.os.trans h.os,h'.tape.trans h.tape,h'.output.trans h.output,Nat.le_trans h.size h'.size,fun k hk hn=>(h'.block k (Nat.lt_of_lt_of_le hk h.size) (by simp)).trans (h.block k hk hn)⟩
theorem enter_any {r:Option Nat} (hr:∀ l,r=some l→∃ r0,w.heap[l]? = some (.loop r0)) (fn:FuncId) (tmps:Array Value) (ps:Array Tmp) (assign body:Code) :
    ∃ (l df:Nat) (mk:List Deferred) (mD:Option Nat) (W1:World),(Instr.enterLoop fn tmps ps assign body r).run P w = .ok (l,mk) W1 ∧
      W1.heap[l]? = some (.loop { state:=.ready,pending:=none,fn,tmps,params:=ps,assign,body,defers:=df }) ∧
      w.heap.size≤l∧mk=(mD.map mkDf).toList∧(∀ D,mD=some D→w.heap.size≤D∧D≠l∧W1.heap[D]? = some (.deferred (some [])))∧w.grownBy W1 none:=by
  cases r with
  | none =>
    refine ⟨w.heap.size+1,w.heap.size,_,some w.heap.size,_,run_enterLoop_outer fn tmps ps assign body,?_,by omega,rfl,?_,grown_trans (grown_alloc _ _) (grown_alloc _ _)⟩
    · have:=World.alloc_heap_new (w.alloc (.deferred (some []))) (.loop { state:=.ready,pending:=none,fn,tmps,params:=ps,assign,body,defers:=w.heap.size })
      rwa [World.size_alloc] at this
    · rintro D hD
      cases hD
      exact ⟨Nat.le_refl _,by omega,(Below.heap_alloc _ _ _ (by simp)).trans (World.alloc_heap_new w _)⟩
  | some l0 =>
    obtain ⟨r0,h0⟩:=hr l0 rfl
    exact ⟨w.heap.size,r0.defers,[],none,_,run_enterLoop_inner h0 fn tmps ps assign body,World.alloc_heap_new _ _,Nat.le_refl _,rfl,(fun D h=>by cases h),grown_alloc _ _⟩
theorem calls_fo {r:Option Nat} {n m f:Nat} {args:Array Value} {W:World} {R:Ending→World→Prop} (h:CallsIn Fence.wide m P f args W R):CallsIn (fo r) n P f args W R:=⟨trivial,fun cs _=>h.2 cs (room_wide _)⟩
theorem cw_range {δ:Type} {r:Option Nat} {g:Operand} {ps:Array Tmp} {assign body:Code} {Q:Exit→Act→World→Prop} {a:Act} {gf:Nat} {lb:Array Value}
    (hg:a.eval g = .func (.func gf) #[] lb) (eg:∀ args w,(callFunc gf args).run P w = .ok (.enter gf args) w)
    {len:Nat} {G:δ→World→Prop} {V:Nat→δ→Array Value→World→Prop} (hseq:IterK P gf lb len G V w) (hps:∀ k d vals W,k < len→V k d vals W→vals.size=ps.size)
    (hr:∀ l,r=some l→∃ r0,w.heap[l]? = some (.loop r0))
    (I:Nat→δ→World→Prop) (Ix:Code→Nat→World→Prop) (hG:∀ k d W,I k d W→G d W)
    (hI:∀ k d A B row,I k d A→A.grownBy B row→(∀ q,row=some q→w.heap.size≤q∧∃ o:Obj,A.heap[q]? = some o∧o.isCells=false)→I k d B)
    (hIx:∀ c k A B row,Ix c k A→A.grownBy B row→(∀ q,row=some q→w.heap.size≤q∧∃ o:Obj,A.heap[q]? = some o∧o.isCells=false)→Ix c k B)
    (h0:∃ d,I 0 d w)
    (hround:∀ l k d vals W,k < len→w.heap.size≤l→(∃ r0,W.heap[l]? = some (.loop r0))→I k d W→V k d vals W →
      cwp (some l) P assign (Exit.then (fun a' Wa=>KeepsFrom w.heap.size W Wa∧∀ Wb,Wa.grownBy Wb (some l)→(∃ r0,Wb.heap[l]? = some (.loop r0)) →
        cwp (some l) P body (fun e a2 W'=>KeepsFrom w.heap.size Wb W' ∧
          (match e with | .normal=>∃ d',I (k+1) d' W' | .ret=>Ix .ret k W' | .exit id=>Ix (.exit id) k W' | _=>False)) a' Wb) (fun _ _ _=>False))
        { tmps:=(ps.zip vals).foldl (fun t (p,v)=>t.setIfInBounds p v) a.tmps,defers:=[] } W)
    (hdone:∀ mk d W,MarkAt w.heap.size mk W→I len d W→Q .normal { a with defers:=mk ++ a.defers } W)
    (hstop:∀ mk c k W,MarkAt w.heap.size mk W→k < len→Ix c k W→cwp r P c Q { a with defers:=mk ++ a.defers } W) :
    cwp r P (.rangeFunc g ps assign body) Q a w:=by
  refine wpIn_rangeFunc ?_
  intro fn hfn
  obtain ⟨l,df,mk,mD,W1,he,hL1,hlw,hmk,hmD,hg1⟩:=enter_any (P:=P) hr fn a.tmps ps assign body
  obtain ⟨rec,hrec⟩:∃ rec:LoopState→Option Code→Loop,rec=fun st pe=>{ state:=st,pending:=pe,fn,tmps:=a.tmps,params:=ps,assign,body,defers:=df }:=⟨_,rfl⟩
  have hL1:W1.heap[l]? = some (.loop (rec .ready none)):=by rw [hL1,hrec]
  obtain ⟨d0,h0⟩:=h0
  have hI1:I 0 d0 W1:=hI 0 _ _ _ none h0 hg1 (fun q e=>by cases e)
  refine ⟨l,mk,W1,{ target:=.fn (.func gf) lb,args:=#[.func (.yield l) #[] #[]] },W1,gf,#[.func (.yield l) #[] #[]] ++ lb,W1,he,?_,fun f' hf'=>trivial,?_,fun h=>(Bool.noConfusion (show false=true from h)),?_⟩
  · simp only [Go.resolve,hg]
    simp [go_sem]
  · simp [invoke,go_sem,eg]
  have hCells:∀ {W:World},(∃ r0,W.heap[l]? = some (.loop r0))→(∀ q,some l=some q→w.heap.size≤q∧∃ o:Obj,W.heap[q]? = some o∧o.isCells=false) :=
    fun hl q e=>by cases e;obtain ⟨r0,h⟩:=hl;exact ⟨hlw,_,h,rfl⟩
  have hput:∀ (W:World) (o:Obj),W.grownBy (W.putObj l o) (some l):=fun W o=>grownBy_putObj' W l o
  have hlD:∀ D,mD=some D→D≠l:=fun D h=>(hmD D h).2.1
  have main:=hseq l
    (fun k d W=>I k d W∧W.heap[l]? = some (.loop (rec .ready none))∧∀ D,mD=some D→W.heap[D]? = some (.deferred (some [])))
    (fun k W=>∃ c,Ix c k W∧W.heap[l]? = some (.loop (rec .done (some c)))∧∀ D,mD=some D→W.heap[D]? = some (.deferred (some [])))
    W1 hg1.size (fun k d A h=>hG k d A h.1)
    (fun k d A B ⟨h1,h2,h3⟩ hg'=>⟨hI k d A B none h1 hg' (fun q e=>by cases e),(hg'.block _ (Array.getElem?_eq_some_iff.1 h2).1 (by simp)).trans h2,fun D hD=>(hg'.block _ (Array.getElem?_eq_some_iff.1 (h3 D hD)).1 (by simp)).trans (h3 D hD)⟩)
    (fun k A B ⟨c,h1,h2,h3⟩ hg'=>⟨c,hIx c k A B none h1 hg' (fun q e=>by cases e),(hg'.block _ (Array.getElem?_eq_some_iff.1 h2).1 (by simp)).trans h2,fun D hD=>(hg'.block _ (Array.getElem?_eq_some_iff.1 (h3 D hD)).1 (by simp)).trans (h3 D hD)⟩)
    ?_ ⟨d0,hI1,hL1,fun D hD=>(hmD D hD).2.2⟩
  · refine (calls_fo main).mono ?_
    rintro e W2 ⟨⟨v,rfl⟩,(⟨d,hi,hl,hk⟩ | ⟨k,hk',c,hi,hl,hk⟩)⟩
    · refine ⟨none,_,by have:=run_endLoop (P:=P) hl (by rw [hrec];simp);rw [hrec] at this;exact this,?_⟩
      refine hdone mk d _ ?_ (hI _ _ _ _ _ hi (hput _ _) (hCells ⟨_,hl⟩))
      cases hD:mD with
      | none=>left;rw [hmk,hD];rfl
      | some D=>right;exact ⟨D,by rw [hmk,hD];rfl,(hmD D hD).1,(World.putObj_heap_other (hlD D hD)).trans (hk D hD)⟩
    · refine ⟨some c,_,by have:=run_endLoop (P:=P) hl (by rw [hrec];simp);rw [hrec] at this;exact this,?_⟩
      refine cwp_at (hstop mk c k _ ?_ hk' (hIx _ _ _ _ _ hi (hput _ _) (hCells ⟨_,hl⟩)))
      cases hD:mD with
      | none=>left;rw [hmk,hD];rfl
      | some D=>right;exact ⟨D,by rw [hmk,hD];rfl,(hmD D hD).1,(World.putObj_heap_other (hlD D hD)).trans (hk D hD)⟩
  · -- one round
    rintro k d W vals hlen ⟨hi,hl,hk⟩ hV
    have hy:=run_yield (P:=P) (args:=vals) hl (by rw [hrec];exact hps k d vals W hlen hV)
    rw [hrec] at hy
    refine ⟨fn,_,assign,body,hy,roundIn_of_wpIn (F:=Fence.wide) trivial ?_⟩
    have hA:=hround l k d vals W hlen hlw ⟨_,hl⟩ hi hV
    refine wpIn_mono (cwp_at (n:=7) hA) ?_
    rintro e a' Wa hq
    cases e with
    | normal =>
      obtain ⟨hkf,hbody⟩:=hq
      have hla:=hkf.same _ _ hlw hl rfl
      refine ⟨_,run_beginRound hla (by rw [hrec]),?_⟩
      have hlt:=(Array.getElem?_eq_some_iff.1 hla).1
      have hlb:(Wa.putObj l (.loop { rec .ready none with state:=.busy })).heap[l]? = some (.loop { rec .ready none with state:=.busy }):=World.putObj_heap_same hlt
      refine wpIn_mono (cwp_at (n:=7) (hbody _ (hput _ _) ⟨_,hlb⟩)) ?_
      rintro e a2 W3 ⟨hk3,hp⟩
      have hl3:=hk3.same _ _ hlw hlb rfl
      have hm3:∀ D,mD=some D→W3.heap[D]? = some (.deferred (some [])):=fun D hD =>
        hk3.same _ _ (hmD D hD).1 ((World.putObj_heap_other (hlD D hD)).trans (hkf.same _ _ (hmD D hD).1 (hk D hD) rfl)) rfl
      have hlt3:=(Array.getElem?_eq_some_iff.1 hl3).1
      have hrun:=fun jump=>run_endRound (P:=P) jump hl3
      cases e with
      | normal =>
        obtain ⟨d',hp⟩:=hp
        refine ⟨_,_,hrun none,.inl ⟨rfl,d',hI _ _ _ _ _ hp (hput _ _) (hCells ⟨_,hl3⟩),?_,fun D hD=>(World.putObj_heap_other (hlD D hD)).trans (hm3 D hD)⟩⟩
        rw [World.putObj_heap_same hlt3,hrec];rfl
      | ret =>
        refine ⟨_,_,hrun (some .ret),.inr ⟨rfl,.ret,hIx _ _ _ _ _ hp (hput _ _) (hCells ⟨_,hl3⟩),?_,fun D hD=>(World.putObj_heap_other (hlD D hD)).trans (hm3 D hD)⟩⟩
        rw [World.putObj_heap_same hlt3,hrec];rfl
      | exit id =>
        refine ⟨_,_,hrun (some (.exit id)),.inr ⟨rfl,.exit id,hIx _ _ _ _ _ hp (hput _ _) (hCells ⟨_,hl3⟩),?_,fun D hD=>(World.putObj_heap_other (hlD D hD)).trans (hm3 D hD)⟩⟩
        rw [World.putObj_heap_same hlt3,hrec];rfl
      | goto t=>exact hp.elim
      | panic ch=>exact hp.elim
      | outgrown=>exact hp.elim
    | exit id=>exact hq.elim
    | goto t=>exact hq.elim
    | ret=>exact hq.elim
    | panic ch=>exact hq.elim
    | outgrown=>exact hq.elim
end Go.AE
/-
  A range over a function: from the iterator's list to a loop over a list.
-/
set_option linter.unusedVariables false
namespace Go.AE
open Go.RowKit (Below)
variable {P:Program} {w0:Base} {w:World} {N kp:Nat} {σ:Nat→RefI} {s:S} {tms:Array Value} {Q:Exit→S→Prop}
def loopK {X Y:Type} (body:X→Nat→Option (X ⊕ Y)):Nat→Nat→X→Option (X ⊕ Y)
  | 0,_,x=>some (.inl x)
  | n+1,k,x=>match body x k with
    | none=>none
    | some (.inl x')=>loopK body n (k+1) x'
    | some (.inr y)=>some (.inr y)
def unkT:Nat→A:=fun _=>.unk
def IterA (P:Program) (gf:FuncId) (caps:List A) (OkH:(Nat→Blk)→Prop) (ys:List (List A)):Prop :=
  (∀ args w,(callFunc gf args).run P w = .ok (.enter gf args) w) ∧
  ∀ (wI:Base) (N:Nat) (tms:Array Value) (vs:List Value) (w:World),vs.length=caps.length →
    IterK (δ:=(Nat→Blk)×(Nat→RefI)) P gf vs.toArray ys.length
      (fun d A=>RelL P wI N d.2 ⟨unkT,d.1⟩ tms A∧OkH d.1∧∀ i,i < caps.length→ARel P A (Al wI A d.2 d.1) d.2 (vs.getD i undef) (caps.getD i .unk))
      (fun k d vals A=>vals.size=(ys.getD k []).length∧∀ j,j < (ys.getD k []).length→ARel P A (Al wI A d.2 d.1) d.2 (vals.getD j undef) ((ys.getD k []).getD j .unk)) w
def noMap:Blk→Bool
  | .mp ..=>false
  | .it ..=>false
  | _=>true
theorem own_cells {hp:Nat→Blk} {B al:Nat→Prop} {id b:Nat} (h:BRel P w B al σ id (hp id)) (hn:noMap (hp id)=true) (hb:blockOf (σ id) b):∃ o:Obj,w.heap[b]? = some o∧o.isCells=true:=by
  cases hk:hp id with
  | dead=>rw [hk] at h;simp only [BRel] at h;simp [h,blockOf] at hb
  | gone=>rw [hk] at h;simp only [BRel] at h;simp [h,blockOf] at hb
  | box cells =>
    rw [hk] at h
    obtain ⟨b',vs,t,hr,hB,hh,_⟩:=h
    simp [hr,blockOf] at hb;subst hb
    exact ⟨_,hh,rfl⟩
  | row t es =>
    rw [hk] at h
    obtain ⟨E,hE,hby,h⟩:=h
    rcases h with ⟨hr,_⟩ | ⟨b',cap,cur,tg,hr,hB,hh,_⟩
    · simp [hr,blockOf] at hb
    · simp [hr,blockOf] at hb;subst hb;exact ⟨_,hh,rfl⟩
  | frz t es =>
    rw [hk] at h
    obtain ⟨E,hE,hby,h⟩:=h
    rcases h with ⟨hr,_⟩ | ⟨b',cap,cur,tg,hr,hB,hh,_⟩
    · simp [hr,blockOf] at hb
    · simp [hr,blockOf] at hb;subst hb;exact ⟨_,hh,rfl⟩
  | mp kk vp m=>rw [hk] at hn;cases hn
  | rl t es i j a =>
    rw [hk] at h
    obtain ⟨E,hE,hby,h⟩:=h
    rcases h with ⟨hr,_⟩ | ⟨b',cap,cur,tg,hr,hB,hh,_⟩
    · simp [hr,blockOf] at hb
    · simp [hr,blockOf] at hb;subst hb;exact ⟨_,hh,rfl⟩
  | it kk vp cur l=>rw [hk] at hn;cases hn
  | reg =>
    rw [hk] at h
    obtain ⟨W,Q,hr,hq⟩:=h
    rw [hr] at hb
    obtain ⟨_,vs,t,z,h1,h2⟩:=hq b hb
    exact ⟨_,h1,rfl⟩
  | wob =>
    rw [hk] at h
    obtain ⟨W,Q,hr,hq⟩:=h
    rw [hr] at hb
    obtain ⟨_,vs',vs,t,z,h1,h2⟩:=hq b hb
    exact ⟨_,h1,rfl⟩
theorem marks_all (w0:Base) (w:World) (σ:Nat→RefI) (hp:Nat→Blk):∃ m:Nat→Option Obj,(∀ k,Al w0 w σ hp k→m k=w.heap[k]?)∧(∀ k o,m k=some o→Al w0 w σ hp k∧w.heap[k]? = some o):=by
  classical
  refine ⟨fun k=>if Al w0 w σ hp k then w.heap[k]? else none,fun k hk=>by simp [hk],fun k o h=>?_⟩
  by_cases hk:Al w0 w σ hp k
  · simp only [hk,if_true] at h;exact ⟨hk,h⟩
  · simp [hk] at h
theorem al_other {hp:Nat→Blk} {tm:Nat→A} (hR:RelL P w0 N σ ⟨tm,hp⟩ tms w) (hn:∀ id,noMap (hp id)=true) {k:Nat} {o:Obj} (hk:w.heap[k]? = some o) (ho:o.isCells=false) (hw:w0.n≤k):Al w0 w σ hp k :=
  ⟨(Array.getElem?_eq_some_iff.1 hk).1,(fun id hb=>by
    obtain ⟨o',h1,h2⟩:=own_cells (hR.blks id) (hn id) hb
    rw [hk] at h1;cases h1;rw [ho] at h2;cases h2),.inl (.inl hw)⟩
theorem rel_grown {hp:Nat→Blk} {tm:Nat→A} {w':World} {row:Option Nat} {B:Nat} (hR:RelL P w0 N σ ⟨tm,hp⟩ tms w) (hn:∀ id,noMap (hp id)=true) (hg:w.grownBy w' row)
    (hrow:∀ q,row=some q→B≤q∧∃ o:Obj,w.heap[q]? = some o∧o.isCells=false) (hB:w0.n≤B) (hm:∀ k o,w0.mkd k=some o→some k≠row):RelL P w0 N σ ⟨tm,hp⟩ tms w':=by
  refine hR.other (w':=w') w0.mkd w0.ms (Nat.le_trans hR.marks.1 hg.size) hg.os hg.tape hg.output hg.size (fun b o hb hc=>?_) (fun id b hb=>?_) (fun b hb=>?_) (fun k o hk=>?_)
  · refine (hg.block b (Array.getElem?_eq_some_iff.1 hb).1 (fun e=>?_)).trans hb
    obtain ⟨_,o',h1,h2⟩:=hrow b e.symm
    rw [hb] at h1;cases h1;rw [hc] at h2;cases h2
  · obtain ⟨o,h1,h2⟩:=own_cells (hR.blks id) (hn id) hb
    refine hg.block b (Array.getElem?_eq_some_iff.1 h1).1 (fun e=>?_)
    obtain ⟨_,o',h3,h4⟩:=hrow b e.symm
    rw [h1] at h3;cases h3;rw [h2] at h4;cases h4
  · refine hg.block b (Nat.lt_of_lt_of_le hb hR.below.size) (fun e=>?_)
    have:=(hrow b e.symm).1
    omega
  · obtain ⟨h1,h2⟩:=hR.marks.2 k o hk
    exact ⟨h1,(hg.block k h1.1 (hm k o hk)).trans h2⟩
def setPs (tm:Nat→A):List Nat→List A→(Nat→A)
  | p :: ps,a :: as=>setPs (upd tm p a) ps as
  | _,_=>tm
theorem rel_setPs {hp:Nat→Blk}:∀ (ps:List Nat) (vs:List Value) (as:List A) (tm:Nat→A) (tms:Array Value),RelL P w0 N σ ⟨tm,hp⟩ tms w→vs.length=as.length→(∀ p∈ps,p < N) →
    (∀ j,j < as.length→ARel P w (Al w0 w σ hp) σ (vs.getD j undef) (as.getD j .unk))→RelL P w0 N σ ⟨setPs tm ps as,hp⟩ ((ps.zip vs).foldl (fun t (x:Nat×Value)=>t.setIfInBounds x.1 x.2) tms) w
  | [],_,as,tm,tms,h,_,_,_=>by cases as <;> exact h
  | p :: ps,[],[],tm,tms,h,_,_,_=>h
  | p :: ps,[],_ :: _,tm,tms,h,hl,_,_=>by simp at hl
  | p :: ps,_ :: _,[],tm,tms,h,hl,_,_=>by simp at hl
  | p :: ps,v :: vs,a :: as,tm,tms,h,hl,hp',hA=>by
    refine rel_setPs ps vs as (upd tm p a) (tms.setIfInBounds p v) ?_ (by simpa using hl) (fun q hq=>hp' q (.tail _ hq)) (fun j hj=>?_)
    · have:=hA 0 (by simp)
      simp only [List.getD_cons_zero] at this
      exact h.put (hp' p (.head _)) this
    · have:=hA (j+1) (by simpa using hj)
      simpa using this
def jumpOf:Exit→Option Code
  | .ret=>some .ret
  | .exit id=>some (.exit id)
  | _=>none
mutual
def lowA (m:Nat):A→Bool
  | .own id _ _ _=>decide (id < m)
  | .box id _=>decide (id < m)
  | .bsl id _=>decide (id < m)
  | .elt id _ _ _ _=>decide (id < m)
  | .mref id=>decide (id < m)
  | .agg xs=>lowAs m xs
  | .tup xs=>lowAs m xs
  | .fnv _ xs=>lowAs m xs
  | .when _ a=>lowA m a
  | .rg id _ _=>decide (id < m)
  | .rp id _ _ _=>decide (id < m)
  | _=>true
def lowAs (m:Nat):List A→Bool
  | []=>true
  | a :: as=>lowA m a && lowAs m as
end
theorem lowAs_getD {m:Nat}:∀ {as:List A} (i:Nat),lowAs m as=true→lowA m (as.getD i .unk)=true
  | [],i,_=>by simp [lowA]
  | a :: as,0,h=>by simp only [lowAs,Bool.and_eq_true] at h;simpa using h.1
  | a :: as,i+1,h=>by simp only [lowAs,Bool.and_eq_true] at h;simpa using lowAs_getD i h.2
theorem lowA_opd {m:Nat} {tm:Nat→A} (h:∀ k,lowA m (tm k)=true) (g:Operand):lowA m (opdA tm g)=true:=by
  unfold opdA
  split
  · exact h _
  · unfold constA;split <;> rfl
  · rfl
  · rfl
theorem ARel.mono_low {P:Program} {w w':World} {al al':Nat→Prop} {σ σ':Nat→RefI} {v:Value} {a:A} {m:Nat} (h:ARel P w al σ v a) (hl:lowA m a=true)
    (hw:∀ b,al b→w'.heap[b]? = w.heap[b]?) (ha:∀ b,al b→al' b) (hs:∀ id,id < m→σ id≠.dead→σ' id=σ id∨(σ' id = .gone∧rowRef (σ id))):ARel P w' al' σ' v a:=by
  have hS:∃ σ2:Nat→RefI,(∀ id,id < m→σ2 id=σ' id)∧∀ id,σ id≠.dead→σ2 id=σ id∨(σ2 id = .gone∧rowRef (σ id)):=by
    refine ⟨fun id=>if id < m then σ' id else σ id,fun id h=>if_pos h,fun id hd=>?_⟩
    by_cases hm:id < m
    · simp only [hm,if_true];exact hs id hm hd
    · simp only [hm,if_false];exact .inl trivial
  obtain ⟨σ2,e1,e2⟩:=hS
  have h2:=h.mono hw ha e2
  clear h hs e2 hw ha
  induction h2 with
  | unk v=>exact .unk v
  | c k v x h=>exact .c k v x h
  | nilsl=>exact .nilsl
  | agg vs xs hx h ih=>exact .agg vs xs hx fun i hi=>ih i hi (lowAs_getD i hl)
  | tup vs xs hx h ih=>exact .tup vs xs hx fun i hi=>ih i hi (lowAs_getD i hl)
  | ownGone v id ks off len h=>simp only [lowA,decide_eq_true_eq] at hl;exact .ownGone v id ks off len ((e1 id hl) ▸ h)
  | eltGone v id sz ks i off h=>simp only [lowA,decide_eq_true_eq] at hl;exact .eltGone v id sz ks i off ((e1 id hl) ▸ h)
  | ownNil id ks off t h ho=>simp only [lowA,decide_eq_true_eq] at hl;exact .ownNil id ks off t ((e1 id hl) ▸ h) ho
  | own0 id ks len b cap n t h hl'=>simp only [lowA,decide_eq_true_eq] at hl;exact .own0 id ks len b cap n t ((e1 id hl) ▸ h) hl'
  | ownOff id ks off len b cap n cap' t h ho hl' hc=>simp only [lowA,decide_eq_true_eq] at hl;exact .ownOff id ks off len b cap n cap' t ((e1 id hl) ▸ h) ho hl' hc
  | ownOff0 a id ks off b cap n cap' t h ho hl'=>simp only [lowA,decide_eq_true_eq] at hl;exact .ownOff0 a id ks off b cap n cap' t ((e1 id hl) ▸ h) ho hl'
  | box id off b h=>simp only [lowA,decide_eq_true_eq] at hl;exact .box id off b ((e1 id hl) ▸ h)
  | bsl id len b cap h=>simp only [lowA,decide_eq_true_eq] at hl;exact .bsl id len b cap ((e1 id hl) ▸ h)
  | elt id ks0 ks i off b cap n t h hi hk=>simp only [lowA,decide_eq_true_eq] at hl;exact .elt id ks0 ks i off b cap n t ((e1 id hl) ▸ h) hi hk
  | pp ks cells off b o hal f hcell hrep=>exact .pp ks cells off b o hal f hcell hrep
  | fnv f caps vs hx h ih=>exact .fnv f caps vs hx fun i hi=>ih i hi (lowAs_getD i hl)
  | mref id b h=>simp only [lowA,decide_eq_true_eq] at hl;exact .mref id b ((e1 id hl) ▸ h)
  | mrefGone v id h=>simp only [lowA,decide_eq_true_eq] at hl;exact .mrefGone v id ((e1 id hl) ▸ h)
  | itr id r b h=>simp only [lowA,decide_eq_true_eq] at hl;exact .itr id r b ((e1 id hl) ▸ h)
  | whenT v a h ih=>exact .whenT v a (ih hl)
  | whenF a=>exact .whenF a
  | rg v id k x W Q h hr=>simp only [lowA,decide_eq_true_eq] at hl;exact .rg v id k x W Q ((e1 id hl) ▸ h) hr
  | rgGone v id k x h=>simp only [lowA,decide_eq_true_eq] at hl;exact .rgGone v id k x ((e1 id hl) ▸ h)
  | rp id ks cells off b o W Q h hal f hcell hrep=>simp only [lowA,decide_eq_true_eq] at hl;exact .rp id ks cells off b o W Q ((e1 id hl) ▸ h) hal f hcell hrep
  | rpGone v id ks cells off h=>simp only [lowA,decide_eq_true_eq] at hl;exact .rpGone v id ks cells off ((e1 id hl) ▸ h)
theorem rel_back {w0 wI:Base} {σ0:Nat→RefI} {tm0:Nat→A} {hp0 hp:Nat→Blk} {W:World} {m:Nat} (htm:∀ k,lowA m (tm0 k)=true) (hR0:RelL P w0 N σ0 ⟨tm0,hp0⟩ tms w) (hmI:∀ k,Al w0 w σ0 hp0 k→wI.mkd k=w.heap[k]?) (hsg:∀ id,id < m→wI.sg id=σ0 id)
    (hw:wI.world=w0.world) (hold:wI.old=w0.old) (hmu:wI.mu=w0.mu) (hR:RelL P wI N σ ⟨unkT,hp⟩ tms W) :
    (∀ b,Al w0 w σ0 hp0 b→Al wI W σ hp b)∧(∀ v a,lowA m a=true→ARel P w (Al w0 w σ0 hp0) σ0 v a→ARel P W (Al wI W σ hp) σ v a)∧RelL P wI N σ ⟨tm0,hp⟩ tms W:=by
  have hal:∀ b,Al w0 w σ0 hp0 b→Al wI W σ hp b∧W.heap[b]? = w.heap[b]? := by
    intro b hb
    have h1:=hmI b hb
    cases ho:w.heap[b]? with
    | none=>have:=(Array.getElem?_eq_none_iff.1 ho);have:=hb.1;omega
    | some o =>
      rw [ho] at h1
      have:=hR.marks.2 b o h1
      exact ⟨this.1,this.2⟩
  have hv:∀ v a,lowA m a=true→ARel P w (Al w0 w σ0 hp0) σ0 v a→ARel P W (Al wI W σ hp) σ v a:=fun v a hl h =>
    h.mono_low hl (fun b hb=>(hal b hb).2) (fun b hb=>(hal b hb).1) (fun id hm hid=>by
      have:=hR.keep id (by rw [hsg id hm];exact hid)
      rw [hsg id hm] at this;exact this)
  exact ⟨fun b hb=>(hal b hb).1,hv,hR.below,hR.size,fun k=>hv _ _ (htm k) (hR0.tms k),hR.blks,hR.inj,hR.keep,hR.marks⟩
theorem rel_unkT {tm:Nat→A} {hp:Nat→Blk} {tms':Array Value} (h:RelL P w0 N σ ⟨tm,hp⟩ tms' w) (hs:tms.size=N):RelL P w0 N σ ⟨unkT,hp⟩ tms w :=
  ⟨h.below,hs,fun k=>.unk _,h.blks,h.inj,h.keep,h.marks⟩
theorem Sm.rangeF {X Y:Type} {g:Operand} {ps:Array Tmp} {assign body:Code} (m:Nat) (tm0:Nat→A) (hpf:X→Nat→Blk) (stA:X→Nat→S) (hpY:Y→Nat→Blk) (jmp:Y→Exit) (bodyF:X→Nat→Option (X ⊕ Y)) (x0:X) (ys:List (List A)) {gf:FuncId} {caps:List A} {res:X ⊕ Y}
    (hy:loopK bodyF ys.length 0 x0=some res) (hkm:kp≤m) (hw:Weak P kp s ⟨tm0,hpf x0⟩) (htm:∀ k,lowA m (tm0 k)=true) (hok:okOpd g=true) (hg:opdA tm0 g = .fnv gf caps) {OkH:(Nat→Blk)→Prop} (hit:IterA P gf caps OkH ys) (Okx:X→Prop) (hx0:Okx x0) (hOk:∀ x,Okx x→OkH (hpf x))
    (hps:∀ k,k < ys.length→(ys.getD k []).length=ps.size) (hpN:∀ p∈ps.toList,p < N)
    (hn1:∀ x id,noMap (hpf x id)=true) (hn2:∀ x k id,noMap ((stA x k).hp id)=true) (hn3:∀ y id,noMap (hpY y id)=true)
    (hassign:∀ x k z,k < ys.length→Okx x→bodyF x k=some z→Sm P N m assign ⟨setPs tm0 ps.toList (ys.getD k []),hpf x⟩ (fun e s'=>e = .normal∧Weak P m s' (stA x k)))
    (hbody:∀ x k z,k < ys.length→Okx x→bodyF x k=some z→Sm P N m body (stA x k) (fun e s'=>match e with
      | .normal=>∃ x',z = .inl x'∧Okx x'∧Weak P m s' ⟨unkT,hpf x'⟩
      | e=>∃ y,z = .inr y∧e=jmp y∧(jumpOf e).isSome=true∧Weak P m s' ⟨unkT,hpY y⟩))
    (hdone:∀ x,res = .inl x→Q .normal ⟨tm0,hpf x⟩) (hstop:∀ y,res = .inr y→Q (jmp y) ⟨tm0,hpY y⟩):Sm P N kp (.rangeFunc g ps assign body) s Q:=by
  intro r w0 Q' a w hk hr hd hR hQ
  obtain ⟨σ0,hR0⟩:=hw _ _ _ _ hk hR
  obtain ⟨mI,hmI1,hmI2⟩:=marks_all w0 w σ0 (hpf x0)
  obtain ⟨wI,hwI⟩:∃ wI:Base,wI={ world:=w0.world,old:=w0.old,mu:=w0.mu,sg:=fun id=>if id < m then σ0 id else .dead,mkd:=mI,ms:=w.heap.size }:=⟨_,rfl⟩
  have hwn:wI.n=w0.n:=by rw [hwI];rfl
  have hwIm:wI.mkd=mI:=by rw [hwI]
  have hwIs:∀ id,id < m→wI.sg id=σ0 id:=fun id h=>by rw [hwI];exact if_pos h
  have hAlI:∀ {W:World} {σ:Nat→RefI} {hp:Nat→Blk} {b:Nat},Al wI W σ hp b↔Al w0 W σ hp b:=by intros;rw [hwI];exact Iff.rfl
  have hlow:w0.n≤w.heap.size:=hR0.below.size
  have hRI:RelL P wI N σ0 ⟨unkT,hpf x0⟩ a.tmps w:=by
    rw [hwI]
    exact ⟨hR0.below,hR0.size,fun k=>.unk _,hR0.blks,hR0.inj,fun id hd=>.inl (by
      by_cases h:id < m
      · simp only [h,if_true]
      · simp only [h,if_false] at hd;exact absurd rfl hd),Nat.le_refl _,hmI2⟩
  have hback:=fun {σ:Nat→RefI} {hp:Nat→Blk} {W:World} (h:RelL P wI N σ ⟨unkT,hp⟩ a.tmps W)=>rel_back (wI:=wI) htm hR0 (by rw [hwIm];exact hmI1) hwIs (by rw [hwI]) (by rw [hwI]) (by rw [hwI]) h
  obtain ⟨hent,hit⟩:=hit
  have hgv:=opd_sound hR0 hok
  rw [hg] at hgv
  have hcl:lowAs m caps=true:=by have:=lowA_opd htm g;rw [hg] at this;exact this
  obtain ⟨vs,hvl,hva,hgv⟩:∃ vs:List Value,vs.length=caps.length∧(∀ i,i < caps.length→ARel P w (Al w0 w σ0 (hpf x0)) σ0 (vs.getD i undef) (caps.getD i .unk))∧a.eval g = .func (.func gf) #[] vs.toArray:=by
    revert hgv
    generalize a.eval g=v
    intro hgv
    cases hgv with
    | fnv _ _ vs hl h=>exact ⟨vs,hl,h,rfl⟩
  have hmk:∀ k o,wI.mkd k=some o→k < w.heap.size:=fun k o h=>by rw [hwIm] at h;exact (hmI2 k o h).1.1
  have hkm':∀ id,m≤id→wI.sg id = .dead:=fun id hid=>by rw [hwI];exact if_neg (by omega)
  -- the words of the loop
  obtain ⟨I,hIdef⟩:∃ I:Nat→(Nat→Blk)×(Nat→RefI)→World→Prop,I=fun k d W=>∃ x,d.1=hpf x∧Okx x∧loopK bodyF (ys.length - k) k x=some res∧RelL P wI N d.2 ⟨unkT,hpf x⟩ a.tmps W:=⟨_,rfl⟩
  obtain ⟨Ix,hIxdef⟩:∃ Ix:Code→Nat→World→Prop,Ix=fun c k W=>∃ y,res = .inr y∧jumpOf (jmp y)=some c∧Rel P wI N ⟨unkT,hpY y⟩ a.tmps W:=⟨_,rfl⟩
  have hrowm:∀ {row:Option Nat},(∀ q,row=some q→w.heap.size≤q)→∀ k o,wI.mkd k=some o→some k≠row:=fun hq k o hk e=>by
    have:=hq k e.symm;have:=hmk k o hk;omega
  refine cw_range (len:=ys.length) hgv hent (hit wI N a.tmps vs w hvl) (fun k d vals W hk hV=>by rw [hV.1,hps k hk]) (fun l e=>?_) I Ix ?_ ?_ ?_ ?_ ?_ ?_ ?_
  · obtain ⟨r0,h0⟩:=hr l e
    exact ⟨r0,(hR0.marks.2 l _ h0).2⟩
  · rintro k d A h
    rw [hIdef] at h
    obtain ⟨x,hd1,hox,hx,h⟩:=h
    obtain ⟨hb1,hb2,hRT⟩:=hback h
    rw [hd1]
    exact ⟨h,hOk x hox,fun i hi=>hb2 _ _ (lowAs_getD i hcl) (hva i hi)⟩
  · rintro k d A B row h hg' hrow
    rw [hIdef] at h ⊢
    obtain ⟨x,hd1,hox,hx,h⟩:=h
    exact ⟨x,hd1,hox,hx,rel_grown h (hn1 x) hg' hrow (by rw [hwn];exact hlow) (hrowm fun q e=>(hrow q e).1)⟩
  · rintro c k A B row h hg' hrow
    rw [hIxdef] at h ⊢
    obtain ⟨y,h1,h2,σ,h⟩:=h
    exact ⟨y,h1,h2,σ,rel_grown h (hn3 y) hg' hrow (by rw [hwn];exact hlow) (hrowm fun q e=>(hrow q e).1)⟩
  · rw [hIdef]
    exact ⟨(hpf x0,σ0),x0,rfl,hx0,by simpa using hy,hRI⟩
  · rintro l k ⟨hpd,σ⟩ vals W hlen hlw ⟨r0,hl⟩ hi hV
    rw [hIdef] at hi
    obtain ⟨x,hd1,hox,hx,hRW⟩:=hi
    dsimp only at hd1 hRW hV
    subst hd1
    obtain ⟨z,hz⟩:∃ z,bodyF x k=some z:=by
      obtain ⟨q,hq⟩:∃ q,ys.length - k=q+1:=⟨ys.length - k - 1,by omega⟩
      rw [hq] at hx
      simp only [loopK] at hx
      cases hb:bodyF x k with
      | none=>rw [hb] at hx;cases hx
      | some z=>exact ⟨z,rfl⟩
    obtain ⟨hb1,hb2,hRT⟩:=hback hRW
    have hRP:=rel_setPs (σ:=σ) ps.toList vals.toList (ys.getD k []) tm0 a.tmps hRT (by rw [Array.length_toList];exact hV.1) hpN (fun j hj=>by
      have:=hV.2 j hj
      have e:vals.toList.getD j undef=vals.getD j undef:=by simp [List.getD_eq_getElem?_getD,Array.getD_eq_getD_getElem?]
      rw [e];exact this)
    have htm:(ps.zip vals).foldl (fun t (x:Nat×Value)=>t.setIfInBounds x.1 x.2) a.tmps=(ps.toList.zip vals.toList).foldl (fun t (x:Nat×Value)=>t.setIfInBounds x.1 x.2) a.tmps:=by
      rw [← Array.foldl_toList,Array.toList_zip]
    rw [← htm] at hRP
    obtain ⟨mB,hmB1,hmB2⟩:=marks_all wI W σ (hpf x)
    have hRB:=hRP.remark mB W.heap.size (Nat.le_refl _) hmB2
    have hIB:∀ k o,wI.mkd k=some o→mB k=some o:=fun k o h=>by
      have:=hRW.marks.2 k o h
      rw [hmB1 k this.1];exact this.2
    have hKF:∀ {w1:Base} {σ':Nat→RefI} {s':S} {tms':Array Value} {Wa:World},Ext (wI.at mB W.heap.size) w1→RelL P w1 N σ' s' tms' Wa→KeepsFrom w.heap.size W Wa:=by
      intro w1 σ' s' tms' Wa hx hRa
      obtain ⟨m',n',rfl,hxm,hxn⟩:=hx
      refine ⟨Nat.le_trans hxn hRa.marks.1,fun q o hq ho hc=>?_⟩
      have hal:=al_other hRW (hn1 x) ho hc (by rw [hwn];omega)
      exact (hRa.marks.2 q o (hxm q o ((hmB1 q hal).trans ho))).2
    have hrd:RdOk (wI.at mB W.heap.size) (some l):=fun l' e=>by
      cases e
      exact ⟨r0,(hmB1 l (al_other hRW (hn1 x) hl rfl (by rw [hwn];omega))).trans hl⟩
    refine hassign x k z hlen hox hz (some l) (wI.at mB W.heap.size) _ { tmps:=(ps.zip vals).foldl (fun t (x:Nat×Value)=>t.setIfInBounds x.1 x.2) a.tmps,defers:=[] } W hkm' hrd (DfOk.nil _) ⟨σ,hRB⟩ ?_
    rintro w1 e sA a' Wa hx1 hd1 hRa ⟨rfl,hwk⟩
    have hkm1:∀ id,m≤id→w1.sg id = .dead:=by rw [hx1.sg];exact hkm'
    obtain ⟨σA,hRA⟩:=hwk _ _ _ _ hkm1 hRa
    have hI1:∀ k o,wI.mkd k=some o→w1.mkd k=some o:=fun k o h=>hx1.mk (hIB k o h)
    refine ⟨hKF hx1 hRA,?_⟩
    rintro Wb hgb ⟨r1,hl1⟩
    have hRA':RelL P w1 N σA ⟨(stA x k).tm,(stA x k).hp⟩ a'.tmps Wa:=hRA
    have hla:Wa.heap[l]? = some (.loop r0):=(hKF hx1 hRA).same l _ hlw hl rfl
    -- the marks without the record
    obtain ⟨m1,n1,hw1,hm1,hn1'⟩:=hx1
    have hw1n:w1.n=w0.n:=by rw [hw1];exact hwn
    have hl0:∀ k o,wI.mkd k=some o→k≠l:=fun k o h e=>by have:=hmk k o h;omega
    have hRA2:RelL P (wI.at wI.mkd w.heap.size) N σA ⟨(stA x k).tm,(stA x k).hp⟩ a'.tmps Wa:=by
      rw [hw1] at hRA'
      refine RelL.unmark (w0:=wI) (m:=wI.mkd) (m':=m1) (n':=n1) hRA' (fun k o h=>hm1 k o (hIB k o h)) (Nat.le_trans ?_ hn1')
      have:=hRW.marks.1
      rw [hwI] at this
      exact this
    have hRb:=rel_grown (B:=w.heap.size) hRA2 (hn2 x k) hgb (fun q e=>by cases e;exact ⟨hlw,_,hla,rfl⟩) (by show wI.n≤_;rw [hwn];exact hlow) (fun k o h e=>hl0 k o h (by cases e;rfl))
    obtain ⟨mC,hmC1,hmC2⟩:=marks_all wI Wb σA (stA x k).hp
    have hRC:=hRb.remark mC Wb.heap.size (Nat.le_refl _) hmC2
    have hIC:∀ k o,wI.mkd k=some o→mC k=some o:=fun k o h=>by
      have:=hRb.marks.2 k o h
      rw [hmC1 k this.1];exact this.2
    have hrd2:RdOk (wI.at mC Wb.heap.size) (some l):=fun l' e=>by
      cases e
      exact ⟨r1,(hmC1 l (al_other (w0:=wI.at wI.mkd w.heap.size) hRb (hn2 x k) hl1 rfl (by show wI.n≤_;rw [hwn];omega))).trans hl1⟩
    have hDf2:DfOk (wI.at mC Wb.heap.size) a'.defers:=by
      obtain ⟨Ds,h1,h2,h3⟩:=hd1
      refine ⟨Ds,h1,h2,fun D hD=>?_⟩
      obtain ⟨h4,h5⟩:=h3 D hD
      have h6:=(hRA'.marks.2 D _ h5).2
      have hDl:D≠l:=fun e=>by rw [e,hla] at h6;cases h6
      have h7:Wb.heap[D]? = some (.deferred (some [])):=(hgb.block D (Array.getElem?_eq_some_iff.1 h6).1 (fun e=>hDl (by cases e;rfl))).trans h6
      have h8:wI.n≤D:=by rw [hwn,← hw1n];exact h4
      exact ⟨h8,(hmC1 D (al_other (w0:=wI.at wI.mkd w.heap.size) hRb (hn2 x k) h7 rfl h8)).trans h7⟩
    refine hbody x k z hlen hox hz (some l) (wI.at mC Wb.heap.size) _ a' Wb hkm' hrd2 hDf2 ⟨σA,hRC⟩ ?_
    rintro w2 e s' a2 W' hx2 hd2 hR2 hq
    have hkm2:∀ id,m≤id→w2.sg id = .dead:=by rw [hx2.sg];exact hkm'
    have hI2:∀ k o,wI.mkd k=some o→w2.mkd k=some o:=fun k o h=>hx2.mk (hIC k o h)
    have hKF2:KeepsFrom w.heap.size Wb W':=by
      obtain ⟨σ2,hR2⟩:=hR2
      obtain ⟨m',n',rfl,hxm,hxn⟩:=hx2
      refine ⟨Nat.le_trans hxn hR2.marks.1,fun q o hq ho hc=>?_⟩
      have hal:=al_other (w0:=wI.at wI.mkd w.heap.size) hRb (hn2 x k) ho hc (by show wI.n≤_;rw [hwn];omega)
      exact (hR2.marks.2 q o (hxm q o ((hmC1 q hal).trans ho))).2
    have hfin:∀ {hp:Nat→Blk},Weak P m s' ⟨unkT,hp⟩→Rel P wI N ⟨unkT,hp⟩ a.tmps W':=by
      intro hp hwk'
      obtain ⟨σ2,h2⟩:=hwk' _ _ _ _ hkm2 hR2
      obtain ⟨m',n',rfl,hxm,hxn⟩:=hx2
      have h3:RelL P (wI.at m' n') N σ2 ⟨unkT,hp⟩ a2.tmps W':=h2
      have h4:=RelL.unmark (w0:=wI) (m:=wI.mkd) (m':=m') (n:=w.heap.size) (n':=n') h3 (fun k o h=>hI2 k o h) (Nat.le_trans hRb.marks.1 hxn)
      have e:wI.at wI.mkd w.heap.size=wI:=by rw [hwI];rfl
      rw [e] at h4
      exact ⟨σ2,rel_unkT h4 hR0.size⟩
    obtain ⟨q,hqe⟩:∃ q,ys.length - k=q+1:=⟨ys.length - k - 1,by omega⟩
    rw [hqe] at hx
    simp only [loopK,hz] at hx
    refine ⟨hKF2,?_⟩
    cases e with
    | normal =>
      obtain ⟨x',rfl,hox',hwk'⟩:=hq
      simp only at hx ⊢
      rw [hIdef]
      obtain ⟨σ',hf⟩:=hfin hwk'
      exact ⟨(hpf x',σ'),x',rfl,hox',by rw [show ys.length - (k+1)=q by omega];exact hx,hf⟩
    | ret =>
      obtain ⟨y,rfl,h1,h2,hwk'⟩:=hq
      simp only [Option.some.injEq] at hx ⊢
      rw [hIxdef]
      exact ⟨y,hx.symm,by rw [← h1];rfl,hfin hwk'⟩
    | exit id =>
      obtain ⟨y,rfl,h1,h2,hwk'⟩:=hq
      simp only [Option.some.injEq] at hx ⊢
      rw [hIxdef]
      exact ⟨y,hx.symm,by rw [← h1];rfl,hfin hwk'⟩
    | _=>obtain ⟨y,rfl,h1,h2,hwk'⟩:=hq;cases h2
  all_goals
    have hend:∀ {mk:List Deferred} {W:World} {σ:Nat→RefI} {hp:Nat→Blk},(∀ id,noMap (hp id)=true)→MarkAt w.heap.size mk W→RelL P wI N σ ⟨unkT,hp⟩ a.tmps W→∃ w1,Ext w0 w1∧DfOk w1 (mk ++ a.defers)∧Rel P w1 N ⟨tm0,hp⟩ a.tmps W:=by
      intro mk W σ hp hnm hmk' h
      obtain ⟨hb1,hb2,hRT⟩:=hback h
      have hkeep:∀ id,w0.sg id≠.dead→σ id=w0.sg id∨(σ id = .gone∧rowRef (w0.sg id)):=by
        intro id hid
        have hidm:id < m:=by
          rcases Nat.lt_or_ge id m with h1 | h1
          · exact h1
          · exact absurd (hk id (by omega)) hid
        have hk2:=h.keep id
        rw [hwIs id hidm] at hk2
        rcases hR0.keep id hid with e | ⟨e1,e2⟩
        · rw [← e] at hid ⊢
          exact hk2 hid
        · rcases hk2 (by rw [e1];simp) with e3 | ⟨e3,_⟩
          · exact .inr ⟨e3.trans e1,e2⟩
          · exact .inr ⟨e3,e2⟩
      have hold:∀ k o,w0.mkd k=some o→Al w0 W σ hp k∧W.heap[k]? = some o:=by
        intro k o hk
        obtain ⟨h1,h2⟩:=hR0.marks.2 k o hk
        have h3:=hb1 k h1
        have h4:wI.mkd k=some o:=by rw [hwIm,hmI1 k h1];exact h2
        exact ⟨hAlI.1 h3,(h.marks.2 k o h4).2⟩
      have hsz:w.heap.size≤W.heap.size:=by have:=h.marks.1;rw [hwI] at this;exact this
      have mkR:∀ m':Nat→Option Obj,(∀ k o,m' k=some o→Al w0 W σ hp k∧W.heap[k]? = some o)→RelL P (w0.at m' w0.ms) N σ ⟨tm0,hp⟩ a.tmps W:=by
        intro m' hm'
        rw [hwI] at hRT
        exact ⟨hRT.below,hRT.size,hRT.tms,hRT.blks,hRT.inj,hkeep,Nat.le_trans hR0.marks.1 hsz,hm'⟩
      obtain ⟨Ds,h1,h2,h3⟩:=hd
      rcases hmk' with rfl | ⟨D,rfl,hD1,hD2⟩
      · refine ⟨w0.at w0.mkd w0.ms,⟨w0.mkd,w0.ms,rfl,fun _ _ h=>h,Nat.le_refl _⟩,⟨Ds,h1,h2,h3⟩,σ,mkR _ hold⟩
      · refine ⟨w0.at (fun k=>if k=D then some (.deferred (some [])) else w0.mkd k) w0.ms,⟨_,_,rfl,fun k o hk=>?_,Nat.le_refl _⟩,⟨D :: Ds,by rw [h1];rfl,?_,fun D' hD'=>?_⟩,σ,mkR _ (fun k o hk=>?_)⟩
        · have:k≠D:=fun e=>by have:=(hR0.marks.2 k o hk).1.1;omega
          simp [this,hk]
        · rw [List.nodup_cons]
          exact ⟨fun hm=>by have:=(hR0.marks.2 D _ (h3 D hm).2).1.1;omega,h2⟩
        · rcases List.mem_cons.1 hD' with rfl | hD'
          · exact ⟨by show w0.n≤_;omega,by show (if D'=D' then _ else _)=_;rw [if_pos rfl]⟩
          · have hne:D'≠D:=fun e=>by have:=(hR0.marks.2 D' _ (h3 D' hD').2).1.1;omega
            exact ⟨(h3 D' hD').1,by show (if D'=D then _ else _)=_;rw [if_neg hne];exact (h3 D' hD').2⟩
        · by_cases e:k=D
          · subst e
            simp only [if_true,Option.some.injEq] at hk
            subst hk
            exact ⟨hAlI.1 (al_other h hnm hD2 rfl (by rw [hwn];omega)),hD2⟩
          · simp only [e,if_false] at hk
            exact hold k o hk
  · rintro mk d W hmk' hi
    rw [hIdef] at hi
    obtain ⟨x,_,_,hx,h⟩:=hi
    rw [Nat.sub_self] at hx
    simp only [loopK,Option.some.injEq] at hx
    obtain ⟨w1,h1,h2,h3⟩:=hend (hn1 x) hmk' h
    exact hQ w1 _ _ _ _ h1 h2 h3 (hdone x hx.symm)
  · rintro mk c k W hmk' hlen hi
    rw [hIxdef] at hi
    obtain ⟨y,hres,hj,σ,h⟩:=hi
    obtain ⟨w1,h1,h2,h3⟩:=hend (hn3 y) hmk' h
    have:=hstop y hres
    cases hjy:jmp y with
    | ret=>rw [hjy] at hj this;cases hj;exact cw_ret (hQ w1 _ _ _ _ h1 h2 h3 this)
    | exit id=>rw [hjy] at hj this;cases hj;exact cw_exit (hQ w1 _ _ _ _ h1 h2 h3 this)
    | _=>rw [hjy] at hj;cases hj
theorem bind_gd {X:Type} {o:Option X} {p:X→Prop} [∀ x,Decidable (p x)] {y:X} (h:(o.bind fun x=>gd (p x) (some x))=some y):o=some y∧p y:=by
  cases o with
  | none=>cases h
  | some x =>
    simp only [Option.bind_some] at h
    obtain ⟨h1,h2⟩:=gd_some h
    cases h2
    exact ⟨rfl,h1⟩
def rangeL {X E:Type} (f:X→E→Option X):X→List E→Option X
  | x,[]=>some x
  | x,e :: l=>(f x e).bind fun x'=>rangeL f x' l
theorem loopK_L {X E:Type} (f:X→E→Option X) (L:List E) {res:X}:∀ (l:List E) (k:Nat) (x:X),L.drop k=l→rangeL f x l=some res→loopK (Y:=Empty) (fun x k=>(L[k]?).bind fun e=>(f x e).map .inl) l.length k x=some (.inl res)
  | [],k,x,_,h=>by simp only [rangeL,Option.some.injEq] at h;subst h;rfl
  | e :: l,k,x,hd,h=>by
    have h1:L[k]? = some e:=by
      have:(L.drop k)[0]? = some e:=by rw [hd];rfl
      simpa using this
    have h2:L.drop (k+1)=l:=by rw [← List.drop_drop,hd];rfl
    simp only [rangeL] at h
    cases hf:f x e with
    | none=>rw [hf] at h;cases h
    | some x' =>
      rw [hf] at h
      simp only [List.length_cons,loopK,h1,Option.bind_some,hf,Option.map_some]
      exact loopK_L f L l (k+1) x' h2 h
theorem Sm.rangeL {X E:Type} {g:Operand} {ps:Array Tmp} {assign body:Code} (m:Nat) (T TU:X→S) (stA:X→E→S) (bodyF:X→E→Option X) (x0:X) (L:List E) (encE:E→List A) {gf:FuncId} {caps:List A} {res:X}
    (hy:Go.AE.rangeL bodyF x0 L=some res) (hw:Weak P kp s (T x0)) (hkm:kp≤m) (hT:∀ x,(T x).tm=(T x0).tm∧(TU x).tm=unkT∧(TU x).hp=(T x).hp) (htm:∀ k,lowA m ((T x0).tm k)=true) (hok:okOpd g=true) (hg:opdA (T x0).tm g = .fnv gf caps) {OkH:(Nat→Blk)→Prop} (hit:IterA P gf caps OkH (L.map encE))
    (Okx:X→Prop) (hx0:Okx x0) (hOk:∀ x,Okx x→OkH (T x).hp) (hps:∀ e,(encE e).length=ps.size) (hpN:∀ p∈ps.toList,p < N)
    (hn1:∀ x id,noMap ((T x).hp id)=true) (hn2:∀ x e id,noMap ((stA x e).hp id)=true)
    (hassign:∀ x e x',Okx x→bodyF x e=some x'→Sm P N m assign ⟨setPs (T x).tm ps.toList (encE e),(T x).hp⟩ (fun ex s'=>ex = .normal∧Weak P m s' (stA x e)))
    (hbody:∀ x e x',Okx x→bodyF x e=some x'→Sm P N m body (stA x e) (fun ex s'=>ex = .normal∧Okx x'∧Weak P m s' (TU x')))
    (hdone:Q .normal (T res)):Sm P N kp (.rangeFunc g ps assign body) s Q:=by
  have hen:∀ k,k < (L.map encE).length→∃ e,L[k]? = some e∧(L.map encE).getD k []=encE e:=by
    intro k hk
    have hk':k < L.length:=by simpa using hk
    exact ⟨L[k],by simp [hk'],by simp [List.getD_eq_getElem?_getD,hk']⟩
  refine Sm.rangeF (X:=X) (Y:=Empty) m (T x0).tm (fun x=>(T x).hp) (fun x k=>match L[k]? with | some e=>stA x e | none=>stB [] []) (fun _ _=>.dead) (fun y=>y.elim) (fun x k=>(L[k]?).bind fun e=>(bodyF x e).map .inl) x0 (L.map encE) (res:=.inl res) ?_ hkm hw htm hok hg hit Okx hx0 hOk ?_ hpN hn1 ?_ (fun y=>y.elim) ?_ ?_ ?_ (fun y=>y.elim)
  · have:=loopK_L bodyF L L 0 x0 rfl hy
    simpa using this
  · intro k hk
    obtain ⟨e,_,h2⟩:=hen k hk
    rw [h2];exact hps e
  · intro x k id
    show noMap ((match L[k]? with | some e=>stA x e | none=>stB [] []).hp id)=true
    split
    · exact hn2 _ _ _
    · rfl
  · intro x k z hk hox hz
    obtain ⟨e,h1,h2⟩:=hen k hk
    simp only [h1,Option.bind_some] at hz ⊢
    rw [h2]
    cases hb:bodyF x e with
    | none=>rw [hb] at hz;cases hz
    | some x' =>
      have:=hassign x e x' hox hb
      rw [(hT x).1] at this
      exact this
  · intro x k z hk hox hz
    obtain ⟨e,h1,h2⟩:=hen k hk
    simp only [h1,Option.bind_some] at hz ⊢
    cases hb:bodyF x e with
    | none=>rw [hb] at hz;cases hz
    | some x' =>
      rw [hb] at hz
      simp only [Option.map_some,Option.some.injEq] at hz
      refine (hbody x e x' hox hb).mono fun ex s' hq=>?_
      obtain ⟨rfl,ho,hwk⟩:=hq
      dsimp only
      refine ⟨x',hz.symm,ho,?_⟩
      have e1:TU x'=⟨unkT,(T x').hp⟩:=by
        have:=hT x'
        rw [← this.2.1,← this.2.2]
      rw [e1] at hwk
      exact hwk
  · intro x hx
    cases hx
    have:=(hT res).1
    rw [← this]
    exact hdone
def lowL (m:Nat):List (Nat×A)→Bool
  | []=>true
  | e :: L=>lowA m e.2 && lowL m L
theorem low_stB {m:Nat} {bs:List (Nat×Blk)}:∀ {L:List (Nat×A)},lowL m L=true→∀ k,lowA m ((stB L bs).tm k)=true
  | [],_,k=>by rfl
  | e :: L,h,k=>by
    simp only [lowL,Bool.and_eq_true] at h
    have:=low_stB (bs:=bs) h.2 k
    simp only [stB,lkT] at this ⊢
    split
    · exact h.1
    · exact this
def noMapL:List (Nat×Blk)→Bool
  | []=>true
  | e :: L=>noMap e.2 && noMapL L
theorem noMap_stB {L:List (Nat×A)}:∀ {bs:List (Nat×Blk)},noMapL bs=true→∀ k,noMap ((stB L bs).hp k)=true
  | [],_,k=>by rfl
  | e :: bs,h,k=>by
    simp only [noMapL,Bool.and_eq_true] at h
    have:=noMap_stB (L:=L) h.2 k
    simp only [stB,lkBl] at this ⊢
    split
    · exact h.1
    · exact this
end Go.AE
