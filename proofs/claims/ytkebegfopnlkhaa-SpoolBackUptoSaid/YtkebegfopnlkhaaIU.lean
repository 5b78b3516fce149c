/- Text. -/
import Derived.RangeFuncNested
import Derived.RangeFuncBound
import Derived.RangeFuncCalls
import Derived.RangeFuncLeaves
import Derived.RangeFuncBox
import Derived.RangeFuncWrites
import Derived.Laws.EntriesVeiled
import Derived.Shelf.Abstract
import Derived.Shelf.RegionOpen
import Derived.WalkKit
import Derived.OwnWalkIn
import Derived.TacticsInMore
import Derived.LoopNIn
import Derived.LoopIn
import Derived.Test.YtkebegfopnlkhaaProg
import Derived.Test.YtkebegfopnlkhaaT
import Derived.Test.YtkebegfopnlkhaaAE58
set_option linter.unusedSimpArgs false
set_option linter.unusedVariables false
set_option maxRecDepth 100000
namespace Go.Proofs.Ytkebegfopnlkhaa
open Go.RowKit Go.Shelf Go.Proofs
attribute [local go_sem] Oper.semAt_some
def costI (kl dl:Nat):Int:=if kl=0 then wrap64 (32+(dl:Int)) else wrap64 (wrap64 (wrap64 (32+(dl:Int))+16)+(kl:Int))
set_option maxHeartbeats 1000000 in
theorem cost_in (F:Fence) (n:Nat) (h49:F.fn 49) (hro:F.round=none) (r:Int) (ka:Option Addr) (kl kc:Nat) (da:Option Addr) (dl dc:Nat) (bad:Bool) (w:World) :
    CallsIn F n Try.prog 49 #[.agg #[.int .i64 r,.slice ka kl kc,.slice da dl dc,.bool bad]] w fun e w'=>e = .returned (.int .i64 (costI kl dl))∧w'=w.alloc (.cells #[.int .i64 r,.slice ka kl kc,.slice da dl dc,.bool bad] 59):=by
  refine callsIn_of_wp Try.func49 rfl h49 ?_ hro
  simp only [Try.ntmps49,List.size_toArray,List.length_cons,List.length_nil,Nat.reduceAdd,Nat.reduceSub,Array.replicate_succ,Array.replicate_zero,List.push_toArray,List.append_toArray,List.nil_append,List.cons_append]
  gi_wp2
  · rename_i hk
    go_ret
    refine ⟨?_,rfl⟩
    have:kl=0:=by simpa using hk
    rw [costI,if_pos this];rfl
  · rename_i hk
    go_ret
    refine ⟨?_,rfl⟩
    have:¬ kl=0:=by simpa using hk
    rw [costI,if_neg this];rfl
set_option maxHeartbeats 1000000 in
theorem costs_in (F:Fence) (n:Nat) (h74:F.fn 74) (hro:F.round=none) (a:Option Addr) (len cap:Nat) (w:World) :
    CallsIn F n Try.prog 74 #[.slice a len cap] w fun e w'=>e = .returned (.func (.func 82) #[] #[.pointer (some ⟨w.heap.size,0,none⟩)])∧w'=w.alloc (.cells #[.slice a len cap] 57):=by
  refine callsIn_of_wp Try.func74 rfl h74 ?_ hro
  simp only [Try.ntmps74,List.size_toArray,List.length_cons,List.length_nil,Nat.reduceAdd,Nat.reduceSub,Array.replicate_succ,Array.replicate_zero,List.push_toArray,List.append_toArray,List.nil_append,List.cons_append]
  gi_wp2
  go_ret
  exact ⟨rfl,rfl⟩
set_option maxHeartbeats 1000000 in
theorem add_in (F:Fence) (n:Nat) (h73:F.fn 73) (hro:F.round=none) (x s:Int) (Ss:Nat) (w:World) (hc:w.cell? ⟨Ss,0,none⟩=some (.int .i64 s)) (hf:w.frozen? ⟨Ss,0,none⟩=false) :
    CallsIn F n Try.prog 73 #[.int .i64 x,.pointer (some ⟨Ss,0,none⟩)] w fun e w'=>(∃ v,e = .returned v)∧w'=w.setCell ⟨Ss,0,none⟩ (.int .i64 (wrap64 (s+x))):=by
  refine callsIn_of_wp Try.func73 rfl h73 ?_ hro
  simp only [Try.ntmps73,List.size_toArray,List.length_cons,List.length_nil,Nat.reduceAdd,Nat.reduceSub,Array.replicate_succ,Array.replicate_zero,List.push_toArray,List.append_toArray,List.nil_append,List.cons_append]
  gi_wp2
  go_end0
  exact ⟨⟨_,rfl⟩,rfl⟩
structure KS (s:Nat) (W W':World):Prop where
  size:W.heap.size≤W'.heap.size
  same:∀ (k:Nat) (o:Obj),k≠s→W.heap[k]? = some o→o.isCells=true→W'.heap[k]? = some o
theorem KS.refl (s:Nat) (W:World):KS s W W:=⟨Nat.le_refl _,fun _ _ _ h _=>h⟩
theorem KS.trans {s:Nat} {A B C:World} (h:KS s A B) (k:KS s B C):KS s A C:=⟨Nat.le_trans h.size k.size,fun i o h0 h1 h2=>k.same i o h0 (h.same i o h0 h1 h2) h2⟩
theorem KS.alloc (s:Nat) (W:World) (o:Obj):KS s W (W.alloc o):=⟨by simp,fun k o' _ hk _=>(Below.heap_alloc W o k (Array.getElem?_eq_some_iff.1 hk).1).trans hk⟩
theorem KS.cell {s:Nat} {W W':World} (h:KS s W W') {a:Addr} {v:Value} (hs:a.block≠s) (hc:W.cell? a=some v):W'.cell? a=some v:=by
  unfold World.cell? at hc ⊢
  cases ho:W.heap[a.block]? with
  | none=>simp [ho] at hc
  | some o =>
    have hcell:o.isCells=true:=by cases o <;> simp_all [Obj.isCells]
    rw [h.same _ _ hs ho hcell]
    rw [ho] at hc;exact hc
theorem KS.setCell (W:World) (s:Nat) (v:Value):KS s W (W.setCell ⟨s,0,none⟩ v) :=
  ⟨(KeepsWalks.setCell W _ v).size,fun k o hk h _=>((grownBy_setCell' W s v).block k (Array.getElem?_eq_some_iff.1 h).1 (by simpa using hk)).trans h⟩
def Costs (W:World) (a:Option Addr) (s:Nat) (c:List Int):Prop :=
  0 < c.length→∃ b off,a=some ⟨b,off,none⟩∧b≠s∧∀ j,j < c.length→∃ r ka kl kc da dl dc bad,W.cell? ⟨b,off+j * 4,none⟩=some (.int .i64 r)∧W.cell? ⟨b,off+j * 4+1,none⟩=some (.slice ka kl kc)∧W.cell? ⟨b,off+j * 4+2,none⟩=some (.slice da dl dc)∧W.cell? ⟨b,off+j * 4+3,none⟩=some (.bool bad)∧costI kl dl=c.getD j 0
set_option maxHeartbeats 2000000 in
theorem iterC_in (F:Fence) (n:Nat) (h82:F.fn 82) (h49:F.fn 49) (hro:F.round=none) (hn:1≤n) (l Bs s cap:Nat) (a:Option Addr) (c:List Int) (hcap:c.length≤cap) (hbig:c.length≤140737488355328) (J Jx:List Int→World→Prop) (W:World)
    (hJ:∀ k (A B:World),J k A→A.grownBy B none→J k B)
    (hY:∀ pre x A,J pre A→pre.length < c.length→YieldAt F (n - 1) Try.prog l #[.int .i64 x] A fun e B=>(e = .returned (.bool true)∧J (pre ++ [x]) B∧KS s A B)∨(e = .returned (.bool false)∧Jx (pre ++ [x]) B))
    (hs:Bs≠s) (hBs:W.cell? ⟨Bs,0,none⟩=some (.slice a c.length cap)) (hc:Costs W a s c) (h0:J [] W) :
    CallsIn F n Try.prog 82 #[.func (.yield l) #[] #[],.pointer (some ⟨Bs,0,none⟩)] W fun e W'=>(∃ v,e = .returned v)∧((∃ xs,xs=c∧J xs W')∨(∃ pre,pre <+: c∧Jx pre W')):=by
  refine callsIn_of_wp Try.func82 rfl h82 ?_ hro
  simp only [Try.ntmps82,List.size_toArray,List.length_cons,List.length_nil,Nat.reduceAdd,Nat.reduceSub,Array.replicate_succ,Array.replicate_zero,List.push_toArray,List.append_toArray,List.nil_append,List.cons_append]
  gi_wp2
  gi_loopw [7] (fun i wr=>∃ k:Nat,k≤c.length∧i = .int .i64 k∧J (c.take k) wr∧KS s W wr)
    (fun i _=>c.length - (intOf i).toNat)
  case atStart=>exact ⟨0,Nat.zero_le _,rfl,h0,KS.refl _ _⟩
  case round =>
    obtain ⟨k,hk,rfl,hJs,hnx⟩:=hrel
    by_cases hlt:k < c.length
    · obtain ⟨b,off,rfl,hb,hcl⟩:=hc (by omega)
      obtain ⟨r,ka,kl,kc,da,dl,dc,bad,e1,e2,e3,e4,e5⟩:=hcl k hlt
      have d1:=hnx.cell hb e1
      have d2:=hnx.cell hb e2
      have d3:=hnx.cell hb e3
      have d4:=hnx.cell hb e4
      gi_wp2
      refine (cost_in F (n - 1) h49 hro r ka kl kc da dl dc bad _).mono ?_
      rintro e w1 ⟨rfl,rfl⟩
      have e7:costI kl dl=c[k]:=e5.trans (by simp [List.getD_eq_getElem?_getD,hlt])
      rw [e7]
      clear e5
      obtain ⟨W2,hW2⟩:∃ W2,(wr.alloc (.cells #[.int .i64 r,.slice ka kl kc,.slice da dl dc,.bool bad] 59)).alloc (.cells #[.int .i64 r,.slice ka kl kc,.slice da dl dc,.bool bad] 59)=W2:=⟨_,rfl⟩
      have hK2:KS s wr W2:=by rw [← hW2];exact (KS.alloc s _ _).trans (KS.alloc s _ _)
      have hJ2:J (c.take k) W2:=hJ _ _ _ hJs (by
        rw [← hW2]
        exact ⟨rfl,rfl,rfl,by simp;omega,fun i hi _=>(Below.heap_alloc _ _ _ (by simp;omega)).trans (Below.heap_alloc _ _ _ hi)⟩)
      obtain ⟨fn,tmps,assign,body,hy,hR⟩:=hY (c.take k) c[k] W2 hJ2 (by simp;omega)
      try dsimp only at hy
      try rw [hW2]
      gi_wp2
      try rw [hW2]
      refine hR.mono ?_
      rintro e W3 (⟨rfl,hJ3,hk3⟩ | ⟨rfl,hJx3⟩)
      · gi_wp2
        go_roundw
        case rel =>
          refine ⟨k+1,hlt,by simp,?_,(hnx.trans hK2).trans hk3⟩
          rw [List.take_succ_eq_append_getElem hlt]
          exact hJ3
        case measure=>simp [intOf];omega
      · gi_wp2
        refine bodyPost_ret (results_none rfl _ _ _) rfl ?_
        refine ⟨⟨_,rfl⟩,.inr ⟨_,?_,hJx3⟩⟩
        rw [← List.take_succ_eq_append_getElem hlt]
        exact List.take_prefix _ _
    · obtain rfl:k=c.length:=by omega
      gi_wp2
      go_end0
      exact ⟨⟨_,rfl⟩,.inl ⟨_,rfl,by simpa using hJs⟩⟩
theorem ks_b {w:World} (s:Nat) (W:World) (l:Nat) (o o':Obj) (_:w.heap.size≤l) (h:W.heap[l]? = some o) (ho:o.isCells=false) (_:o.isWalk=false):KS s W (W.putObj l o') :=
  ⟨by simp,fun k o2 _ hk hc=>by
    by_cases e:k=l
    · subst e;rw [h] at hk;cases hk;rw [ho] at hc;cases hc
    · exact (World.putObj_heap_other e).trans hk⟩
theorem costs_stops (F:Fence) (n:Nat) (h82:F.fn 82) (h49:F.fn 49) (hro:F.round=none) (hn:1≤n) (Bs s:Nat) (a:Option Addr) (c:List Int) (cap:Nat) (hcap:c.length≤cap) (hbig:c.length≤140737488355328) (w:World)
    (hs:Bs≠s) (hB:Bs < w.heap.size) (hBs:w.cell? ⟨Bs,0,none⟩=some (.slice a c.length cap)) (hc:Costs w a s c) (hlow:∀ b off,a=some ⟨b,off,none⟩→0 < c.length→b < w.heap.size) :
    SeqStopsK F n Try.prog 82 #[.pointer (some ⟨Bs,0,none⟩)] (fun x:Int=>#[Value.int .i64 x]) (KS s) (fun ys=>ys=c) (fun pre=>pre <+: c) c.length w:=fun l J Jx W hW hJ _ hY h0=>by
  have hc':=(hW.cell (p:=⟨Bs,0,none⟩) hB).trans hBs
  refine iterC_in F n h82 h49 hro hn l Bs s cap a c hcap hbig J Jx W (fun k A B hs hg=>hJ k A B none hs hg (fun r e=>by cases e)) hY hs hc' (fun hl=>?_) h0
  obtain ⟨b,off,e,hb,hcl⟩:=hc hl
  refine ⟨b,off,e,hb,fun j hj=>?_⟩
  have hbl:=hlow b off e hl
  obtain ⟨r,ka,kl,kc,da,dl,dc,bad,e1,e2,e3,e4,e5⟩:=hcl j hj
  exact ⟨r,ka,kl,kc,da,dl,dc,bad,(hW.cell (p:=⟨b,off+j * 4,none⟩) hbl).trans e1,(hW.cell (p:=⟨b,off+j * 4+1,none⟩) hbl).trans e2,(hW.cell (p:=⟨b,off+j * 4+2,none⟩) hbl).trans e3,(hW.cell (p:=⟨b,off+j * 4+3,none⟩) hbl).trans e4,e5⟩
theorem cell_alC {W:World} {a:Addr} {v:Value} (o:Obj) (h:W.cell? a=some v):(W.alloc o).cell? a=some v:=(KS.alloc (a.block+1) W o).cell (by omega) h
theorem frz_alC {W:World} {a:Addr} {v:Value} (o:Obj) (h:W.cell? a=some v) (hf:W.frozen? a=false):(W.alloc o).frozen? a=false:=by
  rw [((Below.refl W.heap.size W).alloc (Nat.le_refl _) o).frozen (block_lt_of_cell h)];exact hf
def sumC (c:List Int):Int:=c.foldl (fun s x=>wrap64 (s+x)) 0
set_option maxHeartbeats 2000000 in
theorem Used_in (n:Nat) (hn:3≤n) (a:Option Addr) (c:List Int) (cap:Nat) (hcap:c.length≤cap) (hbig:c.length≤140737488355328) (w:World) (hc:Costs w a w.heap.size c) (hlow:∀ b off,a=some ⟨b,off,none⟩→0 < c.length→b < w.heap.size) :
    CallsIn Fence.wide n Try.prog 57 #[.slice a c.length cap] w fun e w'=>e = .returned (.int .i64 (sumC c))∧Below w.heap.size w w':=by
  have h1:1≤n:=by omega
  refine callsIn_of_wp_marks Try.func57 rfl trivial ?_ rfl
  simp only [Try.ntmps57,List.size_toArray,List.length_cons,List.length_nil,Nat.reduceAdd,Nat.reduceSub,Array.replicate_succ,Array.replicate_zero,List.push_toArray,List.append_toArray,List.nil_append,List.cons_append]
  gi_wp2
  refine ⟨trivial,(costs_in Fence.wide (n - 1) trivial rfl _ _ _ _).mono ?_⟩
  rintro e w2 ⟨rfl,rfl⟩
  gi_wp2
  have hB0:Below w.heap.size w ((w.alloc (.cells #[.int .i64 0] 3)).alloc (.cells #[.func (.func 73) #[] #[.pointer (some ⟨w.heap.size,0,none⟩)]] 123)):=((Below.refl _ w).alloc (Nat.le_refl _) _).alloc (by simp) _
  have b1:=Boxed.new w 3 (.int .i64 0)
  have b2:=Boxed.new (w.alloc (.cells #[.int .i64 0] 3)) 123 (.func (.func 73) #[] #[.pointer (some ⟨w.heap.size,0,none⟩)])
  simp only [World.size_alloc] at b2
  obtain ⟨w1,hw1⟩:∃ w1,(w.alloc (.cells #[.int .i64 0] 3)).alloc (.cells #[.func (.func 73) #[] #[.pointer (some ⟨w.heap.size,0,none⟩)]] 123)=w1:=⟨_,rfl⟩
  have hsz:w1.heap.size=w.heap.size+1+1:=by rw [← hw1];simp
  have c1:w1.cell? ⟨w.heap.size,0,none⟩=some (.int .i64 0):=by rw [← hw1];exact (b1.alloc _).cell
  have f1:w1.frozen? ⟨w.heap.size,0,none⟩=false:=by rw [← hw1];exact (b1.alloc _).frozen
  have c2:w1.cell? ⟨w.heap.size+1,0,none⟩=some (.func (.func 73) #[] #[.pointer (some ⟨w.heap.size,0,none⟩)]):=by rw [← hw1];exact b2.cell
  rw [hw1] at hB0
  rw [hw1]
  have hsz2:w.heap.size+1+1=w1.heap.size:=hsz.symm
  have hBw:Below w.heap.size w (w1.alloc (.cells #[.slice a c.length cap] 57)):=hB0.alloc (by omega) _
  have f2:w1.frozen? ⟨w.heap.size+1,0,none⟩=false:=by rw [← hw1];exact b2.frozen
  refine wpIn_rangeFunc_ownF rfl h1 (gf:=82) (lb:=#[.pointer (some ⟨w.heap.size+1+1,0,none⟩)]) rfl trivial (enters_of Try.func82 (by kernel_rfl) rfl)
    (costs_stops Fence.wide (n - 1) trivial trivial rfl (by omega) (w.heap.size+1+1) w.heap.size a c cap hcap hbig (w1.alloc (.cells #[.slice a c.length cap] 57)) (by omega) (by simp [hsz]) (by
      have:=(Boxed.new w1 57 (.slice a c.length cap)).cell
      rw [hsz] at this;exact this) (fun hl=>by
        obtain ⟨b,off,e,hb,hcl⟩:=hc hl
        refine ⟨b,off,e,hb,fun j hj=>?_⟩
        have hbl:=hlow b off e hl
        obtain ⟨r,ka,kl,kc,da,dl,dc,bad,e1,e2,e3,e4,e5⟩:=hcl j hj
        exact ⟨r,ka,kl,kc,da,dl,dc,bad,(hBw.cell (p:=⟨b,off+j * 4,none⟩) hbl).trans e1,(hBw.cell (p:=⟨b,off+j * 4+1,none⟩) hbl).trans e2,(hBw.cell (p:=⟨b,off+j * 4+2,none⟩) hbl).trans e3,(hBw.cell (p:=⟨b,off+j * 4+3,none⟩) hbl).trans e4,e5⟩) (fun b off e hl=>by have:=hlow b off e hl;simp;omega)) KS.trans (ks_b w.heap.size) (Below.refl _ _) (fun _=>rfl)
    (fun pre W=>((W.cell? ⟨w.heap.size,0,none⟩=some (.int .i64 (sumC pre))∧W.frozen? ⟨w.heap.size,0,none⟩=false)∧W.cell? ⟨w.heap.size+1,0,none⟩=some (.func (.func 73) #[] #[.pointer (some ⟨w.heap.size,0,none⟩)]))∧Below w.heap.size w W)
    (fun _ _ _=>False)
    (OwnFrom.and (Own.from (fun s A B row hs hg hr=>⟨⟨cell_kept hs.1.1 hg hr,(frozen_kept hs.1.1 hg hr).trans hs.1.2⟩,cell_kept hs.2 hg hr⟩) _) (ownFrom_below (Nat.le_refl _) (by simp;omega)))
    (fun c=>by intro s W W' row h _ _;exact h)
    ⟨⟨⟨cell_alC _ c1,frz_alC _ c1 f1⟩,cell_alC _ c2⟩,hBw⟩
    (fun x=>{ tmps:=#[.slice a c.length cap,undef,.int .i64 0,.pointer (some ⟨w.heap.size,0,none⟩),.pointer (some ⟨w.heap.size+1,0,none⟩),.int .i64 x,.func (.func 73) #[] #[.pointer (some ⟨w.heap.size,0,none⟩)],.slice a c.length cap,.func (.func 82) #[] #[.pointer (some ⟨w.heap.size+1+1,0,none⟩)],.int .i64 x,undef,undef,undef,undef],defers:=[] }) ?assign ?body ?done ?stop
  case assign =>
    intro l x W K hK
    gi_wp2
    simp
    gi_wp2
    exact hK
  case body =>
    rintro l pre x W ⟨⟨⟨q1,r1⟩,q2⟩,hB⟩ _
    gi_wp2
    refine ⟨trivial,fun _=>by omega,((add_in Fence.wide (n - 1 - 1 - 1) trivial rfl x (sumC pre) w.heap.size W q1 r1).inRound l).mono ?_⟩
    rintro e W2 ⟨⟨v,rfl⟩,rfl⟩
    gi_wp2
    have k1:=World.cell?_setCell_same' W ⟨w.heap.size,0,none⟩ (.int .i64 (wrap64 (sumC pre+x))) (by rw [q1];rfl)
    exact ⟨KeepsOthers.setCell _ _ _,KS.setCell _ _ _,⟨⟨k1.trans (by simp [sumC]),(World.frozen?_setCell _ _ _ _).trans r1⟩,(World.cell?_setCell_other _ _ _ _ (by simp)).trans q2⟩,hB.setCell (p:=⟨w.heap.size,0,none⟩) (Nat.le_refl _) _⟩
  case done =>
    rintro D ys W hD rfl ⟨⟨⟨q1,r1⟩,q2⟩,hB⟩ hK
    gi_wp2
    refine ⟨by simp,.inl ⟨_,_,rfl,run_takeDeferred hK,?_⟩⟩
    have m2:=cell_kept q1 (grownBy_putObj' _ D (.deferred none)) (fun r e=>by cases e;exact ⟨_,hK,rfl⟩)
    refine ⟨.int .i64 (sumC ys),?_,⟨rfl,hB.trans (belowK_b (w:=w) (Nat.le_refl _) W D _ _ (by simp at hD;omega) hK rfl rfl)⟩⟩
    simp [results,Try.f57,go_sem,m2]
  case stop =>
    rintro D c pre W hD hpre h hK
    exact h.elim
end Go.Proofs.Ytkebegfopnlkhaa
/-
  ch. 15: track.Used: what it computes; its contract, out of the fenced walk.
-/
set_option maxHeartbeats 8000000
set_option linter.unusedVariables false
set_option maxRecDepth 100000
namespace Go.Proofs.Ytkebegfopnlkhaa
open Go.AE
def costR (r:TRec):Int:=costI r.Key.length r.Data.length
def track_Used (n:Nat) (l:List TRec):Option Int:=some (sumC (l.map costR))
def xtrack_Used (n:Nat):Go.AE.Fn:=mkFn (A:=List TRec) (R:=Int) 57 [(false,[.slice 59])] false (fun xs=>((cg (xs.getD 0 []) 0).toSl.map d_TRec)) (fun a=>[[.slice (List.map e_TRec a)]]) (fun a=>track_Used n a) (fun r=>[.c (.int .i64) (.int r)]) (fun r=>[])
theorem slen_of {P:Program} {w:World} {al:Nat→Prop} {t:TypeId} {v:Value} {xs:List (List C)} (h:RepC P w al (.slice t) v (.slice xs)):∃ a cap,v = .slice a xs.length cap:=by
  cases h with
  | empty t x a cap h hz =>
    have e:xs=[]:=by simpa [C.toSl] using h
    subst e
    exact ⟨a,cap,rfl⟩
  | slice t x b off cap hz E hE hb hlen hcap hel f hcell hrep=>exact ⟨some ⟨b,off,none⟩,cap,by simp [C.toSl]⟩
theorem costs_of {w:World} {al:Nat→Prop} {v:Value} {l:List TRec} (hal:∀ b,al b→b < w.heap.size) (h:RepC Try.prog w al (.slice 59) v (.slice (List.map e_TRec l))) :
    ∃ a cap,v = .slice a l.length cap∧l.length≤cap∧l.length≤140737488355328∧Costs w a w.heap.size (l.map costR)∧∀ b off,a=some ⟨b,off,none⟩→0 < (l.map costR).length→b < w.heap.size:=by
  cases h with
  | empty t x a cap h hz =>
    have e:l=[]:=by simpa [C.toSl] using h
    subst e
    exact ⟨a,cap,rfl,Nat.zero_le _,Nat.zero_le _,fun h=>by simp at h,fun b off _ h=>by simp at h⟩
  | slice t x b off cap hz E hE hb hlen hcap hel f hcell hrep =>
    rw [ty59] at hE
    cases hE
    have hl:(C.slice (List.map e_TRec l)).toSl.length=l.length:=by simp [C.toSl]
    have hbw:=hal b hb
    refine ⟨some ⟨b,off,none⟩,cap,by rw [hl],by rw [hl] at hcap;exact hcap,by rw [hl] at hlen;exact hlen,fun _=>⟨b,off,rfl,by omega,fun j hj=>?_⟩,fun b' off' e1 _=>?_⟩
    · rw [List.length_map] at hj
      have hj':j < (C.slice (List.map e_TRec l)).toSl.length:=by rw [hl];exact hj
      have h0:=cellN_cell (hcell j hj' 0 (by simp))
      have h1:=cellN_cell (hcell j hj' 1 (by simp))
      have h2:=cellN_cell (hcell j hj' 2 (by simp))
      have h3:=cellN_cell (hcell j hj' 3 (by simp))
      have r0:=hrep j hj' 0 (by simp)
      have r1:=hrep j hj' 1 (by simp)
      have r2:=hrep j hj' 2 (by simp)
      have r3:=hrep j hj' 3 (by simp)
      have e1:eg (C.slice (List.map e_TRec l)).toSl j=e_TRec (gt l j):=by
        simp [C.toSl,eg,gt,List.getD_eq_getElem?_getD,hj]
      rw [e1] at r0 r1 r2 r3
      simp only [e_TRec,cg_zero,cg_succ,List.getD_cons_zero,List.getD_cons_succ] at r0 r1 r2 r3
      simp only [List.length_cons,List.length_nil] at h0 h1 h2 h3
      obtain ⟨ka,kc,q1⟩:=slen_of r1
      obtain ⟨da,dc,q2⟩:=slen_of r2
      rw [q1] at h1
      rw [q2] at h2
      have hg:l[j]=gt l j:=by simp [gt,List.getD_eq_getElem?_getD,hj]
      refine ⟨(gt l j).R,ka,(gt l j).Key.length,kc,da,(gt l j).Data.length,dc,(gt l j).Bad,?_,?_,?_,?_,?_⟩
      · rw [show off+j * 4=off+(j * (0+1+1+1+1)+0) by omega,h0]
        generalize f j 0=q at r0;cases r0;rfl
      · rw [show off+j * 4+1=off+(j * (0+1+1+1+1)+1) by omega,h1,List.length_map]
      · rw [show off+j * 4+2=off+(j * (0+1+1+1+1)+2) by omega,h2,List.length_map]
      · rw [show off+j * 4+3=off+(j * (0+1+1+1+1)+3) by omega,h3]
        generalize f j 3=q at r3;cases r3;rfl
      · simp [List.getD_eq_getElem?_getD,hj,costR,hg]
    · injection e1 with e3
      injection e3 with e4
      rw [← e4]
      exact hbw
theorem wrap64_range (x:Int):InR .i64 (Go.RowKit.wrap64 x):=by
  have e1:IntKind.max .i64=9223372036854775807:=by decide
  have e2:IntKind.min .i64 = -9223372036854775808:=by decide
  unfold InR
  rw [e1,e2]
  unfold Go.RowKit.wrap64
  omega
theorem foldl_range:∀ (l:List Int) (s:Int),InR .i64 s→InR .i64 (l.foldl (fun s x=>Go.RowKit.wrap64 (s+x)) s)
  | [],s,h=>h
  | x :: l,s,h=>foldl_range l _ (wrap64_range _)
theorem sumC_range (l:List Int):InR .i64 (sumC l):=foldl_range l 0 (by unfold InR;decide)
theorem ctrack_Used (n:Nat):Contract Try.prog (xtrack_Used n):=by
  refine Contract.of (fun args w=>Try.call57 args w) (fun _ cs=>⟨rfl,by simp [xtrack_Used,mkFn]⟩) ?_
  intro w al vs cs hal hvl hcl harg hpre
  obtain ⟨hc,hs⟩:=hpre
  obtain ⟨l,hd⟩:∃ a:List TRec,a=((cg (cs.getD 0 []) 0).toSl.map d_TRec):=⟨_,rfl⟩
  have hc':cs=[[.slice (List.map e_TRec l)]]:=by
    have:cs=[[.slice (List.map e_TRec ((cg (cs.getD 0 []) 0).toSl.map d_TRec))]]:=hc
    rw [this,← hd]
  subst hc'
  have hs':(track_Used n l).isSome=true:=by
    have h:(track_Used n (List.map d_TRec (List.map e_TRec l))).isSome=true:=hs
    rwa [de_TRec] at h
  obtain ⟨r,hr⟩:=Option.isSome_iff_exists.1 hs'
  have hres:((xtrack_Used n).sem [[.slice (List.map e_TRec l)]]).res=[.c (.int .i64) (.int r)]:=by
    show ([.c (.int .i64) (.int ((track_Used n (List.map d_TRec (List.map e_TRec l))).getD default))]:List A)=_
    rw [de_TRec,hr];rfl
  have hrows:((xtrack_Used n).sem [[.slice (List.map e_TRec l)]]).rows=[]:=rfl
  match vs,hvl with
  | [v0],_ =>
    have a0:=harg 0 (show 0 < 1 by decide)
    obtain ⟨_,_,a0⟩:=a0
    have a0':RepC Try.prog w al (.slice 59) v0 (.slice (List.map e_TRec l)):=a0
    obtain ⟨a,cap,rfl,hcap,hbig,hC,hlow⟩:=costs_of hal a0'
    unfold track_Used at hr
    obtain rfl:=Option.some.inj hr
    have hI:=Used_in 3 (Nat.le_refl _) a (l.map costR) cap (by rw [List.length_map];exact hcap) (by rw [List.length_map];exact hbig) w hC hlow
    rw [List.length_map] at hI
    refine Calls.mono (callsIn_wide.1 hI) ?_
    rintro e w' ⟨hval,hbel⟩
    refine ⟨_,hval,?_⟩
    refine ⟨hbel,by rw [hrows];simp,fun _=>.dead,fun j=>rfl,fun i j b h=>by simp [blockOf] at h,?_⟩
    rw [hres]
    exact .c _ _ _ (.int .i64 (.int _) (sumC_range _))
end Go.Proofs.Ytkebegfopnlkhaa
