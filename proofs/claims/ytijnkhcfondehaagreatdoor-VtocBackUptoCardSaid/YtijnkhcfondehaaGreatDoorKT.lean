import Derived.RangeFuncNested
import Derived.RangeFuncBound
import Derived.RangeFuncCalls
import Derived.RangeFuncLeaves
import Derived.RangeFuncBox
import Derived.Shelf.Abstract
import Derived.Shelf.RegionOpen
import Derived.WalkKit
import Derived.OwnWalkIn
import Derived.TacticsInMore
import Derived.LoopNIn
import Derived.LoopIn
import Derived.Test.YtijnkhcfondehaaGreatDoorProg
import Derived.RangeFuncWrites
import Derived.Laws.EntriesVeiled
import Derived.Shelf.Strings.Builder1
import Derived.Shelf.Small.Strs
import Derived.Test.YtijnkhcfondehaaGreatDoorL204
set_option linter.unusedSimpArgs false
set_option linter.unusedVariables false
set_option maxRecDepth 100000
open _root_.List renaming size_toArray→jK,length_cons→jq,length_nil→jS,nil_append→Jd,cons_append→JK,getD_eq_getElem?_getD→ja,take_succ_eq_append_getElem→Ju,length_take→jk
open _root_.Nat renaming le_trans→Jb,le_refl→jA,zero_le→JR
open Go.Proofs.Tryz renaming prog→jd
namespace Go.Proofs.YtijnkhcfondehaaGreatDoor
open Go.RowKit Go.Shelf Go.Proofs
attribute [local go_sem] Oper.semAt_some
structure KC (W W':World):Prop where
 size:W.heap.size≤W'.heap.size
 same:∀ (k:Nat) (o:Obj),W.heap[k]? = some o→o.isCells=true→W'.heap[k]? = some o
theorem KC.trans {A B C:World} (h:KC A B) (k:KC B C):KC A C:=⟨Jb h.size k.size,fun i o h1 h2=>k.same i o (h.same i o h1 h2) h2⟩
theorem KC.cell {W W':World} (h:KC W W') {a:Addr} {v:Value} (hc:W.cell? a=some v):W'.cell? a=some v:=by
 unfold World.cell? at hc ⊢;cases ho:W.heap[a.block]? with
 | none=>simp [ho] at hc
 | some o =>
  have hcell:o.isCells=true:=by cases o <;> simp_all [Obj.isCells]
  rw [h.same _ _ ho hcell];rw [ho] at hc;exact hc
def upT (f:Nat→Int×Int):Nat→List (Nat×Int)
 | 0=>[]
 | k+1=>upT f k ++ (List.range (f k).2.toNat).map fun (j:Nat)=>((upT f k).length+j,(f k).1+(j:Int))
end Go.Proofs.YtijnkhcfondehaaGreatDoor
namespace Go.Proofs.YtijnkhcfondehaaGreatDoor
open Go.RowKit Go.Shelf Go.Proofs
attribute [local go_sem] Oper.semAt_some
theorem so {W:World} {a b:Addr} {v:Value} (h:a≠b):(W.setCell a v).cell? b=W.cell? b:=by
 first | exact World.cell?_setCell_other _ _ _ _ h | exact World.cell?_setCell_other _ _ _ h | exact World.cell?_setCell_other _ _ h
end Go.Proofs.YtijnkhcfondehaaGreatDoor
/-
 track.costs, track.Used: the iterator's walk.
-/
namespace Go.Proofs.YtijnkhcfondehaaGreatDoor
open Go.RowKit Go.Shelf Go.Proofs
attribute [local go_sem] Oper.semAt_some
def ekl (kl dl:Nat):Int:=if kl=0 then wrap64 (32+(dl:Int)) else wrap64 (wrap64 (wrap64 (32+(dl:Int))+16)+(kl:Int))
set_option maxHeartbeats 1000000 in
theorem hwc (F:Fence) (n:Nat) (h225:F.fn 225) (hro:F.round=none) (r:Int) (ka:Option Addr) (kl kc:Nat) (da:Option Addr) (dl dc:Nat) (bad:Bool) (w:World) :
  CallsIn F n jd 225 #[.agg #[.int .i64 r,.slice ka kl kc,.slice da dl dc,.bool bad]] w fun e w'=>e = .returned (.int .i64 (ekl kl dl))∧w'=w.alloc (.cells #[.int .i64 r,.slice ka kl kc,.slice da dl dc,.bool bad] 87):=by
 refine callsIn_of_wp Tryz.func225 rfl h225 ?_ hro;simp only [Tryz.ntmps225,jK,jq,jS,Nat.reduceAdd,Nat.reduceSub,Array.replicate_succ,Array.replicate_zero,List.push_toArray,List.append_toArray,Jd,JK]
 gi_wp2
 ·rename_i hk
  go_ret
  refine ⟨?_,rfl⟩
  have:kl=0:=by simpa using hk
  rw [ekl,if_pos this];rfl
 ·rename_i hk
  go_ret
  refine ⟨?_,rfl⟩
  have:¬ kl=0:=by simpa using hk
  rw [ekl,if_neg this];rfl
set_option maxHeartbeats 1000000 in
theorem gk5 (F:Fence) (n:Nat) (h207:F.fn 207) (hro:F.round=none) (a:Option Addr) (len cap:Nat) (w:World) :
  CallsIn F n jd 207 #[.slice a len cap] w fun e w'=>e = .returned (.func (.func 224) #[] #[.pointer (some ⟨w.heap.size,0,none⟩)])∧w'=w.alloc (.cells #[.slice a len cap] 84):=by
 refine callsIn_of_wp Tryz.func207 rfl h207 ?_ hro;simp only [Tryz.ntmps207,jK,jq,jS,Nat.reduceAdd,Nat.reduceSub,Array.replicate_succ,Array.replicate_zero,List.push_toArray,List.append_toArray,Jd,JK]
 gi_wp2
 go_ret
 exact ⟨rfl,rfl⟩
set_option maxHeartbeats 1000000 in
theorem ij9 (F:Fence) (n:Nat) (h206:F.fn 206) (hro:F.round=none) (x s:Int) (Ss:Nat) (w:World) (hc:w.cell? ⟨Ss,0,none⟩=some (.int .i64 s)) (hf:w.frozen? ⟨Ss,0,none⟩=false) :
  CallsIn F n jd 206 #[.int .i64 x,.pointer (some ⟨Ss,0,none⟩)] w fun e w'=>(∃ v,e = .returned v)∧w'=w.setCell ⟨Ss,0,none⟩ (.int .i64 (wrap64 (s+x))):=by
 refine callsIn_of_wp Tryz.func206 rfl h206 ?_ hro;simp only [Tryz.ntmps206,jK,jq,jS,Nat.reduceAdd,Nat.reduceSub,Array.replicate_succ,Array.replicate_zero,List.push_toArray,List.append_toArray,Jd,JK]
 gi_wp2
 go_end0
 exact ⟨⟨_,rfl⟩,rfl⟩
structure KS (s:Nat) (W W':World):Prop where
 size:W.heap.size≤W'.heap.size
 same:∀ (k:Nat) (o:Obj),k≠s→W.heap[k]? = some o→o.isCells=true→W'.heap[k]? = some o
theorem KS.refl (s:Nat) (W:World):KS s W W:=⟨jA _,fun _ _ _ h _=>h⟩
theorem KS.trans {s:Nat} {A B C:World} (h:KS s A B) (k:KS s B C):KS s A C:=⟨Jb h.size k.size,fun i o h0 h1 h2=>k.same i o h0 (h.same i o h0 h1 h2) h2⟩
theorem KS.alloc (s:Nat) (W:World) (o:Obj):KS s W (W.alloc o):=⟨by simp,fun k o' _ hk _=>(Below.heap_alloc W o k (Array.getElem?_eq_some_iff.1 hk).1).trans hk⟩
theorem KS.cell {s:Nat} {W W':World} (h:KS s W W') {a:Addr} {v:Value} (hs:a.block≠s) (hc:W.cell? a=some v):W'.cell? a=some v:=by
 unfold World.cell? at hc ⊢;cases ho:W.heap[a.block]? with
 | none=>simp [ho] at hc
 | some o =>
  have hcell:o.isCells=true:=by cases o <;> simp_all [Obj.isCells]
  rw [h.same _ _ hs ho hcell];rw [ho] at hc;exact hc
theorem KS.setCell (W:World) (s:Nat) (v:Value):KS s W (W.setCell ⟨s,0,none⟩ v) :=
 ⟨(KeepsWalks.setCell W _ v).size,fun k o hk h _=>((grownBy_setCell' W s v).block k (Array.getElem?_eq_some_iff.1 h).1 (by simpa using hk)).trans h⟩
def hjd (W:World) (a:Option Addr) (s:Nat) (c:List Int):Prop :=
 0 < c.length→∃ b off,a=some ⟨b,off,none⟩∧b≠s∧∀ j,j < c.length→∃ r ka kl kc da dl dc bad,W.cell? ⟨b,off+j * 4,none⟩=some (.int .i64 r)∧W.cell? ⟨b,off+j * 4+1,none⟩=some (.slice ka kl kc)∧W.cell? ⟨b,off+j * 4+2,none⟩=some (.slice da dl dc)∧W.cell? ⟨b,off+j * 4+3,none⟩=some (.bool bad)∧ekl kl dl=c.getD j 0
set_option maxHeartbeats 2000000 in
theorem hjw (F:Fence) (n:Nat) (h224:F.fn 224) (h225:F.fn 225) (hro:F.round=none) (hn:1≤n) (l Bs s cap:Nat) (a:Option Addr) (c:List Int) (hcap:c.length≤cap) (hbig:c.length≤140737488355328) (J Jx:List Int→World→Prop) (W:World)
  (hJ:∀ k (A B:World),J k A→A.grownBy B none→J k B)
  (hY:∀ pre x A,J pre A→pre.length < c.length→YieldAt F (n - 1) jd l #[.int .i64 x] A fun e B=>(e = .returned (.bool true)∧J (pre ++ [x]) B∧KS s A B)∨(e = .returned (.bool false)∧Jx (pre ++ [x]) B))
  (hs:Bs≠s) (hBs:W.cell? ⟨Bs,0,none⟩=some (.slice a c.length cap)) (hc:hjd W a s c) (h0:J [] W) :
  CallsIn F n jd 224 #[.func (.yield l) #[] #[],.pointer (some ⟨Bs,0,none⟩)] W fun e W'=>(∃ v,e = .returned v)∧((∃ xs,xs=c∧J xs W')∨(∃ pre,pre <+: c∧Jx pre W')):=by
 refine callsIn_of_wp Tryz.func224 rfl h224 ?_ hro;simp only [Tryz.ntmps224,jK,jq,jS,Nat.reduceAdd,Nat.reduceSub,Array.replicate_succ,Array.replicate_zero,List.push_toArray,List.append_toArray,Jd,JK]
 gi_wp2
 gi_loopw [7] (fun i wr=>∃ k:Nat,k≤c.length∧i = .int .i64 k∧J (c.take k) wr∧KS s W wr)
  (fun i _=>c.length - (intOf i).toNat)
 case atStart=>exact ⟨0,JR _,rfl,h0,KS.refl _ _⟩
 case round =>
  obtain ⟨k,hk,rfl,hJs,hnx⟩:=hrel;by_cases hlt:k < c.length
  ·obtain ⟨b,off,rfl,hb,hcl⟩:=hc (by omega);obtain ⟨r,ka,kl,kc,da,dl,dc,bad,e1,e2,e3,e4,e5⟩:=hcl k hlt;have d1:=hnx.cell hb e1;have d2:=hnx.cell hb e2;have d3:=hnx.cell hb e3;have d4:=hnx.cell hb e4
   gi_wp2
   refine (hwc F (n - 1) h225 hro r ka kl kc da dl dc bad _).mono ?_;rintro e w1 ⟨rfl,rfl⟩;have e7:ekl kl dl=c[k]:=e5.trans (by simp [ja,hlt]);rw [e7];clear e5;obtain ⟨W2,hW2⟩:∃ W2,(wr.alloc (.cells #[.int .i64 r,.slice ka kl kc,.slice da dl dc,.bool bad] 87)).alloc (.cells #[.int .i64 r,.slice ka kl kc,.slice da dl dc,.bool bad] 87)=W2:=⟨_,rfl⟩;have hK2:KS s wr W2:=by rw [← hW2];exact (KS.alloc s _ _).trans (KS.alloc s _ _)
   have hJ2:J (c.take k) W2:=hJ _ _ _ hJs (by
    rw [← hW2]
    exact ⟨rfl,rfl,rfl,by simp;omega,fun i hi _=>(Below.heap_alloc _ _ _ (by simp;omega)).trans (Below.heap_alloc _ _ _ hi)⟩)
   obtain ⟨fn,tmps,assign,body,hy,hR⟩:=hY (c.take k) c[k] W2 hJ2 (by simp;omega)
   try dsimp only at hy
   try rw [hW2]
   gi_wp2
   try rw [hW2]
   refine hR.mono ?_;rintro e W3 (⟨rfl,hJ3,hk3⟩ | ⟨rfl,hJx3⟩)
   ·gi_wp2
    go_roundw
    case rel =>
     refine ⟨k+1,hlt,by simp,?_,(hnx.trans hK2).trans hk3⟩;rw [Ju hlt];exact hJ3
    case measure=>simp [intOf];omega
   ·gi_wp2
    refine bodyPost_ret (results_none rfl _ _ _) rfl ?_;refine ⟨⟨_,rfl⟩,.inr ⟨_,?_,hJx3⟩⟩;rw [← Ju hlt];exact List.take_prefix _ _
  ·obtain rfl:k=c.length:=by omega
   gi_wp2
   go_end0
   exact ⟨⟨_,rfl⟩,.inl ⟨_,rfl,by simpa using hJs⟩⟩
theorem ks_b {w:World} (s:Nat) (W:World) (l:Nat) (o o':Obj) (_:w.heap.size≤l) (h:W.heap[l]? = some o) (ho:o.isCells=false) (_:o.isWalk=false):KS s W (W.putObj l o') :=
 ⟨by simp,fun k o2 _ hk hc=>by
  by_cases e:k=l
  ·subst e;rw [h] at hk;cases hk;rw [ho] at hc;cases hc
  ·exact (World.putObj_heap_other e).trans hk⟩
theorem fqa (F:Fence) (n:Nat) (h224:F.fn 224) (h225:F.fn 225) (hro:F.round=none) (hn:1≤n) (Bs s:Nat) (a:Option Addr) (c:List Int) (cap:Nat) (hcap:c.length≤cap) (hbig:c.length≤140737488355328) (w:World)
  (hs:Bs≠s) (hB:Bs < w.heap.size) (hBs:w.cell? ⟨Bs,0,none⟩=some (.slice a c.length cap)) (hc:hjd w a s c) (hlow:∀ b off,a=some ⟨b,off,none⟩→0 < c.length→b < w.heap.size) :
  SeqStopsK F n jd 224 #[.pointer (some ⟨Bs,0,none⟩)] (fun x:Int=>#[Value.int .i64 x]) (KS s) (fun ys=>ys=c) (fun pre=>pre <+: c) c.length w:=fun l J Jx W hW hJ _ hY h0=>by
 have hc':=(hW.cell (p:=⟨Bs,0,none⟩) hB).trans hBs;refine hjw F n h224 h225 hro hn l Bs s cap a c hcap hbig J Jx W (fun k A B hs hg=>hJ k A B none hs hg (fun r e=>by cases e)) hY hs hc' (fun hl=>?_) h0;obtain ⟨b,off,e,hb,hcl⟩:=hc hl;refine ⟨b,off,e,hb,fun j hj=>?_⟩;have hbl:=hlow b off e hl;obtain ⟨r,ka,kl,kc,da,dl,dc,bad,e1,e2,e3,e4,e5⟩:=hcl j hj;exact ⟨r,ka,kl,kc,da,dl,dc,bad,(hW.cell (p:=⟨b,off+j * 4,none⟩) hbl).trans e1,(hW.cell (p:=⟨b,off+j * 4+1,none⟩) hbl).trans e2,(hW.cell (p:=⟨b,off+j * 4+2,none⟩) hbl).trans e3,(hW.cell (p:=⟨b,off+j * 4+3,none⟩) hbl).trans e4,e5⟩
theorem fw0 {W:World} {a:Addr} {v:Value} (o:Obj) (h:W.cell? a=some v):(W.alloc o).cell? a=some v:=(KS.alloc (a.block+1) W o).cell (by omega) h
theorem hwx {W:World} {a:Addr} {v:Value} (o:Obj) (h:W.cell? a=some v) (hf:W.frozen? a=false):(W.alloc o).frozen? a=false:=by
 rw [((Below.refl W.heap.size W).alloc (jA _) o).frozen (block_lt_of_cell h)];exact hf
def sumC (c:List Int):Int:=c.foldl (fun s x=>wrap64 (s+x)) 0
set_option maxHeartbeats 2000000 in
theorem hwj (n:Nat) (hn:3≤n) (a:Option Addr) (c:List Int) (cap:Nat) (hcap:c.length≤cap) (hbig:c.length≤140737488355328) (w:World) (hc:hjd w a w.heap.size c) (hlow:∀ b off,a=some ⟨b,off,none⟩→0 < c.length→b < w.heap.size) :
  CallsIn Fence.wide n jd 186 #[.slice a c.length cap] w fun e w'=>e = .returned (.int .i64 (sumC c))∧Below w.heap.size w w':=by
 have h1:1≤n:=by omega
 refine callsIn_of_wp_marks Tryz.func186 rfl trivial ?_ rfl;simp only [Tryz.ntmps186,jK,jq,jS,Nat.reduceAdd,Nat.reduceSub,Array.replicate_succ,Array.replicate_zero,List.push_toArray,List.append_toArray,Jd,JK]
 gi_wp2
 refine ⟨trivial,(gk5 Fence.wide (n - 1) trivial rfl _ _ _ _).mono ?_⟩;rintro e w2 ⟨rfl,rfl⟩
 gi_wp2
 have hB0:Below w.heap.size w ((w.alloc (.cells #[.int .i64 0] 3)).alloc (.cells #[.func (.func 206) #[] #[.pointer (some ⟨w.heap.size,0,none⟩)]] 222)):=((Below.refl _ w).alloc (jA _) _).alloc (by simp) _;have b1:=Boxed.new w 3 (.int .i64 0);have b2:=Boxed.new (w.alloc (.cells #[.int .i64 0] 3)) 222 (.func (.func 206) #[] #[.pointer (some ⟨w.heap.size,0,none⟩)]);simp only [World.size_alloc] at b2;obtain ⟨w1,hw1⟩:∃ w1,(w.alloc (.cells #[.int .i64 0] 3)).alloc (.cells #[.func (.func 206) #[] #[.pointer (some ⟨w.heap.size,0,none⟩)]] 222)=w1:=⟨_,rfl⟩;have hsz:w1.heap.size=w.heap.size+1+1:=by rw [← hw1];simp
 have c1:w1.cell? ⟨w.heap.size,0,none⟩=some (.int .i64 0):=by rw [← hw1];exact (b1.alloc _).cell
 have f1:w1.frozen? ⟨w.heap.size,0,none⟩=false:=by rw [← hw1];exact (b1.alloc _).frozen
 have c2:w1.cell? ⟨w.heap.size+1,0,none⟩=some (.func (.func 206) #[] #[.pointer (some ⟨w.heap.size,0,none⟩)]):=by rw [← hw1];exact b2.cell
 rw [hw1] at hB0;rw [hw1];have hsz2:w.heap.size+1+1=w1.heap.size:=hsz.symm;have hBw:Below w.heap.size w (w1.alloc (.cells #[.slice a c.length cap] 84)):=hB0.alloc (by omega) _;have f2:w1.frozen? ⟨w.heap.size+1,0,none⟩=false:=by rw [← hw1];exact b2.frozen
 refine wpIn_rangeFunc_ownF rfl h1 (gf:=224) (lb:=#[.pointer (some ⟨w.heap.size+1+1,0,none⟩)]) rfl trivial (enters_of Tryz.func224 (by kernel_rfl) rfl)
  (fqa Fence.wide (n - 1) trivial trivial rfl (by omega) (w.heap.size+1+1) w.heap.size a c cap hcap hbig (w1.alloc (.cells #[.slice a c.length cap] 84)) (by omega) (by simp [hsz]) (by
   have:=(Boxed.new w1 84 (.slice a c.length cap)).cell
   rw [hsz] at this;exact this) (fun hl=>by
    obtain ⟨b,off,e,hb,hcl⟩:=hc hl;refine ⟨b,off,e,hb,fun j hj=>?_⟩;have hbl:=hlow b off e hl;obtain ⟨r,ka,kl,kc,da,dl,dc,bad,e1,e2,e3,e4,e5⟩:=hcl j hj
    exact ⟨r,ka,kl,kc,da,dl,dc,bad,(hBw.cell (p:=⟨b,off+j * 4,none⟩) hbl).trans e1,(hBw.cell (p:=⟨b,off+j * 4+1,none⟩) hbl).trans e2,(hBw.cell (p:=⟨b,off+j * 4+2,none⟩) hbl).trans e3,(hBw.cell (p:=⟨b,off+j * 4+3,none⟩) hbl).trans e4,e5⟩) (fun b off e hl=>by have:=hlow b off e hl;simp;omega)) KS.trans (ks_b w.heap.size) (Below.refl _ _) (fun _=>rfl)
  (fun pre W=>((W.cell? ⟨w.heap.size,0,none⟩=some (.int .i64 (sumC pre))∧W.frozen? ⟨w.heap.size,0,none⟩=false)∧W.cell? ⟨w.heap.size+1,0,none⟩=some (.func (.func 206) #[] #[.pointer (some ⟨w.heap.size,0,none⟩)]))∧Below w.heap.size w W)
  (fun _ _ _=>False)
  (OwnFrom.and (Own.from (fun s A B row hs hg hr=>⟨⟨cell_kept hs.1.1 hg hr,(frozen_kept hs.1.1 hg hr).trans hs.1.2⟩,cell_kept hs.2 hg hr⟩) _) (ownFrom_below (jA _) (by simp;omega)))
  (fun c=>by intro s W W' row h _ _;exact h)
  ⟨⟨⟨fw0 _ c1,hwx _ c1 f1⟩,fw0 _ c2⟩,hBw⟩
  (fun x=>{ tmps:=#[.slice a c.length cap,undef,.int .i64 0,.pointer (some ⟨w.heap.size,0,none⟩),.pointer (some ⟨w.heap.size+1,0,none⟩),.int .i64 x,.func (.func 206) #[] #[.pointer (some ⟨w.heap.size,0,none⟩)],.slice a c.length cap,.func (.func 224) #[] #[.pointer (some ⟨w.heap.size+1+1,0,none⟩)],.int .i64 x,undef,undef,undef,undef],defers:=[] }) ?assign ?body ?done ?stop
 case assign =>
  intro l x W K hK
  gi_wp2
  simp
  gi_wp2
  exact hK
 case body =>
  rintro l pre x W ⟨⟨⟨q1,r1⟩,q2⟩,hB⟩ _
  gi_wp2
  refine ⟨trivial,fun _=>by omega,((ij9 Fence.wide (n - 1 - 1 - 1) trivial rfl x (sumC pre) w.heap.size W q1 r1).inRound l).mono ?_⟩;rintro e W2 ⟨⟨v,rfl⟩,rfl⟩
  gi_wp2
  have k1:=World.cell?_setCell_same' W ⟨w.heap.size,0,none⟩ (.int .i64 (wrap64 (sumC pre+x))) (by rw [q1];rfl);exact ⟨KeepsOthers.setCell _ _ _,KS.setCell _ _ _,⟨⟨k1.trans (by simp [sumC]),(World.frozen?_setCell _ _ _ _).trans r1⟩,(World.cell?_setCell_other _ _ _ _ (by simp)).trans q2⟩,hB.setCell (p:=⟨w.heap.size,0,none⟩) (jA _) _⟩
 case done =>
  rintro D ys W hD rfl ⟨⟨⟨q1,r1⟩,q2⟩,hB⟩ hK
  gi_wp2
  refine ⟨by simp,.inl ⟨_,_,rfl,run_takeDeferred hK,?_⟩⟩;have m2:=cell_kept q1 (grownBy_putObj' _ D (.deferred none)) (fun r e=>by cases e;exact ⟨_,hK,rfl⟩);refine ⟨.int .i64 (sumC ys),?_,⟨rfl,hB.trans (belowK_b (w:=w) (jA _) W D _ _ (by simp at hD;omega) hK rfl rfl)⟩⟩;simp [results,Tryz.f186,go_sem,m2]
 case stop =>
  rintro D c pre W hD hpre h hK;exact h.elim
end Go.Proofs.YtijnkhcfondehaaGreatDoor
/-
 ch. 2: ebcdic.Char, Decode, Trim: the walks.
-/
namespace Go.Proofs.YtijnkhcfondehaaGreatDoor
open Go.RowKit Go.Shelf Go.Proofs
def tabE:List UInt8:=[64,90,127,123,91,108,80,125,77,93,92,78,107,96,75,97,240,241,242,243,244,245,246,247,248,249,122,94,76,126,110,111,124,193,194,195,196,197,198,199,200,201,209,210,211,212,213,214,215,216,217,226,227,228,229,230,231,232,233,186,224,187,176,109,121,129,130,131,132,133,134,135,136,137,145,146,147,148,149,150,151,152,153,162,163,164,165,166,167,168,169,192,79,208,161]
def eChI (x:Int):Int:=Lib.indexByte tabE x.toNat.toUInt8
def eChO (x:Int):Bool:=!decide (eChI x < 0)
def eChC (x:Int):Int:=if eChI x < 0 then 0 else wrap64 (32+eChI x) % 256
set_option maxHeartbeats 1000000 in
theorem gyj (x:Int) (w:World):Calls jd 181 #[.int .u8 x] w fun e w'=>e = .returned (.tuple #[.int .u8 (eChC x),.bool (eChO x)])∧w'=w:=by
 have e204:∀ args w,(callFunc 204 args).run jd w = .ok (.enter 204 args) w:=enters_of Tryz.func204 (by kernel_rfl) rfl
 go_enter Tryz.func181,Tryz.ntmps181
 go_wp2_with (go_at_call 204;refine (Any.strings_IndexByte hy0 ⟨tabE.toArray⟩ x w).mono ?_;rintro e w' ⟨rfl,rfl⟩)
 ·rename_i h;have h':eChI x < 0:=h
  go_ret2
  simp [eChC,eChO,h']
 ·rename_i h;have h':¬ eChI x < 0:=by unfold eChI;rw [show x.toNat.toUInt8=UInt8.ofNat x.toNat from rfl];omega
  go_ret2
  simp only [eChC,eChO,h',if_false,decide_false,Bool.not_false];exact ⟨rfl,trivial⟩
def Byts (w:World) (a:Option Addr) (l:List Int):Prop:=0 < l.length→∃ b off,a=some ⟨b,off,none⟩∧b < w.heap.size∧∀ j,j < l.length→w.cell? ⟨b,off+j,none⟩=some (.int .u8 (l.getD j 0))
def eChB (x:Int):UInt8:=if eChO x=true then (eChC x).toNat.toUInt8 else 46
def decM (l:List Int):List UInt8:=l.map eChB
theorem X182:Builder.Extra jd ejg where
 sizeBuilder:=by kernel_rfl
 liesBuilder:=by kernel_rfl
 t5:=Tryz.underlying5
 a5:=Tryz.isAgg5
 z5:=Tryz.sizeOf5
 v5:=Tryz.zeroValue5
 infoByte:=by kernel_rfl
 cellsByte:=by kernel_rfl
 sizeByte:=by kernel_rfl
 neB5:=by decide
theorem X183:Builder.Extra jd eq3 where
 sizeBuilder:=by kernel_rfl
 liesBuilder:=by kernel_rfl
 t5:=Tryz.underlying5
 a5:=Tryz.isAgg5
 z5:=Tryz.sizeOf5
 v5:=Tryz.zeroValue5
 infoByte:=by kernel_rfl
 cellsByte:=by kernel_rfl
 sizeByte:=by kernel_rfl
 neB5:=by decide
set_option maxHeartbeats 4000000 in
theorem eqa (l:List Int) (a:Option Addr) (cap:Nat) (w:World) (hl:l.length≤140737488355328) (hB:Byts w a l) :
  Calls jd 145 #[.slice a l.length cap] w fun e w'=>e = .returned (.string ⟨(decM l).toArray⟩)∧Below w.heap.size w w':=by
 have e181:∀ args w,(callFunc 181 args).run jd w = .ok (.enter 181 args) w:=enters_of Tryz.func181 (by kernel_rfl) rfl;have e182:∀ args w,(callFunc 182 args).run jd w = .ok (.enter 182 args) w:=enters_of Tryz.func182 (by kernel_rfl) rfl;have e183:∀ args w,(callFunc 183 args).run jd w = .ok (.enter 183 args) w:=enters_of Tryz.func183 (by kernel_rfl) rfl
 go_enter Tryz.func145,Tryz.ntmps145
 go_wp2
 go_loopw [10] (fun i wr=>∃ k:Nat,k≤l.length∧i = .int .i64 k∧Lib.IsBuilder 200 5 w.heap.size w.heap.size (Lib.byteCells (decM (l.take k))) wr∧Below w.heap.size w wr) (fun i _=>l.length - (intOf i).toNat)
 case atStart =>
  refine ⟨0,JR _,rfl,?_,(Below.refl _ w).alloc (jA _) _⟩;exact Lib.fresh_isBuilder 200 5 w
 case round =>
  obtain ⟨k,hk,rfl,HB,HW⟩:=hrel;have hsz:w.heap.size≤wr.heap.size:=HW.size;by_cases hlt:k < l.length
  ·obtain ⟨b,off,rfl,hbw,hcl⟩:=hB (by omega);have hc:wr.cell? ⟨b,off+k,none⟩=some (.int .u8 (l.getD k 0)):=(HW.cell (p:=⟨b,off+k,none⟩) hbw).trans (hcl k hlt);obtain ⟨x,hx⟩:∃ x,x=l.getD k 0:=⟨_,rfl⟩;rw [← hx] at hc
   have hn:Lib.byteCells (decM (l.take (k+1)))=Lib.byteCells (decM (l.take k)) ++ [.int .u8 ((eChB x).toNat:Int)]:=by
    have e:l.take (k+1)=l.take k ++ [x]:=by
     rw [Ju hlt,hx];simp [ja,hlt]
    rw [e,decM,List.map_append,Lib.byteCells_append];rfl
   have hlen:(Lib.byteCells (decM (l.take k))).length+1≤140737488355328:=by
    rw [Lib.byteCells_length,decM,List.length_map,jk];omega
   clear hx hcl
   go_wp2_with (go_at_call 181;refine (gyj x wr).mono ?_;rintro e w' ⟨rfl,rfl⟩)
   ·have hB1:((eChB x).toNat:Int)=46:=by
     have h0:(!eChO x)=true:=by assumption
     have:eChO x=false:=by simpa using h0
     simp [eChB,this]
    rw [hB1] at hn;refine (Any.Builder_WriteByte hqt X182 w.heap.size w.heap.size _ 46 _ HB hlen hsz).mono ?_;rintro e w2 ⟨rfl,h2,hb2⟩
    go_wp2
    refine ⟨⟨k+1,hlt,by go_num,?_,HW.trans hb2⟩,by simp [intOf];omega⟩;rw [hn];exact Or.inr h2
   ·have hB1:((eChB x).toNat:Int)=eChC x:=by
     have h1:eChO x=true:=by
      first
       | have h0:(!eChO x)=false:=(by assumption);simpa using h0
       | have h0:¬ (!eChO x)=true:=(by assumption);simpa using h0
     have h2:0≤eChC x∧eChC x < 256:=by unfold eChC;split <;> omega
     simp only [eChB,h1,if_true];rw [show (eChC x).toNat.toUInt8.toNat=(eChC x).toNat % 256 from UInt8.toNat_ofNat];omega
    rw [hB1] at hn;refine (Any.Builder_WriteByte hqt X182 w.heap.size w.heap.size _ (eChC x) _ HB hlen hsz).mono ?_;rintro e w2 ⟨rfl,h2,hb2⟩
    go_wp2
    refine ⟨⟨k+1,hlt,by go_num,?_,HW.trans hb2⟩,by simp [intOf];omega⟩;rw [hn];exact Or.inr h2
  ·obtain rfl:k=l.length:=by omega
   rw [List.take_length] at HB
   go_wp2_with fail
   refine (Any.Builder_String_any ija X183 w.heap.size w.heap.size _ wr HB hsz).mono ?_;rintro e w5 ⟨rfl,hb5⟩
   go_wp2
   go_ret
   exact ⟨rfl,HW.trans hb5⟩
def dww (l:List Int):Nat→Nat
 | 0=>0
 | k+1=>if l.getD k 0=64 then dww l k else k+1
theorem eqz (l:List Int):∀ k,dww l k≤k
 | 0=>jA _
 | k+1=>by
  unfold dww
  split
  ·have:=eqz l k;omega
  ·exact jA _
def byp (l:List Int):List UInt8:=decM (l.take (dww l l.length))
set_option maxHeartbeats 4000000 in
theorem gyo (l:List Int) (a:Option Addr) (cap:Nat) (w:World) (hl:l.length≤140737488355328) (hcap:l.length≤cap) (hB:Byts w a l) :
  Calls jd 100 #[.slice a l.length cap] w fun e w'=>e = .returned (.string ⟨(byp l).toArray⟩)∧Below w.heap.size w w':=by
 have e145:∀ args w,(callFunc 145 args).run jd w = .ok (.enter 145 args) w:=enters_of Tryz.func145 (by kernel_rfl) rfl
 go_enter Tryz.func100,Tryz.ntmps100
 go_wp2
 go_loopw [3] (fun i wr=>∃ k:Nat,k≤l.length∧i = .int .i64 k∧dww l l.length=dww l k∧wr=w) (fun i _=>(intOf i).toNat)
 case atStart=>exact ⟨l.length,jA _,rfl,rfl,rfl⟩
 case round =>
  obtain ⟨k,hk,rfl,he,rfl⟩:=hrel;rcases Nat.eq_zero_or_pos k with rfl | hpos
  ·go_wp2_with fail
   refine (eqa [] a cap wr (by simp) (fun h=>by simp at h)).mono ?_;rintro e w2 ⟨rfl,h2⟩
   go_wp2
   go_ret
   refine ⟨?_,h2⟩;rw [byp,he];simp [dww]
  ·obtain ⟨b,off,rfl,hbw,hcl⟩:=hB (by omega);obtain ⟨j,rfl⟩:∃ j,k=j+1:=⟨k - 1,by omega⟩;have hc:=hcl j (by omega)
   go_wp2_with fail
   ·have h64:(l[j]?.getD 0 == 64)=true:=by assumption
    refine ⟨⟨j,by omega,rfl,?_,trivial⟩,by simp [intOf]⟩;rw [he,dww,if_pos (by rw [ja];exact eq_of_beq h64)]
   ·have h64:¬ l.getD j 0=64:=by
     intro hh;rw [ja] at hh
     simp_all
    have hlk:(l.take (j+1)).length=j+1:=by rw [jk];omega
    have hD:=eqa (l.take (j+1)) (some ⟨b,off,none⟩) cap wr (by omega) (fun _=>⟨b,off,rfl,hbw,fun i hi=>by
     rw [hcl i (by omega)];simp only [ja]
     rw [List.getElem?_take_of_lt (by omega)]⟩)
    rw [hlk] at hD;refine hD.mono ?_;rintro e w2 ⟨rfl,h2⟩
    go_wp2
    go_ret
    refine ⟨?_,h2⟩;rw [byp,he,dww,if_neg h64];rfl
end Go.Proofs.YtijnkhcfondehaaGreatDoor
