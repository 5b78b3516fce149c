import Derived.RangeFuncNested
import Derived.RangeFuncBound
import Derived.RangeFuncCalls
import Derived.RangeFuncLeaves
import Derived.RangeFuncBox
import Derived.Shelf.Abstract
import Derived.Shelf.RegionOpen
import Derived.WalkKit
import Derived.OwnWalkIn
import Derived.TacticsInMore
import Derived.LoopNIn
import Derived.LoopIn
import Derived.Test.YtijnkhcfondehaaGreatDoorProg
import Derived.RangeFuncWrites
set_option linter.unusedSimpArgs false
set_option linter.unusedVariables false
set_option maxRecDepth 100000
open _root_.List renaming size_toArray→jD,length_cons→jK,length_nil→jV,nil_append→JC,cons_append→Jy,range→Jk
open _root_.Nat renaming le_refl→jB
open Go.Proofs.Tryz renaming prog→jd
namespace Go.Proofs.YtijnkhcfondehaaGreatDoor
open Go.RowKit Go.Shelf Go.Proofs
attribute [local go_sem] Oper.semAt_some
set_option maxHeartbeats 1000000 in
theorem fk9 (F:Fence) (n:Nat) (h41:F.fn 119) (hro:F.round=none) (a:Option Addr) (len cap:Nat) (w:World) :
  CallsIn F n jd 119 #[.slice a len cap] w fun e w'=>e = .returned (.func (.func 160) #[] #[.pointer (some ⟨w.heap.size,0,none⟩)])∧w'=w.alloc (.cells #[.slice a len cap] 39):=by
 refine callsIn_of_wp Tryz.func119 rfl h41 ?_ hro
 simp only [Tryz.ntmps119,jD,jK,jV,Nat.reduceAdd,Nat.reduceSub,Array.replicate_succ,Array.replicate_zero,List.push_toArray,List.append_toArray,JC,Jy]
 gi_wp2
 go_ret
 exact ⟨rfl,rfl⟩
structure KC (W W':World):Prop where
 size:W.heap.size≤W'.heap.size
 same:∀ (k:Nat) (o:Obj),W.heap[k]? = some o→o.isCells=true→W'.heap[k]? = some o
theorem KC.refl (W:World):KC W W:=⟨jB _,fun _ _ h _=>h⟩
theorem KC.trans {A B C:World} (h:KC A B) (k:KC B C):KC A C:=⟨Nat.le_trans h.size k.size,fun i o h1 h2=>k.same i o (h.same i o h1 h2) h2⟩
theorem KC.alloc (W:World) (o:Obj):KC W (W.alloc o):=⟨by simp,fun k o' hk _=>(Below.heap_alloc W o k (Array.getElem?_eq_some_iff.1 hk).1).trans hk⟩
theorem KC.cell {W W':World} (h:KC W W') {a:Addr} {v:Value} (hc:W.cell? a=some v):W'.cell? a=some v:=by
 unfold World.cell? at hc ⊢
 cases ho:W.heap[a.block]? with
 | none=>simp [ho] at hc
 | some o =>
  have hcell:o.isCells=true:=by cases o <;> simp_all [Obj.isCells]
  rw [h.same _ _ ho hcell]
  rw [ho] at hc;exact hc
def fye (f:Nat→Int×Int) (W:World) (b off len:Nat):Prop:=∀ j,j < len→W.cell? ⟨b,off+j * 2,none⟩=some (.int .i64 (f j).1)∧W.cell? ⟨b,off+j * 2+1,none⟩=some (.int .i64 (f j).2)
def upT (f:Nat→Int×Int):Nat→List (Nat×Int)
 | 0=>[]
 | k+1=>upT f k ++ (Jk (f k).2.toNat).map fun (j:Nat)=>((upT f k).length+j,(f k).1+(j:Int))
def ptT (f:Nat→Int×Int) (k m:Nat):List (Nat×Int):=upT f k ++ (Jk m).map fun (j:Nat)=>((upT f k).length+j,(f k).1+(j:Int))
theorem gji (f:Nat→Int×Int) (k:Nat):ptT f k 0=upT f k:=by simp [ptT]
theorem fqa (f:Nat→Int×Int) (k m:Nat):ptT f k (m+1)=ptT f k m ++ [((upT f k).length+m,(f k).1+(m:Int))]:=by simp [ptT,List.range_succ]
theorem fjl (f:Nat→Int×Int) (k:Nat):ptT f k (f k).2.toNat=upT f (k+1):=rfl
theorem eyu (f:Nat→Int×Int) (k m:Nat):(ptT f k m).length=(upT f k).length+m:=by simp [ptT]
theorem fq6 (f:Nat→Int×Int) (k:Nat):∀ d,upT f k <+: upT f (k+d)
 | 0=>List.prefix_refl _
 | d+1=>(fq6 f k d).trans (List.prefix_append _ _)
theorem fqr (f:Nat→Int×Int) {k m len:Nat} (hk:k < len) (hm:m≤(f k).2.toNat):ptT f k m <+: upT f len:=by
 have h1:ptT f k m <+: upT f (k+1):=by
  obtain ⟨e,he⟩:∃ e,(f k).2.toNat=m+e:=⟨(f k).2.toNat - m,by omega⟩
  show upT f k ++ _ <+: upT f k ++ _
  rw [List.prefix_append_right_inj,he,List.range_add,List.map_append]
  exact List.prefix_append _ _
 have h2:=fq6 f (k+1) (len - (k+1))
 have e:k+1+(len - (k+1))=len:=by omega
 rw [e] at h2
 exact h1.trans h2
set_option maxHeartbeats 2000000 in
theorem gqi (F:Fence) (n:Nat) (h46:F.fn 160) (hro:F.round=none) (hn:1≤n) (l Bs b off len cap:Nat) (f:Nat→Int×Int) (hreach:len≤512) (hf:∀ j,j < len→0≤(f j).1∧(f j).1≤512∧0≤(f j).2∧(f j).2≤512) (hup:(upT f len).length≤512) (J Jx:List (Nat×Int)→World→Prop)
  (hJ:∀ s (W W':World),J s W→KC W W'→W.grownBy W' none→J s W')
  (hY:∀ pre x W,J pre W→pre.length < (upT f len).length→YieldAt F (n - 1) jd l #[.int .i64 (x.1:Int),.int .i64 x.2] W fun e W' =>
   (e = .returned (.bool true)∧J (pre ++ [x]) W'∧KC W W')∨(e = .returned (.bool false)∧Jx (pre ++ [x]) W'))
  (W:World) (hBs:W.cell? ⟨Bs,0,none⟩=some (.slice (some ⟨b,off,none⟩) len cap)) (hc:fye f W b off len) (h0:J [] W) :
  CallsIn F n jd 160 #[.func (.yield l) #[] #[],.pointer (some ⟨Bs,0,none⟩)] W fun e W'=>(∃ v,e = .returned v) ∧
   ((∃ ys,ys=upT f len∧J ys W')∨(∃ pre,pre <+: upT f len∧Jx pre W')):=by
 refine callsIn_of_wp Tryz.func160 rfl h46 ?_ hro
 simp only [Tryz.ntmps160,jD,jK,jV,Nat.reduceAdd,Nat.reduceSub,Array.replicate_succ,Array.replicate_zero,List.push_toArray,List.append_toArray,JC,Jy]
 gi_wp2
 gi_loopw [3,9] (fun c i wr=>∃ k:Nat,k≤len∧i = .int .i64 k∧c = .int .i64 ((upT f k).length:Int)∧J (upT f k) wr∧KC W wr)
  (fun _ i _=>len - (intOf i).toNat)
 case atStart=>exact ⟨0,Nat.zero_le _,rfl,rfl,h0,KC.refl _⟩
 case round =>
  obtain ⟨k,hk,rfl,rfl,hJs,hnx⟩:=hrel
  by_cases hlt:k < len
  ·have hcx0:=hnx.cell (hc k hlt).1
   have hcx1:=hnx.cell (hc k hlt).2
   have hfk:=hf k hlt
   gi_wp2
   obtain ⟨W2,hW2⟩:∃ W2,wr.alloc (.cells #[.int .i64 (f k).1,.int .i64 (f k).2] 80)=W2:=⟨_,rfl⟩
   have hx0:W2.cell? ⟨wr.heap.size,0,none⟩=some (.int .i64 (f k).1):=by rw [← hW2];simp
   have hJ2:J (upT f k) W2:=by rw [← hW2];exact hJ _ _ _ hJs (KC.alloc _ _) ⟨rfl,rfl,rfl,by simp,fun i hi _=>Below.heap_alloc _ _ _ hi⟩
   have hK2:KC wr W2:=by rw [← hW2];exact KC.alloc _ _
   rw [hW2]
   gi_loopw [3,15] (fun c j wi=>∃ m:Nat,m≤(f k).2.toNat∧j = .int .i64 m∧c = .int .i64 (((upT f k).length+m:Nat):Int)∧J (ptT f k m) wi∧KC W2 wi)
    (fun _ j _=>(f k).2.toNat - (intOf j).toNat)
   case atStart=>exact ⟨0,Nat.zero_le _,rfl,rfl,by rw [gji];exact hJ2,KC.refl _⟩
   case round =>
    obtain ⟨m,hm,rfl,rfl,hJm,hKm⟩:=hrel
    have hxm:=hKm.cell hx0
    by_cases hlm:m < (f k).2.toNat
    ·have hpre:=fqr f hlt (show m+1≤(f k).2.toNat from hlm)
     have hplen:=hpre.length_le
     rw [eyu] at hplen
     obtain ⟨fn,tmps,assign,body,hy,hR⟩:=hY (ptT f k m) ((upT f k).length+m,(f k).1+(m:Int)) wr hJm (by rw [eyu];omega)
     dsimp only at hy
     rw [Int.natCast_add] at hy
     gi_wp2
     refine hR.mono ?_
     rintro e W3 (⟨rfl,hJ3,hk3⟩ | ⟨rfl,hJx3⟩)
     ·gi_wp2
      go_roundw
      case rel=>exact ⟨m+1,hlm,by simp,by simp;omega,by rw [fqa];exact hJ3,hKm.trans hk3⟩
      case measure=>simp [intOf];omega
     ·gi_wp2
      refine bodyPost_ret (results_none rfl _ _ _) rfl ?_
      exact ⟨⟨_,rfl⟩,.inr ⟨_,by rw [← fqa];exact hpre,hJx3⟩⟩
    ·obtain rfl:m=(f k).2.toNat:=by omega
     gi_wp2
     exact ⟨⟨k+1,hlt,by simp,by rw [← fjl,eyu],by rw [← fjl];exact hJm,(hnx.trans hK2).trans hKm⟩,by simp [intOf];omega⟩
  ·obtain rfl:k=len:=by omega
   gi_wp2
   go_end0
   exact ⟨⟨_,rfl⟩,.inl ⟨_,rfl,hJs⟩⟩
end Go.Proofs.YtijnkhcfondehaaGreatDoor
namespace Go.Proofs.YtijnkhcfondehaaGreatDoor
open Go.RowKit Go.Shelf Go.Proofs
attribute [local go_sem] Oper.semAt_some
set_option maxHeartbeats 1000000 in
theorem gqn (F:Fence) (n:Nat) (h46:F.fn 160) (hro:F.round=none) (l Bs cap:Nat) (a:Option Addr) (J:List (Nat×Int)→World→Prop) (W:World) (hBs:W.cell? ⟨Bs,0,none⟩=some (.slice a 0 cap)) (h0:J [] W) :
  CallsIn F n jd 160 #[.func (.yield l) #[] #[],.pointer (some ⟨Bs,0,none⟩)] W fun e W'=>(∃ v,e = .returned v)∧J [] W':=by
 refine callsIn_of_wp Tryz.func160 rfl h46 ?_ hro
 simp only [Tryz.ntmps160,jD,jK,jV,Nat.reduceAdd,Nat.reduceSub,Array.replicate_succ,Array.replicate_zero,List.push_toArray,List.append_toArray,JC,Jy]
 gi_wp2
 gi_loopw [3,9] (fun c i wr=>c = .int .i64 0∧i = .int .i64 0∧J [] wr) (fun _ _ _=>0)
 case atStart=>exact ⟨rfl,rfl,h0⟩
 case round =>
  obtain ⟨rfl,rfl,hJs⟩:=hrel
  gi_wp2
  go_end0
  exact ⟨⟨_,rfl⟩,hJs⟩
def Exts (W:World) (sv:Value) (len:Nat) (f:Nat→Int×Int):Prop :=
 ∃ a cap,sv = .slice a len cap∧(0 < len→∃ b off,a=some ⟨b,off,none⟩∧fye f W b off len)
theorem ezz (F:Fence) (n:Nat) (h46:F.fn 160) (hro:F.round=none) (hn:1≤n) (Bs:Nat) (sv:Value) (len:Nat) (f:Nat→Int×Int) (hreach:len≤512) (hf:∀ j,j < len→0≤(f j).1∧(f j).1≤512∧0≤(f j).2∧(f j).2≤512) (hup:(upT f len).length≤512) (w:World)
  (hBs:Bs < w.heap.size) (hc:w.cell? ⟨Bs,0,none⟩=some sv) (hI:Exts w sv len f) (hlow:∀ b,(∃ a cap,sv = .slice a len cap∧∃ off,a=some ⟨b,off,none⟩)→0 < len→b < w.heap.size) :
  SeqStopsK F n jd 160 #[.pointer (some ⟨Bs,0,none⟩)] (fun x:Nat×Int=>#[Value.int .i64 (x.1:Int),Value.int .i64 x.2]) KC (fun ys=>ys=upT f len) (fun pre=>pre <+: upT f len) (upT f len).length w:=fun l J Jx W hW hJ _ hY h0=>by
 have hc':=(hW.cell (p:=⟨Bs,0,none⟩) hBs).trans hc
 obtain ⟨a,cap,rfl,hcs⟩:=hI
 rcases Nat.eq_zero_or_pos len with rfl | hl
 ·exact (gqn F n h46 hro l Bs cap a J W hc' h0).mono fun e W' ⟨he,hj⟩=>⟨he,.inl ⟨_,rfl,hj⟩⟩
 ·obtain ⟨b,off,rfl,hcl⟩:=hcs hl
  have hb:b < w.heap.size:=hlow b ⟨_,_,rfl,_,rfl⟩ hl
  refine gqi F n h46 hro hn l Bs b off len cap f hreach hf hup J Jx (fun s A B hs _ hg=>hJ s A B none hs hg (fun r e=>by cases e)) hY W hc' (fun j hj=>⟨(hW.cell (p:=⟨b,off+j * 2,none⟩) hb).trans (hcl j hj).1,(hW.cell (p:=⟨b,off+j * 2+1,none⟩) hb).trans (hcl j hj).2⟩) h0
theorem kc_b {w:World} (W:World) (l:Nat) (o o':Obj) (_:w.heap.size≤l) (h:W.heap[l]? = some o) (ho:o.isCells=false) (_:o.isWalk=false):KC W (W.putObj l o') :=
 ⟨by simp,fun k o2 hk hc=>by
  by_cases e:k=l
  ·subst e;rw [h] at hk;cases hk;rw [ho] at hc;cases hc
  ·exact (World.putObj_heap_other e).trans hk⟩
theorem eyy {W:World} {a:Addr} {v:Value} (o:Obj) (h:W.cell? a=some v):(W.alloc o).cell? a=some v:=(KC.alloc W o).cell h
theorem gwb {W:World} {a:Addr} {v:Value} (o:Obj) (h:W.cell? a=some v) (hf:W.frozen? a=false):(W.alloc o).frozen? a=false:=by
 rw [((Below.refl W.heap.size W).alloc (jB _) o).frozen (block_lt_of_cell h)];exact hf
theorem so {W:World} {a b:Addr} {v:Value} (h:a≠b):(W.setCell a v).cell? b=W.cell? b:=by
 first | exact World.cell?_setCell_other _ _ _ _ h | exact World.cell?_setCell_other _ _ _ h | exact World.cell?_setCell_other _ _ h
def fze (valid:Bool) (f:Nat→Int×Int) (len:Nat) (track:Int) (e:Ending):Prop :=
 (valid=false∧e = .returned (.tuple #[.int .i64 0,.bool false]))∨(valid=true∧((e = .returned (.tuple #[.int .i64 0,.bool false])∧∀ p∈upT f len,p.2≠track)∨(∃ ini last,ini ++ [last] <+: upT f len∧(∀ p∈ini,p.2≠track)∧last.2=track∧e = .returned (.tuple #[.int .i64 (last.1:Int),.bool true]))))
set_option maxHeartbeats 2000000 in
theorem gq1 (n:Nat) (hn:3≤n) (sv:Value) (len:Nat) (f:Nat→Int×Int) (track:Int) (valid:Bool) (w:World) (hI:Exts w sv len f) (hlow:∀ b,(∃ a cap,sv = .slice a len cap∧∃ off,a=some ⟨b,off,none⟩)→0 < len→b < w.heap.size)
  (hV:∀ W,Below w.heap.size w W→Calls jd 69 #[sv] W fun e W'=>e = .returned (.bool valid)∧Below W.heap.size W W')
  (hf:valid=true→len≤512∧(∀ j,j < len→0≤(f j).1∧(f j).1≤512∧0≤(f j).2∧(f j).2≤512)∧(upT f len).length≤512) :
  CallsIn Fence.wide n jd 59 #[sv,.int .i64 track] w fun e W' =>
   fze valid f len track e∧Below w.heap.size w W':=by
 have h1:1≤n:=by omega
 refine callsIn_of_wp_marks Tryz.func59 rfl trivial ?_ rfl
 simp only [Tryz.ntmps59,jD,jK,jV,Nat.reduceAdd,Nat.reduceSub,Array.replicate_succ,Array.replicate_zero,List.push_toArray,List.append_toArray,JC,Jy]
 gi_wp2
 have hB0:Below w.heap.size w (((w.alloc (.cells #[.int .i64 track] 3)).alloc (.cells #[.int .i64 0] 3)).alloc (.cells #[.bool false] 4)):=(((Below.refl _ w).alloc (jB _) _).alloc (by simp) _).alloc (by simp;omega) _
 have b1:=Boxed.new w 3 (.int .i64 track)
 have b2:=Boxed.new (w.alloc (.cells #[.int .i64 track] 3)) 3 (.int .i64 0)
 have b3:=Boxed.new ((w.alloc (.cells #[.int .i64 track] 3)).alloc (.cells #[.int .i64 0] 3)) 4 (.bool false)
 simp only [World.size_alloc] at b2 b3
 refine ⟨trivial,(callsIn_wide.2 (hV _ hB0)).mono ?_⟩
 rintro e w1 ⟨rfl,hb1⟩
 have hB1:Below w.heap.size w w1:=hB0.trans (hb1.mono (by simp;omega))
 simp only [World.size_alloc] at hb1
 have c1:=(hb1.cell (p:=⟨w.heap.size,0,none⟩) (show w.heap.size < w.heap.size+1+1+1 by omega)).trans ((b1.alloc _).alloc _).cell
 have f1:=(hb1.frozen (p:=⟨w.heap.size,0,none⟩) (show w.heap.size < w.heap.size+1+1+1 by omega)).trans ((b1.alloc _).alloc _).frozen
 have c2:=(hb1.cell (p:=⟨w.heap.size+1,0,none⟩) (show w.heap.size+1 < w.heap.size+1+1+1 by omega)).trans (b2.alloc _).cell
 have f2:=(hb1.frozen (p:=⟨w.heap.size+1,0,none⟩) (show w.heap.size+1 < w.heap.size+1+1+1 by omega)).trans (b2.alloc _).frozen
 have c3:=(hb1.cell (p:=⟨w.heap.size+1+1,0,none⟩) (by simp)).trans b3.cell
 have f3:=(hb1.frozen (p:=⟨w.heap.size+1+1,0,none⟩) (by simp)).trans b3.frozen
 cases valid with
 | false =>
  gi_wp2
  have k2:=World.cell?_setCell_same' w1 ⟨w.heap.size+1,0,none⟩ (.int .i64 0) (by rw [c2];rfl)
  have k3:=World.cell?_setCell_same' (w1.setCell ⟨w.heap.size+1,0,none⟩ (.int .i64 0)) ⟨w.heap.size+1+1,0,none⟩ (.bool false) (by rw [so (show (⟨w.heap.size+1,0,none⟩:Addr)≠⟨w.heap.size+1+1,0,none⟩ by simp),c3];rfl)
  refine ⟨.tuple #[.int .i64 0,.bool false],?_,.inl ⟨rfl,rfl⟩,(hB1.setCell (p:=⟨w.heap.size+1,0,none⟩) (by simp) _).setCell (p:=⟨w.heap.size+1+1,0,none⟩) (by simp;omega) _⟩
  simp [results,Tryz.f59,go_sem,k2,k3]
 | true =>
  obtain ⟨g1,g2,g3⟩:=hf rfl
  obtain ⟨a,cap,rfl,hcs⟩:=hI
  gi_wp2
  refine ⟨trivial,(fk9 Fence.wide (n - 1) trivial rfl _ _ _ _).mono ?_⟩
  rintro e w2 ⟨rfl,rfl⟩
  gi_wp2
  have hsz:w.heap.size+1+1+1≤w1.heap.size:=by have:=hb1.size;simpa using this
  have hBw:Below w.heap.size w (w1.alloc (.cells #[.slice a len cap] 39)):=hB1.alloc (by omega) _
  refine wpIn_rangeFunc_ownF rfl h1 (gf:=160) (lb:=#[.pointer (some ⟨w1.heap.size,0,none⟩)]) rfl trivial (enters_of Tryz.func160 (by kernel_rfl) rfl)
   (ezz Fence.wide (n - 1) trivial rfl (by omega) w1.heap.size (.slice a len cap) len f g1 g2 g3 (w1.alloc (.cells #[.slice a len cap] 39)) (by simp) (Boxed.new w1 39 (.slice a len cap)).cell
    ⟨a,cap,rfl,fun hl=>by
     obtain ⟨b,off,e2,h2⟩:=hcs hl
     have hbl:=hlow b ⟨a,cap,rfl,off,e2⟩ hl
     exact ⟨b,off,e2,fun j hj=>⟨(hBw.cell (p:=⟨b,off+j * 2,none⟩) hbl).trans (h2 j hj).1,(hBw.cell (p:=⟨b,off+j * 2+1,none⟩) hbl).trans (h2 j hj).2⟩⟩⟩
    (fun b hb h0=>by have:=hlow b hb h0;simp;omega)) KC.trans kc_b (Below.refl _ _) (fun _=>rfl)
   (fun pre W=>((∀ p∈pre,p.2≠track)∧W.cell? ⟨w.heap.size,0,none⟩=some (.int .i64 track)∧(W.cell? ⟨w.heap.size+1,0,none⟩=some (.int .i64 0)∧W.frozen? ⟨w.heap.size+1,0,none⟩=false)∧(W.cell? ⟨w.heap.size+1+1,0,none⟩=some (.bool false)∧W.frozen? ⟨w.heap.size+1+1,0,none⟩=false))∧Below w.heap.size w W)
   (fun c pre W=>(c = .ret∧∃ ini last,pre=ini ++ [last]∧(∀ p∈ini,p.2≠track)∧last.2=track∧W.cell? ⟨w.heap.size+1,0,none⟩=some (.int .i64 (last.1:Int))∧W.cell? ⟨w.heap.size+1+1,0,none⟩=some (.bool true))∧Below w.heap.size w W)
   (OwnFrom.and (Own.from (fun s A B row hs hg hr=>⟨hs.1,cell_kept hs.2.1 hg hr,⟨cell_kept hs.2.2.1.1 hg hr,(frozen_kept hs.2.2.1.1 hg hr).trans hs.2.2.1.2⟩,⟨cell_kept hs.2.2.2.1 hg hr,(frozen_kept hs.2.2.2.1 hg hr).trans hs.2.2.2.2⟩⟩) _) (ownFrom_below (jB _) (by simp;omega)))
   (fun c=>OwnFrom.and (Own.from (fun s A B row hs hg hr=>by obtain ⟨hc,ini,last,e1,e2,e3,e4,e5⟩:=hs;exact ⟨hc,ini,last,e1,e2,e3,cell_kept e4 hg hr,cell_kept e5 hg hr⟩) _) (ownFrom_below (jB _) (by simp;omega)))
   ⟨⟨by simp,eyy _ c1,⟨eyy _ c2,gwb _ c2 f2⟩,⟨eyy _ c3,gwb _ c3 f3⟩⟩,hBw⟩
   (fun x=>{ tmps:=#[.slice a len cap,.int .i64 track,undef,.pointer (some ⟨w.heap.size,0,none⟩),.pointer (some ⟨w.heap.size+1,0,none⟩),.pointer (some ⟨w.heap.size+1+1,0,none⟩),.int .i64 (x.1:Int),.int .i64 x.2,.slice a len cap,.bool true,.bool false,.slice a len cap,.func (.func 160) #[] #[.pointer (some ⟨w1.heap.size,0,none⟩)],.int .i64 (x.1:Int),.int .i64 x.2,undef,undef,undef,undef],defers:=[] }) ?assign ?body ?done ?stop
  case assign =>
   intro l x W K hK
   gi_wp2
   exact hK
  case body =>
   rintro l pre x W ⟨⟨hp,q1,⟨q2,r2⟩,⟨q3,r3⟩⟩,hB⟩ _
   gi_wp2
   ·have hx:(x.2 == track)=true:=by assumption
    have k2:=World.cell?_setCell_same' W ⟨w.heap.size+1,0,none⟩ (.int .i64 (x.1:Int)) (by rw [q2];rfl)
    have k3:=World.cell?_setCell_same' (W.setCell ⟨w.heap.size+1,0,none⟩ (.int .i64 (x.1:Int))) ⟨w.heap.size+1+1,0,none⟩ (.bool true) (by rw [so (show (⟨w.heap.size+1,0,none⟩:Addr)≠⟨w.heap.size+1+1,0,none⟩ by simp),q3];rfl)
    have k2':=(so (W:=W.setCell ⟨w.heap.size+1,0,none⟩ (.int .i64 (x.1:Int))) (a:=⟨w.heap.size+1+1,0,none⟩) (b:=⟨w.heap.size+1,0,none⟩) (v:=.bool true) (by simp)).trans k2
    exact ⟨(KeepsOthers.setCell _ _ _).trans (KeepsOthers.setCell _ _ _),⟨rfl,pre,x,rfl,hp,eq_of_beq hx,k2',k3⟩,(hB.setCell (p:=⟨w.heap.size+1,0,none⟩) (by simp) _).setCell (p:=⟨w.heap.size+1+1,0,none⟩) (by simp;omega) _⟩
   ·have hx:¬ (x.2 == track)=true:=by
     first | assumption | (intro hh;simp_all)
    exact ⟨KeepsOthers.refl _,KC.refl _,⟨fun p hp'=>(List.mem_append.1 hp').elim (hp p) (fun e e2=>by simp only [List.mem_singleton] at e;subst e;exact hx (by rw [e2];simp)),q1,⟨q2,r2⟩,⟨q3,r3⟩⟩,hB⟩
  case done =>
   rintro D ys W hD rfl ⟨⟨hne,q1,⟨q2,r2⟩,⟨q3,r3⟩⟩,hB⟩ hK
   gi_wp2
   have k2:=World.cell?_setCell_same' W ⟨w.heap.size+1,0,none⟩ (.int .i64 0) (by rw [q2];rfl)
   have k3:=World.cell?_setCell_same' (W.setCell ⟨w.heap.size+1,0,none⟩ (.int .i64 0)) ⟨w.heap.size+1+1,0,none⟩ (.bool false) (by rw [so (show (⟨w.heap.size+1,0,none⟩:Addr)≠⟨w.heap.size+1+1,0,none⟩ by simp),q3];rfl)
   have k2':=(so (W:=W.setCell ⟨w.heap.size+1,0,none⟩ (.int .i64 0)) (a:=⟨w.heap.size+1+1,0,none⟩) (b:=⟨w.heap.size+1,0,none⟩) (v:=.bool false) (by simp)).trans k2
   have hK':=((KeepsOthers.setCell W ⟨w.heap.size+1,0,none⟩ (.int .i64 0)).trans (KeepsOthers.setCell _ ⟨w.heap.size+1+1,0,none⟩ (.bool false))).same D _ hK rfl
   refine ⟨by simp,.inl ⟨_,_,rfl,run_takeDeferred hK',?_⟩⟩
   have m2:=cell_kept k2' (grownBy_putObj' _ D (.deferred none)) (fun r e=>by cases e;exact ⟨_,hK',rfl⟩)
   have m3:=cell_kept k3 (grownBy_putObj' _ D (.deferred none)) (fun r e=>by cases e;exact ⟨_,hK',rfl⟩)
   refine ⟨.tuple #[.int .i64 0,.bool false],?_,.inr ⟨rfl,.inl ⟨rfl,hne⟩⟩,((hB.setCell (p:=⟨w.heap.size+1,0,none⟩) (by simp) _).setCell (p:=⟨w.heap.size+1+1,0,none⟩) (by simp;omega) _).trans (belowK_b (w:=w) (jB _) _ D _ _ (by simp at hD;omega) hK' rfl rfl)⟩
   simp [results,Tryz.f59,go_sem,m2,m3]
  case stop =>
   rintro D c pre W hD hpre ⟨⟨rfl,ini,last,e1,e2,e3,q2,q3⟩,hB⟩ hK
   gi_wp2
   refine ⟨by simp,.inl ⟨_,_,rfl,run_takeDeferred hK,?_⟩⟩
   have m2:=cell_kept q2 (grownBy_putObj' _ D (.deferred none)) (fun r e=>by cases e;exact ⟨_,hK,rfl⟩)
   have m3:=cell_kept q3 (grownBy_putObj' _ D (.deferred none)) (fun r e=>by cases e;exact ⟨_,hK,rfl⟩)
   refine ⟨.tuple #[.int .i64 (last.1:Int),.bool true],?_,.inr ⟨rfl,.inr ⟨ini,last,by rw [← e1];exact hpre,e2,e3,rfl⟩⟩,hB.trans (belowK_b (w:=w) (jB _) W D _ _ (by simp at hD;omega) hK rfl rfl)⟩
   simp [results,Tryz.f59,go_sem,m2,m3]
end Go.Proofs.YtijnkhcfondehaaGreatDoor
