/- Text. -/
import Derived.RangeFuncNested
import Derived.RangeFuncBound
import Derived.RangeFuncCalls
import Derived.RangeFuncLeaves
import Derived.RangeFuncBox
import Derived.RangeFuncWrites
import Derived.Shelf.Abstract
import Derived.Shelf.RegionOpen
import Derived.WalkKit
import Derived.OwnWalkIn
import Derived.TacticsInMore
import Derived.LoopNIn
import Derived.LoopIn
import Derived.Test.YtcbcdjincgclaaaProg
import Derived.Test.YtcbcdjincgclaaaT
import Derived.Test.YtcbcdjincgclaaaAE62
import Derived.Test.YtcbcdjincgclaaaAE21
import Derived.Test.YtcbcdjincgclaaaAE41
set_option linter.unusedSimpArgs false
set_option linter.unusedVariables false
set_option maxRecDepth 100000
namespace Go.Proofs.Ytcbcdjincgclaaa
open Go.RowKit Go.Shelf Go.Proofs
attribute [local go_sem] Oper.semAt_some
set_option maxHeartbeats 1000000 in
theorem put1_in (F:Fence) (n:Nat) (h58:F.fn 58) (hro:F.round=none) (x:Int) (Bk:Nat) (w:World) (hc:w.cell? ⟨Bk,0,none⟩=some (.int .i64 0)) :
    CallsIn F n Try.prog 58 #[.int .i64 x,.pointer (some ⟨Bk,0,none⟩)] w fun e w'=>e = .returned (.bool true)∧w'=w:=by
  refine callsIn_of_wp Try.func58 rfl h58 ?_ hro
  simp only [Try.ntmps58,List.size_toArray,List.length_cons,List.length_nil,Nat.reduceAdd,Nat.reduceSub,Array.replicate_succ,Array.replicate_zero,List.push_toArray,List.append_toArray,List.nil_append,List.cons_append]
  gi_wp2
  go_ret
  exact ⟨rfl,rfl⟩
set_option maxHeartbeats 1000000 in
theorem touched_in (F:Fence) (n:Nat) (h69:F.fn 69) (hro:F.round=none) (p:Option Addr) (x y:Int) (w:World) :
    CallsIn F n Try.prog 69 #[.pointer p,.int .i64 x,.int .i64 y] w fun e w'=>e = .returned (.func (.func 75) #[] #[.pointer (some ⟨w.heap.size+1+1,0,none⟩),.pointer (some ⟨w.heap.size+1,0,none⟩),.pointer (some ⟨w.heap.size,0,none⟩)]) ∧
      w'=((w.alloc (.cells #[.pointer p] 35)).alloc (.cells #[.int .i64 x] 3)).alloc (.cells #[.int .i64 y] 3):=by
  refine callsIn_of_wp Try.func69 rfl h69 ?_ hro
  simp only [Try.ntmps69,List.size_toArray,List.length_cons,List.length_nil,Nat.reduceAdd,Nat.reduceSub,Array.replicate_succ,Array.replicate_zero,List.push_toArray,List.append_toArray,List.nil_append,List.cons_append]
  gi_wp2
  go_ret
  exact ⟨rfl,rfl⟩
structure KC (W W':World):Prop where
  size:W.heap.size≤W'.heap.size
  same:∀ (k:Nat) (o:Obj),W.heap[k]? = some o→o.isCells=true→W'.heap[k]? = some o
theorem KC.refl (W:World):KC W W:=⟨Nat.le_refl _,fun _ _ h _=>h⟩
theorem KC.trans {A B C:World} (h:KC A B) (k:KC B C):KC A C:=⟨Nat.le_trans h.size k.size,fun i o h1 h2=>k.same i o (h.same i o h1 h2) h2⟩
theorem KC.cell {W W':World} (h:KC W W') {a:Addr} {v:Value} (hc:W.cell? a=some v):W'.cell? a=some v:=by
  unfold World.cell? at hc ⊢
  cases ho:W.heap[a.block]? with
  | none=>simp [ho] at hc
  | some o =>
    have hcell:o.isCells=true:=by cases o <;> simp_all [Obj.isCells]
    rw [h.same _ _ ho hcell]
    rw [ho] at hc;exact hc
structure StoreAt (W:World) (b:Nat) (a:Option Addr) (n cap:Nat) (kb m kc:Nat) (K:Nat→Int):Prop where
  bytes:W.cell? ⟨b,0,none⟩=some (.slice a n cap)
  keys:W.cell? ⟨b,1,none⟩=some (.slice (some ⟨kb,0,none⟩) m kc)
  key:∀ i,i < m→W.cell? ⟨kb,i,none⟩=some (.int .i64 (K i))
theorem StoreAt.kc {A B:World} (h:KC A B) {b n cap kb m kc:Nat} {a:Option Addr} {K:Nat→Int} (s:StoreAt A b a n cap kb m kc K):StoreAt B b a n cap kb m kc K:=⟨h.cell s.bytes,h.cell s.keys,fun i hi=>h.cell (s.key i hi)⟩
def keysT (K:Nat→Int) (lo:Nat) (c:Nat):List Int:=(List.range c).map fun j=>K (lo+j)
set_option maxHeartbeats 2000000 in
theorem iterT_in (F:Fence) (n:Nat) (h75:F.fn 75) (hro:F.round=none) (hn:1≤n) (l Bn Ba Bs b N cap kb m kc:Nat) (a:Option Addr) (K:Nat→Int) (A k lo c:Nat) (hA:A≤140737488355328) (hk:k≤140737488355328) (hlo:lo=A / 2048) (hc0:k=0→c=0) (hc1:0 < k→lo+c=(A+k - 1) / 2048+1) (hm:lo+c≤m)
    (J Jx:List Int→World→Prop) (W:World)
    (hJ:∀ k (A B:World),J k A→A.grownBy B none→J k B)
    (hY:∀ pre x A,J pre A→pre.length < c→YieldAt F (n - 1) Try.prog l #[.int .i64 x] A fun e B=>(e = .returned (.bool true)∧J (pre ++ [x]) B∧KC A B)∨(e = .returned (.bool false)∧Jx (pre ++ [x]) B))
    (hBn:W.cell? ⟨Bn,0,none⟩=some (.int .i64 (k:Int))) (hBa:W.cell? ⟨Ba,0,none⟩=some (.int .i64 (A:Int))) (hBs:W.cell? ⟨Bs,0,none⟩=some (.pointer (some ⟨b,0,none⟩))) (hS:StoreAt W b a N cap kb m kc K) (h0:J [] W) :
    CallsIn F n Try.prog 75 #[.func (.yield l) #[] #[],.pointer (some ⟨Bn,0,none⟩),.pointer (some ⟨Ba,0,none⟩),.pointer (some ⟨Bs,0,none⟩)] W fun e W'=>(∃ v,e = .returned v)∧((∃ xs,xs=keysT K lo c∧J xs W')∨(∃ pre,pre <+: keysT K lo c∧Jx pre W')):=by
  refine callsIn_of_wp Try.func75 rfl h75 ?_ hro
  simp only [Try.ntmps75,List.size_toArray,List.length_cons,List.length_nil,Nat.reduceAdd,Nat.reduceSub,Array.replicate_succ,Array.replicate_zero,List.push_toArray,List.append_toArray,List.nil_append,List.cons_append]
  have hq1:(A:Int) / 2048=(lo:Int):=by omega
  have hq2:0 < k→((A:Int)+(k:Int) - 1) / 2048=(lo:Int)+(c:Int) - 1:=fun h=>by have:=hc1 h;omega
  have hq3:0 < k→0 < c:=fun h=>by have:=hc1 h;omega
  clear hlo hc1
  by_cases hk0:k=0
  · subst hk0
    obtain rfl:=hc0 rfl
    have hBn:W.cell? ⟨Bn,0,none⟩=some (.int .i64 0):=hBn
    clear hq1 hq2
    gi_wp2
    refine bodyPost_ret (results_none rfl _ _ _) rfl ?_
    exact ⟨⟨_,rfl⟩,.inl h0⟩
  · have hkp:0 < k:=by omega
    replace hq2:=hq2 hkp
    replace hq3:=hq3 hkp
    have hkz:¬ ((k:Int) == 0)=true:=by simp;omega
    gi_wp2
    gi_loopw [5] (fun i wr=>∃ j:Nat,j≤c∧i = .int .i64 ((lo:Int)+(j:Int))∧J (keysT K lo j) wr∧KC W wr)
      (fun i _=>lo+c - (intOf i).toNat)
    case atStart=>exact ⟨0,Nat.zero_le _,by simp,h0,KC.refl _⟩
    case round =>
      obtain ⟨j,hj,rfl,hJs,hnx⟩:=hrel
      have qA:=hnx.cell hBa
      have qn:=hnx.cell hBn
      have qs:=hnx.cell hBs
      have qS:=hS.kc hnx
      have q1:=qS.bytes
      have q2:=qS.keys
      by_cases hlt:j < c
      · have qK:=qS.key (lo+j) (by omega)
        have hle:(lo:Int)+(j:Int)≤((A:Int)+(k:Int) - 1) / 2048:=by omega
        obtain ⟨fn,tmps,assign,body,hy,hR⟩:=hY (keysT K lo j) (K (lo+j)) wr hJs (by simp [keysT];omega)
        have z1:(0:Int)≤(lo:Int)+(j:Int):=by omega
        have z2:(lo:Int)+(j:Int) < (m:Int):=by omega
        have z3:((lo:Int)+(j:Int)).toNat=lo+j:=by omega
        clear hq1 hq2
        gi_wp2
        refine hR.mono ?_
        rintro e W3 (⟨rfl,hJ3,hk3⟩ | ⟨rfl,hJx3⟩)
        · gi_wp2
          go_roundw
          case rel =>
            refine ⟨j+1,hlt,by first | (congr 1;omega) | (simp;omega) | omega,?_,hnx.trans hk3⟩
            have e:keysT K lo (j+1)=keysT K lo j ++ [K (lo+j)]:=by simp [keysT,List.range_succ]
            rw [e];exact hJ3
          case measure=>simp [intOf];omega
        · gi_wp2
          refine bodyPost_ret (results_none rfl _ _ _) rfl ?_
          refine ⟨⟨_,rfl⟩,.inr ⟨keysT K lo j ++ [K (lo+j)],?_,hJx3⟩⟩
          have e:keysT K lo j ++ [K (lo+j)]=keysT K lo (j+1):=by simp [keysT,List.range_succ]
          rw [e]
          obtain ⟨d,rfl⟩:∃ d,c=(j+1)+d:=⟨c - (j+1),by omega⟩
          unfold keysT
          have h2:List.range (j+1+d)=List.range (j+1) ++ (List.range d).map (fun x=>j+1+x):=List.range_add
          rw [h2,List.map_append]
          exact List.prefix_append _ _
      · obtain rfl:j=c:=by omega
        have hle:¬ (lo:Int)+(j:Int)≤((A:Int)+(k:Int) - 1) / 2048:=by omega
        clear hq1 hq2
        gi_wp2
        go_end0
        exact ⟨⟨_,rfl⟩,.inl hJs⟩
theorem kc_b {w:World} (W:World) (l:Nat) (o o':Obj) (_:w.heap.size≤l) (h:W.heap[l]? = some o) (ho:o.isCells=false) (_:o.isWalk=false):KC W (W.putObj l o') :=
  ⟨by simp,fun k o2 hk hc=>by
    by_cases e:k=l
    · subst e;rw [h] at hk;cases hk;rw [ho] at hc;cases hc
    · exact (World.putObj_heap_other e).trans hk⟩
theorem StoreAt.below {A B:World} {n0:Nat} (h:Below n0 A B) {b n cap kb m kc:Nat} {a:Option Addr} {K:Nat→Int} (hb:b < n0) (hk:0 < m→kb < n0) (s:StoreAt A b a n cap kb m kc K):StoreAt B b a n cap kb m kc K :=
  ⟨(h.cell (p:=⟨b,0,none⟩) hb).trans s.bytes,(h.cell (p:=⟨b,1,none⟩) hb).trans s.keys,fun i hi=>(h.cell (p:=⟨kb,i,none⟩) (hk (by omega))).trans (s.key i hi)⟩
theorem touched_stops (F:Fence) (n:Nat) (h75:F.fn 75) (hro:F.round=none) (hn:1≤n) (Bn Ba Bs b N cap kb m kc:Nat) (a:Option Addr) (K:Nat→Int) (A k lo c:Nat) (hA:A≤140737488355328) (hk:k≤140737488355328) (hlo:lo=A / 2048) (hc0:k=0→c=0) (hc1:0 < k→lo+c=(A+k - 1) / 2048+1) (hm:lo+c≤m) (w:World)
    (l1:Bn < w.heap.size) (l2:Ba < w.heap.size) (l3:Bs < w.heap.size) (l4:b < w.heap.size) (l5:0 < m→kb < w.heap.size)
    (hBn:w.cell? ⟨Bn,0,none⟩=some (.int .i64 (k:Int))) (hBa:w.cell? ⟨Ba,0,none⟩=some (.int .i64 (A:Int))) (hBs:w.cell? ⟨Bs,0,none⟩=some (.pointer (some ⟨b,0,none⟩))) (hS:StoreAt w b a N cap kb m kc K) :
    SeqStopsK F n Try.prog 75 #[.pointer (some ⟨Bn,0,none⟩),.pointer (some ⟨Ba,0,none⟩),.pointer (some ⟨Bs,0,none⟩)] (fun x:Int=>#[Value.int .i64 x]) KC (fun ys=>ys=keysT K lo c) (fun pre=>pre <+: keysT K lo c) (keysT K lo c).length w:=fun l J Jx W hW hJ _ hY h0=>by
  have hl:(keysT K lo c).length=c:=by simp [keysT]
  rw [hl] at hY
  exact iterT_in F n h75 hro hn l Bn Ba Bs b N cap kb m kc a K A k lo c hA hk hlo hc0 hc1 hm J Jx W (fun k A B hs hg=>hJ k A B none hs hg (fun r e=>by cases e)) hY ((hW.cell (p:=⟨Bn,0,none⟩) l1).trans hBn) ((hW.cell (p:=⟨Ba,0,none⟩) l2).trans hBa) ((hW.cell (p:=⟨Bs,0,none⟩) l3).trans hBs) (hS.below hW l4 l5) h0
def inP (x y:Int) (N:Nat):Bool:=decide (0≤x∧0≤y∧x≤N∧y≤N - x)
set_option maxHeartbeats 1000000 in
theorem in_in (F:Fence) (n:Nat) (h52:F.fn 52) (hro:F.round=none) (x y:Int) (b N cap:Nat) (a:Option Addr) (w:World) (hN:N≤140737488355328) (hB:w.cell? ⟨b,0,none⟩=some (.slice a N cap)) :
    CallsIn F n Try.prog 52 #[.pointer (some ⟨b,0,none⟩),.int .i64 x,.int .i64 y] w fun e w'=>e = .returned (.bool (inP x y N))∧w'=w:=by
  refine callsIn_of_wp Try.func52 rfl h52 ?_ hro
  simp only [Try.ntmps52,List.size_toArray,List.length_cons,List.length_nil,Nat.reduceAdd,Nat.reduceSub,Array.replicate_succ,Array.replicate_zero,List.push_toArray,List.append_toArray,List.nil_append,List.cons_append]
  by_cases h1:0≤x
  · by_cases h2:0≤y
    · by_cases h3:x≤(N:Int)
      · have hp:inP x y N=decide (y≤(N:Int) - x):=by simp [inP,h1,h2,h3]
        rw [hp]
        gi_wp2
        go_ret
        exact ⟨rfl,rfl⟩
      · have hp:inP x y N=false:=by simp [inP,h3]
        rw [hp]
        gi_wp2
        go_ret
        exact ⟨rfl,rfl⟩
    · have hp:inP x y N=false:=by simp [inP];omega
      rw [hp]
      gi_wp2
      go_ret
      exact ⟨rfl,rfl⟩
  · have hp:inP x y N=false:=by simp [inP];omega
    rw [hp]
    gi_wp2
    go_ret
    exact ⟨rfl,rfl⟩
theorem so {W:World} {a b:Addr} {v:Value} (h:a≠b):(W.setCell a v).cell? b=W.cell? b:=by
  first | exact World.cell?_setCell_other _ _ _ _ h | exact World.cell?_setCell_other _ _ _ h | exact World.cell?_setCell_other _ _ h
def chkV:Bool→Int
  | true=>0
  | false=>5
set_option maxHeartbeats 2000000 in
theorem check_in (n:Nat) (hn:3≤n) (b N cap kb m kc Bk:Nat) (a:Option Addr) (K:Nat→Int) (x y:Int) (w:World) (hNm:N=2048 * m) (hN:N≤140737488355328) (lb:b < w.heap.size) (lk:0 < m→kb < w.heap.size) (lB:Bk < w.heap.size)
    (hS:StoreAt w b a N cap kb m kc K) (hK:w.cell? ⟨Bk,0,none⟩=some (.int .i64 0)) :
    CallsIn Fence.wide n Try.prog 57 #[.pointer (some ⟨b,0,none⟩),.int .i64 x,.int .i64 y,.func (.func 58) #[] #[.pointer (some ⟨Bk,0,none⟩)]] w fun e w' =>
      e = .returned (.int .i64 (chkV (inP x y N)))∧Below w.heap.size w w':=by
  have h1:1≤n:=by omega
  refine callsIn_of_wp_marks Try.func57 rfl trivial ?_ rfl
  simp only [Try.ntmps57,List.size_toArray,List.length_cons,List.length_nil,Nat.reduceAdd,Nat.reduceSub,Array.replicate_succ,Array.replicate_zero,List.push_toArray,List.append_toArray,List.nil_append,List.cons_append]
  gi_wp2
  obtain ⟨w1,hw1⟩:∃ w1,(w.alloc (.cells #[.func (.func 58) #[] #[.pointer (some ⟨Bk,0,none⟩)]] 72)).alloc (.cells #[.int .i64 0] 3)=w1:=⟨_,rfl⟩
  have hB1:Below w.heap.size w w1:=by rw [← hw1];exact ((Below.refl _ w).alloc (Nat.le_refl _) _).alloc (by simp) _
  have b7:=Boxed.new w 72 (.func (.func 58) #[] #[.pointer (some ⟨Bk,0,none⟩)])
  have b8:=Boxed.new (w.alloc (.cells #[.func (.func 58) #[] #[.pointer (some ⟨Bk,0,none⟩)]] 72)) 3 (.int .i64 0)
  simp only [World.size_alloc] at b8
  have hsz:w1.heap.size=w.heap.size+1+1:=by rw [← hw1];simp
  have c7:w1.cell? ⟨w.heap.size,0,none⟩=some (.func (.func 58) #[] #[.pointer (some ⟨Bk,0,none⟩)]):=by rw [← hw1];exact (b7.alloc _).cell
  have c8:w1.cell? ⟨w.heap.size+1,0,none⟩=some (.int .i64 0):=by rw [← hw1];exact b8.cell
  have f8:w1.frozen? ⟨w.heap.size+1,0,none⟩=false:=by rw [← hw1];exact b8.frozen
  have S1:=hS.below hB1 lb lk
  have hge:w.heap.size+2≤w1.heap.size:=by omega
  clear hsz
  rw [hw1]
  refine ⟨trivial,(in_in Fence.wide (n - 1) trivial rfl x y b N cap a w1 hN S1.bytes).mono ?_⟩
  rintro e w' ⟨rfl,hww⟩
  rw [hww]
  cases hin:inP x y N with
  | false =>
    gi_wp2
    have k8:=World.cell?_setCell_same' w1 ⟨w.heap.size+1,0,none⟩ (.int .i64 5) (by rw [c8];rfl)
    refine ⟨.int .i64 5,?_,by rw [hin];rfl,hB1.setCell (p:=⟨w.heap.size+1,0,none⟩) (by simp) _⟩
    simp [results,Try.f57,go_sem,k8]
  | true =>
    have hin':0≤x∧0≤y∧x≤(N:Int)∧y≤(N:Int) - x:=by simpa [inP] using hin
    obtain ⟨A,rfl⟩:∃ A:Nat,x=(A:Int):=⟨x.toNat,by omega⟩
    obtain ⟨k,rfl⟩:∃ k:Nat,y=(k:Int):=⟨y.toNat,by omega⟩
    have hAk:A+k≤2048 * m:=by omega
    obtain ⟨lo,hlo⟩:∃ lo,lo=A / 2048:=⟨_,rfl⟩
    obtain ⟨c,hc⟩:∃ c,c=if k=0 then 0 else (A+k - 1) / 2048+1 - A / 2048:=⟨_,rfl⟩
    have hc0:k=0→c=0:=fun h=>by rw [hc,if_pos h]
    have hc1:0 < k→lo+c=(A+k - 1) / 2048+1:=fun h=>by rw [hc,if_neg (by omega)];omega
    have hm:lo+c≤m:=by
      rcases Nat.eq_zero_or_pos k with h | h
      · have:=hc0 h;omega
      · have:=hc1 h;omega
    clear hin' hc
    gi_wp2
    refine ⟨trivial,(touched_in Fence.wide (n - 1) trivial rfl _ _ _ _).mono ?_⟩
    rintro e w' ⟨rfl,hww⟩
    rw [hww]
    gi_wp2
    obtain ⟨w2,hw2⟩:∃ w2,((w1.alloc (.cells #[.pointer (some ⟨b,0,none⟩)] 35)).alloc (.cells #[.int .i64 (A:Int)] 3)).alloc (.cells #[.int .i64 (k:Int)] 3)=w2:=⟨_,rfl⟩
    have hB2:Below w1.heap.size w1 w2:=by rw [← hw2];exact (((Below.refl _ w1).alloc (Nat.le_refl _) _).alloc (by simp) _).alloc (by simp;omega) _
    have b1:=Boxed.new w1 35 (.pointer (some ⟨b,0,none⟩))
    have b2:=Boxed.new (w1.alloc (.cells #[.pointer (some ⟨b,0,none⟩)] 35)) 3 (.int .i64 (A:Int))
    have b3:=Boxed.new ((w1.alloc (.cells #[.pointer (some ⟨b,0,none⟩)] 35)).alloc (.cells #[.int .i64 (A:Int)] 3)) 3 (.int .i64 (k:Int))
    simp only [World.size_alloc] at b2 b3
    have d1:w2.cell? ⟨w1.heap.size,0,none⟩=some (.pointer (some ⟨b,0,none⟩)):=by rw [← hw2];exact ((b1.alloc _).alloc _).cell
    have d2:w2.cell? ⟨w1.heap.size+1,0,none⟩=some (.int .i64 (A:Int)):=by rw [← hw2];exact (b2.alloc _).cell
    have d3:w2.cell? ⟨w1.heap.size+1+1,0,none⟩=some (.int .i64 (k:Int)):=by rw [← hw2];exact b3.cell
    have hsz2:w2.heap.size=w1.heap.size+1+1+1:=by rw [← hw2];simp
    have hBw:Below w.heap.size w w2:=hB1.trans (hB2.mono (by omega))
    have S2:=S1.below hB2 (by omega) (fun h=>by have:=lk h;omega)
    have e7:=(hB2.cell (p:=⟨w.heap.size,0,none⟩) (show w.heap.size < w1.heap.size by omega)).trans c7
    have e8:=(hB2.cell (p:=⟨w.heap.size+1,0,none⟩) (show w.heap.size+1 < w1.heap.size by omega)).trans c8
    have g8:=(hB2.frozen (p:=⟨w.heap.size+1,0,none⟩) (show w.heap.size+1 < w1.heap.size by omega)).trans f8
    rw [hw2]
    refine wpIn_rangeFunc_ownF rfl h1 (gf:=75) (lb:=#[.pointer (some ⟨w1.heap.size+1+1,0,none⟩),.pointer (some ⟨w1.heap.size+1,0,none⟩),.pointer (some ⟨w1.heap.size,0,none⟩)]) rfl trivial (enters_of Try.func75 (by kernel_rfl) rfl)
      (touched_stops Fence.wide (n - 1) trivial rfl (by omega) (w1.heap.size+1+1) (w1.heap.size+1) w1.heap.size b N cap kb m kc a K A k lo c (by omega) (by omega) hlo hc0 hc1 hm w2 (by omega) (by omega) (by omega) (by omega) (fun h=>by have:=lk h;omega) d3 d2 d1 S2) KC.trans kc_b (Below.refl _ _) (fun _=>rfl)
      (fun pre W=>((W.cell? ⟨w.heap.size+1,0,none⟩=some (.int .i64 0)∧W.frozen? ⟨w.heap.size+1,0,none⟩=false)∧W.cell? ⟨w.heap.size,0,none⟩=some (.func (.func 58) #[] #[.pointer (some ⟨Bk,0,none⟩)]))∧Below w.heap.size w W)
      (fun _ _ _=>False)
      (OwnFrom.and (Own.from (fun s A B row hs hg hr=>⟨⟨cell_kept hs.1.1 hg hr,(frozen_kept hs.1.1 hg hr).trans hs.1.2⟩,cell_kept hs.2 hg hr⟩) _) (ownFrom_below (Nat.le_refl _) (by omega)))
      (fun c=>by intro s W W' row h _ _;exact h)
      ⟨⟨⟨e8,g8⟩,e7⟩,hBw⟩
      (fun z=>{ tmps:=#[.pointer (some ⟨b,0,none⟩),.int .i64 (A:Int),.int .i64 (k:Int),.func (.func 58) #[] #[.pointer (some ⟨Bk,0,none⟩)],undef,undef,undef,.pointer (some ⟨w.heap.size,0,none⟩),.pointer (some ⟨w.heap.size+1,0,none⟩),.int .i64 z,.pointer (some ⟨b,0,none⟩),.int .i64 (A:Int),.int .i64 (k:Int),.bool true,.bool false,.pointer (some ⟨b,0,none⟩),.int .i64 (A:Int),.int .i64 (k:Int),.func (.func 75) #[] #[.pointer (some ⟨w1.heap.size+1+1,0,none⟩),.pointer (some ⟨w1.heap.size+1,0,none⟩),.pointer (some ⟨w1.heap.size,0,none⟩)],.int .i64 z,undef,undef,undef,undef],defers:=[] }) ?assign ?body ?done ?stop
    case assign =>
      intro l x W K hK
      gi_wp2
      exact hK
    case body =>
      rintro l pre z W ⟨⟨⟨q1,r1⟩,q2⟩,hB⟩ _
      have qk:=(hB.cell (p:=⟨Bk,0,none⟩) lB).trans hK
      gi_wp2
      refine ⟨trivial,fun _=>by omega,((put1_in Fence.wide (n - 1 - 1 - 1) trivial rfl z Bk W qk).inRound l).mono ?_⟩
      rintro e W2 ⟨rfl,rfl⟩
      gi_wp2
      exact ⟨KeepsOthers.refl _,KC.refl _,⟨⟨q1,r1⟩,q2⟩,hB⟩
    case done =>
      rintro D ys W hD rfl ⟨⟨⟨q1,r1⟩,q2⟩,hB⟩ hK
      gi_wp2
      have k2:=World.cell?_setCell_same' W ⟨w.heap.size+1,0,none⟩ (.int .i64 0) (by rw [q1];rfl)
      have hK':=(KeepsOthers.setCell W ⟨w.heap.size+1,0,none⟩ (.int .i64 0)).same D _ hK rfl
      refine ⟨by simp,.inl ⟨_,_,rfl,run_takeDeferred hK',?_⟩⟩
      have m2:=cell_kept k2 (grownBy_putObj' _ D (.deferred none)) (fun r e=>by cases e;exact ⟨_,hK',rfl⟩)
      refine ⟨.int .i64 0,?_,by rw [hin];rfl,(hB.setCell (p:=⟨w.heap.size+1,0,none⟩) (by simp) _).trans (belowK_b (w:=w) (Nat.le_refl _) _ D _ _ (by first | omega | (have:=hBw.size;omega)) hK' rfl rfl)⟩
      simp [results,Try.f57,go_sem,m2]
    case stop =>
      rintro D c pre W hD hpre h hK
      exact h.elim
end Go.Proofs.Ytcbcdjincgclaaa
/-
  The function that makes the closure of link.adjust; store.check.
-/
set_option linter.unusedVariables false
set_option linter.unusedSimpArgs false
set_option maxRecDepth 100000
namespace Go.Proofs.Ytcbcdjincgclaaa
open Go.AE
open Go.RowKit (Below)
set_option maxHeartbeats 1000000 in
theorem maker71:Go.AE.Maker Try.prog 71 76 [22]:=by
  refine ⟨fun args w=>by exact Try.call71 args w,fun vs w hl hv=>?_⟩
  obtain ⟨a,rfl⟩:∃ a,vs=[a]:=by
    match vs,hl with
    | [a],_=>exact ⟨a,rfl⟩
  have h1:=hv a (by simp)
  clear hv hl
  go_enter Try.func71,Try.ntmps71
  go_wp2
  all_goals first | (exfalso;revert h1;simp [Value.oneCell'];done) | (go_ret;exact ⟨rfl,rfl⟩)
def store_check_M (n:Nat) (s s_:List Int) (addr k key:Int):Option Int :=
  gd (key=0∧0 < s_.length∧s.length=2048 * s_.length) <| some (chkV (inP addr k s.length))
theorem int_arg {w:World} {al:Nat→Prop} {v:Value} {q:IntKind} {x:Int} (h:Go.AE.ArgRel Try.prog w al (false,[.int q]) v [.int x]):v = .int q x:=by
  have h:RepC Try.prog w al (.int q) v (.int x):=h.2.2
  cases h;rfl
theorem int_cell {w:World} {al:Nat→Prop} {σ:Nat→RefI} {v:Value} {q:IntKind} {x:Int} (h:ARel Try.prog w al σ v (.c (.int q) (.int x))):v = .int q x:=by
  cases h with | c _ _ _ h=>cases h;rfl
theorem box_ptr {w:World} {al:Nat→Prop} {σ:Nat→RefI} {v:Value} {i o b:Nat} (h:ARel Try.prog w al σ v (.box i o)) (hs:σ i = .box b):v = .pointer (some ⟨b,o,none⟩):=by
  cases h with | box _ _ b' h=>rw [hs] at h;cases h;rfl
theorem cstore_check_M (n:Nat) (s s_:List Int) (addr k key:Int) (r:Int) (H:store_check_M n s s_ addr k key=some r):CallsM Try.prog 57 [.ref (.box 0 0),.dat (false,[.int .i64]) [.int addr],.dat (false,[.int .i64]) [.int k],.ref (.fnv 58 [.box 3 0])]
    [.box [.own 1 [.int .u8] 0 s.length,.own 2 [.int .i64] 0 s_.length],.row 5 (List.map e_Int s),.row 3 (List.map e_Int s_),.box [.c (.int .i64) (.int key)]] [.c (.int .i64) (.int r)]
    [.box [.own 1 [.int .u8] 0 s.length,.own 2 [.int .i64] 0 s_.length],.row 5 (List.map e_Int s),.row 3 (List.map e_Int s_),.box [.c (.int .i64) (.int key)]]:=by
  obtain ⟨⟨hkey,hm,hsm⟩,H⟩:=gd_some H
  obtain rfl:=Option.some.inj H
  subst hkey
  refine ⟨fun args w=>Try.call57 args w,Nat.le_refl _,?_⟩
  intro w al σ vs hal hB hinj hvl harg
  obtain ⟨b,vs0,t0,hσ0,hb0,hh0,hl0,hc0⟩:BRel Try.prog w (fun b=>b < w.heap.size) al σ 0 (.box [.own 1 [.int .u8] 0 s.length,.own 2 [.int .i64] 0 s_.length]):=hB 0
  have hR1:RowRel Try.prog w (fun b=>b < w.heap.size) al (σ 1) 5 (List.map e_Int s):=hB 1
  have hR2:RowRel Try.prog w (fun b=>b < w.heap.size) al (σ 2) 3 (List.map e_Int s_):=hB 2
  obtain ⟨Bk,vs3,t3,hσ3,hb3,hh3,hl3,hc3⟩:BRel Try.prog w (fun b=>b < w.heap.size) al σ 3 (.box [.c (.int .i64) (.int 0)]):=hB 3
  have a0:ARel Try.prog w al σ (vs0.getD 0 undef) (.own 1 [.int .u8] 0 s.length):=hc0 0 (show 0 < 2 by decide)
  have a1:ARel Try.prog w al σ (vs0.getD 1 undef) (.own 2 [.int .i64] 0 s_.length):=hc0 1 (show 1 < 2 by decide)
  have a3:=int_cell (hc3 0 (show 0 < 1 by decide))
  have hbytes:(s.length:Int)≤140737488355328:=by
    obtain ⟨E,hE,hby,_⟩:=hR1
    rw [ty5] at hE;cases hE
    simpa using hby
  obtain ⟨ad0,cap0,e0⟩:∃ a cap,vs0.getD 0 undef = .slice a s.length cap:=by
    rcases own_atB a0 hR1 with ⟨h,e⟩ | ⟨b,cap,n,t',_,_,e⟩
    · exact ⟨none,0,by rw [e,h]⟩
    · exact ⟨_,cap,e⟩
  obtain ⟨kb,kcap,kn,kt,hσ2,hkn,e1⟩:∃ b cap n t',σ 2 = .row b cap t' [.int .i64] n∧s_.length≤n∧vs0.getD 1 undef = .slice (some ⟨b,0,none⟩) s_.length cap:=by
    rcases own_atB a1 hR2 with ⟨h,_⟩ | h
    · omega
    · exact h
  obtain ⟨E,hE,hby2,hrow⟩:=hR2
  rw [ty3] at hE;cases hE
  rcases hrow with ⟨h,_⟩ | ⟨b',cap',cur,tg,hσ2',hkb,hkh,hkl,hkx,hks,_,hkc⟩
  · rw [hσ2] at h;cases h
  · rw [hσ2] at hσ2'
    cases hσ2'
    have cell0:∀ {B:Nat} {vs:Array Value} {t:TypeId} (h:w.heap[B]? = some (.cells vs t (0,0))) (i:Nat) (v:Value),i < vs.size→vs.getD i undef=v→w.cell? ⟨B,i,none⟩=some v:=by
      intro B vs t h i v hi hv
      rw [cellOfHeap h]
      simp only [Array.getD,hi,dif_pos] at hv
      rw [Array.getElem?_eq_getElem hi]
      exact congrArg some hv
    have hS:StoreAt w b ad0 s.length cap0 kb s_.length kcap (fun i=>gt s_ i):=by
      refine ⟨cell0 hh0 0 _ (by rw [hl0];show 0 < 2;decide) e0,cell0 hh0 1 _ (by rw [hl0];show 1 < 2;decide) e1,fun i hi=>?_⟩
      have h1:=hkc i (by simpa using hi) 0 (by decide)
      simp only [List.length_map] at hkl
      refine cell0 hkh i _ (by rw [hks];simp only [List.length_cons,List.length_nil];omega) ?_
      have e3:(cg (eg (List.map e_Int s_) i) 0) = .int (gt s_ i):=by
        simp [eg,cg,gt,List.getD_eq_getElem?_getD,hi,e_Int]
      rw [e3] at h1
      simp only [List.length_cons,List.length_nil,Nat.zero_add,Nat.mul_one,Nat.add_zero] at h1
      generalize cur.getD i undef=u at h1
      cases h1;rfl
    match vs,hvl with
    | [v0,v1,v2,v3],_ =>
      have g0:ARel Try.prog w al σ v0 (.box 0 0):=harg 0 (show 0 < 4 by decide)
      have g1:Go.AE.ArgRel Try.prog w al (false,[.int .i64]) v1 [.int addr]:=harg 1 (show 1 < 4 by decide)
      have g2:Go.AE.ArgRel Try.prog w al (false,[.int .i64]) v2 [.int k]:=harg 2 (show 2 < 4 by decide)
      have g3:ARel Try.prog w al σ v3 (.fnv 58 [.box 3 0]):=harg 3 (show 3 < 4 by decide)
      obtain rfl:=box_ptr g0 hσ0
      obtain rfl:=int_arg g1
      obtain rfl:=int_arg g2
      obtain rfl:v3 = .func (.func 58) #[] #[.pointer (some ⟨Bk,0,none⟩)]:=by
        cases g3 with
        | fnv _ _ us hl hh =>
          match us,hl with
          | [u],_ =>
            have:=hh 0 (show 0 < 1 by decide)
            have e:=box_ptr (show ARel Try.prog w al σ u (.box 3 0) from this) hσ3
            subst e;rfl
      refine (callsIn_wide.1 (check_in 3 (Nat.le_refl _) b s.length cap0 kb s_.length kcap Bk ad0 (fun i=>gt s_ i) addr k w hsm (by omega) hb0 (fun _=>hkb) hb3 hS (cell0 hh3 0 _ (by rw [hl3];decide) a3))).mono ?_
      rintro e w' ⟨rfl,hbel⟩
      have hr:InR .i64 (C.toInt (.int (chkV (inP addr k s.length)))):=by cases inP addr k s.length <;> exact ⟨by decide,by decide⟩
      exact ⟨_,rfl,ResM.read hal hinj hB hbel (ARel.c _ _ _ (RepC.int .i64 (.int (chkV (inP addr k s.length))) hr))⟩
end Go.Proofs.Ytcbcdjincgclaaa
