/- Text. -/
import Derived.Test.YtijnkhcfondehaaGreatDoorT
import Derived.Test.YtijnkhcfondehaaGreatDoorAE41
import Derived.Shelf.Spec.SlicesInsert
import Derived.Laws.CopyRow
import Derived.Laws.Append
import Derived.Laws.AppendOwn
import Derived.Lib.AppendZeros
import Derived.Lib.AppendZerosOnto
import Derived.Laws.NewBlocks
import Derived.Lib.Overlaps
import Derived.Laws.Externs
import Derived.Shelf.RegionOpenPlain
import Derived.WalkKit
set_option maxRecDepth 100000
set_option linter.unusedVariables false
open _root_.Array renaming length_toList→jt,getElem?_eq_some_iff→jv,size_append→Jj,getD_eq_getD_getElem?→jf,getElem?_toList→Jh
open _root_.List renaming getElem?_take→jU,getElem?_drop→j7,length_take→jm,length_drop→jF,size_toArray→jD,length_append→ji,take_append_of_le_length→Jo,take_of_length_le→jP,append_assoc→JB,getD_eq_getElem?_getD→ja,getElem?_append_left→jA,getElem?_append_right→jE,length_map→jH
open _root_.Nat renaming min_eq_left→Jd,le_refl→jB,lt_or_ge→jz,add_mul→js,mul_le_mul_right→jh
open _root_.Option.some renaming injEq→jb
open Go.Proofs.Tryz renaming prog→jd
namespace Go.Proofs.YtijnkhcfondehaaGreatDoor
open Go.RowKit Go.Shelf Go.Proofs
theorem bjg {P:Program} (w:World) (dT sT ty elem:TypeId) (k g o dLen dCap:Nat) (a:Addr) (sLen sCap:Nat) (cur:Array Value) (t:TypeId) (cs:List Value)
  (hu:P.underlying dT=some (.slice elem)) (i:TypeInfo) (hi:P.info? elem=some i) (hk:i.size=k)
  (hg:w.heap[g]? = some (.cells cur t (0,0))) (m:Nat) (hm:m=Nat.min sLen dLen) (hn:cs.length=m * k)
  (hsrc:∀ j v,cs[j]? = some v→w.cell? (a.add j)=some v) (hfit:o+cs.length≤cur.size) (h1:∀ v∈cs,v.oneCell'=true) :
  (Builtin.copy_ #[dT,sT] ty #[.slice (some ⟨g,o,none⟩) dLen dCap,.slice (some a) sLen sCap]).run P w =
   .ok (goInt m) (w.setRow g (cur.toList.take o ++ cs ++ cur.toList.drop (o+cs.length)).toArray):=by
 have hf:=run_firstCells_some (P:=P) w i.size m a sLen sCap cs (by rw [hk];exact hn) hsrc
 have hst:=run_storeCells_at P g o t cs 0 cur w hg (by simpa using hfit) h1
 simp only [Nat.add_zero] at hst
 simp [Builtin.copy_,run_underlying hu,Builtin.lenOf,sizeOf,typeInfo,hi,← hm,hf,hst]
theorem gqq:∃ i:TypeInfo,∃ z,jd.info? 41=some i∧i.size=11∧i.bytes=104∧i.zero=some z∧z.cells.size=11 :=
 ⟨_,_,rfl,by kernel_rfl,by kernel_rfl,rfl,by kernel_rfl⟩
theorem cell_of {w:World} {b:Nat} {cur:Array Value} {tg:TypeId} {fr:Nat×Nat} (hg:w.heap[b]? = some (.cells cur tg fr)) (j:Nat):w.cell? ⟨b,j,none⟩=cur[j]? := by
 simp [World.cell?,hg]
theorem bqr {w:World} {b:Nat} {cur:Array Value} {tg:TypeId} {fr:Nat×Nat} (hg:w.heap[b]? = some (.cells cur tg fr)) (o l:Nat) {j:Nat} {v:Value} (h:((cur.toList.drop o).take l)[j]? = some v):w.cell? ((⟨b,o,none⟩:Addr).add j)=some v:=by
 rw [Addr.add_lit,cell_of hg]
 rw [jU] at h
 split at h
 ·rw [j7] at h
  simpa using h
 ·cases h
theorem bz9 (w:World) (b:Nat) (cur:Array Value) {cur0:Array Value} {tg:TypeId} {fr:Nat×Nat} (hg:w.heap[b]? = some (.cells cur0 tg fr)):(w.setRow b cur).heap[b]? = some (.cells cur tg fr):=setRow_heap w b cur0 cur tg fr hg
theorem cy2 (w:World) (o:Obj):(w.alloc o).heap[w.heap.size]? = some o:=Array.getElem?_push_size
theorem nmin (a b:Nat) (h:a≤b):a=Nat.min a b:=(Jd h).symm
theorem gkp (a b:Nat) (h:a≤b):a=Nat.min b a:=(Nat.min_eq_right h).symm
set_option maxHeartbeats 4000000 in
theorem fyu (b n c i vb m vc:Nat) (cur vcur:Array Value) (tg vtg:TypeId) (seg vs:List Value) (w:World) (hg:w.heap[b]? = some (.cells cur tg (0,0))) (hv:w.heap[vb]? = some (.cells vcur vtg (0,0)))
  (hcur:cur.size=c * 11) (hvc:vcur.size=vc * 11) (hmv:m≤vc) (hi:i < n) (hm:0 < m) (hroom:n+m≤c) (hc63:c≤9223372036854775807) (hvb:vb≠b)
  (hseg:seg=(cur.toList.drop (i * 11)).take ((n - i) * 11)) (hvs:vs=(vcur.toList.drop 0).take (m * 11)) (h1:∀ v∈seg,v.oneCell'=true) (h2:∀ v∈vs,v.oneCell'=true) (cur1 cur2:Array Value)
  (hc1:cur1=(cur.toList.take ((i+m) * 11) ++ seg ++ cur.toList.drop ((i+m) * 11+seg.length)).toArray) (hc2:cur2=(cur1.toList.take (i * 11) ++ vs ++ cur1.toList.drop (i * 11+vs.length)).toArray) :
  Calls jd 86 #[.slice (some ⟨b,0,none⟩) n c,.int .i64 i,.slice (some ⟨vb,0,none⟩) m vc] w fun e w'=>e = .returned (.slice (some ⟨b,0,none⟩) (n+m) c)∧w'=(w.drew.setRow b cur1).setRow b cur2:=by
 obtain ⟨ti,tz,ht1,ht2,ht3,ht4,ht5⟩:=gqq
 have hu:jd.underlying 23=some (.slice 41):=by kernel_rfl
 have hz1:¬ ((m:Int)=0):=by omega
 have hz2:¬ ((i:Int)=(n:Int)):=by omega
 have hsl:seg.length=(n - i) * 11:=by rw [hseg,jm,jF,jt,hcur];omega
 have hvl:vs.length=m * 11:=by rw [hvs,jm,jF,jt,hvc];omega
 have hov:∀ lb cb,(callFunc 139 #[.slice (some ⟨vb,0,none⟩) m vc,.slice (some ⟨b,(i+m) * 11,none⟩) lb cb]).run jd w = .ok (.value (.bool false)) w:=fun lb cb=>by
  rw [run_callFunc_extern Tryz.func139 (by kernel_rfl) (by kernel_rfl) (by kernel_rfl) (e:=Extern.SlicesOverlaps.overlaps #[23,23] #[4]) (by kernel_rfl),
   Lib.run_overlaps_apart w 23 4 41 hu 11 Tryz.sizeOf41 ⟨vb,0,none⟩ ⟨b,(i+m) * 11,none⟩ m vc lb cb hvb vtg tg vcur.size cur.size (by simp [World.shape?,hv]) (by simp [World.shape?,hg]) (by omega) (by simp [World.frozen?,hv]) (by simp [World.frozen?,hv])]
  rfl
 have hw1:IntKind.i64.wrap ((i:Int)+(m:Int))=(i:Int)+(m:Int):=by rw [IntKind.wrap_i64];omega
 have hb1:(0:Int)≤(i:Int)+(m:Int):=by omega
 have hin:i≤n:=by omega
 have htn:((i:Int)+(m:Int)).toNat=i+m:=by omega
 have hb2:¬ (c=i+m):=by omega
 have hb3:(i:Int)≤(n:Int)+(m:Int):=by omega
 have hb4:¬ (c=i):=by omega
 have hgd:w.drew.heap[b]? = some (.cells cur tg (0,0)):=hg
 have hcp1:∀ ty dc sc,(Builtin.copy_ #[23,23] ty #[.slice (some ⟨b,(i+m) * 11,none⟩) (n+m - (i+m)) dc,.slice (some ⟨b,i * 11,none⟩) (n+m - i) sc]).run jd w.drew = .ok (goInt ((n - i:Nat):Int)) (w.drew.setRow b cur1):=fun ty dc sc=>by
  rw [hc1]
  exact bjg w.drew 23 23 ty 41 11 b ((i+m) * 11) (n+m - (i+m)) dc ⟨b,i * 11,none⟩ (n+m - i) sc cur tg seg hu ti ht1 ht2 hgd (n - i) (by rw [show n+m - (i+m)=n - i by omega];exact gkp _ _ (by omega)) hsl (fun j v hj=>by rw [hseg] at hj;exact bqr hgd _ _ hj) (by rw [hsl,hcur];omega) h1
 obtain ⟨W1,hW1⟩:∃ W1,W1=w.drew.setRow b cur1:=⟨_,rfl⟩
 have hg1:W1.heap[b]? = some (.cells cur1 tg (0,0)):=by rw [hW1];exact bz9 _ _ _ hgd
 have hl1:cur1.size=c * 11:=by
  rw [hc1]
  simp only [jD,ji,jm,jF,jt,hcur,hsl]
  omega
 have hv1:W1.heap[vb]? = some (.cells vcur vtg (0,0)):=by rw [hW1,setRow_other _ _ _ _ hvb];exact hv
 have hcp2:∀ (W:World),W.heap=W1.heap→∀ ty dc,(Builtin.copy_ #[23,23] ty #[.slice (some ⟨b,i * 11,none⟩) (n+m - i) dc,.slice (some ⟨vb,0,none⟩) m vc]).run jd W = .ok (goInt m) (W.setRow b cur2):=fun W hW ty dc=>by
  rw [hc2]
  exact bjg W 23 23 ty 41 11 b (i * 11) (n+m - i) dc ⟨vb,0,none⟩ m vc cur1 tg vs hu ti ht1 ht2 (by rw [hW];exact hg1) m (nmin _ _ (by omega)) hvl (fun j v hj=>by rw [hvs] at hj;exact bqr (by rw [hW];exact hv1) _ _ hj) (by rw [hvl,hl1];omega) h2
 rw [← hW1] at hcp1
 rw [← hW1]
 clear hg1 hv1 hl1 hc1 hc2 h1 h2 hseg hvs hsl hvl hgd ht1 ht2 ht3 ht4 ht5 hcur hvc hg hv hW1
 have mixed:=mixed
 go_enter Tryz.func86,Tryz.ntmps86
 go_wp2_with (simp only [hov])
 go_region_law_o (refine step_copy_runI rfl _ _ 23 23 rfl _ _ (by simp [Act.eval,Act.put]) (by simp [Act.eval,Act.put]) (hcp1 _ _ _) ?_)
 go_wp2_with (at_builtin;refine wpList_copy_runI _ rfl _ _ 23 23 rfl _ _ rfl rfl (hcp2 _ rfl _ _) ?_)
 go_ret
 exact ⟨rfl,rfl⟩
set_option maxHeartbeats 4000000 in
theorem eyj (base:Option Addr) (n c m vc:Nat) (va:Option Addr) (V:Value) (w W':World) (hm:0 < m) (hnc:n≤c)
  (hr:∀ ty,(Builtin.append_ #[23,23] ty #[.slice base n c,.slice va m vc]).run jd w = .ok V W') :
  Calls jd 86 #[.slice base n c,.int .i64 n,.slice va m vc] w fun e w'=>e = .returned V∧w'=W':=by
 have hz1:¬ ((m:Int)=0):=by omega
 have hn0:(0:Int)≤(n:Int):=by omega
 have mixed:=mixed
 cases base with
 | none =>
  go_enter Tryz.func86,Tryz.ntmps86
  go_wp2_with (at_builtin;refine Lib.wpList_append_run _ rfl _ _ _ _ rfl _ _ rfl rfl _ _ (hr _) ?_)
  go_ret
  exact ⟨rfl,rfl⟩
 | some a =>
  go_enter Tryz.func86,Tryz.ntmps86
  go_wp2_with (at_builtin;refine Lib.wpList_append_run _ rfl _ _ _ _ rfl _ _ rfl rfl _ _ (hr _) ?_)
  all_goals (go_ret;exact ⟨rfl,rfl⟩)
set_option maxHeartbeats 4000000 in
theorem gjn (b n c i vb m vc:Nat) (cur vcur:Array Value) (tg vtg:TypeId) (seg vs:List Value) (w:World) (hg:w.heap[b]? = some (.cells cur tg (0,0))) (hv:w.heap[vb]? = some (.cells vcur vtg (0,0)))
  (hcur:cur.size=c * 11) (hvc:vcur.size=vc * 11) (hmv:m≤vc) (hi:i < n) (hnc:n≤c) (hm:0 < m) (hroom:c < n+m) (hbig:(n+m) * 104≤140737488355328)
  (hseg:seg=(cur.toList.drop (i * 11)).take ((n - i) * 11)) (hvs:vs=(vcur.toList.drop 0).take (m * 11)) (h1:∀ v∈seg,v.oneCell'=true) (h2:∀ v∈vs,v.oneCell'=true) (z:Value) (hz:∃ ti,jd.info? 41=some ti∧ti.zero=some z) (row cur1 cur2:Array Value)
  (hrow:row=(cur.toList.take (i * 11)).toArray ++ Builtin.zeroCells z.cells (n+m - i) ++ Builtin.zeroCells z.cells (grownCap w (n+m) c 41 - (n+m)))
  (hc1:cur1=(row.toList.take (i * 11) ++ vs ++ row.toList.drop (i * 11+vs.length)).toArray) (hc2:cur2=(cur1.toList.take ((i+m) * 11) ++ seg ++ cur1.toList.drop ((i+m) * 11+seg.length)).toArray) :
  Calls jd 86 #[.slice (some ⟨b,0,none⟩) n c,.int .i64 i,.slice (some ⟨vb,0,none⟩) m vc] w fun e w'=>e = .returned (.slice (some ⟨w.heap.size,0,none⟩) (n+m) (grownCap w (n+m) c 41))∧w'=(((w.alloc (.cells row 41)).drew.setRow w.heap.size cur1).drew).setRow w.heap.size cur2:=by
 obtain ⟨ti,tz,ht1,ht2,ht3,ht4,ht5⟩:=gqq
 have hzz:z=tz:=by
  obtain ⟨ti',e1,e2⟩:=hz
  rw [ht1] at e1;simp only [jb] at e1;subst e1
  rw [ht4] at e2;simpa using e2.symm
 subst hzz
 have hu:jd.underlying 23=some (.slice 41):=by kernel_rfl
 have hu3:jd.underlying 3=some (.int .i64):=by kernel_rfl
 have hz1:¬ ((m:Int)=0):=by omega
 have hz2:¬ ((i:Int)=(n:Int)):=by omega
 have hz3:(c:Int) < (n:Int)+(m:Int):=by omega
 have hsl:seg.length=(n - i) * 11:=by rw [hseg,jm,jF,jt,hcur];omega
 have hvl:vs.length=m * 11:=by rw [hvs,jm,jF,jt,hvc];omega
 have hbw:b < w.heap.size:=(jv.1 hg).1
 have hvw:vb < w.heap.size:=(jv.1 hv).1
 have hkk:(n:Int)+(m:Int) - (i:Int)=((n+m - i:Nat):Int):=by omega
 have hik:i+(n+m - i)=n+m:=by omega
 have hold:(Builtin.firstCells ti.size i (.slice (some ⟨b,0,none⟩) i c)).run jd w.drew = .ok (cur.toList.take (i * 11)).toArray w.drew:=by
  rw [ht2]
  exact run_firstCells_some w.drew 11 i ⟨b,0,none⟩ i c (cur.toList.take (i * 11)) (by rw [jm,jt,hcur];omega) (fun j v hj=>bqr (w:=w.drew) hg 0 (i * 11) (by simpa using hj))
 have hrz:∀ ty,(Builtin.append_ #[23,3] ty #[.slice (some ⟨b,0,none⟩) i c,.int .i64 ((n:Int)+(m:Int) - (i:Int))]).run jd w =
   .ok (.slice (some ⟨w.heap.size,0,none⟩) (n+m) (grownCap w (n+m) c 41)) (w.drew.alloc (.cells row 41)):=fun ty=>by
  have h:=Lib.run_append_grow_zeros w 23 3 ty 41 ti _ .i64 .i64 hu hu3 ht1 ht4 (some ⟨b,0,none⟩) i c (cur.toList.take (i * 11)) hold (n+m - i) (by omega) (by omega) (by omega) (by omega) (by rw [ht3];omega) (by rw [ht3,hik];exact growslice_fits hroom hbig)
  rw [hik] at h
  rw [hkk,hrow]
  exact h
 obtain ⟨G,hG⟩:∃ G,G=grownCap w (n+m) c 41:=⟨_,rfl⟩
 rw [← hG] at hrz hrow ⊢
 have hGn:n+m≤G:=by rw [hG];exact grownCap_ge w _ _ _
 have hG63:G≤9223372036854775807:=by
  have:=grownCap_le_maxLen w (n+m) c 41 (by unfold maxLen;omega)
  rw [← hG] at this
  unfold maxLen at this
  omega
 have hrl:row.size=G * 11:=by
  rw [hrow]
  simp only [Jj,jD,jm,jt,size_zeroCells,ht5,hcur]
  omega
 obtain ⟨W1,hW1⟩:∃ W1,W1=w.drew.alloc (.cells row 41):=⟨_,rfl⟩
 rw [← hW1] at hrz
 have hg1:W1.heap[w.heap.size]? = some (.cells row 41 (0,0)):=by rw [hW1];exact Array.getElem?_push_size
 have hb1:W1.heap[b]? = some (.cells cur tg (0,0)):=by rw [hW1];exact (Below.heap_alloc w.drew _ b hbw).trans hg
 have hv1:W1.heap[vb]? = some (.cells vcur vtg (0,0)):=by rw [hW1];exact (Below.heap_alloc w.drew _ vb hvw).trans hv
 have hcpA:∀ (W:World),W.heap=W1.heap→∀ ty dc,(Builtin.copy_ #[23,23] ty #[.slice (some ⟨w.heap.size,i * 11,none⟩) (n+m - i) dc,.slice (some ⟨vb,0,none⟩) m vc]).run jd W = .ok (goInt ((m:Nat):Int)) (W.setRow w.heap.size cur1):=fun W hW ty dc=>by
  rw [hc1]
  exact bjg W 23 23 ty 41 11 w.heap.size (i * 11) (n+m - i) dc ⟨vb,0,none⟩ m vc row 41 vs hu ti ht1 ht2 (by rw [hW];exact hg1) m (nmin _ _ (by omega)) hvl (fun j v hj=>by rw [hvs] at hj;exact bqr (by rw [hW];exact hv1) _ _ hj) (by rw [hvl,hrl];omega) h2
 have hl1:cur1.size=G * 11:=by
  rw [hc1]
  simp only [jD,ji,jm,jF,jt,hrl,hvl]
  omega
 have hbN:b≠w.heap.size:=by omega
 have hcpB:∀ (W:World),W.heap=(W1.setRow w.heap.size cur1).heap→∀ ty dc sc,(Builtin.copy_ #[23,23] ty #[.slice (some ⟨w.heap.size,(i+m) * 11,none⟩) (n+m - (i+m)) dc,.slice (some ⟨b,i * 11,none⟩) (n - i) sc]).run jd W = .ok (goInt ((n - i:Nat):Int)) (W.setRow w.heap.size cur2):=fun W hW ty dc sc=>by
  rw [hc2]
  exact bjg W 23 23 ty 41 11 w.heap.size ((i+m) * 11) (n+m - (i+m)) dc ⟨b,i * 11,none⟩ (n - i) sc cur1 41 seg hu ti ht1 ht2 (by rw [hW];exact bz9 _ _ _ hg1) (n - i) (by rw [show n+m - (i+m)=n - i by omega];exact nmin _ _ (jB _)) hsl (fun j v hj=>by rw [hseg] at hj;exact bqr (by rw [hW,setRow_other _ _ _ _ hbN];exact hb1) _ _ hj) (by rw [hsl,hl1];omega) h1
 subst hW1
 have hE1:((w.alloc (.cells row 41)).drew).heap=(w.drew.alloc (.cells row 41)).heap:=rfl
 have hF1:(((w.alloc (.cells row 41)).drew.setRow w.heap.size cur1).drew).heap=((w.drew.alloc (.cells row 41)).setRow w.heap.size cur1).heap:=rfl
 have hGi:¬ (G=i):=by omega
 have hGim:¬ (G=i+m):=by omega
 have hci:¬ (c=i):=by omega
 have hw1:IntKind.i64.wrap ((i:Int)+(m:Int))=(i:Int)+(m:Int):=by rw [IntKind.wrap_i64];omega
 have hbb1:(0:Int)≤(i:Int)+(m:Int):=by omega
 have hin:i≤n:=by omega
 have htn:((i:Int)+(m:Int)).toNat=i+m:=by omega
 have hb3:(i:Int)≤(n:Int):=by omega
 clear hkk hik hold hrow hG hrl hl1 hc1 hc2 hg1 hb1 hv1 h1 h2 hseg hvs hsl hvl ht1 ht2 ht3 ht4 ht5 hcur hvc hg hv hz
 have mixed:=mixed
 go_enter Tryz.func86,Tryz.ntmps86
 go_wp2_with (first
  | (at_builtin;refine Lib.wpList_append_run _ rfl _ _ _ _ rfl _ _ rfl rfl _ _ (hrz _) ?_)
  | (at_builtin;refine wpList_copy_runI _ rfl _ _ 23 23 rfl _ _ rfl rfl (hcpA _ hE1 _ _) ?_)
  | (at_builtin;refine wpList_copy_runI _ rfl _ _ 23 23 rfl _ _ rfl rfl (hcpB _ rfl _ _ _) ?_))
 go_region_law_o (refine step_copy_runI rfl _ _ 23 23 rfl (.slice (some ⟨w.heap.size,(i+m) * 11,none⟩) (n+m - (i+m)) (G - (i+m))) (.slice (some ⟨b,i * 11,none⟩) (n - i) (c - i)) (by simp [Act.eval,Act.put]) (by simp [Act.eval,Act.put]) (hcpB _ hF1 3 (G - (i+m)) (c - i)) ?_)
 go_wp2
 go_ret
 exact ⟨rfl,rfl⟩
structure ek8 (w w':World) (b n':Nat) (V:Value) (L:List Value):Prop where
 os:w'.os=w.os
 tape:w'.tape=w.tape
 output:w'.output=w.output
 size:w.heap.size≤w'.heap.size
 block:∀ k,k < w.heap.size→k≠b→w'.heap[k]? = w.heap[k]?
 row:∃ b' cap' cur' tg',V = .slice (some ⟨b',0,none⟩) n' cap'∧w'.heap[b']? = some (.cells cur' tg' (0,0))∧n'≤cap'∧cap'≤maxLen∧cur'.size=cap' * 11∧cur'.toList.take (n' * 11)=L∧(b'=b∨w.heap.size≤b')
theorem eki {α:Type} (a b c d:List α) (k:Nat) (h:k=a.length+b.length+c.length):(a ++ b ++ c ++ d).take k=a ++ b ++ c:=by
 subst h
 rw [Jo (by simp only [ji];omega),jP (by simp only [ji];omega)]
theorem dk9 {α:Type} (a b d:List α) (k:Nat) (h:k=a.length+b.length):(a ++ b ++ d).take k=a ++ b:=by
 subst h
 rw [Jo (by simp),jP (by simp)]
theorem fy9 (w:World) (b n' c:Nat) (cur cur2:Array Value) (tg:TypeId) (L:List Value) (W:World) (hW:W.heap=w.heap) (ho:W.os=w.os) (ht:W.tape=w.tape) (hp:W.output=w.output) (cur1:Array Value)
  (hg:w.heap[b]? = some (.cells cur tg (0,0))) (hn:n'≤c) (hc:c≤maxLen) (hs:cur2.size=c * 11) (hl:cur2.toList.take (n' * 11)=L):ek8 w ((W.setRow b cur1).setRow b cur2) b n' (.slice (some ⟨b,0,none⟩) n' c) L:=by
 refine ⟨ho,ht,hp,?_,fun k _ hk=>?_,b,c,cur2,tg,rfl,?_,hn,hc,hs,hl,.inl rfl⟩
 ·simp [hW]
 ·rw [setRow_other _ _ _ _ hk,setRow_other _ _ _ _ hk,hW]
 ·exact bz9 _ _ _ (bz9 _ _ _ (by rw [hW];exact hg))
theorem eyh (w:World) (b n' c:Nat) (cur2:Array Value) (tg:TypeId) (L:List Value) (W:World) (hsz:w.heap.size≤W.heap.size) (hbk:∀ k,k < w.heap.size→W.heap[k]? = w.heap[k]?) (ho:W.os=w.os) (ht:W.tape=w.tape) (hp:W.output=w.output)
  (hg:W.heap[w.heap.size]? = some (.cells cur2 tg (0,0))) (hn:n'≤c) (hc:c≤maxLen) (hs:cur2.size=c * 11) (hl:cur2.toList.take (n' * 11)=L):ek8 w W b n' (.slice (some ⟨w.heap.size,0,none⟩) n' c) L :=
 ⟨ho,ht,hp,hsz,fun k hk _=>hbk k hk,w.heap.size,c,cur2,tg,rfl,hg,hn,hc,hs,hl,.inr (jB _)⟩
theorem fz7 (cur seg vs:List Value) (i m n:Nat) (hi:i≤n) (hc:(n+m) * 11≤cur.length) (hs:seg.length=(n - i) * 11) (hv:vs.length=m * 11) :
  (((cur.take ((i+m) * 11) ++ seg ++ cur.drop ((i+m) * 11+seg.length)).take (i * 11) ++ vs ++ (cur.take ((i+m) * 11) ++ seg ++ cur.drop ((i+m) * 11+seg.length)).drop (i * 11+vs.length)).take ((n+m) * 11))=cur.take (i * 11) ++ vs ++ seg:=by
 have e1:(cur.take ((i+m) * 11)).length=(i+m) * 11:=by rw [jm];omega
 have e0:(cur.take (i * 11)).length=i * 11:=by rw [jm];omega
 have h1:(cur.take ((i+m) * 11) ++ seg ++ cur.drop ((i+m) * 11+seg.length)).take (i * 11)=cur.take (i * 11):=by
  rw [JB,Jo (by rw [e1];omega),List.take_take,Jd (by omega)]
 have h2:(cur.take ((i+m) * 11) ++ seg ++ cur.drop ((i+m) * 11+seg.length)).drop (i * 11+vs.length)=seg ++ cur.drop ((i+m) * 11+seg.length):=by
  rw [JB,show i * 11+vs.length=(cur.take ((i+m) * 11)).length by rw [e1,hv];omega,List.drop_left]
 rw [h1,h2,← JB]
 exact eki _ _ _ _ _ (by rw [e0,hv,hs];omega)
theorem gzb (b n c i vb m vc:Nat) (cur vcur:Array Value) (tg vtg:TypeId) (w:World) (hg:w.heap[b]? = some (.cells cur tg (0,0))) (hv:w.heap[vb]? = some (.cells vcur vtg (0,0)))
  (hcur:cur.size=c * 11) (hvc:vcur.size=vc * 11) (hmv:m≤vc) (hi:i≤n) (hnc:n≤c) (hm:0 < m) (hc63:c≤maxLen) (hbig:(n+m) * 104≤140737488355328) (hvb:vb≠b)
  (h1:∀ v∈(cur.toList.take (n * 11)),v.oneCell'=true) (h2:∀ v∈vcur.toList.take (m * 11),v.oneCell'=true) :
  Calls jd 86 #[.slice (some ⟨b,0,none⟩) n c,.int .i64 i,.slice (some ⟨vb,0,none⟩) m vc] w fun e w'=>∃ V,e = .returned V∧ek8 w w' b (n+m) V (cur.toList.take (i * 11) ++ vcur.toList.take (m * 11) ++ (cur.toList.drop (i * 11)).take ((n - i) * 11)):=by
 obtain ⟨seg,hseg⟩:∃ seg,seg=(cur.toList.drop (i * 11)).take ((n - i) * 11):=⟨_,rfl⟩
 obtain ⟨vs,hvs⟩:∃ vs,vs=vcur.toList.take (m * 11):=⟨_,rfl⟩
 have hsl:seg.length=(n - i) * 11:=by rw [hseg,jm,jF,jt,hcur];omega
 have hvl:vs.length=m * 11:=by rw [hvs,jm,jt,hvc];omega
 have hs1:∀ v∈seg,v.oneCell'=true:=fun v hv'=>by
  refine h1 v ?_
  rw [hseg] at hv'
  rw [List.take_drop] at hv'
  have:=List.mem_of_mem_drop hv'
  rwa [show i * 11+(n - i) * 11=n * 11 by omega] at this
 rw [← hseg,← hvs]
 rw [← hvs] at h2
 have hal:(cur.toList.take (i * 11)).length=i * 11:=by rw [jm,jt,hcur];omega
 obtain ⟨ti,tz,ht1,ht2,ht3,ht4,ht5⟩:=gqq
 have hu:jd.underlying 23=some (.slice 41):=by kernel_rfl
 have hmx:maxLen=9223372036854775807:=by unfold maxLen;rfl
 rcases jz i n with hlt | hge
 ·rcases jz c (n+m) with hgr | hro
  ·have hk:=gjn b n c i vb m vc cur vcur tg vtg seg vs w hg hv hcur hvc hmv hlt hnc hm hgr hbig hseg (by rw [hvs];rfl) hs1 h2 tz ⟨ti,ht1,ht4⟩ _ _ _ rfl rfl rfl
   refine hk.mono ?_
   rintro e w' ⟨rfl,rfl⟩
   have hG1:n+m≤grownCap w (n+m) c 41:=grownCap_ge w _ _ _
   have hG2:=grownCap_le_maxLen w (n+m) c 41 (by rw [hmx];omega)
   generalize grownCap w (n+m) c 41=G at *
   obtain ⟨row,hrow⟩:∃ row,row=(cur.toList.take (i * 11)).toArray ++ Builtin.zeroCells tz.cells (n+m - i) ++ Builtin.zeroCells tz.cells (G - (n+m)):=⟨_,rfl⟩
   rw [← hrow]
   have hrl:row.size=G * 11:=by
    rw [hrow]
    simp only [Jj,jD,hal,size_zeroCells,ht5]
    omega
   have hrt:row.toList.take (i * 11)=cur.toList.take (i * 11):=by
    rw [hrow]
    simp only [Array.toList_append]
    rw [JB,Jo (by rw [hal];exact jB _),jP (by rw [hal];exact jB _)]
   refine ⟨_,rfl,eyh w b (n+m) G _ 41 _ _ ?_ ?_ rfl rfl rfl (bz9 _ _ _ (bz9 (w.alloc _).drew _ _ (cy2 w _))) hG1 hG2 ?_ ?_⟩
   ·simp only [setRow_size]
    show w.heap.size≤((w.alloc _).drew.setRow w.heap.size _).heap.size
    rw [setRow_size]
    show w.heap.size≤(w.heap.push _).size
    simp
   ·intro k hk
    rw [setRow_other _ _ _ _ (Nat.ne_of_lt hk)]
    show ((w.alloc _).drew.setRow w.heap.size _).heap[k]? = _
    rw [setRow_other _ _ _ _ (Nat.ne_of_lt hk)]
    exact Below.heap_alloc w _ k hk
   ·simp only [jD,ji,jm,jF,jt,hrl,hvl,hsl]
    omega
   ·simp only [hrt]
    rw [show ((i+m) * 11)=(cur.toList.take (i * 11)).length+vs.length by rw [hal,hvl];omega,dk9 _ _ _ _ rfl]
    rw [eki _ _ _ _ _ (by rw [hal,hvl,hsl];omega)]
  ·have hk:=fyu b n c i vb m vc cur vcur tg vtg seg vs w hg hv hcur hvc hmv hlt hm hro (by omega) hvb hseg (by rw [hvs];rfl) hs1 h2 _ _ rfl rfl
   refine hk.mono ?_
   rintro e w' ⟨rfl,rfl⟩
   refine ⟨_,rfl,fy9 w b (n+m) c cur _ tg _ w.drew rfl rfl rfl rfl _ hg hro hc63 ?_ ?_⟩
   ·simp only [jD,ji,jm,jF,jt,hcur,hvl,hsl]
    omega
   ·exact fz7 cur.toList seg vs i m n hi (by rw [jt,hcur];omega) hsl hvl
 ·have hin:i=n:=by omega
  subst hin
  have hse:seg=[]:=List.length_eq_zero_iff.1 (by rw [hsl];omega)
  rw [hse,List.append_nil]
  have hnews:∀ j u,vs[j]? = some u→w.cell? ((⟨vb,0,none⟩:Addr).add j)=some u:=fun j u hj=>by
   rw [hvs] at hj;exact bqr hv 0 (m * 11) (by simpa using hj)
  rcases jz c (i+m) with hgr | hro
  ·have hr:=fun ty=>run_append_grow (P:=jd) w 23 ty 41 ti tz hu ht1 ht4 ⟨b,0,none⟩ i c (cur.toList.take (i * 11)) (by rw [hal,ht2]) (fun j v hj=>bqr hg 0 (i * 11) (by simpa using hj)) ⟨vb,0,none⟩ m vc vs (by rw [hvl,ht2]) hnews hgr (by omega) (by rw [ht3];exact growslice_fits hgr hbig)
   refine (eyj _ i c m vc _ _ w _ hm hnc hr).mono ?_
   rintro e w' ⟨rfl,rfl⟩
   have hG1:i+m≤grownCap w (i+m) c 41:=grownCap_ge w _ _ _
   have hG2:=grownCap_le_maxLen w (i+m) c 41 (by rw [hmx];omega)
   generalize grownCap w (i+m) c 41=G at *
   refine ⟨_,rfl,eyh w b (i+m) G _ 41 _ _ (by simp [World.alloc]) (fun k hk=>Below.heap_alloc w.drew _ k hk) rfl rfl rfl (cy2 w.drew _) hG1 hG2 ?_ ?_⟩
   ·simp only [Jj,jD,hal,hvl,size_zeroCells,ht5]
    omega
   ·simp only [Array.toList_append]
    rw [dk9 _ _ _ _ (by rw [hal,hvl];omega)]
  ·have hr:=fun ty=>Go.AE.bj4 (P:=jd) w 23 ty 41 tg ti hu ht1 b i c cur hg ⟨vb,0,none⟩ m vc vs (by rw [hvl,ht2]) hnews h2 hro (by rw [ht2,hvl,hcur];omega)
   refine (eyj _ i c m vc _ _ w _ hm hnc hr).mono ?_
   rintro e w' ⟨rfl,rfl⟩
   rw [← setRow_setRow w b cur]
   refine ⟨_,rfl,fy9 w b (i+m) c cur _ tg _ w rfl rfl rfl rfl cur hg hro hc63 ?_ ?_⟩
   ·simp only [jD,ji,jm,jF,jt,hcur,hvl,ht2]
    omega
   ·rw [ht2,dk9 _ _ _ _ (by rw [hal,hvl];omega)]
theorem gwq (vb m vc:Nat) (vcur:Array Value) (vtg:TypeId) (w:World) (hv:w.heap[vb]? = some (.cells vcur vtg (0,0))) (hvc:vcur.size=vc * 11) (hmv:m≤vc) (hm:0 < m) (hbig:m * 104≤140737488355328) (b:Nat) :
  Calls jd 86 #[.slice none 0 0,.int .i64 (0:Nat),.slice (some ⟨vb,0,none⟩) m vc] w fun e w'=>∃ V,e = .returned V∧ek8 w w' b m V (vcur.toList.take (m * 11)):=by
 obtain ⟨ti,tz,ht1,ht2,ht3,ht4,ht5⟩:=gqq
 have hu:jd.underlying 23=some (.slice 41):=by kernel_rfl
 have hmx:maxLen=9223372036854775807:=by unfold maxLen;rfl
 have hvl:(vcur.toList.take (m * 11)).length=m * 11:=by rw [jm,jt,hvc];omega
 have hr:=fun ty=>run_append_nil (P:=jd) w 23 ty 41 ti tz hu ht1 ht4 ⟨vb,0,none⟩ m vc (vcur.toList.take (m * 11)) (by rw [hvl,ht2]) (fun j v hj=>bqr hv 0 (m * 11) (by simpa using hj)) hm (by omega) (by rw [ht3];omega)
 refine (eyj none 0 0 m vc _ _ w _ hm (jB _) hr).mono ?_
 rintro e w' ⟨rfl,rfl⟩
 have hG1:m≤grownCap w m 0 41:=grownCap_ge w _ _ _
 have hG2:=grownCap_le_maxLen w m 0 41 (by rw [hmx];omega)
 generalize grownCap w m 0 41=G at *
 refine ⟨_,rfl,eyh w b m G _ 41 _ _ (by simp [World.alloc]) (fun k hk=>Below.heap_alloc w.drew _ k hk) rfl rfl rfl (cy2 w.drew _) hG1 hG2 ?_ ?_⟩
 ·simp only [Jj,jD,hvl,size_zeroCells,ht5]
  omega
 ·simp only [Array.toList_append]
  rw [Jo (by rw [hvl];exact jB _),jP (by rw [hvl];exact jB _)]
open Go.AE in
structure aky (P:Program) (w:World) (al:Nat→Prop) (ks:List Kd) (l:List Value) (es:List (List C)):Prop where
 len:l.length=es.length * ks.length
 el:∀ q,q < es.length→(eg es q).length=ks.length
 rep:∀ q,q < es.length→∀ j,j < ks.length→RepC P w al (ks.getD j .other) (l.getD (q * ks.length+j) undef) (cg (eg es q) j)
open Go.AE in
theorem aky.app {P:Program} {w:World} {al:Nat→Prop} {ks:List Kd} {l l':List Value} {es es':List (List C)} (h:aky P w al ks l es) (h':aky P w al ks l' es'):aky P w al ks (l ++ l') (es ++ es'):=by
 have e1:∀ q,q < es.length→eg (es ++ es') q=eg es q:=fun q hq=>by
  simp only [eg,ja];rw [jA hq]
 have e2:∀ q,es.length≤q→eg (es ++ es') q=eg es' (q - es.length):=fun q hq=>by
  simp only [eg,ja];rw [jE hq]
 refine ⟨by rw [ji,ji,h.len,h'.len,js],fun q hq=>?_,fun q hq j hj=>?_⟩
 ·rw [ji] at hq
  rcases jz q es.length with hl | hl
  ·rw [e1 q hl];exact h.el q hl
  ·rw [e2 q hl];exact h'.el _ (by omega)
 ·rw [ji] at hq
  rcases jz q es.length with hl | hl
  ·rw [e1 q hl]
   have hb:q * ks.length+j < l.length:=by
    rw [h.len]
    have:(q+1) * ks.length≤es.length * ks.length:=jh _ hl
    rw [js] at this;omega
   have:=h.rep q hl j hj
   have ev:(l ++ l').getD (q * ks.length+j) undef=l.getD (q * ks.length+j) undef:=by simp only [ja,jA hb]
   rw [ev];exact this
  ·rw [e2 q hl]
   have hb:l.length≤q * ks.length+j:=by
    rw [h.len]
    have:es.length * ks.length≤q * ks.length:=jh _ hl
    omega
   have:=h'.rep (q - es.length) (by omega) j hj
   have e3:q * ks.length+j - l.length=(q - es.length) * ks.length+j:=by
    rw [h.len,Nat.sub_mul]
    have:es.length * ks.length≤q * ks.length:=jh _ hl
    omega
   have ev:(l ++ l').getD (q * ks.length+j) undef=l'.getD ((q - es.length) * ks.length+j) undef:=by simp only [ja,jE hb,e3]
   rw [ev];exact this
open Go.AE in
theorem aky.drop {P:Program} {w:World} {al:Nat→Prop} {ks:List Kd} {l:List Value} {es:List (List C)} (h:aky P w al ks l es) (i:Nat) (hi:i≤es.length):aky P w al ks (l.drop (i * ks.length)) (es.drop i):=by
 have e1:∀ q,eg (es.drop i) q=eg es (i+q):=fun q=>by simp only [eg,ja,j7]
 refine ⟨by rw [jF,jF,h.len,Nat.sub_mul],fun q hq=>?_,fun q hq j hj=>?_⟩
 ·rw [jF] at hq;rw [e1];exact h.el _ (by omega)
 ·rw [jF] at hq;rw [e1]
  have:=h.rep (i+q) (by omega) j hj
  have ev:(l.drop (i * ks.length)).getD (q * ks.length+j) undef=l.getD ((i+q) * ks.length+j) undef:=by
   simp only [ja,j7];rw [show i * ks.length+(q * ks.length+j)=(i+q) * ks.length+j by rw [js];omega]
  rw [ev];exact this
open Go.AE in
theorem aky.take {P:Program} {w:World} {al:Nat→Prop} {ks:List Kd} {l:List Value} {es:List (List C)} (h:aky P w al ks l es) (i:Nat) (hi:i≤es.length):aky P w al ks (l.take (i * ks.length)) (es.take i):=by
 have hm:i * ks.length≤es.length * ks.length:=jh _ hi
 have e1:∀ q,q < i→eg (es.take i) q=eg es q:=fun q hq=>by simp only [eg,ja,jU,hq,if_true]
 refine ⟨by rw [jm,jm,h.len,Jd hm,Jd hi],fun q hq=>?_,fun q hq j hj=>?_⟩
 ·rw [jm] at hq;rw [e1 q (by omega)];exact h.el _ (by omega)
 ·rw [jm] at hq;rw [e1 q (by omega)]
  have hb:q * ks.length+j < i * ks.length:=by
   have:(q+1) * ks.length≤i * ks.length:=jh _ (by omega)
   rw [js] at this;omega
  have:=h.rep q (by omega) j hj
  have ev:(l.take (i * ks.length)).getD (q * ks.length+j) undef=l.getD (q * ks.length+j) undef:=by simp only [ja,jU,if_pos hb]
  rw [ev];exact this
open Go.AE in
theorem aky.mono {P:Program} {w w':World} {al al':Nat→Prop} {ks:List Kd} {l:List Value} {es:List (List C)} (h:aky P w al ks l es) (hw:∀ b,al b→w'.heap[b]? = w.heap[b]?) (ha:∀ b,al b→al' b):aky P w' al' ks l es :=
 ⟨h.len,h.el,fun q hq j hj=>(h.rep q hq j hj).mono hw ha⟩
open Go.AE in
theorem aky.one {P:Program} {w:World} {al:Nat→Prop} {ks:List Kd} {l:List Value} {es:List (List C)} (h:aky P w al ks l es) (hk:∀ j,j < ks.length→ks.getD j .other≠.other∧(∀ t,ks.getD j .other≠.ptr t)∧∀ t,ks.getD j .other≠.arr t):∀ u∈l,u.oneCell'=true:=by
 intro u hu
 obtain ⟨k,hk0,rfl⟩:=List.getElem_of_mem hu
 have hk':=hk0
 rw [h.len] at hk'
 obtain ⟨h1,h2,h3⟩:=dq4 hk'
 have:=h.rep _ h1 _ h2
 rw [h3] at this
 have e:l.getD k undef=l[k]:=by simp [ja,hk0]
 rw [e] at this
 exact this.one (hk _ h2).1 (hk _ h2).2
open Go.AE in
theorem fya {P:Program} {w:World} {al:Nat→Prop} {σ:Nat→RefI} {v:Value} {id len:Nat} {ks:List Kd} (h:ARel P w al σ v (.own id ks 0 len)) {b cap n:Nat} {t:TypeId} {F:Nat→Prop} (hs:σ id = .row b cap t ks n F):v = .slice (some ⟨b,0,none⟩) len cap:=by
 cases h with
 | ownGone _ _ _ _ _ h=>rw [hs] at h;cases h
 | ownNil _ _ _ _ h _=>rw [hs] at h;cases h
 | own0 _ _ _ _ _ _ _ h _=>rw [hs] at h;cases h;rfl
 | ownOff _ _ _ _ _ _ _ _ _ h ho _ _=>exact absurd rfl ho
 | ownOff0 _ _ _ _ _ _ _ _ _ h ho _=>exact absurd rfl ho
open Go.AE in
theorem gz8 {P:Program} {w:World} {al:Nat→Prop} {σ:Nat→RefI} {v:Value} {id len:Nat} {ks:List Kd} (h:ARel P w al σ v (.own id ks 0 len)) {t:TypeId} {ks':List Kd} (hs:σ id = .rown t ks'):v = .slice none 0 0∧len=0:=by
 cases h with
 | ownGone _ _ _ _ _ h=>rw [hs] at h;cases h
 | ownNil _ _ _ _ h _=>exact ⟨rfl,rfl⟩
 | own0 _ _ _ _ _ _ _ h _=>rw [hs] at h;cases h
 | ownOff _ _ _ _ _ _ _ _ _ h ho _ _=>exact absurd rfl ho
 | ownOff0 _ _ _ _ _ _ _ _ _ h ho _=>exact absurd rfl ho
abbrev ks41:List Go.AE.Kd:=[.str,.int .i64,.int .i64,.bool,.bool,.int .i64,.int .i64,.int .i64,.int .i64,.slice 80,.int .i64]
open Go.AE in
theorem gj1:∀ j,j < ks41.length→ks41.getD j .other≠.other∧(∀ t,ks41.getD j .other≠.ptr t)∧∀ t,ks41.getD j .other≠.arr t:=awg (by rfl)
open Go.AE in
theorem ezp {w:World} {B al:Nat→Prop} {r:RefI} {es:List (List C)} (h:ajo jd w B al r 41 es) :
  (es.length:Int) * 104≤140737488355328∧((r = .rown 41 ks41∧es=[])∨∃ b cap cur tg,r = .row b cap 41 ks41 es.length∧B b∧w.heap[b]? = some (.cells cur tg (0,0))∧es.length≤cap∧cap≤maxLen∧cur.size=cap * 11∧aky jd w al ks41 (cur.toList.take (es.length * 11)) es):=by
 obtain ⟨E,hE,hbd,hh⟩:=h.ty
 rw [ty41] at hE;simp only [jb] at hE;subst hE
 refine ⟨hbd,?_⟩
 rcases hh with hh | ⟨b,cap,cur,tg,h1,h2,h3,h4,h5,h6,h7,h8⟩
 ·exact .inl hh
 ·refine .inr ⟨b,cap,cur,tg,h1,h2,h3,h4,h5,h6,?_,h7,fun q hq j hj=>?_⟩
  ·have hlc:cur.toList.length=cap * 11:=jt.trans h6
   rw [jm,hlc]
   show min _ (cap * 11)=es.length * 11
   exact Jd (jh _ h4)
  ·have:=h8 q hq j hj
   have hb:q * 11+j < es.length * 11:=by
    have:(q+1) * 11≤es.length * 11:=jh _ hq
    have hj':j < 11:=hj
    omega
   have ev:(cur.toList.take (es.length * 11)).getD (q * ks41.length+j) undef=cur.getD (q * ks41.length+j) undef:=by
    show (cur.toList.take (es.length * 11)).getD (q * 11+j) undef=cur.getD (q * 11+j) undef
    simp only [ja,jU,if_pos hb,jf,Jh]
   rw [ev];exact this
open Go.AE in
def bqd (n:Nat) (s:List aja) (i:Int) (v:List aja):Option (List aja):=gd (0≤i∧i≤(s.length:Int)∧0 < v.length∧s.length+v.length≤1000000) (some (s.take i.toNat ++ v ++ s.drop i.toNat))
open Go.AE in
theorem gw9 {w:World} {B al:Nat→Prop} {es:List (List C)} {b cap:Nat} {cur:Array Value} {tg:TypeId} (hbd:(es.length:Int) * 104≤140737488355328) (hB:B b) (hh:w.heap[b]? = some (.cells cur tg (0,0))) (hn:es.length≤cap) (hx:cap≤maxLen) (hs:cur.size=cap * 11)
  (hC:aky jd w al ks41 (cur.toList.take (es.length * 11)) es):ajo jd w B al (.row b cap 41 ks41 es.length) 41 es:=by
 refine ⟨⟨_,ty41,hbd,.inr ⟨b,cap,cur,tg,rfl,hB,hh,hn,hx,hs,hC.el,fun q hq j hj=>?_⟩⟩⟩
 have:=hC.rep q hq j hj
 have hb:q * 11+j < es.length * 11:=by
  have:(q+1) * 11≤es.length * 11:=jh _ hq
  have hj':j < 11:=hj
  omega
 have ev:(cur.toList.take (es.length * 11)).getD (q * 11+j) undef=cur.getD (q * 11+j) undef:=by
  simp only [ja,jU,if_pos hb,jf,Jh]
 have this':RepC jd w al (ks41.getD j .other) ((cur.toList.take (es.length * 11)).getD (q * 11+j) undef) (cg (eg es q) j):=this
 rw [ev] at this'
 exact this'
open Go.AE in
theorem fkl {w w':World} {al:Nat→Prop} {σ:Nat→RefI} {v r:List aja} {b:Nat} {V:Value} {L:List Value} {vb vc:Nat} {vcur:Array Value} {vtg:TypeId} (hal:∀ b,al b→b < w.heap.size∧∀ j,¬ aj5 (σ j) b)
  (bd:∀ j,2≤j→σ j = .dead) (hr0:bz7 (σ 0)) (hr1:σ 1 = .row vb vc 41 ks41 v.length) (hvh:w.heap[vb]? = some (.cells vcur vtg (0,0))) (hvn:v.length≤vc) (hvx:vc≤maxLen) (hvs:vcur.size=vc * 11) (hvC:aky jd w al ks41 (vcur.toList.take (v.length * 11)) (List.map aj4 v))
  (hbv:(v.length:Int) * 104≤140737488355328) (hbr:(r.length:Int) * 104≤140737488355328) (hvb:vb≠b) (ho:ek8 w w' b r.length V L) (hb0:b < w.heap.size→aj5 (σ 0) b) (hC:aky jd w al ks41 L (List.map aj4 r)) :
  ResM jd w al σ w' V [.own 2 ks41 0 r.length] [.gone,.row 41 (List.map aj4 v),.row 41 (List.map aj4 r)]:=by
 obtain ⟨b',cap',cur',tg',rfl,hh',hn',hx',hs',hL,hbb⟩:=ho.row
 have hvw:vb < w.heap.size:=(jv.1 hvh).1
 have hab:∀ c,al c→c≠b:=fun c hc e=>by
  subst e;exact (hal c hc).2 0 (hb0 (hal c hc).1)
 have hold:∀ c,al c→w'.heap[c]? = w.heap[c]? := fun c hc=>ho.block c (hal c hc).1 (hab c hc)
 have hb'v:b'≠vb:=by
  rcases hbb with e | e
  ·rw [e];exact fun h=>hvb h.symm
  ·omega
 have s0:∀ c,¬ aj5 (RefI.gone) c:=fun c h=>h
 obtain ⟨σ',hσ'⟩:∃ σ':Nat→RefI,σ'=fun j=>if j=0 then .gone else if j=2 then .row b' cap' 41 ks41 r.length else σ j:=⟨_,rfl⟩
 have e0:σ' 0 = .gone:=by rw [hσ'];rfl
 have e1:σ' 1 = .row vb vc 41 ks41 v.length:=by rw [hσ'];exact hr1
 have e2:σ' 2 = .row b' cap' 41 ks41 r.length:=by rw [hσ'];rfl
 have e3:∀ j,3≤j→σ' j = .dead:=fun j hj=>by
  rw [hσ'];show (if j=0 then _ else if j=2 then _ else σ j)=_
  rw [if_neg (by omega),if_neg (by omega)];exact bd j (by omega)
 have hblk:∀ j c,aj5 (σ' j) c→(j=1∧c=vb)∨(j=2∧c=b'):=by
  intro j c h
  match j with
  | 0=>rw [e0] at h;exact h.elim
  | 1 =>
   rw [e1] at h
   rcases h with h | h
   ·exact .inl ⟨rfl,h.symm⟩
   ·exact h.elim
  | 2 =>
   rw [e2] at h
   rcases h with h | h
   ·exact .inr ⟨rfl,h.symm⟩
   ·exact h.elim
  | j+3=>rw [e3 _ (by omega)] at h;exact h.elim
 have hAl:∀ c,al c→Al ⟨w,al,muOf σ,σ,noMk,0⟩ w' σ' (ajh [.gone,.row 41 (List.map aj4 v),.row 41 (List.map aj4 r)]) c:=fun c hc=>by
  refine ⟨Nat.lt_of_lt_of_le (hal c hc).1 ho.size,fun id hid=>?_,.inr hc⟩
  rcases hblk id c hid with ⟨_,rfl⟩ | ⟨_,rfl⟩
  ·exact ((hal _ hc).2 1 (by rw [hr1];exact .inl rfl)).elim
  ·rcases hbb with e | e
   ·exact (hab _ hc e).elim
   ·have:=(hal _ hc).1;omega
 refine ⟨⟨ho.os,ho.tape,ho.output,ho.size,fun k hk hm=>ho.block k hk fun e=>?_⟩,σ',fun j=>?_,fun i j c hi hj=>?_,fun j hj=>?_,?_⟩
 ·subst e;exact hm ⟨0,hb0 hk⟩
 ·match j with
  | 0=>exact e0
  | 1 =>
   show ajo _ _ _ _ (σ' 1) 41 (List.map aj4 v)
   have hl:(List.map aj4 v).length=v.length:=jH _
   rw [e1,← hl]
   refine gw9 (by rw [jH];exact hbv) (.inr ⟨1,by show aj5 (σ 1) vb;rw [hr1];exact .inl rfl⟩) ((ho.block vb hvw hvb).trans hvh) (by rw [jH];exact hvn) hvx hvs (by rw [jH];exact hvC.mono hold hAl)
  | 2 =>
   show ajo _ _ _ _ (σ' 2) 41 (List.map aj4 r)
   have hl:(List.map aj4 r).length=r.length:=jH _
   rw [e2,← hl]
   refine gw9 (by rw [jH];exact hbr) ?_ hh' (by rw [jH];exact hn') hx' hs' (by rw [jH,hL];exact hC.mono hold hAl)
   rcases hbb with e | e
   ·rcases jz b w.heap.size with hl | hl
    ·exact .inr ⟨0,by show aj5 (σ 0) b';rw [e];exact hb0 hl⟩
    ·exact .inl (by rw [e];exact hl)
   ·exact .inl e
  | j+3 =>
   show σ' (j+3) = .dead
   exact e3 _ (by omega)
 ·rcases hblk i c hi with ⟨rfl,h1⟩ | ⟨rfl,h1⟩ <;> rcases hblk j c hj with ⟨rfl,h2⟩ | ⟨rfl,h2⟩
  ·rfl
  ·exact (hb'v (h2.symm.trans h1)).elim
  ·exact (hb'v (h1.symm.trans h2)).elim
  ·rfl
 ·match j with
  | 0=>exact .inr ⟨e0,hr0⟩
  | 1=>exact .inl (e1.trans hr1.symm)
  | j+2=>exact absurd (bd (j+2) (by omega)) hj
 ·exact ARel.own0 2 ks41 r.length b' cap' r.length 41 e2 (jB _)
open Go.AE in
theorem dqp (n:Nat) (s:List aja) (i:Int) (v:List aja) (r:List aja) (H:bqd n s i v=some r):awi jd 86 [.ref (.own 0 ks41 0 s.length),.dat (false,[.int .i64]) [.int i],.ref (.own 1 ks41 0 v.length)] [.row 41 (List.map aj4 s),.row 41 (List.map aj4 v)] [.own 2 ks41 0 r.length] [.gone,.row 41 (List.map aj4 v),.row 41 (List.map aj4 r)]:=by
 obtain ⟨⟨hi0,hi1,hv0,hsz⟩,H⟩:=aj3 H
 simp only [jb] at H
 refine ⟨fun args w=>Tryz.call86 args w,(show 2≤3 by decide),?_⟩
 intro w al σ vs hal hB hinj hvl harg
 obtain ⟨k,rfl⟩:∃ k:Nat,i=(k:Int):=⟨i.toNat,by omega⟩
 have hk:k≤s.length:=by omega
 rw [Int.toNat_natCast] at H
 have hrl:r.length=s.length+v.length:=by rw [← H];simp only [ji,jm,jF];omega
 have b0:ajo jd w _ al (σ 0) 41 (List.map aj4 s):=hB 0
 have b1:ajo jd w _ al (σ 1) 41 (List.map aj4 v):=hB 1
 have bd:∀ j,2≤j→σ j = .dead:=fun j hj=>by
  have:=hB j
  have e:ajh [.row 41 (List.map aj4 s),.row 41 (List.map aj4 v)] j = .dead:=by
   match j,hj with
   | j+2,_=>rfl
  rw [e] at this
  exact this
 match vs,hvl with
 | [v0,v1,v2],_ =>
  have a0:ARel jd w al σ v0 (.own 0 ks41 0 s.length):=harg 0 (show 0 < 3 by decide)
  have a1:Go.AE.ArgRel jd w al (false,[.int .i64]) v1 [.int (k:Int)]:=harg 1 (show 1 < 3 by decide)
  have a2:ARel jd w al σ v2 (.own 1 ks41 0 v.length):=harg 2 (show 2 < 3 by decide)
  obtain ⟨_,_,a1⟩:=a1
  have a1':RepC jd w al (.int .i64) v1 (.int (k:Int)):=a1
  have hv1:v1 = .int .i64 (k:Int):=by cases a1';rfl
  obtain ⟨hbd1,c1⟩:=ezp b1
  obtain ⟨hbd0,c0⟩:=ezp b0
  rw [jH] at hbd0 hbd1
  rcases c1 with ⟨_,c1⟩ | ⟨vb,vc,vcur,vtg,hr1,hvB,hvh,hvn,hvx,hvs,hvC⟩
  ·have:v=[]:=by simpa using c1
   subst this;simp at hv0
  rw [jH] at hr1 hvn hvC
  have hv2:=fya a2 hr1
  subst hv1 hv2
  have hone1:=hvC.one gj1
  rcases c0 with ⟨hr0,c0⟩ | ⟨b,cap,cur,tg,hr0,hcB,hch,hcn,hcx,hcs,hcC⟩
  ·have hs0:s=[]:=by simpa using c0
   subst hs0
   obtain ⟨rfl,_⟩:=gz8 a0 hr0
   have hk0:k=0:=by simpa using hk
   subst hk0
   have hrv:r=v:=by rw [← H];simp
   subst hrv
   refine (gwq vb r.length vc vcur vtg w hvh hvs hvn hv0 (by simp only [List.length_nil] at hsz;omega) w.heap.size).mono ?_
   rintro e w' ⟨V,rfl,ho⟩
   exact ⟨V,rfl,fkl hal bd (by rw [hr0];trivial) hr1 hvh hvn hvx hvs hvC hbd1 hbd1 (by have:=(jv.1 hvh).1;omega) ho (fun h=>absurd h (Nat.lt_irrefl _)) hvC⟩
  ·rw [jH] at hr0 hcn hcC
   have hv0':=fya a0 hr0
   subst hv0'
   have hne:vb≠b:=fun e=>by
    have:=hinj 0 1 b (by rw [hr0];exact .inl rfl) (by rw [hr1];exact .inl e)
    cases this
   refine (gzb b s.length cap k vb v.length vc cur vcur tg vtg w hch hvh hcs hvs hvn hk hcn hv0 hcx (by omega) hne (hcC.one gj1) hone1).mono ?_
   rintro e w' ⟨V,rfl,ho⟩
   rw [← hrl] at ho
   refine ⟨V,rfl,fkl hal bd (by rw [hr0];trivial) hr1 hvh hvn hvx hvs hvC hbd1 (by omega) hne ho (fun _=>by rw [hr0];exact .inl rfl) ?_⟩
   have c1:=hcC.take k (by rw [jH];exact hk)
   have c2:=hcC.drop k (by rw [jH];exact hk)
   have e1:(cur.toList.take (s.length * 11)).take (k * ks41.length)=cur.toList.take (k * 11):=by
    show (cur.toList.take (s.length * 11)).take (k * 11)=_
    rw [List.take_take,Jd (jh _ hk)]
   have e2:(cur.toList.take (s.length * 11)).drop (k * ks41.length)=(cur.toList.drop (k * 11)).take ((s.length - k) * 11):=by
    show (cur.toList.take (s.length * 11)).drop (k * 11)=_
    rw [List.drop_take,Nat.sub_mul]
   rw [e1] at c1
   rw [e2] at c2
   have:=(c1.app hvC).app c2
   rw [← List.map_take,← List.map_drop,← List.map_append,← List.map_append,H] at this
   exact this
open Go.AE in
theorem dz8 (n:Nat) (s:List aja) (i:Int) (v:List aja) (r:List aja) (H:bqd n s i v=some r):awi jd 86 [.ref (.own 0 [.str,.int .i64,.int .i64,.bool,.bool,.int .i64,.int .i64,.int .i64,.int .i64,.slice 80,.int .i64] 0 s.length),.dat (false,[.int .i64]) [.int i],.ref (.own 1 [.str,.int .i64,.int .i64,.bool,.bool,.int .i64,.int .i64,.int .i64,.int .i64,.slice 80,.int .i64] 0 v.length)] [.row 41 (List.map aj4 s),.row 41 (List.map aj4 v)] [.own 2 [.str,.int .i64,.int .i64,.bool,.bool,.int .i64,.int .i64,.int .i64,.int .i64,.slice 80,.int .i64] 0 r.length] [.gone,.row 41 (List.map aj4 v),.row 41 (List.map aj4 r)]:=dqp n s i v r H
end Go.Proofs.YtijnkhcfondehaaGreatDoor
