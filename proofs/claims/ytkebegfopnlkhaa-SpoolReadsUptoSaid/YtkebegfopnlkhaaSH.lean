/- Text. -/
import Derived.Laws.AppendOwn
import Derived.Laws.Append
import Derived.Laws.NewBlocks
import Derived.Lib.Builder
import Derived.WalkKit
import Derived.Lib.AppendZerosOnto
import Derived.Laws.OwnMore
import Derived.OwnWalk
import Derived.Shelf.Abstract
import Derived.RowKit
import Derived.Test.YtkebegfopnlkhaaProg
set_option linter.unusedSimpArgs false
set_option linter.unusedVariables false
set_option maxRecDepth 100000
open _root_.Array renaming getElem?_eq_some_iff→ji,getElem?_toList→Jb
open _root_.List renaming getD_eq_getElem?_getD→ja,getElem_mem→jm,length_append→jg,length_cons→jE,length_nil→jV,getElem?_append_left→js,getElem?_append_right→jw,getElem?_eq_getElem→jA,getElem?_take→j6
open _root_.Nat renaming le_refl→jr,zero_add→jL,lt_of_lt_of_le→jW,zero_le→Jp,lt_or_ge→jI,le_trans→jU
open Go.Proofs.Try renaming prog→jd
namespace Go.Proofs.Ytkebegfopnlkhaa
open Go.RowKit Go.Shelf Go.Proofs
def Byts (w:World) (a:Option Addr) (l:List Int):Prop:=0 < l.length→∃ b off,a=some ⟨b,off,none⟩∧b < w.heap.size∧∀ j,j < l.length→w.cell? ⟨b,off+j,none⟩=some (.int .u8 (l.getD j 0))
def BytesAt (W:World) (lo hi:Nat) (v:Value) (xs:List Int):Prop:=(xs=[]∧∃ a cap,v = .slice a 0 cap)∨∃ b cap,v = .slice (some ⟨b,0,none⟩) xs.length cap∧lo≤b∧b < hi∧xs.length≤cap∧xs≠[]∧(∃ cs,W.heap[b]? = some (.cells cs 5 (0,0)))∧∀ j,j < xs.length→W.cell? ⟨b,j,none⟩=some (.int .u8 (xs.getD j 0))∧W.frozen? ⟨b,j,none⟩=false
theorem run_app_none (ka:Option Addr) (c:Nat) (g:Nat) (W:World):(Builtin.append_ #[46,46] 46 #[.slice (some ⟨g,0,none⟩) 0 0,.slice ka 0 c]).run jd W = .ok (.slice (some ⟨g,0,none⟩) 0 0) W:=by
  obtain ⟨i0,hi,_⟩:=info_parts (show (jd.info? 5).map (fun i=>(i.zero,i.size,i.bytes))=some (some (.int .u8 0),1,1) by kernel_rfl)
  cases ka <;> simp [Builtin.append_,run_underlying Try.underlying46,sizeOf,typeInfo,hi,Builtin.lenOf,Builtin.firstCells,storeCells,loadCells,loadCellsFrom]
theorem wp_app {ops:Array Oper} {rest:List Oper} {o:Oper} {a:Act} {Q:Exit→Act→World→Prop} (hgd:o.guard=none) (s x:Operand) (ho:o.op = .call { callee:=.builtin .append,args:=#[s,x],argTypes:=#[46,46] }) (hty:o.type=46)
    (W:World) (g:Nat) (ka:Option Addr) (ks:List Int) (kc:Nat) (hs:a.eval s = .slice (some ⟨g,0,none⟩) 0 0) (hx:a.eval x = .slice ka ks.length kc) (hg:W.heap[g]? = some (.cells #[] 5 (0,0))) (hk:Byts W ka ks) (hl:ks.length≤100000)
    (h:∀ v' w',BytesAt w' g w'.heap.size v' ks→W.grownBy w' (some g)→wpList jd ops Q rest (a.put o.dst v') w'):wpList jd ops Q (o :: rest) a W:=by
  obtain ⟨i0,hi,hz0,hz1,hz2⟩:=info_parts (show (jd.info? 5).map (fun i=>(i.zero,i.size,i.bytes))=some (some (.int .u8 0),1,1) by kernel_rfl)
  have hgl:g < W.heap.size:=(ji.1 hg).1
  have hown:W.ownsRow g 5 1 (.slice (some ⟨g,0,none⟩) 0 0) 0 []:=⟨rfl,.inr ⟨g,0,#[],rfl,jr _,hg,jr _,by decide,rfl,rfl⟩⟩
  by_cases hn:ks=[]
  · subst hn
    refine Lib.wpList_append_run W hgd s x 46 46 ho _ _ hs hx _ W (by rw [hty];exact run_app_none ka kc g W) (h _ _ (.inl ⟨rfl,_,_,rfl⟩) (World.grownBy.refl _ _))
  · have hpos:0 < ks.length:=List.length_pos_iff.2 hn
    obtain ⟨b,off,rfl,hb,hc⟩:=hk hpos
    refine wpList_append_own W hgd s x 46 ho g 5 i0 (.int .u8 0) 1 1 Try.underlying46 hi hz0 hz1 hz2 rfl (by decide) _ 0 [] hs hown ⟨b,off,none⟩ ks.length kc (ks.map fun y=>.int .u8 y) hx (by simp) ?_ ?_ (by unfold maxLen;omega) (by omega) (by omega) ?_
    · intro j u hj
      rw [List.getElem?_map] at hj
      obtain ⟨y,hy,rfl⟩:=Option.map_eq_some_iff.1 hj
      have hjl:j < ks.length:=(List.getElem?_eq_some_iff.1 hy).1
      have:=hc j hjl
      rw [ja,hy] at this
      unfold Addr.add
      split
      · rename_i h0;subst h0;exact this
      · exact this
    · intro u hu
      obtain ⟨y,_,rfl⟩:=List.mem_map.1 hu
      rfl
    · intro v' w' hown' hgr _
      refine h _ _ (.inr ?_) hgr
      rw [jL,List.nil_append] at hown'
      rcases hown'.2 with ⟨_,h0⟩ | ⟨g',cap',cur,rfl,hgg,hgb,hnc,_⟩
      · omega
      · refine ⟨g',cap',rfl,hgg,(ji.1 hgb).1,hnc,hn,⟨_,hgb⟩,fun j hj=>?_⟩
        have e:=hown'.cellAt j (by omega)
        refine ⟨e.trans ?_,hown'.frozenAt j⟩
        simp [ja,hj]
theorem BytesAt.keepT {W W':World} {lo hi:Nat} {v:Value} {xs:List Int} (h:BytesAt W lo hi v xs) (hk:∀ b cs,lo≤b→b < hi→W.heap[b]? = some (.cells cs 5 (0,0))→W'.heap[b]? = W.heap[b]?):BytesAt W' lo hi v xs:=by
  rcases h with h | ⟨b,cap,e,h1,h2,h3,h4,⟨cs,h6⟩,h5⟩
  · exact .inl h
  · have hb:=hk b cs h1 h2 h6
    refine .inr ⟨b,cap,e,h1,h2,h3,h4,⟨cs,hb.trans h6⟩,fun j hj=>?_⟩
    obtain ⟨c1,c2⟩:=h5 j hj
    refine ⟨?_,?_⟩
    · unfold World.cell? at c1 ⊢;simp only [hb];exact c1
    · unfold World.frozen? at c2 ⊢;simp only [hb];exact c2
theorem BytesAt.keep {W W':World} {lo hi:Nat} {v:Value} {xs:List Int} (h:BytesAt W lo hi v xs) (hk:∀ b,lo≤b→b < hi→W'.heap[b]? = W.heap[b]?):BytesAt W' lo hi v xs:=h.keepT fun b _ h1 h2 _=>hk b h1 h2
theorem BytesAt.sl {W:World} {lo hi:Nat} {v:Value} {xs:List Int} (h:BytesAt W lo hi v xs):∃ a c,v = .slice a xs.length c:=by
  rcases h with ⟨rfl,a,c,e⟩ | ⟨b,c,e,_⟩
  · exact ⟨a,c,e⟩
  · exact ⟨_,c,e⟩
set_option maxHeartbeats 4000000 in
theorem One_raw (r:Int) (ka da:Option Addr) (kc dc:Nat) (bad:Bool) (ks ds:List Int) (w:World) (hk:Byts w ka ks) (hd:Byts w da ds) (hkl:ks.length≤100000) (hdl:ds.length≤100000) :
    Calls jd 61 #[.agg #[.int .i64 r,.slice ka ks.length kc,.slice da ds.length dc,.bool bad]] w fun e w'=>∃ kv' dv',e = .returned (.agg #[.int .i64 r,kv',dv',.bool bad])∧Below w.heap.size w w'∧∃ mid,w.heap.size≤mid∧mid≤w'.heap.size∧BytesAt w' w.heap.size mid kv' ks∧BytesAt w' mid w'.heap.size dv' ds:=by
  go_enter Try.func61,Try.ntmps61
  have hBk:∀ W,Below w.heap.size w W→Byts W ka ks:=fun W hW h=>by
    obtain ⟨b,off,e,hb,hc⟩:=hk h
    exact ⟨b,off,e,jW hb hW.size,fun j hj=>(hW.cell (p:=⟨b,off+j,none⟩) hb).trans (hc j hj)⟩
  have hBd:∀ W,Below w.heap.size w W→Byts W da ds:=fun W hW h=>by
    obtain ⟨b,off,e,hb,hc⟩:=hd h
    exact ⟨b,off,e,jW hb hW.size,fun j hj=>(hW.cell (p:=⟨b,off+j,none⟩) hb).trans (hc j hj)⟩
  go_wp2_with (at_builtin;refine wp_app rfl _ _ rfl rfl _ (w.heap.size+1+1) ka ks kc rfl rfl ?hg ?hk hkl ?_)
  case hg =>
    have:=heap_alloc_new ((w.alloc (.cells #[.int .i64 r,.slice ka ks.length kc,.slice da ds.length dc,.bool bad] 59)).alloc (.cells #[.int .i64 0,.slice none 0 0,.slice none 0 0,.bool false] 59)) (.cells #[] 5)
    simpa using this
  case hk=>exact hBk _ ((((Below.refl _ w).alloc (jr _) _).alloc (by simp) _).alloc (by simp;omega) _)
  intro v1 w1 hb1 hg1
  have hs1:w.heap.size+1+1+1≤w1.heap.size:=by have:=hg1.size;simpa using this
  have hA:w1.heap[w.heap.size]? = some (.cells #[.int .i64 r,.slice ka ks.length kc,.slice da ds.length dc,.bool bad] 59 (0,0)):=by
    rw [hg1.block w.heap.size (by simp <;> omega) (by simp <;> omega)]
    rw [Lib.alloc_old _ _ _ (by simp <;> omega),Lib.alloc_old _ _ _ (by simp <;> omega)]
    exact heap_alloc_new w _
  have hB:w1.heap[w.heap.size+1]? = some (.cells #[.int .i64 0,.slice none 0 0,.slice none 0 0,.bool false] 59 (0,0)):=by
    rw [hg1.block (w.heap.size+1) (by simp <;> omega) (by simp <;> omega)]
    rw [Lib.alloc_old _ _ _ (by simp <;> omega)]
    have:=heap_alloc_new (w.alloc (.cells #[.int .i64 r,.slice ka ks.length kc,.slice da ds.length dc,.bool bad] 59)) (.cells #[.int .i64 0,.slice none 0 0,.slice none 0 0,.bool false] 59)
    simpa using this
  have hL1:Below w.heap.size w w1:=by
    refine Below.grown ((((Below.refl _ w).alloc (jr _) _).alloc (by simp) _).alloc (by simp;omega) _) hg1 (by simp;omega) (fun k hk=>?_)
    simp at hk;omega
  clear hg1
  have a1:w1.cell? ⟨w.heap.size,1,none⟩=some (.slice ka ks.length kc):=by rw [Lib.cell_of_heap hA];rfl
  have f1:w1.frozen? ⟨w.heap.size,1,none⟩=false:=Lib.frozen_of_heap hA 1
  obtain ⟨p1,q1,rfl⟩:=hb1.sl
  obtain ⟨w2,hw2⟩:∃ w2,w1.setCell ⟨w.heap.size,1,none⟩ (.slice p1 ks.length q1)=w2:=⟨_,rfl⟩
  have hs2:w2.heap.size=w1.heap.size:=by rw [← hw2];simp
  have hL2:Below w.heap.size w w2:=by rw [← hw2];exact hL1.setCell (p:=⟨w.heap.size,1,none⟩) (jr _) _
  have hA2:w2.heap[w.heap.size]? = some (.cells #[.int .i64 r,.slice p1 ks.length q1,.slice da ds.length dc,.bool bad] 59 (0,0)):=by
    rw [← hw2,heap_setCell_same w1 w.heap.size 1 _ 59 _ hA];rfl
  have hB2:w2.heap[w.heap.size+1]? = some (.cells #[.int .i64 0,.slice none 0 0,.slice none 0 0,.bool false] 59 (0,0)):=by
    rw [← hw2,heap_setCell_other w1 _ _ _ (by simp)];exact hB
  have hb2:BytesAt w2 (w.heap.size+1+1) w1.heap.size (.slice p1 ks.length q1) ks:=hb1.keep fun b h1 h2=>by rw [← hw2,heap_setCell_other w1 _ _ _ (by simp;omega)]
  have a2:w2.cell? ⟨w.heap.size,2,none⟩=some (.slice da ds.length dc):=by rw [Lib.cell_of_heap hA2];rfl
  have hlt:w.heap.size < w2.heap.size:=by omega
  rw [← hs2] at hb2
  clear hA hB hL1 hb1
  have a3:(w2.alloc (.cells #[] 5)).cell? ⟨w.heap.size,2,none⟩=some (.slice da ds.length dc):=by
    rw [World.cell?_of_block (Lib.alloc_old _ _ _ hlt)];exact a2
  go_wp2_with (first | rw [hw2] | (at_builtin;refine wp_app rfl _ _ rfl rfl _ w1.heap.size da ds dc rfl rfl ?hg2 ?hk2 hdl ?_))
  case hg2=>rw [← hs2];exact heap_alloc_new w2 _
  case hk2=>exact hBd _ (hL2.alloc (by omega) _)
  intro v3 w3 hb3 hg3
  have hs3:w1.heap.size+1≤w3.heap.size:=by have:=hg3.size;simp [hs2] at this;exact this
  have hA3:w3.heap[w.heap.size]? = some (.cells #[.int .i64 r,.slice p1 ks.length q1,.slice da ds.length dc,.bool bad] 59 (0,0)):=by
    rw [hg3.block w.heap.size (by simp;omega) (by simp;omega),Lib.alloc_old _ _ _ hlt];exact hA2
  have hB3:w3.heap[w.heap.size+1]? = some (.cells #[.int .i64 0,.slice none 0 0,.slice none 0 0,.bool false] 59 (0,0)):=by
    rw [hg3.block (w.heap.size+1) (by simp;omega) (by simp;omega),Lib.alloc_old _ _ _ (by omega)];exact hB2
  have hk3:BytesAt w3 (w.heap.size+1+1) w1.heap.size (.slice p1 ks.length q1) ks:=by
    rw [hs2] at hb2
    exact hb2.keep fun b h1 h2=>by rw [hg3.block b (by simp;omega) (by simp;omega),Lib.alloc_old _ _ _ (by omega)]
  have hL3:Below w.heap.size w w3:=Below.grown (hL2.alloc (by omega) _) hg3 (by simp;omega) (fun k hk=>by simp at hk;omega)
  clear hg3 hA2 hB2 hb2 hL2 a2 a3 hw2 hBk hBd
  obtain ⟨p3,q3,rfl⟩:=hb3.sl
  have a4:w3.cell? ⟨w.heap.size,2,none⟩=some (.slice da ds.length dc):=by rw [Lib.cell_of_heap hA3];rfl
  have f4:w3.frozen? ⟨w.heap.size,2,none⟩=false:=Lib.frozen_of_heap hA3 2
  obtain ⟨w4,hw4⟩:∃ w4,w3.setCell ⟨w.heap.size,2,none⟩ (.slice p3 ds.length q3)=w4:=⟨_,rfl⟩
  have hs4:w4.heap.size=w3.heap.size:=by rw [← hw4];simp
  have hL4:Below w.heap.size w w4:=by rw [← hw4];exact hL3.setCell (p:=⟨w.heap.size,2,none⟩) (jr _) _
  have hA4:w4.heap[w.heap.size]? = some (.cells #[.int .i64 r,.slice p1 ks.length q1,.slice p3 ds.length q3,.bool bad] 59 (0,0)):=by
    rw [← hw4,heap_setCell_same w3 w.heap.size 2 _ 59 _ hA3];rfl
  have hB4:w4.heap[w.heap.size+1]? = some (.cells #[.int .i64 0,.slice none 0 0,.slice none 0 0,.bool false] 59 (0,0)):=by
    rw [← hw4,heap_setCell_other w3 _ _ _ (by simp)];exact hB3
  have hk4:BytesAt w4 (w.heap.size+1+1) w1.heap.size (.slice p1 ks.length q1) ks:=hk3.keep fun b h1 h2=>by rw [← hw4,heap_setCell_other w3 _ _ _ (by simp;omega)]
  have hd4:BytesAt w4 w1.heap.size w3.heap.size (.slice p3 ds.length q3) ds:=hb3.keep fun b h1 h2=>by rw [← hw4,heap_setCell_other w3 _ _ _ (by simp;omega)]
  clear hA3 hB3 hk3 hb3 hL3
  have r0:w4.cell? ⟨w.heap.size,0,none⟩=some (.int .i64 r):=by rw [Lib.cell_of_heap hA4];rfl
  have r1:w4.cell? ⟨w.heap.size,1,none⟩=some (.slice p1 ks.length q1):=by rw [Lib.cell_of_heap hA4];rfl
  have r2:w4.cell? ⟨w.heap.size,2,none⟩=some (.slice p3 ds.length q3):=by rw [Lib.cell_of_heap hA4];rfl
  have r3:w4.cell? ⟨w.heap.size,3,none⟩=some (.bool bad):=by rw [Lib.cell_of_heap hA4];rfl
  have t0:w4.cell? ⟨w.heap.size+1,0,none⟩=some (.int .i64 0):=by rw [Lib.cell_of_heap hB4];rfl
  have t1:w4.cell? ⟨w.heap.size+1,1,none⟩=some (.slice none 0 0):=by rw [Lib.cell_of_heap hB4];rfl
  have t2:w4.cell? ⟨w.heap.size+1,2,none⟩=some (.slice none 0 0):=by rw [Lib.cell_of_heap hB4];rfl
  have t3:w4.cell? ⟨w.heap.size+1,3,none⟩=some (.bool false):=by rw [Lib.cell_of_heap hB4];rfl
  have g0:∀ j,w4.frozen? ⟨w.heap.size+1,j,none⟩=false:=Lib.frozen_of_heap hB4
  go_wp2_with (rw [hw4])
  obtain ⟨w5,hw5⟩:∃ w5,((((w4.setCell ⟨w.heap.size+1,0,none⟩ (.int .i64 r)).setCell ⟨w.heap.size+1,1,none⟩ (.slice p1 ks.length q1)).setCell ⟨w.heap.size+1,2,none⟩ (.slice p3 ds.length q3)).setCell ⟨w.heap.size+1,3,none⟩ (.bool bad))=w5:=⟨_,rfl⟩
  rw [hw5]
  have hB5:w5.heap[w.heap.size+1]? = some (.cells #[.int .i64 r,.slice p1 ks.length q1,.slice p3 ds.length q3,.bool bad] 59 (0,0)):=by
    rw [← hw5,heap_setCell_same _ _ _ _ 59 _ (heap_setCell_same _ _ _ _ 59 _ (heap_setCell_same _ _ _ _ 59 _ (heap_setCell_same _ _ _ _ 59 _ hB4)))];rfl
  have ho5:∀ b,b≠w.heap.size+1→w5.heap[b]? = w4.heap[b]? := fun b hb=>by
    rw [← hw5,heap_setCell_other _ _ _ _ (by simpa using hb),heap_setCell_other _ _ _ _ (by simpa using hb),heap_setCell_other _ _ _ _ (by simpa using hb),heap_setCell_other _ _ _ _ (by simpa using hb)]
  have hs5:w5.heap.size=w3.heap.size:=by rw [← hw5];simp [hs4]
  have hL5:Below w.heap.size w w5:=by
    rw [← hw5]
    exact (((hL4.setCell (p:=⟨w.heap.size+1,0,none⟩) (by simp) _).setCell (p:=⟨w.heap.size+1,1,none⟩) (by simp) _).setCell (p:=⟨w.heap.size+1,2,none⟩) (by simp) _).setCell (p:=⟨w.heap.size+1,3,none⟩) (by simp) _
  have u0:w5.cell? ⟨w.heap.size+1,0,none⟩=some (.int .i64 r):=by rw [Lib.cell_of_heap hB5];rfl
  have u1:w5.cell? ⟨w.heap.size+1,1,none⟩=some (.slice p1 ks.length q1):=by rw [Lib.cell_of_heap hB5];rfl
  have u2:w5.cell? ⟨w.heap.size+1,2,none⟩=some (.slice p3 ds.length q3):=by rw [Lib.cell_of_heap hB5];rfl
  have u3:w5.cell? ⟨w.heap.size+1,3,none⟩=some (.bool bad):=by rw [Lib.cell_of_heap hB5];rfl
  refine bodyPost_ret (v:=.agg #[.int .i64 r,.slice p1 ks.length q1,.slice p3 ds.length q3,.bool bad]) ?_ rfl ?_
  · simp [results,Try.f61,go_sem,u0,u1,u2,u3]
    trace_state
  · refine ⟨_,_,rfl,hL5,w1.heap.size,by omega,by omega,?_,?_⟩
    · have:=hk4.keep (W':=w5) fun b h1 h2=>ho5 b (by omega)
      rcases this with h | ⟨b,cap,e,h1,h2,h3⟩
      · exact .inl h
      · exact .inr ⟨b,cap,e,by omega,h2,h3⟩
    · rw [hs5]
      exact hd4.keep fun b h1 h2=>ho5 b (by omega)
abbrev Rc:=Int×List Int×List Int×Bool
inductive Recs (W:World) (lo:Nat):Nat→List Rc→List Value→Prop
  | nil (hi:Nat):Recs W lo hi [] []
  | snoc (a m e hi:Nat) (xs:List Rc) (cs:List Value) (r:Int) (ks ds:List Int) (b:Bool) (kv dv:Value) (h:Recs W lo a xs cs) (hlo:lo≤a) (h1:a≤m) (h2:m≤e) (h3:e≤hi) (hk:BytesAt W a m kv ks) (hd:BytesAt W m e dv ds) :
      Recs W lo hi (xs ++ [(r,ks,ds,b)]) (cs ++ [.int .i64 r,kv,dv,.bool b])
theorem Recs.keepT {W W':World} {lo hi:Nat} {xs:List Rc} {cs:List Value} (h:Recs W lo hi xs cs) (hk:∀ b c,lo≤b→b < hi→W.heap[b]? = some (.cells c 5 (0,0))→W'.heap[b]? = W.heap[b]?):Recs W' lo hi xs cs:=by
  induction h with
  | nil hi=>exact .nil hi
  | snoc a m e hi xs cs r ks ds b kv dv h hlo h1 h2 h3 hk1 hd1 ih =>
    exact .snoc a m e hi xs cs r ks ds b kv dv (ih fun b c q1 q2 q3=>hk b c q1 (by omega) q3) hlo h1 h2 h3 (hk1.keepT fun b c q1 q2 q3=>hk b c (by omega) (by omega) q3) (hd1.keepT fun b c q1 q2 q3=>hk b c (by omega) (by omega) q3)
theorem Recs.up {W:World} {lo hi hi':Nat} {xs:List Rc} {cs:List Value} (h:Recs W lo hi xs cs) (hh:hi≤hi'):Recs W lo hi' xs cs:=by
  cases h with
  | nil=>exact .nil _
  | snoc a m e _ xs cs r ks ds b kv dv h hlo h1 h2 h3 hk1 hd1=>exact .snoc a m e hi' xs cs r ks ds b kv dv h hlo h1 h2 (by omega) hk1 hd1
def RcSrc (w:World) (a:Option Addr) (xs:List Rc):Prop:=0 < xs.length→∃ b off,a=some ⟨b,off,none⟩∧b < w.heap.size∧∀ j (h:j < xs.length),∃ ka kc da dc,w.cell? ⟨b,off+j * 4,none⟩=some (.int .i64 xs[j].1)∧w.cell? ⟨b,off+j * 4+1,none⟩=some (.slice ka xs[j].2.1.length kc)∧w.cell? ⟨b,off+j * 4+2,none⟩=some (.slice da xs[j].2.2.1.length dc)∧w.cell? ⟨b,off+j * 4+3,none⟩=some (.bool xs[j].2.2.2)∧Byts w ka xs[j].2.1∧Byts w da xs[j].2.2.1
theorem Byts.below {w W:World} {a:Option Addr} {l:List Int} (h:Byts w a l) (hW:Below w.heap.size w W):Byts W a l:=fun hl=>by
  obtain ⟨b,off,e,hb,hc⟩:=h hl
  exact ⟨b,off,e,jW hb hW.size,fun j hj=>(hW.cell (p:=⟨b,off+j,none⟩) hb).trans (hc j hj)⟩
theorem owns_keep {W W':World} {B:Nat} {e:TypeId} {size n:Nat} {v:Value} {cs:List Value} (h:W.ownsRow B e size v n cs) (hk:∀ b,b < W.heap.size→W'.heap[b]? = W.heap[b]?):W'.ownsRow B e size v n cs:=by
  refine ⟨h.1,?_⟩
  rcases h.2 with q | ⟨g,cap,cur,q1,q2,q3,q4⟩
  · exact .inl q
  · exact .inr ⟨g,cap,cur,q1,q2,(hk g (ji.1 q3).1).trans q3,q4⟩
set_option maxHeartbeats 4000000 in
theorem Copy_raw (xs:List Rc) (a:Option Addr) (cap:Nat) (w:World) (hx:RcSrc w a xs) (hn:xs.length≤100000) (hb:∀ x∈xs,x.2.1.length≤100000∧x.2.2.1.length≤100000) :
    Calls jd 33 #[.slice a xs.length cap] w fun e w'=>∃ v,e = .returned v∧Below w.heap.size w w'∧∃ cs,w'.ownsRow w.heap.size 59 4 v xs.length cs∧Recs w' w.heap.size w'.heap.size xs cs:=by
  have e61:∀ args w,(callFunc 61 args).run jd w = .ok (.enter 61 args) w:=enters_of Try.func61 (by kernel_rfl) rfl
  obtain ⟨i0,hi,hz0,hz1,hz2⟩:=info_parts (show (jd.info? 59).map (fun i=>(i.zero,i.size,i.bytes))=some (some (.agg #[.int .i64 0,.slice none 0 0,.slice none 0 0,.bool false]),4,64) by kernel_rfl)
  go_enter Try.func33,Try.ntmps33
  go_wp2
  go_loopw [3,4] (fun v i wr=>∃ k:Nat,k≤xs.length∧i = .int .i64 k∧∃ cs,wr.ownsRow w.heap.size 59 4 v k cs∧Recs wr w.heap.size wr.heap.size (xs.take k) cs∧Below w.heap.size w wr) (fun _ i _=>xs.length - (intOf i).toNat)
  case atStart=>exact ⟨0,Jp _,rfl,[],⟨rfl,.inl ⟨rfl,rfl⟩⟩,.nil _,Below.refl _ _⟩
  case round =>
    obtain ⟨k,hk,rfl,cs,hown,hrec,hL⟩:=hrel
    by_cases hlt:k < xs.length
    · obtain ⟨b,off,rfl,hbw,hcl⟩:=hx (by omega)
      obtain ⟨ka,kc,da,dc,c0,c1,c2,c3,hka,hda⟩:=hcl k hlt
      have d0:=(hL.cell (p:=⟨b,off+k * 4,none⟩) hbw).trans c0
      have d1:=(hL.cell (p:=⟨b,off+k * 4+1,none⟩) hbw).trans c1
      have d2:=(hL.cell (p:=⟨b,off+k * 4+2,none⟩) hbw).trans c2
      have d3:=(hL.cell (p:=⟨b,off+k * 4+3,none⟩) hbw).trans c3
      have hbk:=hb xs[k] (jm hlt)
      go_wp2_with (go_at_call 61;refine (One_raw _ _ _ _ _ _ _ _ wr (hka.below hL) (hda.below hL) hbk.1 hbk.2).mono ?_)
      rintro e w1 ⟨kv',dv',rfl,hb1,mid,m1,m2,hkk,hdd⟩
      obtain ⟨p1,q1,rfl⟩:=hkk.sl
      obtain ⟨p2,q2,rfl⟩:=hdd.sl
      have hs1:wr.heap.size≤w1.heap.size:=hb1.size
      have hown1:w1.ownsRow w.heap.size 59 4 u3 k cs:=owns_keep hown fun b hb=>hb1.block b hb
      have hrec1:Recs w1 w.heap.size wr.heap.size (xs.take k) cs:=hrec.keepT fun b c _ h2 _=>hb1.block b h2
      have hL1:Below w.heap.size w w1:=hL.trans (hb1.mono hL.size)
      go_wp2_with (at_builtin;refine wpList_append_own _ rfl _ _ 57 rfl w.heap.size 59 i0 (.agg #[.int .i64 0,.slice none 0 0,.slice none 0 0,.bool false]) 4 64 Try.underlying57 hi hz0 hz1 hz2 rfl (by decide) _ k cs rfl ?hown ⟨w1.heap.size,0,none⟩ 1 1 [.int .i64 xs[k].1,.slice p1 xs[k].2.1.length q1,.slice p2 xs[k].2.2.1.length q2,.bool xs[k].2.2.2] rfl rfl ?c1 ?c2 ?c3 ?c4 ?c5 ?_)
      case hown=>exact hown1.alloc _
      case c1 =>
        intro j u hj
        match j,hj with
        | 0,hj=>simp at hj;subst hj;simp [Addr.add]
        | 1,hj=>simp at hj;subst hj;simp [Addr.add]
        | 2,hj=>simp at hj;subst hj;simp [Addr.add]
        | 3,hj=>simp at hj;subst hj;simp [Addr.add]
      case c2 =>
        intro u hu
        simp only [List.mem_cons,List.not_mem_nil,or_false] at hu
        rcases hu with rfl | rfl | rfl | rfl <;> rfl
      case c3=>unfold maxLen;omega
      case c4=>omega
      case c5=>have:=hL1.size;simp;omega
      intro v' w2 hown2 hgr _
      have hne:∀ (b:Nat) (c:Array Value),w1.heap[b]? = some (Obj.cells c 5 (0,0))→some b≠u3.ownBlock:=fun b c hbc he=>by
        rcases hown1.2 with ⟨q,_⟩ | ⟨g,cap',cur,q,_,q3,_⟩
        · rw [q] at he;cases he
        · rw [q] at he
          have:b=g:=by simpa [Value.ownBlock] using he
          subst this
          rw [hbc] at q3
          simp at q3
      have hs2:w1.heap.size+1≤w2.heap.size:=by have:=hgr.size;simpa using this
      have hkeep:∀ (b:Nat) (c:Array Value),w1.heap[b]? = some (Obj.cells c 5 (0,0))→w2.heap[b]? = w1.heap[b]? := fun b c hbc=>by
        have hbl:b < w1.heap.size:=(ji.1 hbc).1
        rw [hgr.block b (by simp;omega) (hne b c hbc),Lib.alloc_old _ _ _ hbl]
      have hL2:Below w.heap.size w w2:=Below.grown (hL1.alloc (by have:=hL1.size;omega) _) hgr (by have:=hL1.size;simp;omega) (fun k hk=>(hown1.lt k hk).1)
      have hrec2:Recs w2 w.heap.size w2.heap.size (xs.take (k+1)) (cs ++ [.int .i64 xs[k].1,.slice p1 xs[k].2.1.length q1,.slice p2 xs[k].2.2.1.length q2,.bool xs[k].2.2.2]):=by
        rw [List.take_succ_eq_append_getElem hlt]
        exact .snoc wr.heap.size mid w1.heap.size w2.heap.size _ _ _ _ _ _ _ _ (hrec1.keepT fun b c _ _ h=>hkeep b c h) hL.size m1 m2 (by omega) (hkk.keepT fun b c _ _ h=>hkeep b c h) (hdd.keepT fun b c _ _ h=>hkeep b c h)
      go_wp2
      exact ⟨⟨k+1,hlt,by go_num,_,hown2,hrec2,hL2⟩,by simp [intOf];omega⟩
    · obtain rfl:k=xs.length:=by omega
      rw [List.take_length] at hrec
      go_wp2
      go_ret
      exact ⟨_,rfl,hL,cs,hown,hrec⟩
def TrkAt (W:World) (a e:Nat) (tv:Value) (xs:List Rc):Prop:=∃ cs,W.ownsRow a 59 4 tv xs.length cs∧Recs W a e xs cs∧∀ g,tv.ownBlock=some g→g < e
theorem TrkAt.keepT {W W':World} {a e:Nat} {tv:Value} {xs:List Rc} (h:TrkAt W a e tv xs) (hk:∀ b c t,a≤b→b < e→W.heap[b]? = some (.cells c t (0,0))→(t=5∨t=59)→W'.heap[b]? = W.heap[b]?):TrkAt W' a e tv xs:=by
  obtain ⟨cs,h1,h2,h3⟩:=h
  refine ⟨cs,⟨h1.1,?_⟩,h2.keepT fun b c q1 q2 q3=>hk b c 5 q1 q2 q3 (.inl rfl),h3⟩
  rcases h1.2 with q | ⟨g,cap,cur,q1,q2,q3,q4⟩
  · exact .inl q
  · subst q1
    exact .inr ⟨g,cap,cur,rfl,q2,(hk g cur 59 q2 (h3 g rfl) q3 (.inr rfl)).trans q3,q4⟩
theorem TrkAt.up {W:World} {a e e':Nat} {tv:Value} {xs:List Rc} (h:TrkAt W a e tv xs) (he:e≤e'):TrkAt W a e' tv xs:=by
  obtain ⟨cs,h1,h2,h3⟩:=h
  exact ⟨cs,h1,h2.up he,fun g hg=>jW (h3 g hg) he⟩
def Trks (W:World) (lo hi:Nat) (ts:List (List Rc)) (cells:List Value):Prop:=∃ L:Nat→Nat,lo≤L 0∧(∀ j,j < ts.length→L j≤L (j+1))∧L ts.length≤hi∧cells.length=ts.length∧∀ j (h:j < ts.length),TrkAt W (L j) (L (j+1)) (cells.getD j undef) ts[j]
theorem mono_of {L:Nat→Nat} {n:Nat} (h:∀ j,j < n→L j≤L (j+1)):∀ {i j:Nat},i≤j→j≤n→L i≤L j:=by
  intro i j hij hj
  induction j with
  | zero=>rw [Nat.le_zero.1 hij];exact jr _
  | succ j ih =>
    rcases jI i (j+1) with q | q
    · exact jU (ih (by omega) (by omega)) (h j (by omega))
    · rw [show i=j+1 by omega];exact jr _
theorem Trks.keepT {W W':World} {lo hi:Nat} {ts:List (List Rc)} {cells:List Value} (h:Trks W lo hi ts cells) (hk:∀ b c t,lo≤b→b < hi→W.heap[b]? = some (.cells c t (0,0))→(t=5∨t=59)→W'.heap[b]? = W.heap[b]?):Trks W' lo hi ts cells:=by
  obtain ⟨L,h1,h2,h3,h4,h5⟩:=h
  refine ⟨L,h1,h2,h3,h4,fun j hj=>(h5 j hj).keepT fun b c t q1 q2 q3 q4=>hk b c t ?_ ?_ q3 q4⟩
  · have:=mono_of h2 (Jp j) (by omega);omega
  · have:=mono_of h2 (show j+1≤ts.length by omega) (jr _);omega
theorem Trks.snoc {W:World} {lo hi hi' a e:Nat} {ts:List (List Rc)} {cells:List Value} {x:List Rc} {tv:Value} (h:Trks W lo hi ts cells) (ha:hi≤a) (hlo:lo≤a) (hae:a≤e) (he:e≤hi') (ht:TrkAt W a e tv x):Trks W lo hi' (ts ++ [x]) (cells ++ [tv]):=by
  obtain ⟨L,h1,h2,h3,h4,h5⟩:=h
  refine ⟨fun j=>if j < ts.length then L j else if j=ts.length then a else e,?_,?_,?_,?_,?_⟩
  · dsimp only
    split
    · exact h1
    · split <;> omega
  · intro j hj
    rw [jg,jE,jV] at hj
    dsimp only
    rcases jI (j+1) ts.length with q | q
    · rw [if_pos (by omega),if_pos q];exact h2 j (by omega)
    · rcases jI j ts.length with q' | q'
      · have e1:j+1=ts.length:=by omega
        rw [if_pos q',if_neg (by omega),if_pos e1]
        have:=h2 j q'
        rw [e1] at this;omega
      · rw [if_neg (by omega),if_pos (by omega),if_neg (by omega),if_neg (by omega)];exact hae
  · rw [jg,jE,jV]
    dsimp only
    rw [if_neg (by omega),if_neg (by omega)];exact he
  · simp [h4]
  · intro j hj
    rw [jg,jE,jV] at hj
    dsimp only
    rcases jI j ts.length with q | q
    · have hc:(cells ++ [tv]).getD j undef=cells.getD j undef:=by
        simp only [ja]
        rw [js (by omega)]
      rw [hc,List.getElem_append_left q]
      rcases jI (j+1) ts.length with q2 | q2
      · rw [if_pos q,if_pos q2];exact h5 j q
      · have e1:j+1=ts.length:=by omega
        rw [if_pos q,if_neg (by omega),if_pos e1]
        refine (h5 j q).up ?_
        rw [e1];omega
    · obtain rfl:j=ts.length:=by omega
      rw [if_neg (by omega),if_pos rfl,if_neg (by omega),if_neg (by omega)]
      have hc:(cells ++ [tv]).getD ts.length undef=tv:=by
        simp only [ja]
        rw [jw (by omega)]
        simp [h4]
      rw [hc,List.getElem_append_right (jr _)]
      simpa using ht
theorem Recs.recD {W:World} {lo hi g n:Nat} {xs:List Rc} {cs:List Value} (h:Recs W lo hi xs cs):cs.length=xs.length * 4∧∀ j (hj:j < xs.length),∃ kv dv,cs[4 * j]? = some (.int .i64 xs[j].1)∧cs[4 * j+1]? = some kv∧cs[4 * j+2]? = some dv∧cs[4 * j+3]? = some (.bool xs[j].2.2.2)∧∃ a m e,lo≤a∧a≤m∧m≤e∧e≤hi∧BytesAt W a m kv xs[j].2.1∧BytesAt W m e dv xs[j].2.2.1:=by
  induction h with
  | nil hi=>exact ⟨rfl,fun j hj=>by simp at hj⟩
  | snoc a m e hi xs cs r ks ds b kv dv h hlo h1 h2 h3 hk hd ih =>
    obtain ⟨ih1,ih2⟩:=ih
    refine ⟨by simp [ih1];omega,fun j hj=>?_⟩
    rw [jg,jE,jV] at hj
    rcases jI j xs.length with q | q
    · obtain ⟨kv',dv',c0,c1,c2,c3,a',m',e',q1,q2,q3,q4,q5,q6⟩:=ih2 j q
      rw [List.getElem_append_left q]
      exact ⟨kv',dv',by rw [js (by omega)];exact c0,by rw [js (by omega)];exact c1,by rw [js (by omega)];exact c2,by rw [js (by omega)];exact c3,a',m',e',q1,q2,q3,by omega,q5,q6⟩
    · obtain rfl:j=xs.length:=by omega
      rw [List.getElem_append_right (jr _)]
      simp only [Nat.sub_self,List.getElem_cons_zero]
      have e0:4 * xs.length=cs.length:=by omega
      refine ⟨kv,dv,?_,?_,?_,?_,a,m,e,hlo,h1,h2,h3,hk,hd⟩
      · rw [e0,jw (jr _)];simp
      · rw [e0,jw (by omega)];simp
      · rw [e0,jw (by omega)];simp
      · rw [e0,jw (by omega)];simp
end Go.Proofs.Ytkebegfopnlkhaa
/-
  ch. 39: memory of the form of tracks, whatever lies in it.
-/
namespace Go.Proofs.Ytkebegfopnlkhaa
open Go.RowKit Go.Shelf Go.Proofs
def inI (i:Int):Prop:=-9223372036854775808≤i∧i≤9223372036854775807
def TB (W:World) (lo:Nat) (v:Value):Prop:=∃ (a:Option Addr) (n c:Nat),v = .slice a n c∧n≤2000∧n≤c∧(0 < n→∃ b off cur,a=some ⟨b,off,none⟩∧lo≤b∧W.heap[b]? = some (.cells cur 5 (0,0))∧∀ j,j < n→∃ i:Int,cur[off+j]? = some (.int .u8 i)∧0≤i∧i≤255)
def FT (W:World) (lo:Nat):Nat→Value→Prop
  | 0,u=>∃ i,u = .int .i64 i∧inI i
  | 1,u=>TB W lo u
  | 2,u=>TB W lo u
  | _,u=>∃ b,u = .bool b
def TR (W:World) (lo b o:Nat):Prop:=o % 4=0∧∃ cur,W.heap[b]? = some (.cells cur 59 (0,0))∧∀ f,f < 4→∃ u,cur[o+f]? = some u∧FT W lo f u
def TT (W:World) (lo:Nat) (v:Value):Prop:=∃ (a:Option Addr) (n c:Nat),v = .slice a n c∧n≤300∧n≤c∧(0 < n→∃ b off,a=some ⟨b,off,none⟩∧lo≤b∧∀ j,j < n→TR W lo b (off+4 * j))
def TX (m:Nat) (W:World) (lo:Nat) (v:Value):Prop:=∃ (a:Option Addr) (n c:Nat),v = .slice a n c∧n≤m∧n≤c∧(0 < n→∃ b off cur,a=some ⟨b,off,none⟩∧lo≤b∧W.heap[b]? = some (.cells cur 57 (0,0))∧∀ j,j < n→∃ tv,cur[off+j]? = some tv∧TT W lo tv)
def OkC (W:World) (lo:Nat) (t:TypeId) (o:Nat) (v:Value):Prop:=(t=5→∃ i:Int,v = .int .u8 i∧0≤i∧i≤255)∧(t=59→FT W lo (o % 4) v)∧(t=57→TT W lo v)
def Ev (lo:Nat) (W W':World) (ts:List TypeId):Prop:=∀ (b:Nat) (cur:Array Value) (t:TypeId),lo≤b→t∈ts→W.heap[b]? = some (.cells cur t (0,0))→∃ cur',W'.heap[b]? = some (.cells cur' t (0,0))∧∀ j u,cur[j]? = some u→∃ u',cur'[j]? = some u'∧(u'=u∨OkC W' lo t j u')
theorem Ev.sub {lo:Nat} {W W':World} {ts ts':List TypeId} (h:Ev lo W W' ts) (hs:∀ t∈ts',t∈ts):Ev lo W W' ts':=fun b cur t hb ht=>h b cur t hb (hs t ht)
theorem TB.ev {W W':World} {lo:Nat} {v:Value} (h:TB W lo v) (he:Ev lo W W' [5]):TB W' lo v:=by
  obtain ⟨a,n,c,rfl,h1,h2,h3⟩:=h
  refine ⟨a,n,c,rfl,h1,h2,fun hn=>?_⟩
  obtain ⟨b,off,cur,rfl,hb,hc,hj⟩:=h3 hn
  obtain ⟨cur',hc',hj'⟩:=he b cur 5 hb (by simp) hc
  refine ⟨b,off,cur',rfl,hb,hc',fun j hjn=>?_⟩
  obtain ⟨i,hi,hr⟩:=hj j hjn
  obtain ⟨u',hu,hu'⟩:=hj' _ _ hi
  rcases hu' with rfl | hu'
  · exact ⟨i,hu,hr⟩
  · obtain ⟨i',rfl,hr'⟩:=hu'.1 rfl
    exact ⟨i',hu,hr'⟩
theorem FT.ev {W W':World} {lo f:Nat} {v:Value} (h:FT W lo f v) (he:Ev lo W W' [5]):FT W' lo f v:=by
  match f,h with
  | 0,h=>exact h
  | 1,h=>exact TB.ev h he
  | 2,h=>exact TB.ev h he
  | _+3,h=>exact h
theorem TR.ev {W W':World} {lo b o:Nat} (h:TR W lo b o) (hb:lo≤b) (he:Ev lo W W' [5,59]):TR W' lo b o:=by
  obtain ⟨h0,cur,hc,hf⟩:=h
  obtain ⟨cur',hc',hj'⟩:=he b cur 59 hb (by simp) hc
  refine ⟨h0,cur',hc',fun f hf4=>?_⟩
  obtain ⟨u,hu,hft⟩:=hf f hf4
  obtain ⟨u',hu',hor⟩:=hj' _ _ hu
  rcases hor with rfl | hor
  · exact ⟨_,hu',hft.ev (he.sub (by simp))⟩
  · have:=hor.2.1 rfl
    rw [show (o+f) % 4=f by omega] at this
    exact ⟨_,hu',this⟩
theorem TT.ev {W W':World} {lo:Nat} {v:Value} (h:TT W lo v) (he:Ev lo W W' [5,59]):TT W' lo v:=by
  obtain ⟨a,n,c,rfl,h1,h2,h3⟩:=h
  refine ⟨a,n,c,rfl,h1,h2,fun hn=>?_⟩
  obtain ⟨b,off,rfl,hb,hj⟩:=h3 hn
  exact ⟨b,off,rfl,hb,fun j hjn=>(hj j hjn).ev hb he⟩
theorem TX.ev {m:Nat} {W W':World} {lo:Nat} {v:Value} (h:TX m W lo v) (he:Ev lo W W' [5,59,57]):TX m W' lo v:=by
  obtain ⟨a,n,c,rfl,h1,h2,h3⟩:=h
  refine ⟨a,n,c,rfl,h1,h2,fun hn=>?_⟩
  obtain ⟨b,off,cur,rfl,hb,hc,hj⟩:=h3 hn
  obtain ⟨cur',hc',hj'⟩:=he b cur 57 hb (by simp) hc
  refine ⟨b,off,cur',rfl,hb,hc',fun j hjn=>?_⟩
  obtain ⟨tv,hi,hr⟩:=hj j hjn
  obtain ⟨u',hu,hu'⟩:=hj' _ _ hi
  rcases hu' with rfl | hu'
  · exact ⟨_,hu,hr.ev (he.sub (by simp))⟩
  · exact ⟨_,hu,hu'.2.2 rfl⟩
theorem Ev.same {lo:Nat} {W W':World} {ts:List TypeId} (h:∀ b cur t,lo≤b→t∈ts→W.heap[b]? = some (.cells cur t (0,0))→W'.heap[b]? = W.heap[b]?):Ev lo W W' ts :=
  fun b cur t hb ht hc=>⟨cur,(h b cur t hb ht hc).trans hc,fun j u hu=>⟨u,hu,.inl rfl⟩⟩
theorem Ev.set {lo:Nat} {W:World} {ts:List TypeId} {b o:Nat} {cur:Array Value} {t:TypeId} {v:Value} (hc:W.heap[b]? = some (.cells cur t (0,0))) (hv:t∈ts→OkC (W.setCell ⟨b,o,none⟩ v) lo t o v):Ev lo W (W.setCell ⟨b,o,none⟩ v) ts:=by
  intro b' cur' t' hb' ht' hc'
  by_cases e:b'=b
  · subst e
    rw [hc] at hc'
    simp only [Option.some.injEq,Obj.cells.injEq,and_true] at hc'
    obtain ⟨rfl,rfl⟩:=hc'
    refine ⟨_,heap_setCell_same W b' o cur t v hc,fun j u hu=>?_⟩
    by_cases ej:j=o
    · subst ej
      have hj:j < cur.size:=(ji.1 hu).1
      exact ⟨v,by simp [hj],.inr (hv ht')⟩
    · exact ⟨u,by simp [Array.getElem?_setIfInBounds,Ne.symm ej,hu],.inl rfl⟩
  · exact ⟨cur',(heap_setCell_other W ⟨b,o,none⟩ b' v e).trans hc',fun j u hu=>⟨u,hu,.inl rfl⟩⟩
theorem TX.w5 {m:Nat} {W:World} {lo:Nat} {x:Value} {b o:Nat} {cur:Array Value} {i:Int} (h:TX m W lo x) (hc:W.heap[b]? = some (.cells cur 5 (0,0))) (hi:0≤i∧i≤255):TX m (W.setCell ⟨b,o,none⟩ (.int .u8 i)) lo x :=
  h.ev (Ev.set hc fun _=>⟨fun _=>⟨i,rfl,hi⟩,fun e=>(by cases e),fun e=>(by cases e)⟩)
theorem Ev.set59 {lo:Nat} {W:World} {b o:Nat} {cur:Array Value} {v:Value} (hc:W.heap[b]? = some (.cells cur 59 (0,0))) (hv:FT W lo (o % 4) v):Ev lo W (W.setCell ⟨b,o,none⟩ v) [5,59,57] :=
  Ev.set hc fun _=>⟨fun e=>(by cases e),fun _=>hv.ev (Ev.set hc fun e=>(by simp at e)),fun e=>(by cases e)⟩
theorem TX.w59 {m:Nat} {W:World} {lo:Nat} {x:Value} {b o:Nat} {cur:Array Value} {v:Value} (h:TX m W lo x) (hc:W.heap[b]? = some (.cells cur 59 (0,0))) (hv:FT W lo (o % 4) v):TX m (W.setCell ⟨b,o,none⟩ v) lo x:=h.ev (Ev.set59 hc hv)
theorem TT.w57 {W:World} {lo:Nat} {x:Value} {b o:Nat} {cur:Array Value} {v:Value} (h:TT W lo x) (hc:W.heap[b]? = some (.cells cur 57 (0,0))):TT (W.setCell ⟨b,o,none⟩ v) lo x:=h.ev (Ev.set hc fun e=>(by simp at e))
theorem TX.w57 {m:Nat} {W:World} {lo:Nat} {x:Value} {b o:Nat} {cur:Array Value} {v:Value} (h:TX m W lo x) (hc:W.heap[b]? = some (.cells cur 57 (0,0))) (hv:TT W lo v):TX m (W.setCell ⟨b,o,none⟩ v) lo x :=
  h.ev (Ev.set hc fun _=>⟨fun e=>(by cases e),fun e=>(by cases e),fun _=>hv.w57 hc⟩)
theorem Ev.below {lo:Nat} {W W':World} {ts:List TypeId} (h:Below W.heap.size W W'):Ev lo W W' ts:=Ev.same fun b cur t _ _ hc=>h.block b (ji.1 hc).1
theorem Ev.heap {lo:Nat} {W W':World} {ts:List TypeId} (h:W'.heap=W.heap):Ev lo W W' ts:=Ev.same fun b cur t _ _ hc=>by rw [h]
def okRc (r:Rc):Prop:=inI r.1∧(r.2.1.length≤2000∧∀ x∈r.2.1,0≤x∧x≤255)∧(r.2.2.1.length≤2000∧∀ x∈r.2.2.1,0≤x∧x≤255)
theorem TB.ofBytes {W:World} {lo a e:Nat} {v:Value} {xs:List Int} (h:BytesAt W a e v xs) (hlo:lo≤a) (hx:xs.length≤2000∧∀ x∈xs,0≤x∧x≤255):TB W lo v:=by
  rcases h with ⟨rfl,a,c,rfl⟩ | ⟨b,cap,rfl,h1,h2,h3,h4,⟨cs,h5⟩,h6⟩
  · exact ⟨a,0,c,rfl,by omega,by omega,fun h=>by omega⟩
  · refine ⟨_,_,cap,rfl,hx.1,h3,fun _=>⟨b,0,cs,rfl,by omega,h5,fun j hj=>?_⟩⟩
    have h7:=(h6 j hj).1
    rw [Lib.cell_of_heap h5] at h7
    rw [jL]
    refine ⟨_,h7,?_⟩
    rw [ja,jA hj]
    exact hx.2 _ (jm hj)
theorem TT.ofTrk {W:World} {lo a e:Nat} {tv:Value} {xs:List Rc} (h:TrkAt W a e tv xs) (hlo:lo≤a) (hx:xs.length≤300∧∀ r∈xs,okRc r):TT W lo tv:=by
  obtain ⟨cs,ho,hr,_⟩:=h
  rcases ho.2 with ⟨h1,h2⟩ | ⟨g,cap,cur,h1,h2,h3,h4,h5,h6,h7⟩
  · exact ⟨none,0,0,h1,by omega,by omega,fun h=>by omega⟩
  · refine ⟨_,_,cap,h1,hx.1,h4,fun _=>⟨g,0,rfl,by omega,fun j hj=>⟨by omega,cur,h3,fun f hf=>?_⟩⟩⟩
    obtain ⟨kv,dv,c0,c1,c2,c3,a',m',e',q1,q2,q3,q4,q5,q6⟩:=(Recs.recD (g:=0) (n:=0) hr).2 j hj
    have hc:∀ k,k < xs.length * 4→cs[k]? = cur[k]? := fun k hk=>by
      rw [← h7,j6,if_pos hk,Jb]
    obtain ⟨r1,r2,r3⟩:=hx.2 _ (jm hj)
    rw [jL]
    match f,hf with
    | 0,_=>exact ⟨_,(hc _ (by omega)).symm.trans c0,_,rfl,r1⟩
    | 1,_=>exact ⟨_,(hc _ (by omega)).symm.trans c1,TB.ofBytes q5 (by omega) r2⟩
    | 2,_=>exact ⟨_,(hc _ (by omega)).symm.trans c2,TB.ofBytes q6 (by omega) r3⟩
    | 3,_=>exact ⟨_,(hc _ (by omega)).symm.trans c3,_,rfl⟩
theorem TX.ofTrks {m:Nat} {W:World} {lo hi:Nat} {ts:List (List Rc)} {cs:List Value} {v:Value} (h:Trks W lo hi ts cs) (ho:W.ownsRow lo 57 1 v ts.length cs) (hm:ts.length≤m) (hx:∀ t∈ts,t.length≤300∧∀ r∈t,okRc r):TX m W lo v:=by
  obtain ⟨L,hL0,hLm,hLn,hcl,htk⟩:=h
  rcases ho.2 with ⟨h1,h2⟩ | ⟨g,cap,cur,h1,h2,h3,h4,h5,h6,h7⟩
  · exact ⟨none,0,0,h1,by omega,by omega,fun h=>by omega⟩
  · refine ⟨_,_,cap,h1,hm,h4,fun _=>⟨g,0,cur,rfl,h2,h3,fun j hj=>?_⟩⟩
    have hc:cs[j]? = cur[0+j]? := by
      rw [← h7,j6,if_pos (by omega),Jb,jL]
    have hjc:j < cs.length:=by omega
    refine ⟨cs.getD j undef,?_,TT.ofTrk (htk j hj) ?_ (hx _ (jm hj))⟩
    · rw [← hc,ja,jA hjc];rfl
    · exact jU hL0 (mono_of hLm (Jp _) (Nat.le_of_lt hj))
theorem TX.w57s {m lo:Nat} {x:Value} {b:Nat}:∀ (vs:List Value) (o:Nat) (W:World) (cur:Array Value),W.heap[b]? = some (.cells cur 57 (0,0))→(∀ v∈vs,TT W lo v)→TX m W lo x→TX m (W.setCells b o vs) lo x
  | [],_,_,_,_,_,h=>h
  | v :: vs,o,W,cur,hc,hv,h=>TX.w57s vs (o+1) _ _ (heap_setCell_same W b o cur 57 v hc) (fun u hu=>(hv u (by simp [hu])).w57 hc) (h.w57 hc (hv v (by simp)))
theorem TX.cut {m lo:Nat} {W:World} {a:Option Addr} {n n' c:Nat} (h:TX m W lo (.slice a n c)) (hn:n'≤n):TX m W lo (.slice a n' c):=by
  obtain ⟨a',n1,c',e,h1,h2,h3⟩:=h
  simp only [Value.slice.injEq] at e
  obtain ⟨rfl,rfl,rfl⟩:=e
  refine ⟨_,_,_,rfl,by omega,by omega,fun hp=>?_⟩
  obtain ⟨b,off,cur,q1,q2,q3,q4⟩:=h3 (by omega)
  exact ⟨b,off,cur,q1,q2,q3,fun j hj=>q4 j (by omega)⟩
theorem TT.cut {lo:Nat} {W:World} {a:Option Addr} {n n' c:Nat} (h:TT W lo (.slice a n c)) (hn:n'≤n):TT W lo (.slice a n' c):=by
  obtain ⟨a',n1,c',e,h1,h2,h3⟩:=h
  simp only [Value.slice.injEq] at e
  obtain ⟨rfl,rfl,rfl⟩:=e
  refine ⟨_,_,_,rfl,by omega,by omega,fun hp=>?_⟩
  obtain ⟨b,off,q1,q2,q4⟩:=h3 (by omega)
  exact ⟨b,off,q1,q2,fun j hj=>q4 j (by omega)⟩
theorem TB.cut {lo:Nat} {W:World} {a:Option Addr} {n n' c:Nat} (h:TB W lo (.slice a n c)) (hn:n'≤n):TB W lo (.slice a n' c):=by
  obtain ⟨a',n1,c',e,h1,h2,h3⟩:=h
  simp only [Value.slice.injEq] at e
  obtain ⟨rfl,rfl,rfl⟩:=e
  refine ⟨_,_,_,rfl,by omega,by omega,fun hp=>?_⟩
  obtain ⟨b,off,cur,q1,q2,q3,q4⟩:=h3 (by omega)
  exact ⟨b,off,cur,q1,q2,q3,fun j hj=>q4 j (by omega)⟩
theorem TX.ofOwn {m:Nat} {W:World} {lo n:Nat} {cs:List Value} {v:Value} (ho:W.ownsRow lo 57 1 v n cs) (hm:n≤m) (hx:∀ c∈cs,TT W lo c):TX m W lo v:=by
  have hl:=ho.1
  rcases ho.2 with ⟨h1,h2⟩ | ⟨g,cap,cur,h1,h2,h3,h4,h5,h6,h7⟩
  · exact ⟨none,0,0,h1,by omega,by omega,fun h=>by omega⟩
  · refine ⟨_,_,cap,h1,hm,h4,fun _=>⟨g,0,cur,rfl,h2,h3,fun j hj=>?_⟩⟩
    have hc:cs[j]? = cur[0+j]? := by
      rw [← h7,j6,if_pos (by omega),Jb,jL]
    have hjc:j < cs.length:=by omega
    exact ⟨cs[j],by rw [← hc,jA hjc],hx _ (jm hjc)⟩
theorem Trks.cells {W:World} {lo hi:Nat} {ts:List (List Rc)} {cs:List Value} (h:Trks W lo hi ts cs) (hx:∀ t∈ts,t.length≤300∧∀ r∈t,okRc r):∀ c∈cs,TT W lo c:=by
  obtain ⟨L,hL0,hLm,hLn,hcl,htk⟩:=h
  intro c hc
  obtain ⟨j,hj,rfl⟩:=List.mem_iff_getElem.1 hc
  have hjt:j < ts.length:=by omega
  have:=TT.ofTrk (htk j hjt) (jU hL0 (mono_of hLm (Jp _) (Nat.le_of_lt hjt))) (hx _ (jm hjt))
  rwa [ja,jA hj] at this
theorem Byts.ofBytes {W:World} {a e:Nat} {v:Value} {xs:List Int} (h:BytesAt W a e v xs):∃ p c,v = .slice p xs.length c∧Byts W p xs:=by
  rcases h with ⟨rfl,p,c,rfl⟩ | ⟨b,cap,rfl,h1,h2,h3,h4,⟨cs,h5⟩,h6⟩
  · exact ⟨p,c,rfl,fun h=>by simp at h⟩
  · refine ⟨_,cap,rfl,fun _=>⟨b,0,rfl,(ji.1 h5).1,fun j hj=>?_⟩⟩
    rw [jL];exact (h6 j hj).1
theorem RcSrc.ofTrk {W:World} {a e n q:Nat} {p:Option Addr} {xs:List Rc} (h:TrkAt W a e (.slice p n q) xs):RcSrc W p xs:=by
  obtain ⟨cs,ho,hr,_⟩:=h
  intro hl
  rcases ho.2 with ⟨_,h2⟩ | ⟨g,cap,cur,h1,h2,h3,h4,h5,h6,h7⟩
  · omega
  · simp only [Value.slice.injEq] at h1
    obtain ⟨rfl,_,_⟩:=h1
    refine ⟨g,0,rfl,(ji.1 h3).1,fun j hj=>?_⟩
    obtain ⟨kv,dv,c0,c1,c2,c3,a',m',e',q1,q2,q3,q4,q5,q6⟩:=(Recs.recD (g:=0) (n:=0) hr).2 j hj
    obtain ⟨ka,kc,rfl,hk⟩:=Byts.ofBytes q5
    obtain ⟨da,dc,rfl,hd⟩:=Byts.ofBytes q6
    have hc:∀ k,k < 4→W.cell? ⟨g,0+j * 4+k,none⟩=cs[4 * j+k]? := fun k hk=>by
      rw [Lib.cell_of_heap h3,← h7,j6,if_pos (by omega),Jb]
      congr 1;omega
    exact ⟨ka,kc,da,dc,(hc 0 (by omega)).trans c0,(hc 1 (by omega)).trans c1,(hc 2 (by omega)).trans c2,(hc 3 (by omega)).trans c3,hk,hd⟩
theorem below_setCells {B:Nat} {W0:World} {b:Nat} (hb:B≤b):∀ (vs:List Value) (o:Nat) (W:World),Below B W0 W→Below B W0 (W.setCells b o vs)
  | [],_,_,h=>h
  | v :: vs,o,W,h=>below_setCells hb vs (o+1) _ (h.setCell (p:=⟨b,o,none⟩) hb v)
theorem one_ok {by_:Int} (h:0≤by_∧by_ < 256) (j:Nat) (hj:j < 1):∃ i:Int,(#[Value.int IntKind.u8 by_]:Array Value)[0+j]? = some (.int .u8 i)∧0≤i∧i≤255:=by
  obtain rfl:j=0:=by omega
  exact ⟨by_,rfl,by omega,by omega⟩
theorem xor_range (x y:Int):0≤bits BinOp.xor IntKind.u8 x y∧bits BinOp.xor IntKind.u8 x y≤255:=by
  unfold bits
  simp [IntKind.wrap,IntKind.bits,IntKind.signed]
  omega
end Go.Proofs.Ytkebegfopnlkhaa
