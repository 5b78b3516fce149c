/- Text. -/
import Derived.Test.YtfhnelkbiihpiaaGreatDoorW4
set_option linter.unusedVariables false
set_option linter.unusedSimpArgs false
set_option maxRecDepth 100000
open _root_.Array renaming getElem?_eq_some_iff→jg
open _root_.List renaming getElem_mem→jC,length_take→jm,take_succ_eq_append_getElem→jH,range→Je,mem_cons→jv,take_succ_cons→JB,drop_zero→Jw,getElem?_cons_zero→jZ
open _root_.Nat renaming zero_le→Jo,le_refl→jq,lt_of_lt_of_le→jG,min_eq_left→Jz,zero_add→jM
open _root_.Option renaming map_some→ju,getD_some→jB,map_none→j4,getD_none→jY
open _root_.Option.some renaming injEq→ja
open Go.Proofs.Tryz renaming prog→ji
namespace Go.Proofs.YtfhnelkbiihpiaaGreatDoor
open Go.RowKit
open Go.Graph
attribute [local go_sem] Oper.semAt_some
set_option maxHeartbeats 4000000 in
theorem ewe (l:List aj1) (a:Option Addr) (cap:Nat) (w:World) (hO:ejc w a l) (hn:l.length≤1000000) (hm:∀ o∈l,o.Esds.length≤1000000) :
  Calls ji 43 #[.slice a l.length cap] w fun e w'=>∃ v sb eb vs,e = .returned (ptr (w.heap.size+3))∧J2 w w' (.slice a l.length cap) v sb (ajq l).1 (ajq l).2.1 (ajq l).2.2 eb vs:=by
 have hmm:=@run_makeMap ji
 obtain ⟨i124,hi124,hz124,hs124,hb124⟩:=info_parts (show (ji.info? 124).map (fun i=>(i.zero,i.size,i.bytes))=some (some (.pointer none),1,8) by kernel_rfl)
 obtain ⟨i140,hi140,hz140,hs140,hb140⟩:=info_parts (show (ji.info? 140).map (fun i=>(i.zero,i.size,i.bytes))=some (some (.pointer none),1,8) by kernel_rfl)
 go_enter Tryz.func43,Tryz.ntmps43
 go_wp2
 go_loopw [24] (fun i wr=>∃ m:Nat,m≤l.length∧i = .int .i64 m∧∃ v sb,J1 w wr (.slice a l.length cap) (azj (l.take m)) v sb) (fun i _=>l.length - (intOf i).toNat)
 case atStart=>exact ⟨0,Jo _,rfl,nilS,fun _=>0,J1.start w _⟩
 case round =>
  obtain ⟨m,hml,rfl,v,sb,hJ⟩:=hrel
  by_cases hlt:m < l.length
  ·obtain ⟨b,off,rfl,hbw,hcl⟩:=hO (by omega)
   obtain ⟨ea,ec,ta,tc,ra,rc,c0,c1,c2,c3,hE⟩:=hcl m hlt
   have d0:=(hJ.below.cell (p:=⟨b,off+m * 4,none⟩) hbw).trans c0
   have d1:=(hJ.below.cell (p:=⟨b,off+m * 4+1,none⟩) hbw).trans c1
   have d2:=(hJ.below.cell (p:=⟨b,off+m * 4+2,none⟩) hbw).trans c2
   have d3:=(hJ.below.cell (p:=⟨b,off+m * 4+3,none⟩) hbw).trans c3
   have hE':dki wr ea l[m].Esds:=hE.below (hJ.below)
   have hmo:=hm l[m] (jC hlt)
   unfold encS at d3
   go_wp2
   go_loopw [32] (fun i wr=>∃ k:Nat,k≤l[m].Esds.length∧i = .int .i64 k∧∃ v sb,J1 w wr (.slice (some ⟨b,off,none⟩) l.length cap) ((l[m].Esds.take k).foldl (aqv m) (azj (l.take m))) v sb) (fun i _=>l[m].Esds.length - (intOf i).toNat)
   case atStart=>exact ⟨0,Jo _,rfl,v,sb,hJ.keep ((Below.refl _ wr).alloc (jq _) _)⟩
   case round =>
    clear hJ v sb d0 d1 d2 d3 hE'
    obtain ⟨k,hk,rfl,v,sb,hJ⟩:=hrel
    obtain ⟨S,hS⟩:∃ S,S=(l[m].Esds.take k).foldl (aqv m) (azj (l.take m)):=⟨_,rfl⟩
    rw [← hS] at hJ
    by_cases hkl:k < l[m].Esds.length
    ·obtain ⟨xb,xo,rfl,hxb,hxc⟩:=hE (by omega)
     obtain ⟨e0,e1,e2,e3,e4⟩:=hxc k hkl
     have f0:=(hJ.below.cell (p:=⟨xb,xo+k * 5,none⟩) hxb).trans e0
     have f1:=(hJ.below.cell (p:=⟨xb,xo+k * 5+1,none⟩) hxb).trans e1
     have f2:=(hJ.below.cell (p:=⟨xb,xo+k * 5+2,none⟩) hxb).trans e2
     have f3:=(hJ.below.cell (p:=⟨xb,xo+k * 5+3,none⟩) hxb).trans e3
     have f4:=(hJ.below.cell (p:=⟨xb,xo+k * 5+4,none⟩) hxb).trans e4
     unfold encS at f0
     have hSl:S.length≤2000000000000:=by
      have h1:=ayv m (l[m].Esds.take k) (azj (l.take m))
      have h2:=byk 1000000 (l.take m) 0 [] (fun o ho=>hm o (List.mem_of_mem_take ho))
      rw [hS]
      simp only [jm,azj,List.length_nil] at h1 h2 ⊢
      have h3:min m l.length * 1000000≤1000000 * 1000000:=Nat.mul_le_mul_right _ (by omega)
      omega
     have hstep:(l[m].Esds.take (k+1)).foldl (aqv m) (azj (l.take m))=aqv m S l[m].Esds[k]:=by rw [jH hkl,List.foldl_append,← hS];rfl
     clear e0 e1 e2 e3 e4 hxc
     obtain ⟨x,hx⟩:∃ x,x=l[m].Esds[k]:=⟨_,rfl⟩
     rw [← hx] at f0 f1 f2 f3 f4 hstep
     clear hx hS
     by_cases hk1:x.Kind=1
     ·rw [hk1] at f1
      by_cases hnm:x.Name=[]
      ·rw [hnm] at f0
       have hD:=hJ.ed.box
       obtain ⟨p,q,rfl⟩:=aza hJ.own
       have g1:wr.cell? ⟨w.heap.size+1+1+1,1,none⟩=some (.slice p S.length q):=cell_of hD rfl
       have hDl:w.heap.size+1+1+1 < wr.heap.size:=(jg.1 hD).1
       have g2:wr.frozen? ⟨w.heap.size+1+1+1,1,none⟩=false:=bye hD
       go_wp2
       go_quiet (fail)
       generalize hw1:(wr.alloc (.cells _ 51)).drewN _=w1
       have hx1:w1.heap[wr.heap.size]? = some (.cells #[.string ⟨#[]⟩,.int .i64 1,.int .i64 x.ID,.int .i64 x.Addr,.int .i64 x.Len] 51 (0,0)):=by rw [← hw1];exact heap_alloc_new wr _
       have hb1:Below wr.heap.size wr w1:=by rw [← hw1];exact ⟨rfl,rfl,rfl,by simp,fun b hb=>Below.heap_alloc _ _ b hb⟩
       have hs1:w1.heap.size=wr.heap.size+1:=by rw [← hw1];simp
       clear hw1
       replace hJ:=hJ.keep hb1
       replace g1:=(hb1.cell (p:=⟨_,_,none⟩) hDl).trans g1
       replace g2:=(hb1.frozen (p:=⟨_,_,none⟩) hDl).trans g2
       have hDl1:w.heap.size+1+1+1 < w1.heap.size:=by omega
       have hXl1:wr.heap.size < w1.heap.size:=by omega
       clear hDl
       replace hs1:wr.heap.size < w1.heap.size:=by omega
       have x0:w1.cell? ⟨wr.heap.size,0,none⟩=some (.string ⟨#[]⟩):=cell_of hx1 rfl
       have x1:w1.cell? ⟨wr.heap.size,1,none⟩=some (.int .i64 1):=cell_of hx1 rfl
       have x2:w1.cell? ⟨wr.heap.size,2,none⟩=some (.int .i64 x.ID):=cell_of hx1 rfl
       have x3:w1.cell? ⟨wr.heap.size,3,none⟩=some (.int .i64 x.Addr):=cell_of hx1 rfl
       have x4:w1.cell? ⟨wr.heap.size,4,none⟩=some (.int .i64 x.Len):=cell_of hx1 rfl
       obtain ⟨cs,hcs⟩:∃ cs,cs=(Je S.length).map fun k=>ptr (sb k):=⟨_,rfl⟩
       have hown:=hJ.own
       rw [← hcs] at hown
       go_wp2_with (at_builtin;refine wpList_append_own _ rfl _ _ 75 rfl w.heap.size 124 i124 (.pointer none) 1 8 Tryz.underlying75 hi124 hz124 hs124 hb124 rfl (by decide) _ S.length cs rfl ?hown ⟨w1.heap.size+1,0,none⟩ 1 1 [.pointer (some ⟨w1.heap.size,0,none⟩)] rfl rfl ?c1 ?c2 ?c3 ?c4 ?c5 ?_)
       case hown=>exact (hown.alloc _).alloc _
       case c1 =>
        intro j u hj
        match j,hj with
        | 0,hj=>simp at hj;subst hj;simp [Addr.add]
       case c2 =>
        intro u hu
        simp only [jv,List.not_mem_nil,or_false] at hu
        subst hu;rfl
       case c3=>unfold maxLen;omega
       case c4=>omega
       case c5=>have:=hJ.below.size;simp;omega
       intro v' w2 hown2 hgr _
       have hbw:=hJ.below.size
       have hsec2:w2.heap[w1.heap.size]? = some (.cells (ayc ⟨m,x,0,0,false,[]⟩ nilS) 129 (0,0)):=by
        rw [hgr.block w1.heap.size (by simp;omega) (fun e=>by
         have:=(hown.lt _ e.symm).2;omega)]
        rw [Below.heap_alloc _ _ _ (by simp),heap_alloc_new]
        simp [ayc,encS,hk1,hnm]
       have hk2:∀ b,b < w1.heap.size→some b≠(Value.slice p S.length q).ownBlock→w2.heap[b]? = w1.heap[b]? := fun b hb hne=>by
        rw [hgr.block b (by simp;omega) hne,Below.heap_alloc _ _ _ (by simp;omega),Below.heap_alloc _ _ _ hb]
       have hs2:w1.heap.size+2≤w2.heap.size:=by have:=hgr.size;simpa using this
       have hb2:Below w.heap.size w w2:=Below.grown ((hJ.below.alloc hbw _).alloc (by simp;omega) _) hgr (by simp;omega) (fun k hk=>(hown.lt k hk).1)
       clear hgr
       have hne:∀ (b:Nat) (c:Array Value) (t:TypeId),w1.heap[b]? = some (Obj.cells c t (0,0))→t≠124→some b≠(Value.slice p S.length q).ownBlock:=fun b c t hb ht e=>by
        obtain ⟨c',hc'⟩:=az0 hown e.symm
        rw [hb] at hc';cases hc';exact ht rfl
       obtain ⟨p',q',rfl⟩:=aza hown2
       have hD1:=hJ.ed.box
       have hD2:=(hk2 _ hDl1 (hne _ _ _ hD1 (by decide))).trans hD1
       have hx2:=(hk2 _ hXl1 (hne _ _ _ hx1 (by decide))).trans hx1
       have g1':w2.cell? ⟨w.heap.size+1+1+1,1,none⟩=some (.slice p S.length q):=cell_of hD2 rfl
       have g2':w2.frozen? ⟨w.heap.size+1+1+1,1,none⟩=false:=bye hD2
       have x0':w2.cell? ⟨wr.heap.size,0,none⟩=some (.string ⟨#[]⟩):=cell_of hx2 rfl
       have x2':w2.cell? ⟨wr.heap.size,2,none⟩=some (.int .i64 x.ID):=cell_of hx2 rfl
       have hXD:wr.heap.size≠w.heap.size+1+1+1:=by rintro e;rw [e] at hx1;have hD1:w1.heap[w.heap.size+1+1+1]? = _:=hD1;rw [hx1] at hD1;cases hD1
       have hXl2:wr.heap.size < w2.heap.size:=by omega
       have hDl2:w.heap.size+1+1+1 < w2.heap.size:=by omega
       clear g1 g2 x0 x1 x2 x3 x4 hDl1
       go_wp2
       generalize hw4:(w2.setCell ⟨w.heap.size+1+1+1,1,none⟩ _).alloc (.cells _ 131)=w4
       have hD4:w4.heap[w.heap.size+3]? = some (.cells (az6 ⟨.slice (some ⟨b,off,none⟩) l.length cap,.slice p' (S.length+1) q',w.heap.size,w.heap.size+1,w.heap.size+2,false,nilS,nilS,[]⟩) 81 (0,0)):=by
        rw [← hw4,Below.heap_alloc _ _ _ (by simp;omega)]
        exact bk0 hD2 _ _
       have hp4:w4.heap[w2.heap.size]? = some (.cells #[.int .i64 m,.int .i64 x.ID] 131 (0,0)):=by
        rw [← hw4]
        have:=heap_alloc_new (w2.setCell ⟨w.heap.size+1+1+1,1,none⟩ (.slice p' (S.length+1) q')) (.cells #[.int .i64 m,.int .i64 x.ID] 131)
        simpa using this
       have hk4:∀ b,b < w2.heap.size→b≠w.heap.size+3→w4.heap[b]? = w2.heap[b]? := fun b hb hne=>by
        rw [← hw4,Below.heap_alloc _ _ _ (by simpa using hb),Below.heap_setCell _ _ _ _ hne]
       have hs4:w2.heap.size < w4.heap.size:=by rw [← hw4];simp
       have hb4:Below w.heap.size w w4:=by rw [← hw4];exact (hb2.setCell (by simp;omega) _).alloc (by simp;omega) _
       clear hw4
       obtain ⟨L1,hL1,hl1⟩:=hJ.ed.at_
       have hL4:MapK encP w4 w.heap.size L1:=hL1.keep ((hk4 _ (jG hL1.lt (by omega)) (by simp)).trans (hk2 _ hL1.lt (bqi hown hL1)))
       obtain ⟨L2,hL2,hl2⟩:=hJ.ed.named
       have hL4n:MapK encS w4 (w.heap.size+1) L2:=hL2.keep ((hk4 _ (jG hL2.lt (by omega)) (by simp)).trans (hk2 _ hL2.lt (bqi hown hL2)))
       have r4:∀ n,(Instr.lookup 76 (.map (some w.heap.size)) (.agg #[.int .i64 (m:Int),.int .i64 x.ID]) false).run ji (w4.drewN n) = .ok (((atIx S ((m:Int),x.ID)).map fun k=>ptr (sb k)).getD (.pointer none)) (w4.drewN n):=fun n=>by
        have:=(hL4.keep (w':=w4.drewN n) rfl).look_run keyP Tryz.underlying76 bky ((m:Int),x.ID)
        rw [hl1] at this;exact this
       have d2:w4.cell? ⟨w.heap.size+1+1+1,2,none⟩=some (.map (some w.heap.size)):=cell_of hD4 rfl
       have y0:w4.cell? ⟨w2.heap.size,0,none⟩=some (.int .i64 m):=cell_of hp4 rfl
       have y1:w4.cell? ⟨w2.heap.size,1,none⟩=some (.int .i64 x.ID):=cell_of hp4 rfl
       have hadd:aqv m S x=S ++ [⟨m,x,0,0,false,[]⟩]:=by unfold aqv;rw [if_pos ⟨hk1,.inl hnm⟩]
       cases hAt:atIx S ((m:Int),x.ID) with
       | some t =>
        rw [hAt] at r4
        simp only [ju,jB] at r4
        unfold ptr at r4
        go_quiet (fail)
        all_goals go_wp2
        refine ⟨⟨k+1,hkl,by go_num,.slice p' (S.length+1) q',sbP sb S.length w1.heap.size,?_⟩,by simp [intOf];omega⟩
        rw [hstep,hadd]
        exact hJ.fin hsec2 hown2 hk2 hD4 ⟨_,hL4.keep rfl,dky _ hl1 hAt⟩ ⟨_,hL4n.keep rfl,dyw _ hl2 hnm⟩ (fun b hb n1 n2 n3=>hk4 b hb n1) (hb4.trans ⟨rfl,rfl,rfl,jq _,fun _ _=>rfl⟩)
       | none =>
        rw [hAt] at r4
        simp only [j4,jY] at r4
        go_quiet (fail)
        all_goals go_wp2
        generalize hw5:w4.drewN nq=w5
        have hh5:w5.heap=w4.heap:=by rw [← hw5];rfl
        have hb5:Below w4.heap.size w4 w5:=by rw [← hw5];exact ⟨rfl,rfl,rfl,jq _,fun _ _=>rfl⟩
        clear hw5
        refine ayw 6 (by kernel_rfl) (by kernel_rfl) ?_
        intro wd hwd
        have hhd:wd.heap=w4.heap:=by rw [← hwd];exact hh5
        have hbd:Below w4.heap.size w4 wd:=by rw [← hwd];exact hb5.drew
        clear hwd
        have d2':wd.cell? ⟨w.heap.size+1+1+1,2,none⟩=some (.map (some w.heap.size)):=by rw [← d2];unfold World.cell?;rw [hhd]
        have y0':wd.cell? ⟨w2.heap.size,0,none⟩=some (.int .i64 m):=by rw [← y0];unfold World.cell?;rw [hhd]
        have y1':wd.cell? ⟨w2.heap.size,1,none⟩=some (.int .i64 x.ID):=by rw [← y1];unfold World.cell?;rw [hhd]
        have hL5:MapK encP wd w.heap.size L1:=hL4.keep (by rw [hhd])
        obtain ⟨o,hput,hmk⟩:=hL5.put_run keyP Tryz.underlying76 ((m:Int),x.ID) (.pointer (some ⟨w1.heap.size,0,none⟩)) (by rw [hl1,hAt];rfl)
        simp only [encP] at hput
        obtain ⟨w6,hw6⟩:∃ w6,w6={ wd with heap:=wd.heap.setIfInBounds w.heap.size o }:=⟨_,rfl⟩
        rw [← hw6] at hput
        obtain ⟨p1,p2,p3,p4⟩:=putW hL5 hw6
        have hm6:=hmk w6 p1
        have k6:∀ b,b≠w.heap.size→b < w4.heap.size→w6.heap[b]? = w4.heap[b]? := fun b hb hl=>(p2 b hb).trans (hbd.block b hl)
        have hB6:Below w.heap.size w w6:=(hb4.trans (hbd.mono (by omega))).trans (p4 _ (jq _))
        clear hhd hw6 p1 p2 p3 p4 hmk
        simp only [JB,List.take_zero,List.drop_succ_cons,Jw]
        repeat still_step
        try refine wpStill_nil ?_
        go_wp2
        refine ⟨⟨k+1,hkl,by go_num,.slice p' (S.length+1) q',sbP sb S.length w1.heap.size,?_⟩,by simp [intOf];omega⟩
        rw [hstep,hadd]
        exact hJ.fin hsec2 hown2 hk2 ((k6 _ (by omega) (by omega)).trans hD4) ⟨_,hm6,ezg (c:=⟨m,x,0,0,false,[]⟩) _ hl1 hAt⟩ ⟨_,hL4n.keep (k6 _ (by omega) (jG hL4n.lt (jq _))),dyw _ hl2 hnm⟩ (fun b hb n1 n2 n3=>(k6 b n2 (by omega)).trans (hk4 b hb n1)) hB6
      ·obtain ⟨L2,hL2,hl2⟩:=hJ.ed.named
       have r2:∀ o n,(Instr.lookup 77 (.map (some (w.heap.size+1))) (.string ⟨x.Name.toArray⟩) false).run ji ((wr.alloc o).drewN n) = .ok (((aq4 S x.Name).map fun k=>ptr (sb k)).getD (.pointer none)) ((wr.alloc o).drewN n):=fun o n=>by
        have:=(hL2.keep (w':=(wr.alloc o).drewN n) (Below.heap_alloc _ _ _ hL2.lt)).look_run (keyS Tryz.underlying9) Tryz.underlying77 bky x.Name
        rw [hl2] at this;exact this
       have hD:=hJ.ed.box
       have g3:wr.cell? ⟨w.heap.size+1+1+1,3,none⟩=some (.map (some (w.heap.size+1))):=cell_of hD rfl
       have hDl:w.heap.size+1+1+1 < wr.heap.size:=(jg.1 hD).1
       have hnm':x.Name.isEmpty=false:=by simp [hnm]
       cases hN:aq4 S x.Name with
       | some t =>
        rw [hN] at r2
        simp only [ju,jB] at r2
        unfold ptr at r2
        go_wp2
        go_quiet (fail)
        all_goals go_wp2
        have hadd:aqv m S x=S:=by unfold aqv;rw [if_neg (by rw [hN];simp [hnm])]
        refine ⟨⟨k+1,hkl,by go_num,v,sb,?_⟩,by simp [intOf];omega⟩
        rw [hstep,hadd]
        refine hJ.keep ?_
        exact ⟨rfl,rfl,rfl,by simp,fun b hb=>Below.heap_alloc _ _ b hb⟩
       | none =>
        rw [hN] at r2
        simp only [j4,jY] at r2
        obtain ⟨p,q,rfl⟩:=aza hJ.own
        have g1:wr.cell? ⟨w.heap.size+1+1+1,1,none⟩=some (.slice p S.length q):=cell_of hD rfl
        have hDl:w.heap.size+1+1+1 < wr.heap.size:=(jg.1 hD).1
        have g2:wr.frozen? ⟨w.heap.size+1+1+1,1,none⟩=false:=bye hD
        go_wp2
        go_quiet (fail)
        generalize hw1:(wr.alloc (.cells _ 51)).drewN _=w1
        have hx1:w1.heap[wr.heap.size]? = some (.cells #[.string ⟨x.Name.toArray⟩,.int .i64 1,.int .i64 x.ID,.int .i64 x.Addr,.int .i64 x.Len] 51 (0,0)):=by rw [← hw1];exact heap_alloc_new wr _
        have hb1:Below wr.heap.size wr w1:=by rw [← hw1];exact ⟨rfl,rfl,rfl,by simp,fun b hb=>Below.heap_alloc _ _ b hb⟩
        have hs1:w1.heap.size=wr.heap.size+1:=by rw [← hw1];simp
        clear hw1
        replace hJ:=hJ.keep hb1
        replace g1:=(hb1.cell (p:=⟨_,_,none⟩) hDl).trans g1
        replace g2:=(hb1.frozen (p:=⟨_,_,none⟩) hDl).trans g2
        have hDl1:w.heap.size+1+1+1 < w1.heap.size:=by omega
        have hXl1:wr.heap.size < w1.heap.size:=by omega
        clear hDl
        replace hs1:wr.heap.size < w1.heap.size:=by omega
        have x0:w1.cell? ⟨wr.heap.size,0,none⟩=some (.string ⟨x.Name.toArray⟩):=cell_of hx1 rfl
        have x1:w1.cell? ⟨wr.heap.size,1,none⟩=some (.int .i64 1):=cell_of hx1 rfl
        have x2:w1.cell? ⟨wr.heap.size,2,none⟩=some (.int .i64 x.ID):=cell_of hx1 rfl
        have x3:w1.cell? ⟨wr.heap.size,3,none⟩=some (.int .i64 x.Addr):=cell_of hx1 rfl
        have x4:w1.cell? ⟨wr.heap.size,4,none⟩=some (.int .i64 x.Len):=cell_of hx1 rfl
        obtain ⟨cs,hcs⟩:∃ cs,cs=(Je S.length).map fun k=>ptr (sb k):=⟨_,rfl⟩
        have hown:=hJ.own
        rw [← hcs] at hown
        go_wp2_with (at_builtin;refine wpList_append_own _ rfl _ _ 75 rfl w.heap.size 124 i124 (.pointer none) 1 8 Tryz.underlying75 hi124 hz124 hs124 hb124 rfl (by decide) _ S.length cs rfl ?hown ⟨w1.heap.size+1,0,none⟩ 1 1 [.pointer (some ⟨w1.heap.size,0,none⟩)] rfl rfl ?c1 ?c2 ?c3 ?c4 ?c5 ?_)
        case hown=>exact (hown.alloc _).alloc _
        case c1 =>
         intro j u hj
         match j,hj with
         | 0,hj=>simp at hj;subst hj;simp [Addr.add]
        case c2 =>
         intro u hu
         simp only [jv,List.not_mem_nil,or_false] at hu
         subst hu;rfl
        case c3=>unfold maxLen;omega
        case c4=>omega
        case c5=>have:=hJ.below.size;simp;omega
        intro v' w2 hown2 hgr _
        have hbw:=hJ.below.size
        have hsec2:w2.heap[w1.heap.size]? = some (.cells (ayc ⟨m,x,0,0,false,[]⟩ nilS) 129 (0,0)):=by
         rw [hgr.block w1.heap.size (by simp;omega) (fun e=>by
          have:=(hown.lt _ e.symm).2;omega)]
         rw [Below.heap_alloc _ _ _ (by simp),heap_alloc_new]
         simp [ayc,encS,hk1]
        have hk2:∀ b,b < w1.heap.size→some b≠(Value.slice p S.length q).ownBlock→w2.heap[b]? = w1.heap[b]? := fun b hb hne=>by
         rw [hgr.block b (by simp;omega) hne,Below.heap_alloc _ _ _ (by simp;omega),Below.heap_alloc _ _ _ hb]
        have hs2:w1.heap.size+2≤w2.heap.size:=by have:=hgr.size;simpa using this
        have hb2:Below w.heap.size w w2:=Below.grown ((hJ.below.alloc hbw _).alloc (by simp;omega) _) hgr (by simp;omega) (fun k hk=>(hown.lt k hk).1)
        clear hgr
        have hne:∀ (b:Nat) (c:Array Value) (t:TypeId),w1.heap[b]? = some (Obj.cells c t (0,0))→t≠124→some b≠(Value.slice p S.length q).ownBlock:=fun b c t hb ht e=>by
         obtain ⟨c',hc'⟩:=az0 hown e.symm
         rw [hb] at hc';cases hc';exact ht rfl
        obtain ⟨p',q',rfl⟩:=aza hown2
        have hD1:=hJ.ed.box
        have hD2:=(hk2 _ hDl1 (hne _ _ _ hD1 (by decide))).trans hD1
        have hx2:=(hk2 _ hXl1 (hne _ _ _ hx1 (by decide))).trans hx1
        have g1':w2.cell? ⟨w.heap.size+1+1+1,1,none⟩=some (.slice p S.length q):=cell_of hD2 rfl
        have g2':w2.frozen? ⟨w.heap.size+1+1+1,1,none⟩=false:=bye hD2
        have x0':w2.cell? ⟨wr.heap.size,0,none⟩=some (.string ⟨x.Name.toArray⟩):=cell_of hx2 rfl
        have x2':w2.cell? ⟨wr.heap.size,2,none⟩=some (.int .i64 x.ID):=cell_of hx2 rfl
        have hXD:wr.heap.size≠w.heap.size+1+1+1:=by rintro e;rw [e] at hx1;have hD1:w1.heap[w.heap.size+1+1+1]? = _:=hD1;rw [hx1] at hD1;cases hD1
        have hXl2:wr.heap.size < w2.heap.size:=by omega
        have hDl2:w.heap.size+1+1+1 < w2.heap.size:=by omega
        clear g1 g2 x0 x1 x2 x3 x4 hDl1
        go_wp2
        generalize hw3:w2.setCell ⟨w.heap.size+1+1+1,1,none⟩ _=w3
        have hD3:w3.heap[w.heap.size+3]? = some (.cells (az6 ⟨.slice (some ⟨b,off,none⟩) l.length cap,.slice p' (S.length+1) q',w.heap.size,w.heap.size+1,w.heap.size+2,false,nilS,nilS,[]⟩) 81 (0,0)):=by
         rw [← hw3]
         exact bk0 hD2 _ _
        have hk3:∀ b,b < w2.heap.size→b≠w.heap.size+3→w3.heap[b]? = w2.heap[b]? := fun b hb hne=>by
         rw [← hw3,Below.heap_setCell _ _ _ _ hne]
        have hs3:w3.heap.size=w2.heap.size:=by rw [← hw3];simp
        have hb3:Below w.heap.size w w3:=by rw [← hw3];exact hb2.setCell (by simp;omega) _
        clear hw3
        have hL3n:MapK encS w3 (w.heap.size+1) L2:=hL2.keep ((hk3 _ (jG hL2.lt (by have:=hb1.size;omega)) (by simp)).trans ((hk2 _ (jG hL2.lt hb1.size) (bqi hown (hL2.keep (hb1.block _ hL2.lt)))).trans (hb1.block _ hL2.lt)))
        refine ayw 7 (by kernel_rfl) (by kernel_rfl) ?_
        intro wd hwd
        have hhd:wd.heap=w3.heap:=by rw [← hwd];rfl
        have hbd:Below w3.heap.size w3 wd:=by rw [← hwd];exact ⟨rfl,rfl,rfl,jq _,fun _ _=>rfl⟩
        clear hwd
        have hx3:=(hk3 _ hXl2 (by omega)).trans hx2
        have d3:wd.cell? ⟨w.heap.size+1+1+1,3,none⟩=some (.map (some (w.heap.size+1))):=cell_of (show wd.heap[w.heap.size+3]? = _ by rw [hhd];exact hD3) rfl
        have x0d:wd.cell? ⟨wr.heap.size,0,none⟩=some (.string ⟨x.Name.toArray⟩):=cell_of (show wd.heap[wr.heap.size]? = _ by rw [hhd];exact hx3) rfl
        have hLd:MapK encS wd (w.heap.size+1) L2:=hL3n.keep (by rw [hhd])
        obtain ⟨oN,hputN,hmkN⟩:=hLd.put_run (keyS Tryz.underlying9) Tryz.underlying77 x.Name (.pointer (some ⟨w1.heap.size,0,none⟩)) (by rw [hl2,hN];rfl)
        simp only [encS] at hputN
        obtain ⟨w3',hw3'⟩:∃ w3',w3'={ wd with heap:=wd.heap.setIfInBounds (w.heap.size+1) oN }:=⟨_,rfl⟩
        rw [← hw3'] at hputN
        obtain ⟨p1,p2,p3,p4⟩:=putW hLd hw3'
        have hmN:=hmkN w3' p1
        have k3:∀ b,b≠w.heap.size+1→w3'.heap[b]? = w3.heap[b]? := fun b hb=>(p2 b hb).trans (by rw [hhd])
        have hB3:Below w.heap.size w w3':=(hb3.trans (hbd.mono (by omega))).trans (p4 _ (by omega))
        have hsN:w2.heap.size=w3'.heap.size:=by rw [p3,hhd,hs3]
        clear hhd hw3' p1 p2 p3 p4 hmkN
        simp only [JB,List.take_zero,List.drop_succ_cons,Jw]
        repeat still_step
        try refine wpStill_nil ?_
        have x2N:w3'.cell? ⟨wr.heap.size,2,none⟩=some (.int .i64 x.ID):=cell_of ((k3 _ (by omega)).trans hx3) rfl
        have hXlN:wr.heap.size < w3'.heap.size:=by omega
        go_wp2
        generalize hw4:w3'.alloc (.cells _ 131)=w4
        have hD4:w4.heap[w.heap.size+3]? = some (.cells (az6 ⟨.slice (some ⟨b,off,none⟩) l.length cap,.slice p' (S.length+1) q',w.heap.size,w.heap.size+1,w.heap.size+2,false,nilS,nilS,[]⟩) 81 (0,0)):=by
         rw [← hw4,Below.heap_alloc _ _ _ (by omega),k3 _ (by omega)]
         exact hD3
        have hp4:w4.heap[w3'.heap.size]? = some (.cells #[.int .i64 m,.int .i64 x.ID] 131 (0,0)):=by
         rw [← hw4]
         exact heap_alloc_new w3' _
        have hk4:∀ b,b < w2.heap.size→b≠w.heap.size+3→b≠w.heap.size+1→w4.heap[b]? = w2.heap[b]? := fun b hb hne hn1=>by
         rw [← hw4,Below.heap_alloc _ _ _ (by omega),k3 _ hn1,hk3 _ hb hne]
        have hs4:w3'.heap.size < w4.heap.size:=by rw [← hw4];simp
        have hb4:Below w.heap.size w w4:=by rw [← hw4];exact hB3.alloc (by omega) _
        have hL4n:MapK encS w4 (w.heap.size+1) (L2 ++ [(x.Name,.pointer (some ⟨w1.heap.size,0,none⟩))]):=by rw [← hw4];exact hmN.keep (Below.heap_alloc _ _ _ (by omega))
        clear hw4
        obtain ⟨L1,hL1,hl1⟩:=hJ.ed.at_
        have hL4:MapK encP w4 w.heap.size L1:=hL1.keep ((hk4 _ (jG hL1.lt (by omega)) (by simp) (by simp)).trans (hk2 _ hL1.lt (bqi hown hL1)))
        have r4:∀ n,(Instr.lookup 76 (.map (some w.heap.size)) (.agg #[.int .i64 (m:Int),.int .i64 x.ID]) false).run ji (w4.drewN n) = .ok (((atIx S ((m:Int),x.ID)).map fun k=>ptr (sb k)).getD (.pointer none)) (w4.drewN n):=fun n=>by
         have:=(hL4.keep (w':=w4.drewN n) rfl).look_run keyP Tryz.underlying76 bky ((m:Int),x.ID)
         rw [hl1] at this;exact this
        have d2:w4.cell? ⟨w.heap.size+1+1+1,2,none⟩=some (.map (some w.heap.size)):=cell_of hD4 rfl
        have y0:w4.cell? ⟨w3'.heap.size,0,none⟩=some (.int .i64 m):=cell_of hp4 rfl
        have y1:w4.cell? ⟨w3'.heap.size,1,none⟩=some (.int .i64 x.ID):=cell_of hp4 rfl
        have hadd:aqv m S x=S ++ [⟨m,x,0,0,false,[]⟩]:=by unfold aqv;rw [if_pos ⟨hk1,.inr hN⟩]
        cases hAt:atIx S ((m:Int),x.ID) with
        | some t =>
         rw [hAt] at r4
         simp only [ju,jB] at r4
         unfold ptr at r4
         go_quiet (fail)
         all_goals go_wp2
         refine ⟨⟨k+1,hkl,by go_num,.slice p' (S.length+1) q',sbP sb S.length w1.heap.size,?_⟩,by simp [intOf];omega⟩
         rw [hstep,hadd]
         exact hJ.fin hsec2 hown2 hk2 hD4 ⟨_,hL4.keep rfl,dky _ hl1 hAt⟩ ⟨_,hL4n.keep rfl,ezk (c:=⟨m,x,0,0,false,[]⟩) _ hl2 hnm hN⟩ (fun b hb n1 n2 n3=>hk4 b hb n1 n3) (hb4.trans ⟨rfl,rfl,rfl,jq _,fun _ _=>rfl⟩)
        | none =>
         rw [hAt] at r4
         simp only [j4,jY] at r4
         go_quiet (fail)
         all_goals go_wp2
         generalize hw5:w4.drewN nq=w5
         have hh5:w5.heap=w4.heap:=by rw [← hw5];rfl
         have hb5:Below w4.heap.size w4 w5:=by rw [← hw5];exact ⟨rfl,rfl,rfl,jq _,fun _ _=>rfl⟩
         clear hw5
         refine ayw 6 (by kernel_rfl) (by kernel_rfl) ?_
         intro wd hwd
         have hhd:wd.heap=w4.heap:=by rw [← hwd];exact hh5
         have hbd:Below w4.heap.size w4 wd:=by rw [← hwd];exact hb5.drew
         clear hwd
         have d2':wd.cell? ⟨w.heap.size+1+1+1,2,none⟩=some (.map (some w.heap.size)):=by rw [← d2];unfold World.cell?;rw [hhd]
         have y0':wd.cell? ⟨w3'.heap.size,0,none⟩=some (.int .i64 m):=by rw [← y0];unfold World.cell?;rw [hhd]
         have y1':wd.cell? ⟨w3'.heap.size,1,none⟩=some (.int .i64 x.ID):=by rw [← y1];unfold World.cell?;rw [hhd]
         have hL5:MapK encP wd w.heap.size L1:=hL4.keep (by rw [hhd])
         obtain ⟨o,hput,hmk⟩:=hL5.put_run keyP Tryz.underlying76 ((m:Int),x.ID) (.pointer (some ⟨w1.heap.size,0,none⟩)) (by rw [hl1,hAt];rfl)
         simp only [encP] at hput
         obtain ⟨w6,hw6⟩:∃ w6,w6={ wd with heap:=wd.heap.setIfInBounds w.heap.size o }:=⟨_,rfl⟩
         rw [← hw6] at hput
         obtain ⟨p1,p2,p3,p4⟩:=putW hL5 hw6
         have hm6:=hmk w6 p1
         have k6:∀ b,b≠w.heap.size→b < w4.heap.size→w6.heap[b]? = w4.heap[b]? := fun b hb hl=>(p2 b hb).trans (hbd.block b hl)
         have hB6:Below w.heap.size w w6:=(hb4.trans (hbd.mono (by omega))).trans (p4 _ (jq _))
         clear hhd hw6 p1 p2 p3 p4 hmk
         simp only [JB,List.take_zero,List.drop_succ_cons,Jw]
         repeat still_step
         try refine wpStill_nil ?_
         go_wp2
         refine ⟨⟨k+1,hkl,by go_num,.slice p' (S.length+1) q',sbP sb S.length w1.heap.size,?_⟩,by simp [intOf];omega⟩
         rw [hstep,hadd]
         exact hJ.fin hsec2 hown2 hk2 ((k6 _ (by omega) (by omega)).trans hD4) ⟨_,hm6,ezg (c:=⟨m,x,0,0,false,[]⟩) _ hl1 hAt⟩ ⟨_,hL4n.keep (k6 _ (by omega) (jG hL4n.lt (jq _))),ezk (c:=⟨m,x,0,0,false,[]⟩) _ hl2 hnm hN⟩ (fun b hb n1 n2 n3=>(k6 b n2 (by omega)).trans (hk4 b hb n1 n3)) hB6
     ·have hk1':(x.Kind != 1)=true:=by simp [hk1]
      go_wp2
      go_quiet (fail)
      all_goals go_wp2
      have hadd:aqv m S x=S:=by unfold aqv;rw [if_neg (by simp [hk1])]
      refine ⟨⟨k+1,hkl,by go_num,v,sb,?_⟩,by simp [intOf];omega⟩
      rw [hstep,hadd]
      refine hJ.keep ?_
      exact ⟨rfl,rfl,rfl,by simp,fun b hb=>Below.heap_alloc _ _ b hb⟩
    ·obtain rfl:k=l[m].Esds.length:=by omega
     rw [List.take_length] at hS
     have hS':azj (l.take (m+1))=S:=by
      rw [hS,jH hlt]
      unfold azj
      rw [bzy,jm,Jz (Nat.le_of_lt hlt),jM]
     clear hS
     go_wp2
     refine ⟨⟨m+1,hlt,by go_num,v,sb,?_⟩,by simp [intOf];omega⟩
     rw [hS'];exact hJ
  ·obtain rfl:m=l.length:=by omega
   rw [List.take_length] at hJ
   have hJ2:=hJ.two
   clear hJ hlt hml
   go_wp2
   go_loopw [98] (fun i wr=>∃ m:Nat,m≤l.length∧i = .int .i64 m∧∃ S E dbl eb vs,aqe 0 (azj l,[],false) (l.take m)=(S,E,dbl)∧J2 w wr (.slice a l.length cap) v sb S E dbl eb vs) (fun i _=>l.length - (intOf i).toNat)
   case atStart=>exact ⟨0,Jo _,rfl,_,_,_,_,_,rfl,hJ2⟩
   case round =>
    clear hJ2
    obtain ⟨m,hml,rfl,S,E,dbl,eb,vs,hSt,hJ⟩:=hrel
    by_cases hlt:m < l.length
    ·obtain ⟨b,off,rfl,hbw,hcl⟩:=hO (by omega)
     obtain ⟨ea,ec,ta,tc,ra,rc,c0,c1,c2,c3,hE⟩:=hcl m hlt
     have d0:=(hJ.below.cell (p:=⟨b,off+m * 4,none⟩) hbw).trans c0
     have d1:=(hJ.below.cell (p:=⟨b,off+m * 4+1,none⟩) hbw).trans c1
     have d2:=(hJ.below.cell (p:=⟨b,off+m * 4+2,none⟩) hbw).trans c2
     have d3:=(hJ.below.cell (p:=⟨b,off+m * 4+3,none⟩) hbw).trans c3
     have hmo:=hm l[m] (jC hlt)
     unfold encS at d3
     go_wp2
     go_loopw [106] (fun i wr=>∃ k:Nat,k≤l[m].Esds.length∧i = .int .i64 k∧∃ S E dbl eb vs,(l[m].Esds.take k).foldl (aq6 m) (aqe 0 (azj l,[],false) (l.take m))=(S,E,dbl)∧J2 w wr (.slice (some ⟨b,off,none⟩) l.length cap) v sb S E dbl eb vs) (fun i _=>l[m].Esds.length - (intOf i).toNat)
     case atStart=>exact ⟨0,Jo _,rfl,S,E,dbl,eb,vs,by simpa using hSt,hJ.keep ((Below.refl _ wr).alloc (jq _) _)⟩
     case round =>
      clear hJ hSt S E dbl eb vs d0 d1 d2 d3
      obtain ⟨k,hk,rfl,S,E,dbl,eb,vs,hSt,hJ⟩:=hrel
      by_cases hkl:k < l[m].Esds.length
      ·skip
       obtain ⟨xb,xo,rfl,hxb,hxc⟩:=hE (by omega)
       obtain ⟨e0,e1,e2,e3,e4⟩:=hxc k hkl
       have f0:=(hJ.below.cell (p:=⟨xb,xo+k * 5,none⟩) hxb).trans e0
       have f1:=(hJ.below.cell (p:=⟨xb,xo+k * 5+1,none⟩) hxb).trans e1
       have f2:=(hJ.below.cell (p:=⟨xb,xo+k * 5+2,none⟩) hxb).trans e2
       have f3:=(hJ.below.cell (p:=⟨xb,xo+k * 5+3,none⟩) hxb).trans e3
       have f4:=(hJ.below.cell (p:=⟨xb,xo+k * 5+4,none⟩) hxb).trans e4
       unfold encS at f0
       obtain ⟨hEl,hesl⟩:=dqn hn hm hmo hSt
       have hstep:(l[m].Esds.take (k+1)).foldl (aq6 m) (aqe 0 (azj l,[],false) (l.take m))=aq6 m (S,E,dbl) l[m].Esds[k]:=by rw [jH hkl,List.foldl_append,hSt];rfl
       clear e0 e1 e2 e3 e4 hxc hSt
       obtain ⟨x,hx⟩:∃ x,x=l[m].Esds[k]:=⟨_,rfl⟩
       rw [← hx] at f0 f1 f2 f3 f4 hstep
       clear hx
       have hD:=hJ.ed.box
       have hDl:w.heap.size+1+1+1 < wr.heap.size:=(jg.1 hD).1
       have g2:wr.cell? ⟨w.heap.size+1+1+1,2,none⟩=some (.map (some w.heap.size)):=cell_of hD rfl
       obtain ⟨L1,hL1,hl1⟩:=hJ.ed.at_
       have r1:∀ o n,(Instr.lookup 76 (.map (some w.heap.size)) (.agg #[.int .i64 (m:Int),.int .i64 x.ID]) false).run ji ((wr.alloc o).drewN n) = .ok (((atIx S ((m:Int),x.ID)).map fun k=>ptr (sb k)).getD (.pointer none)) ((wr.alloc o).drewN n):=fun o n=>by
        have:=(hL1.keep (w':=(wr.alloc o).drewN n) (Below.heap_alloc _ _ _ hL1.lt)).look_run keyP Tryz.underlying76 bky ((m:Int),x.ID)
        rw [hl1] at this;exact this
       cases hAt:atIx S ((m:Int),x.ID) with
       | none =>
        rw [hAt] at r1
        simp only [j4,jY] at r1
        have hadd:aq6 m (S,E,dbl) x=(S,E,dbl):=by unfold aq6;simp [hAt]
        go_wp2
        go_quiet (fail)
        all_goals go_wp2
        all_goals exact ⟨⟨k+1,hkl,by go_num,S,E,dbl,eb,vs,hstep.trans hadd,hJ.keep ⟨rfl,rfl,rfl,by simp,fun b hb=>Below.heap_alloc _ _ b hb⟩⟩,by simp [intOf];omega⟩
       | some kk =>
        rw [hAt] at r1
        simp only [ju,jB] at r1
        unfold ptr at r1
        by_cases hk2:x.Kind=2
        ·rw [hk2] at f1
         have hkk:=byd hAt
         go_wp2
         go_quiet (fail)
         generalize hw1:(wr.alloc (.cells _ 51)).drewN _=w1
         have hx1:w1.heap[wr.heap.size]? = some (.cells #[.string ⟨x.Name.toArray⟩,.int .i64 2,.int .i64 x.ID,.int .i64 x.Addr,.int .i64 x.Len] 51 (0,0)):=by rw [← hw1];exact heap_alloc_new wr _
         have hb1:Below wr.heap.size wr w1:=by rw [← hw1];exact ⟨rfl,rfl,rfl,by simp,fun b hb=>Below.heap_alloc _ _ b hb⟩
         have hs1:w1.heap.size=wr.heap.size+1:=by rw [← hw1];simp
         clear hw1
         replace hs1:wr.heap.size < w1.heap.size:=by omega
         replace hJ:=hJ.keep hb1
         replace hD:=hJ.ed.box
         have hD1l:w.heap.size+1+1+1 < w1.heap.size:=by omega
         have hXD:wr.heap.size≠w.heap.size+1+1+1:=by omega
         clear hDl g2 r1 hL1 hl1
         have x0:w1.cell? ⟨wr.heap.size,0,none⟩=some (.string ⟨x.Name.toArray⟩):=cell_of hx1 rfl
         have x1:w1.cell? ⟨wr.heap.size,1,none⟩=some (.int .i64 2):=cell_of hx1 rfl
         have g3:w1.cell? ⟨w.heap.size+1+1+1,3,none⟩=some (.map (some (w.heap.size+1))):=cell_of hD rfl
         have g4:w1.cell? ⟨w.heap.size+1+1+1,4,none⟩=some (.map (some (w.heap.size+2))):=cell_of hD rfl
         obtain ⟨L2,hL2,hl2⟩:=hJ.ed.named
         obtain ⟨L3,hL3,hl3⟩:=hJ.ed.ents
         have r2:∀ n,(Instr.lookup 77 (.map (some (w.heap.size+1))) (.string ⟨x.Name.toArray⟩) false).run ji (w1.drewN n) = .ok (((aq4 S x.Name).map fun k=>ptr (sb k)).getD (.pointer none)) (w1.drewN n):=fun n=>by
          have:=(hL2.keep (w':=w1.drewN n) rfl).look_run (keyS Tryz.underlying9) Tryz.underlying77 bky x.Name
          rw [hl2] at this;exact this
         have r3:∀ n,(Instr.lookup 78 (.map (some (w.heap.size+2))) (.string ⟨x.Name.toArray⟩) false).run ji (w1.drewN n) = .ok (((ayd E x.Name).map fun k=>ptr (eb k)).getD (.pointer none)) (w1.drewN n):=fun n=>by
          have:=(hL3.keep (w':=w1.drewN n) rfl).look_run (keyS Tryz.underlying9) Tryz.underlying78 by4 x.Name
          rw [hl3] at this;exact this
         go_wp2
         cases hN:aq4 S x.Name with
         | some t =>
          rw [hN] at r2
          simp only [ju,jB] at r2
          unfold ptr at r2
          cases hEn:ayd E x.Name with
          | some t2 =>
           go_quiet (fail)
           generalize hwb:w1.drewN _=wb
           have hhb:wb.heap=w1.heap:=by rw [← hwb];rfl
           have hbb:Below w1.heap.size w1 wb:=by rw [← hwb];exact ⟨rfl,rfl,rfl,jq _,fun _ _=>rfl⟩
           clear hwb r2 r3
           have hDb:wb.heap[w.heap.size+3]? = some (.cells (az6 ⟨.slice (some ⟨b,off,none⟩) l.length cap,v,w.heap.size,w.heap.size+1,w.heap.size+2,dbl,nilS,nilS,[]⟩) 81 (0,0)):=(congrArg (fun h:Array Obj=>h[w.heap.size+3]?) hhb).trans hD
           have g5:wb.cell? ⟨w.heap.size+1+1+1,5,none⟩=some (.bool dbl):=cell_of hDb rfl
           have g5f:wb.frozen? ⟨w.heap.size+1+1+1,5,none⟩=false:=bye hDb
           have hkb:∀ b:Nat,wb.heap[b]? = w1.heap[b]? := fun b=>by rw [hhb]
           have hsb:w1.heap.size≤wb.heap.size:=by rw [hhb];exact jq _
           have hxb1:wb.heap[wr.heap.size]? = _:=(hkb _).trans hx1
           have xb0:wb.cell? ⟨wr.heap.size,0,none⟩=some (.string ⟨x.Name.toArray⟩):=cell_of hxb1 rfl
           have xb1:wb.cell? ⟨wr.heap.size,1,none⟩=some (.int .i64 2):=cell_of hxb1 rfl
           have xb2:wb.cell? ⟨wr.heap.size,2,none⟩=some (.int .i64 x.ID):=cell_of hxb1 rfl
           have xb3:wb.cell? ⟨wr.heap.size,3,none⟩=some (.int .i64 x.Addr):=cell_of hxb1 rfl
           have xb4:wb.cell? ⟨wr.heap.size,4,none⟩=some (.int .i64 x.Len):=cell_of hxb1 rfl
           have hXb:wr.heap.size < wb.heap.size:=by omega
           clear hhb
           obtain ⟨p,q,hpq⟩:=aza (hJ.gr.row kk hkk)
           have hsec0:=(hJ.gr.sec kk hkk).2
           have hsl:=(jg.1 hsec0).1
           have hslb:sb kk < wb.heap.size:=by omega
           have hsD:sb kk≠w.heap.size+1+1+1:=fun e=>absurd (bz4 (e ▸ hsec0) hD) (by decide)
           have hsX:wr.heap.size≠sb kk:=fun e=>absurd (bz4 (e ▸ hx1) hsec0) (by decide)
           have hsec1:=(hkb _).trans hsec0
           rw [hpq] at hsec1
           have s8:wb.cell? ⟨sb kk,8,none⟩=some (.slice p S[kk].es.length q):=cell_of hsec1 rfl
           have hown1:=hJ.gr.row kk hkk
           rw [hpq] at hown1
           have hesl':=hesl S[kk] (jC hkk)
           have hkc:∀ b:Nat,b≠w.heap.size+3→(wb.setCell ⟨w.heap.size+1+1+1,5,none⟩ (.bool true)).heap[b]? = w1.heap[b]? := fun b hb=>(Below.heap_setCell _ _ _ _ hb).trans (hkb b)
           have hDc:(wb.setCell ⟨w.heap.size+1+1+1,5,none⟩ (.bool true)).heap[w.heap.size+3]? = some (.cells (az6 ⟨.slice (some ⟨b,off,none⟩) l.length cap,v,w.heap.size,w.heap.size+1,w.heap.size+2,true,nilS,nilS,[]⟩) 81 (0,0)):=bk0 hDb _ _
           have hsc:w1.heap.size≤(wb.setCell ⟨w.heap.size+1+1+1,5,none⟩ (.bool true)).heap.size:=by first | exact hsb | simpa using hsb
           have hBc:Below w.heap.size w (wb.setCell ⟨w.heap.size+1+1+1,5,none⟩ (.bool true)):=(hJ.below.trans (hbb.mono hJ.below.size)).setCell (by simp;omega) _
           obtain ⟨cs,hcs⟩:∃ cs,cs=S[kk].es.map fun j=>ptr (eb j):=⟨_,rfl⟩
           rw [← hcs] at hown1
           have hownc:(wb.setCell ⟨w.heap.size+1+1+1,5,none⟩ (.bool true)).ownsRow w.heap.size 140 1 (.slice p S[kk].es.length q) S[kk].es.length cs:=ay7 hown1 fun b hb=>hkc b (by rintro rfl;obtain ⟨c',hc'⟩:=az0 hown1 hb;rw [hD] at hc';cases hc')
           go_wp2_with (at_builtin;refine wpList_append_own_at _ rfl _ _ 127 rfl w.heap.size 140 i140 (.pointer none) 1 8 Tryz.underlying127 hi140 hz140 hs140 hb140 rfl (by decide) _ S[kk].es.length cs rfl ?hown ⟨wb.heap.size+1,0,none⟩ 1 1 [.pointer (some ⟨wb.heap.size,0,none⟩)] rfl rfl ?c1 ?c2 ?c3 ?c4 ?c5 ?_)
           case hown=>exact (hownc.alloc _).alloc _
           case c1 =>
            intro j u hj
            have hn:=heap_alloc_new ((wb.setCell ⟨w.heap.size+1+1+1,5,none⟩ (.bool true)).alloc (.cells #[.string ⟨x.Name.toArray⟩,.int .i64 2,.int .i64 x.ID,.int .i64 x.Addr,.int .i64 x.Len,.pointer (some ⟨sb kk,0,none⟩)] 143)) (.cells #[.pointer (some ⟨wb.heap.size,0,none⟩)] 140)
            match j,hj with
            | 0,hj =>
             simp only [jZ,ja] at hj
             subst hj
             exact cell_of (by simpa using hn) rfl
           case c2 =>
            intro u hu
            simp only [jv,List.not_mem_nil,or_false] at hu
            subst hu;rfl
           case c3=>unfold maxLen;omega
           case c4=>omega
           case c5=>have:=hJ.below.size;simp;omega
           intro v' w2 hown2 hgr _ hvb
           have hbw:=hJ.below.size
           have hent2:w2.heap[wb.heap.size]? = some (.cells (bjp ⟨x,kk⟩ sb) 143 (0,0)):=by
            rw [hgr.block wb.heap.size (by simp;omega) (fun e=>by
             have:=(hown1.lt _ e.symm).2;omega)]
            rw [Below.heap_alloc _ _ _ (by simp)]
            have:=heap_alloc_new (wb.setCell ⟨w.heap.size+1+1+1,5,none⟩ (.bool true)) (.cells #[.string ⟨x.Name.toArray⟩,.int .i64 2,.int .i64 x.ID,.int .i64 x.Addr,.int .i64 x.Len,.pointer (some ⟨sb kk,0,none⟩)] 143)
            simpa [bjp,encS,hk2,ptr] using this
           have hk2c:∀ b,b < w1.heap.size→some b≠(Value.slice p S[kk].es.length q).ownBlock→w2.heap[b]? = (wb.setCell ⟨w.heap.size+1+1+1,5,none⟩ (.bool true)).heap[b]? := fun b hb hne=>by
            rw [hgr.block b (by simp;omega) hne,Below.heap_alloc _ _ _ (by simp;omega),Below.heap_alloc _ _ _ (by first | omega | (simp;omega))]
           have hs2:wb.heap.size+2≤w2.heap.size:=by have:=hgr.size;simpa using this
           have hb2:Below w.heap.size w w2:=Below.grown ((hBc.alloc (by first | omega | (simp;omega)) _).alloc (by simp;omega) _) hgr (by simp;omega) (fun k hk=>(hown1.lt k hk).1)
           have hvb2:v'.ownBlock=(Value.slice p S[kk].es.length q).ownBlock∨∃ g,v'.ownBlock=some g∧w1.heap.size≤g:=hvb.imp id fun e=>⟨_,e,by first | omega | (simp;omega)⟩
           clear hgr hvb
           have hne:∀ (b:Nat) (c:Array Value) (t:TypeId),w1.heap[b]? = some (Obj.cells c t (0,0))→t≠140→some b≠(Value.slice p S[kk].es.length q).ownBlock:=fun b c t hb ht e=>by
            obtain ⟨c',hc'⟩:=az0 hown1 e.symm
            exact ht (bz4 hb hc')
           have hD2:=(hk2c _ (by omega) (hne _ _ _ hD (by decide))).trans hDc
           have hS2:=((hk2c _ hsl (hne _ _ _ hsec0 (by decide))).trans (hkc _ (by omega))).trans ((hkb _).symm.trans hsec1)
           have hX2:=((hk2c _ hs1 (hne _ _ _ hx1 (by decide))).trans (hkc _ hXD)).trans hx1
           obtain ⟨p',q',rfl⟩:=aza hown2
           have s8':w2.cell? ⟨sb kk,8,none⟩=some (.slice p S[kk].es.length q):=cell_of hS2 rfl
           have s8f:w2.frozen? ⟨sb kk,8,none⟩=false:=bye hS2
           clear s8 xb0 xb1 xb2 xb3 xb4 g5 g5f x0 x1 g3 g4
           go_wp2
           generalize hw3:w2.setCell ⟨sb kk,8,none⟩ _=w3
           have hS3:w3.heap[sb kk]? = some (.cells (ayc S[kk] (.slice p' (S[kk].es.length+1) q')) 129 (0,0)):=by rw [← hw3];exact bk0 hS2 _ _
           have hk3:∀ b,b≠sb kk→w3.heap[b]? = w2.heap[b]? := fun b hb=>by rw [← hw3];exact Below.heap_setCell _ _ _ _ hb
           have hs3:w2.heap.size≤w3.heap.size:=by rw [← hw3];simp
           have hb3:Below w.heap.size w w3:=by rw [← hw3];exact hb2.setCell (hJ.gr.sec kk hkk).1 _
           clear hw3
           have hD3:=(hk3 _ (Ne.symm hsD)).trans hD2
           have hX3:=(hk3 _ hsX).trans hX2
           have hrow3:=ay7 hown2 (W':=w3) fun b hb=>hk3 b (by
            rintro rfl
            obtain ⟨c',hc'⟩:=az0 hown2 hb
            exact absurd (bz4 hc' hS2) (by decide))
           have hE3:=(hk3 _ (by omega)).trans hent2
           have hM3:w3.heap[w.heap.size+2]? = w1.heap[w.heap.size+2]? := by
            have hl:w.heap.size+2 < w1.heap.size:=hL3.lt
            have hns:w.heap.size+2≠sb kk:=by
             rintro e
             obtain ⟨es,cl,e1,_⟩:=hL3
             have e1:w1.heap[w.heap.size+2]? = some (.map es cl):=e1
             rw [e,hsec0] at e1;cases e1
            exact (hk3 _ hns).trans ((hk2c _ hl (bqi hown1 hL3)).trans (hkc _ (by omega)))
           have hL3':MapK encS w3 (w.heap.size+2) L3:=hL3.keep hM3
           have hkW:∀ b,b < w1.heap.size→b≠w.heap.size+3→b≠w.heap.size+2→b≠sb kk→some b≠(vs kk).ownBlock→w3.heap[b]? = w1.heap[b]? := fun b hb n1 n2 n3 n4=>(hk3 b n3).trans ((hk2c b hb (by rw [← hpq];exact n4)).trans (hkc b n1))
           have g4':w3.cell? ⟨w.heap.size+1+1+1,4,none⟩=some (.map (some (w.heap.size+2))):=cell_of hD3 rfl
           have x0':w3.cell? ⟨wr.heap.size,0,none⟩=some (.string ⟨x.Name.toArray⟩):=cell_of hX3 rfl
           have r3':∀ n,(Instr.lookup 78 (.map (some (w.heap.size+2))) (.string ⟨x.Name.toArray⟩) false).run ji (w3.drewN n) = .ok (((ayd E x.Name).map fun k=>ptr (eb k)).getD (.pointer none)) (w3.drewN n):=fun n=>by
            have:=(hL3'.keep (w':=w3.drewN n) rfl).look_run (keyS Tryz.underlying9) Tryz.underlying78 by4 x.Name
            rw [hl3] at this;exact this
           have hadd:aq6 m (S,E,dbl) x=(ay9 S kk E.length,E ++ [⟨x,kk⟩],true):=by unfold aq6;simp [hAt,hk2,hN,hEn]
           rw [hEn] at r3'
           simp only [ju,jB] at r3'
           unfold ptr at r3'
           go_quiet (fail)
           all_goals go_wp2
           exact ⟨⟨k+1,hkl,by go_num,_,_,_,_,_,hstep.trans hadd,(hJ.added hkk hsb hE3 hS3 hrow3 (by rw [hpq];exact hvb2) hD3 ⟨L3,hL3',ejx (e:=⟨x,kk⟩) _ hl3 hEn⟩ hkW hb3).keep ⟨rfl,rfl,rfl,jq _,fun _ _=>rfl⟩⟩,by simp [intOf];omega⟩
          | none =>
           go_quiet (fail)
           generalize hwb:w1.drewN _=wb
           have hhb:wb.heap=w1.heap:=by rw [← hwb];rfl
           have hbb:Below w1.heap.size w1 wb:=by rw [← hwb];exact ⟨rfl,rfl,rfl,jq _,fun _ _=>rfl⟩
           clear hwb r2 r3
           have hDb:wb.heap[w.heap.size+3]? = some (.cells (az6 ⟨.slice (some ⟨b,off,none⟩) l.length cap,v,w.heap.size,w.heap.size+1,w.heap.size+2,dbl,nilS,nilS,[]⟩) 81 (0,0)):=(congrArg (fun h:Array Obj=>h[w.heap.size+3]?) hhb).trans hD
           have g5:wb.cell? ⟨w.heap.size+1+1+1,5,none⟩=some (.bool dbl):=cell_of hDb rfl
           have g5f:wb.frozen? ⟨w.heap.size+1+1+1,5,none⟩=false:=bye hDb
           have hkb:∀ b:Nat,wb.heap[b]? = w1.heap[b]? := fun b=>by rw [hhb]
           have hsb:w1.heap.size≤wb.heap.size:=by rw [hhb];exact jq _
           have hxb1:wb.heap[wr.heap.size]? = _:=(hkb _).trans hx1
           have xb0:wb.cell? ⟨wr.heap.size,0,none⟩=some (.string ⟨x.Name.toArray⟩):=cell_of hxb1 rfl
           have xb1:wb.cell? ⟨wr.heap.size,1,none⟩=some (.int .i64 2):=cell_of hxb1 rfl
           have xb2:wb.cell? ⟨wr.heap.size,2,none⟩=some (.int .i64 x.ID):=cell_of hxb1 rfl
           have xb3:wb.cell? ⟨wr.heap.size,3,none⟩=some (.int .i64 x.Addr):=cell_of hxb1 rfl
           have xb4:wb.cell? ⟨wr.heap.size,4,none⟩=some (.int .i64 x.Len):=cell_of hxb1 rfl
           have hXb:wr.heap.size < wb.heap.size:=by omega
           clear hhb
           obtain ⟨p,q,hpq⟩:=aza (hJ.gr.row kk hkk)
           have hsec0:=(hJ.gr.sec kk hkk).2
           have hsl:=(jg.1 hsec0).1
           have hslb:sb kk < wb.heap.size:=by omega
           have hsD:sb kk≠w.heap.size+1+1+1:=fun e=>absurd (bz4 (e ▸ hsec0) hD) (by decide)
           have hsX:wr.heap.size≠sb kk:=fun e=>absurd (bz4 (e ▸ hx1) hsec0) (by decide)
           have hsec1:=(hkb _).trans hsec0
           rw [hpq] at hsec1
           have s8:wb.cell? ⟨sb kk,8,none⟩=some (.slice p S[kk].es.length q):=cell_of hsec1 rfl
           have hown1:=hJ.gr.row kk hkk
           rw [hpq] at hown1
           have hesl':=hesl S[kk] (jC hkk)
           have hkc:∀ b:Nat,b≠w.heap.size+3→(wb.setCell ⟨w.heap.size+1+1+1,5,none⟩ (.bool true)).heap[b]? = w1.heap[b]? := fun b hb=>(Below.heap_setCell _ _ _ _ hb).trans (hkb b)
           have hDc:(wb.setCell ⟨w.heap.size+1+1+1,5,none⟩ (.bool true)).heap[w.heap.size+3]? = some (.cells (az6 ⟨.slice (some ⟨b,off,none⟩) l.length cap,v,w.heap.size,w.heap.size+1,w.heap.size+2,true,nilS,nilS,[]⟩) 81 (0,0)):=bk0 hDb _ _
           have hsc:w1.heap.size≤(wb.setCell ⟨w.heap.size+1+1+1,5,none⟩ (.bool true)).heap.size:=by first | exact hsb | simpa using hsb
           have hBc:Below w.heap.size w (wb.setCell ⟨w.heap.size+1+1+1,5,none⟩ (.bool true)):=(hJ.below.trans (hbb.mono hJ.below.size)).setCell (by simp;omega) _
           obtain ⟨cs,hcs⟩:∃ cs,cs=S[kk].es.map fun j=>ptr (eb j):=⟨_,rfl⟩
           rw [← hcs] at hown1
           have hownc:(wb.setCell ⟨w.heap.size+1+1+1,5,none⟩ (.bool true)).ownsRow w.heap.size 140 1 (.slice p S[kk].es.length q) S[kk].es.length cs:=ay7 hown1 fun b hb=>hkc b (by rintro rfl;obtain ⟨c',hc'⟩:=az0 hown1 hb;rw [hD] at hc';cases hc')
           go_wp2_with (at_builtin;refine wpList_append_own_at _ rfl _ _ 127 rfl w.heap.size 140 i140 (.pointer none) 1 8 Tryz.underlying127 hi140 hz140 hs140 hb140 rfl (by decide) _ S[kk].es.length cs rfl ?hown ⟨wb.heap.size+1,0,none⟩ 1 1 [.pointer (some ⟨wb.heap.size,0,none⟩)] rfl rfl ?c1 ?c2 ?c3 ?c4 ?c5 ?_)
           case hown=>exact (hownc.alloc _).alloc _
           case c1 =>
            intro j u hj
            have hn:=heap_alloc_new ((wb.setCell ⟨w.heap.size+1+1+1,5,none⟩ (.bool true)).alloc (.cells #[.string ⟨x.Name.toArray⟩,.int .i64 2,.int .i64 x.ID,.int .i64 x.Addr,.int .i64 x.Len,.pointer (some ⟨sb kk,0,none⟩)] 143)) (.cells #[.pointer (some ⟨wb.heap.size,0,none⟩)] 140)
            match j,hj with
            | 0,hj =>
             simp only [jZ,ja] at hj
             subst hj
             exact cell_of (by simpa using hn) rfl
           case c2 =>
            intro u hu
            simp only [jv,List.not_mem_nil,or_false] at hu
            subst hu;rfl
           case c3=>unfold maxLen;omega
           case c4=>omega
           case c5=>have:=hJ.below.size;simp;omega
           intro v' w2 hown2 hgr _ hvb
           have hbw:=hJ.below.size
           have hent2:w2.heap[wb.heap.size]? = some (.cells (bjp ⟨x,kk⟩ sb) 143 (0,0)):=by
            rw [hgr.block wb.heap.size (by simp;omega) (fun e=>by
             have:=(hown1.lt _ e.symm).2;omega)]
            rw [Below.heap_alloc _ _ _ (by simp)]
            have:=heap_alloc_new (wb.setCell ⟨w.heap.size+1+1+1,5,none⟩ (.bool true)) (.cells #[.string ⟨x.Name.toArray⟩,.int .i64 2,.int .i64 x.ID,.int .i64 x.Addr,.int .i64 x.Len,.pointer (some ⟨sb kk,0,none⟩)] 143)
            simpa [bjp,encS,hk2,ptr] using this
           have hk2c:∀ b,b < w1.heap.size→some b≠(Value.slice p S[kk].es.length q).ownBlock→w2.heap[b]? = (wb.setCell ⟨w.heap.size+1+1+1,5,none⟩ (.bool true)).heap[b]? := fun b hb hne=>by
            rw [hgr.block b (by simp;omega) hne,Below.heap_alloc _ _ _ (by simp;omega),Below.heap_alloc _ _ _ (by first | omega | (simp;omega))]
           have hs2:wb.heap.size+2≤w2.heap.size:=by have:=hgr.size;simpa using this
           have hb2:Below w.heap.size w w2:=Below.grown ((hBc.alloc (by first | omega | (simp;omega)) _).alloc (by simp;omega) _) hgr (by simp;omega) (fun k hk=>(hown1.lt k hk).1)
           have hvb2:v'.ownBlock=(Value.slice p S[kk].es.length q).ownBlock∨∃ g,v'.ownBlock=some g∧w1.heap.size≤g:=hvb.imp id fun e=>⟨_,e,by first | omega | (simp;omega)⟩
           clear hgr hvb
           have hne:∀ (b:Nat) (c:Array Value) (t:TypeId),w1.heap[b]? = some (Obj.cells c t (0,0))→t≠140→some b≠(Value.slice p S[kk].es.length q).ownBlock:=fun b c t hb ht e=>by
            obtain ⟨c',hc'⟩:=az0 hown1 e.symm
            exact ht (bz4 hb hc')
           have hD2:=(hk2c _ (by omega) (hne _ _ _ hD (by decide))).trans hDc
           have hS2:=((hk2c _ hsl (hne _ _ _ hsec0 (by decide))).trans (hkc _ (by omega))).trans ((hkb _).symm.trans hsec1)
           have hX2:=((hk2c _ hs1 (hne _ _ _ hx1 (by decide))).trans (hkc _ hXD)).trans hx1
           obtain ⟨p',q',rfl⟩:=aza hown2
           have s8':w2.cell? ⟨sb kk,8,none⟩=some (.slice p S[kk].es.length q):=cell_of hS2 rfl
           have s8f:w2.frozen? ⟨sb kk,8,none⟩=false:=bye hS2
           clear s8 xb0 xb1 xb2 xb3 xb4 g5 g5f x0 x1 g3 g4
           go_wp2
           generalize hw3:w2.setCell ⟨sb kk,8,none⟩ _=w3
           have hS3:w3.heap[sb kk]? = some (.cells (ayc S[kk] (.slice p' (S[kk].es.length+1) q')) 129 (0,0)):=by rw [← hw3];exact bk0 hS2 _ _
           have hk3:∀ b,b≠sb kk→w3.heap[b]? = w2.heap[b]? := fun b hb=>by rw [← hw3];exact Below.heap_setCell _ _ _ _ hb
           have hs3:w2.heap.size≤w3.heap.size:=by rw [← hw3];simp
           have hb3:Below w.heap.size w w3:=by rw [← hw3];exact hb2.setCell (hJ.gr.sec kk hkk).1 _
           clear hw3
           have hD3:=(hk3 _ (Ne.symm hsD)).trans hD2
           have hX3:=(hk3 _ hsX).trans hX2
           have hrow3:=ay7 hown2 (W':=w3) fun b hb=>hk3 b (by
            rintro rfl
            obtain ⟨c',hc'⟩:=az0 hown2 hb
            exact absurd (bz4 hc' hS2) (by decide))
           have hE3:=(hk3 _ (by omega)).trans hent2
           have hM3:w3.heap[w.heap.size+2]? = w1.heap[w.heap.size+2]? := by
            have hl:w.heap.size+2 < w1.heap.size:=hL3.lt
            have hns:w.heap.size+2≠sb kk:=by
             rintro e
             obtain ⟨es,cl,e1,_⟩:=hL3
             have e1:w1.heap[w.heap.size+2]? = some (.map es cl):=e1
             rw [e,hsec0] at e1;cases e1
            exact (hk3 _ hns).trans ((hk2c _ hl (bqi hown1 hL3)).trans (hkc _ (by omega)))
           have hL3':MapK encS w3 (w.heap.size+2) L3:=hL3.keep hM3
           have hkW:∀ b,b < w1.heap.size→b≠w.heap.size+3→b≠w.heap.size+2→b≠sb kk→some b≠(vs kk).ownBlock→w3.heap[b]? = w1.heap[b]? := fun b hb n1 n2 n3 n4=>(hk3 b n3).trans ((hk2c b hb (by rw [← hpq];exact n4)).trans (hkc b n1))
           have g4':w3.cell? ⟨w.heap.size+1+1+1,4,none⟩=some (.map (some (w.heap.size+2))):=cell_of hD3 rfl
           have x0':w3.cell? ⟨wr.heap.size,0,none⟩=some (.string ⟨x.Name.toArray⟩):=cell_of hX3 rfl
           have r3':∀ n,(Instr.lookup 78 (.map (some (w.heap.size+2))) (.string ⟨x.Name.toArray⟩) false).run ji (w3.drewN n) = .ok (((ayd E x.Name).map fun k=>ptr (eb k)).getD (.pointer none)) (w3.drewN n):=fun n=>by
            have:=(hL3'.keep (w':=w3.drewN n) rfl).look_run (keyS Tryz.underlying9) Tryz.underlying78 by4 x.Name
            rw [hl3] at this;exact this
           have hadd:aq6 m (S,E,dbl) x=(ay9 S kk E.length,E ++ [⟨x,kk⟩],true):=by unfold aq6;simp [hAt,hk2,hN,hEn]
           rw [hEn] at r3'
           simp only [j4,jY] at r3'
           go_quiet (fail)
           all_goals go_wp2
           generalize hw5:w3.drewN nq=w5
           have hh5:w5.heap=w3.heap:=by rw [← hw5];rfl
           have hb5:Below w3.heap.size w3 w5:=by rw [← hw5];exact ⟨rfl,rfl,rfl,jq _,fun _ _=>rfl⟩
           clear hw5
           refine ayw 7 (by kernel_rfl) (by kernel_rfl) ?_
           intro wd hwd
           have hhd:wd.heap=w3.heap:=by rw [← hwd];exact hh5
           have hbd:Below w3.heap.size w3 wd:=by rw [← hwd];exact hb5.drew
           clear hwd
           have hkd:∀ b:Nat,wd.heap[b]? = w3.heap[b]? := fun b=>by rw [hhd]
           have d4:wd.cell? ⟨w.heap.size+1+1+1,4,none⟩=some (.map (some (w.heap.size+2))):=cell_of ((hkd _).trans hD3) rfl
           have y0:wd.cell? ⟨wr.heap.size,0,none⟩=some (.string ⟨x.Name.toArray⟩):=cell_of ((hkd _).trans hX3) rfl
           have hLd:MapK encS wd (w.heap.size+2) L3:=hL3'.keep (hkd _)
           obtain ⟨o,hput,hmk⟩:=hLd.put_run (keyS Tryz.underlying9) Tryz.underlying78 x.Name (.pointer (some ⟨wb.heap.size,0,none⟩)) (by rw [hl3,hEn];rfl)
           simp only [encS] at hput
           obtain ⟨w6,hw6⟩:∃ w6,w6={ wd with heap:=wd.heap.setIfInBounds (w.heap.size+2) o }:=⟨_,rfl⟩
           rw [← hw6] at hput
           obtain ⟨p1,p2,p3,p4⟩:=putW hLd hw6
           have hm6:=hmk w6 p1
           have k6:∀ b,b≠w.heap.size+2→w6.heap[b]? = w3.heap[b]? := fun b hb=>(p2 b hb).trans (hkd b)
           have hB6:Below w.heap.size w w6:=(hb3.trans (hbd.mono (by omega))).trans (p4 _ (by omega))
           have nM:∀ (b:Nat) (c:Array Value) (t:TypeId),w3.heap[b]? = some (Obj.cells c t (0,0))→b≠w.heap.size+2:=fun b c t hb e=>by
            obtain ⟨es,cl,e1,_⟩:=hL3'
            rw [← e,hb] at e1;cases e1
           clear hhd hw6 p1 p2 p3 p4 hmk hh5
           simp only [JB,List.take_zero,List.drop_succ_cons,Jw]
           repeat still_step
           try refine wpStill_nil ?_
           go_wp2
           exact ⟨⟨k+1,hkl,by go_num,_,_,_,_,_,hstep.trans hadd,hJ.added hkk hsb ((k6 _ (nM _ _ _ hE3)).trans hE3) ((k6 _ (nM _ _ _ hS3)).trans hS3) (ay7 hrow3 fun b hb=>by obtain ⟨c',hc'⟩:=az0 hrow3 hb;exact k6 b (nM _ _ _ hc')) (by rw [hpq];exact hvb2) ((k6 _ (nM _ _ _ hD3)).trans hD3) ⟨_,hm6,ez9 (e:=⟨x,kk⟩) _ hl3 hEn⟩ (fun b hb n1 n2 n3 n4=>(k6 b n2).trans (hkW b hb n1 n2 n3 n4)) hB6⟩,by simp [intOf];omega⟩
         | none =>
          rw [hN] at r2
          simp only [j4,jY] at r2
          cases hEn:ayd E x.Name with
          | some t2 =>
           rw [hEn] at r3
           simp only [ju,jB] at r3
           unfold ptr at r3
           go_quiet (fail)
           generalize hwb:w1.drewN _=wb
           have hhb:wb.heap=w1.heap:=by rw [← hwb];rfl
           have hbb:Below w1.heap.size w1 wb:=by rw [← hwb];exact ⟨rfl,rfl,rfl,jq _,fun _ _=>rfl⟩
           clear hwb r2 r3
           have hDb:wb.heap[w.heap.size+3]? = some (.cells (az6 ⟨.slice (some ⟨b,off,none⟩) l.length cap,v,w.heap.size,w.heap.size+1,w.heap.size+2,dbl,nilS,nilS,[]⟩) 81 (0,0)):=(congrArg (fun h:Array Obj=>h[w.heap.size+3]?) hhb).trans hD
           have g5:wb.cell? ⟨w.heap.size+1+1+1,5,none⟩=some (.bool dbl):=cell_of hDb rfl
           have g5f:wb.frozen? ⟨w.heap.size+1+1+1,5,none⟩=false:=bye hDb
           have hkb:∀ b:Nat,wb.heap[b]? = w1.heap[b]? := fun b=>by rw [hhb]
           have hsb:w1.heap.size≤wb.heap.size:=by rw [hhb];exact jq _
           have hxb1:wb.heap[wr.heap.size]? = _:=(hkb _).trans hx1
           have xb0:wb.cell? ⟨wr.heap.size,0,none⟩=some (.string ⟨x.Name.toArray⟩):=cell_of hxb1 rfl
           have xb1:wb.cell? ⟨wr.heap.size,1,none⟩=some (.int .i64 2):=cell_of hxb1 rfl
           have xb2:wb.cell? ⟨wr.heap.size,2,none⟩=some (.int .i64 x.ID):=cell_of hxb1 rfl
           have xb3:wb.cell? ⟨wr.heap.size,3,none⟩=some (.int .i64 x.Addr):=cell_of hxb1 rfl
           have xb4:wb.cell? ⟨wr.heap.size,4,none⟩=some (.int .i64 x.Len):=cell_of hxb1 rfl
           have hXb:wr.heap.size < wb.heap.size:=by omega
           clear hhb
           obtain ⟨p,q,hpq⟩:=aza (hJ.gr.row kk hkk)
           have hsec0:=(hJ.gr.sec kk hkk).2
           have hsl:=(jg.1 hsec0).1
           have hslb:sb kk < wb.heap.size:=by omega
           have hsD:sb kk≠w.heap.size+1+1+1:=fun e=>absurd (bz4 (e ▸ hsec0) hD) (by decide)
           have hsX:wr.heap.size≠sb kk:=fun e=>absurd (bz4 (e ▸ hx1) hsec0) (by decide)
           have hsec1:=(hkb _).trans hsec0
           rw [hpq] at hsec1
           have s8:wb.cell? ⟨sb kk,8,none⟩=some (.slice p S[kk].es.length q):=cell_of hsec1 rfl
           have hown1:=hJ.gr.row kk hkk
           rw [hpq] at hown1
           have hesl':=hesl S[kk] (jC hkk)
           have hkc:∀ b:Nat,b≠w.heap.size+3→(wb.setCell ⟨w.heap.size+1+1+1,5,none⟩ (.bool true)).heap[b]? = w1.heap[b]? := fun b hb=>(Below.heap_setCell _ _ _ _ hb).trans (hkb b)
           have hDc:(wb.setCell ⟨w.heap.size+1+1+1,5,none⟩ (.bool true)).heap[w.heap.size+3]? = some (.cells (az6 ⟨.slice (some ⟨b,off,none⟩) l.length cap,v,w.heap.size,w.heap.size+1,w.heap.size+2,true,nilS,nilS,[]⟩) 81 (0,0)):=bk0 hDb _ _
           have hsc:w1.heap.size≤(wb.setCell ⟨w.heap.size+1+1+1,5,none⟩ (.bool true)).heap.size:=by first | exact hsb | simpa using hsb
           have hBc:Below w.heap.size w (wb.setCell ⟨w.heap.size+1+1+1,5,none⟩ (.bool true)):=(hJ.below.trans (hbb.mono hJ.below.size)).setCell (by simp;omega) _
           obtain ⟨cs,hcs⟩:∃ cs,cs=S[kk].es.map fun j=>ptr (eb j):=⟨_,rfl⟩
           rw [← hcs] at hown1
           have hownc:(wb.setCell ⟨w.heap.size+1+1+1,5,none⟩ (.bool true)).ownsRow w.heap.size 140 1 (.slice p S[kk].es.length q) S[kk].es.length cs:=ay7 hown1 fun b hb=>hkc b (by rintro rfl;obtain ⟨c',hc'⟩:=az0 hown1 hb;rw [hD] at hc';cases hc')
           go_wp2_with (at_builtin;refine wpList_append_own_at _ rfl _ _ 127 rfl w.heap.size 140 i140 (.pointer none) 1 8 Tryz.underlying127 hi140 hz140 hs140 hb140 rfl (by decide) _ S[kk].es.length cs rfl ?hown ⟨wb.heap.size+1,0,none⟩ 1 1 [.pointer (some ⟨wb.heap.size,0,none⟩)] rfl rfl ?c1 ?c2 ?c3 ?c4 ?c5 ?_)
           case hown=>exact (hownc.alloc _).alloc _
           case c1 =>
            intro j u hj
            have hn:=heap_alloc_new ((wb.setCell ⟨w.heap.size+1+1+1,5,none⟩ (.bool true)).alloc (.cells #[.string ⟨x.Name.toArray⟩,.int .i64 2,.int .i64 x.ID,.int .i64 x.Addr,.int .i64 x.Len,.pointer (some ⟨sb kk,0,none⟩)] 143)) (.cells #[.pointer (some ⟨wb.heap.size,0,none⟩)] 140)
            match j,hj with
            | 0,hj =>
             simp only [jZ,ja] at hj
             subst hj
             exact cell_of (by simpa using hn) rfl
           case c2 =>
            intro u hu
            simp only [jv,List.not_mem_nil,or_false] at hu
            subst hu;rfl
           case c3=>unfold maxLen;omega
           case c4=>omega
           case c5=>have:=hJ.below.size;simp;omega
           intro v' w2 hown2 hgr _ hvb
           have hbw:=hJ.below.size
           have hent2:w2.heap[wb.heap.size]? = some (.cells (bjp ⟨x,kk⟩ sb) 143 (0,0)):=by
            rw [hgr.block wb.heap.size (by simp;omega) (fun e=>by
             have:=(hown1.lt _ e.symm).2;omega)]
            rw [Below.heap_alloc _ _ _ (by simp)]
            have:=heap_alloc_new (wb.setCell ⟨w.heap.size+1+1+1,5,none⟩ (.bool true)) (.cells #[.string ⟨x.Name.toArray⟩,.int .i64 2,.int .i64 x.ID,.int .i64 x.Addr,.int .i64 x.Len,.pointer (some ⟨sb kk,0,none⟩)] 143)
            simpa [bjp,encS,hk2,ptr] using this
           have hk2c:∀ b,b < w1.heap.size→some b≠(Value.slice p S[kk].es.length q).ownBlock→w2.heap[b]? = (wb.setCell ⟨w.heap.size+1+1+1,5,none⟩ (.bool true)).heap[b]? := fun b hb hne=>by
            rw [hgr.block b (by simp;omega) hne,Below.heap_alloc _ _ _ (by simp;omega),Below.heap_alloc _ _ _ (by first | omega | (simp;omega))]
           have hs2:wb.heap.size+2≤w2.heap.size:=by have:=hgr.size;simpa using this
           have hb2:Below w.heap.size w w2:=Below.grown ((hBc.alloc (by first | omega | (simp;omega)) _).alloc (by simp;omega) _) hgr (by simp;omega) (fun k hk=>(hown1.lt k hk).1)
           have hvb2:v'.ownBlock=(Value.slice p S[kk].es.length q).ownBlock∨∃ g,v'.ownBlock=some g∧w1.heap.size≤g:=hvb.imp id fun e=>⟨_,e,by first | omega | (simp;omega)⟩
           clear hgr hvb
           have hne:∀ (b:Nat) (c:Array Value) (t:TypeId),w1.heap[b]? = some (Obj.cells c t (0,0))→t≠140→some b≠(Value.slice p S[kk].es.length q).ownBlock:=fun b c t hb ht e=>by
            obtain ⟨c',hc'⟩:=az0 hown1 e.symm
            exact ht (bz4 hb hc')
           have hD2:=(hk2c _ (by omega) (hne _ _ _ hD (by decide))).trans hDc
           have hS2:=((hk2c _ hsl (hne _ _ _ hsec0 (by decide))).trans (hkc _ (by omega))).trans ((hkb _).symm.trans hsec1)
           have hX2:=((hk2c _ hs1 (hne _ _ _ hx1 (by decide))).trans (hkc _ hXD)).trans hx1
           obtain ⟨p',q',rfl⟩:=aza hown2
           have s8':w2.cell? ⟨sb kk,8,none⟩=some (.slice p S[kk].es.length q):=cell_of hS2 rfl
           have s8f:w2.frozen? ⟨sb kk,8,none⟩=false:=bye hS2
           clear s8 xb0 xb1 xb2 xb3 xb4 g5 g5f x0 x1 g3 g4
           go_wp2
           generalize hw3:w2.setCell ⟨sb kk,8,none⟩ _=w3
           have hS3:w3.heap[sb kk]? = some (.cells (ayc S[kk] (.slice p' (S[kk].es.length+1) q')) 129 (0,0)):=by rw [← hw3];exact bk0 hS2 _ _
           have hk3:∀ b,b≠sb kk→w3.heap[b]? = w2.heap[b]? := fun b hb=>by rw [← hw3];exact Below.heap_setCell _ _ _ _ hb
           have hs3:w2.heap.size≤w3.heap.size:=by rw [← hw3];simp
           have hb3:Below w.heap.size w w3:=by rw [← hw3];exact hb2.setCell (hJ.gr.sec kk hkk).1 _
           clear hw3
           have hD3:=(hk3 _ (Ne.symm hsD)).trans hD2
           have hX3:=(hk3 _ hsX).trans hX2
           have hrow3:=ay7 hown2 (W':=w3) fun b hb=>hk3 b (by
            rintro rfl
            obtain ⟨c',hc'⟩:=az0 hown2 hb
            exact absurd (bz4 hc' hS2) (by decide))
           have hE3:=(hk3 _ (by omega)).trans hent2
           have hM3:w3.heap[w.heap.size+2]? = w1.heap[w.heap.size+2]? := by
            have hl:w.heap.size+2 < w1.heap.size:=hL3.lt
            have hns:w.heap.size+2≠sb kk:=by
             rintro e
             obtain ⟨es,cl,e1,_⟩:=hL3
             have e1:w1.heap[w.heap.size+2]? = some (.map es cl):=e1
             rw [e,hsec0] at e1;cases e1
            exact (hk3 _ hns).trans ((hk2c _ hl (bqi hown1 hL3)).trans (hkc _ (by omega)))
           have hL3':MapK encS w3 (w.heap.size+2) L3:=hL3.keep hM3
           have hkW:∀ b,b < w1.heap.size→b≠w.heap.size+3→b≠w.heap.size+2→b≠sb kk→some b≠(vs kk).ownBlock→w3.heap[b]? = w1.heap[b]? := fun b hb n1 n2 n3 n4=>(hk3 b n3).trans ((hk2c b hb (by rw [← hpq];exact n4)).trans (hkc b n1))
           have g4':w3.cell? ⟨w.heap.size+1+1+1,4,none⟩=some (.map (some (w.heap.size+2))):=cell_of hD3 rfl
           have x0':w3.cell? ⟨wr.heap.size,0,none⟩=some (.string ⟨x.Name.toArray⟩):=cell_of hX3 rfl
           have r3':∀ n,(Instr.lookup 78 (.map (some (w.heap.size+2))) (.string ⟨x.Name.toArray⟩) false).run ji (w3.drewN n) = .ok (((ayd E x.Name).map fun k=>ptr (eb k)).getD (.pointer none)) (w3.drewN n):=fun n=>by
            have:=(hL3'.keep (w':=w3.drewN n) rfl).look_run (keyS Tryz.underlying9) Tryz.underlying78 by4 x.Name
            rw [hl3] at this;exact this
           have hadd:aq6 m (S,E,dbl) x=(ay9 S kk E.length,E ++ [⟨x,kk⟩],true):=by unfold aq6;simp [hAt,hk2,hN,hEn]
           rw [hEn] at r3'
           simp only [ju,jB] at r3'
           unfold ptr at r3'
           go_quiet (fail)
           all_goals go_wp2
           exact ⟨⟨k+1,hkl,by go_num,_,_,_,_,_,hstep.trans hadd,(hJ.added hkk hsb hE3 hS3 hrow3 (by rw [hpq];exact hvb2) hD3 ⟨L3,hL3',ejx (e:=⟨x,kk⟩) _ hl3 hEn⟩ hkW hb3).keep ⟨rfl,rfl,rfl,jq _,fun _ _=>rfl⟩⟩,by simp [intOf];omega⟩
          | none =>
           rw [hEn] at r3
           simp only [j4,jY] at r3
           go_quiet (fail)
           generalize hwb:w1.drewN _=wb
           have hhb:wb.heap=w1.heap:=by rw [← hwb];rfl
           have hbb:Below w1.heap.size w1 wb:=by rw [← hwb];exact ⟨rfl,rfl,rfl,jq _,fun _ _=>rfl⟩
           clear hwb r2 r3
           have hDb:wb.heap[w.heap.size+3]? = some (.cells (az6 ⟨.slice (some ⟨b,off,none⟩) l.length cap,v,w.heap.size,w.heap.size+1,w.heap.size+2,dbl,nilS,nilS,[]⟩) 81 (0,0)):=(congrArg (fun h:Array Obj=>h[w.heap.size+3]?) hhb).trans hD
           have g5:wb.cell? ⟨w.heap.size+1+1+1,5,none⟩=some (.bool dbl):=cell_of hDb rfl
           have g5f:wb.frozen? ⟨w.heap.size+1+1+1,5,none⟩=false:=bye hDb
           have hkb:∀ b:Nat,wb.heap[b]? = w1.heap[b]? := fun b=>by rw [hhb]
           have hsb:w1.heap.size≤wb.heap.size:=by rw [hhb];exact jq _
           have hxb1:wb.heap[wr.heap.size]? = _:=(hkb _).trans hx1
           have xb0:wb.cell? ⟨wr.heap.size,0,none⟩=some (.string ⟨x.Name.toArray⟩):=cell_of hxb1 rfl
           have xb1:wb.cell? ⟨wr.heap.size,1,none⟩=some (.int .i64 2):=cell_of hxb1 rfl
           have xb2:wb.cell? ⟨wr.heap.size,2,none⟩=some (.int .i64 x.ID):=cell_of hxb1 rfl
           have xb3:wb.cell? ⟨wr.heap.size,3,none⟩=some (.int .i64 x.Addr):=cell_of hxb1 rfl
           have xb4:wb.cell? ⟨wr.heap.size,4,none⟩=some (.int .i64 x.Len):=cell_of hxb1 rfl
           have hXb:wr.heap.size < wb.heap.size:=by omega
           clear hhb
           obtain ⟨p,q,hpq⟩:=aza (hJ.gr.row kk hkk)
           have hsec0:=(hJ.gr.sec kk hkk).2
           have hsl:=(jg.1 hsec0).1
           have hslb:sb kk < wb.heap.size:=by omega
           have hsD:sb kk≠w.heap.size+1+1+1:=fun e=>absurd (bz4 (e ▸ hsec0) hD) (by decide)
           have hsX:wr.heap.size≠sb kk:=fun e=>absurd (bz4 (e ▸ hx1) hsec0) (by decide)
           have hsec1:=(hkb _).trans hsec0
           rw [hpq] at hsec1
           have s8:wb.cell? ⟨sb kk,8,none⟩=some (.slice p S[kk].es.length q):=cell_of hsec1 rfl
           have hown1:=hJ.gr.row kk hkk
           rw [hpq] at hown1
           have hesl':=hesl S[kk] (jC hkk)
           have hkc:∀ b:Nat,b≠w.heap.size+3→(wb).heap[b]? = w1.heap[b]? := fun b hb=>hkb b
           have hDc:(wb).heap[w.heap.size+3]? = some (.cells (az6 ⟨.slice (some ⟨b,off,none⟩) l.length cap,v,w.heap.size,w.heap.size+1,w.heap.size+2,dbl,nilS,nilS,[]⟩) 81 (0,0)):=hDb
           have hsc:w1.heap.size≤(wb).heap.size:=by first | exact hsb | simpa using hsb
           have hBc:Below w.heap.size w (wb):=hJ.below.trans (hbb.mono hJ.below.size)
           obtain ⟨cs,hcs⟩:∃ cs,cs=S[kk].es.map fun j=>ptr (eb j):=⟨_,rfl⟩
           rw [← hcs] at hown1
           have hownc:(wb).ownsRow w.heap.size 140 1 (.slice p S[kk].es.length q) S[kk].es.length cs:=ay7 hown1 fun b hb=>hkc b (by rintro rfl;obtain ⟨c',hc'⟩:=az0 hown1 hb;rw [hD] at hc';cases hc')
           go_wp2_with (at_builtin;refine wpList_append_own_at _ rfl _ _ 127 rfl w.heap.size 140 i140 (.pointer none) 1 8 Tryz.underlying127 hi140 hz140 hs140 hb140 rfl (by decide) _ S[kk].es.length cs rfl ?hown ⟨wb.heap.size+1,0,none⟩ 1 1 [.pointer (some ⟨wb.heap.size,0,none⟩)] rfl rfl ?c1 ?c2 ?c3 ?c4 ?c5 ?_)
           case hown=>exact (hownc.alloc _).alloc _
           case c1 =>
            intro j u hj
            have hn:=heap_alloc_new ((wb).alloc (.cells #[.string ⟨x.Name.toArray⟩,.int .i64 2,.int .i64 x.ID,.int .i64 x.Addr,.int .i64 x.Len,.pointer (some ⟨sb kk,0,none⟩)] 143)) (.cells #[.pointer (some ⟨wb.heap.size,0,none⟩)] 140)
            match j,hj with
            | 0,hj =>
             simp only [jZ,ja] at hj
             subst hj
             exact cell_of (by simpa using hn) rfl
           case c2 =>
            intro u hu
            simp only [jv,List.not_mem_nil,or_false] at hu
            subst hu;rfl
           case c3=>unfold maxLen;omega
           case c4=>omega
           case c5=>have:=hJ.below.size;simp;omega
           intro v' w2 hown2 hgr _ hvb
           have hbw:=hJ.below.size
           have hent2:w2.heap[wb.heap.size]? = some (.cells (bjp ⟨x,kk⟩ sb) 143 (0,0)):=by
            rw [hgr.block wb.heap.size (by simp;omega) (fun e=>by
             have:=(hown1.lt _ e.symm).2;omega)]
            rw [Below.heap_alloc _ _ _ (by simp)]
            have:=heap_alloc_new (wb) (.cells #[.string ⟨x.Name.toArray⟩,.int .i64 2,.int .i64 x.ID,.int .i64 x.Addr,.int .i64 x.Len,.pointer (some ⟨sb kk,0,none⟩)] 143)
            simpa [bjp,encS,hk2,ptr] using this
           have hk2c:∀ b,b < w1.heap.size→some b≠(Value.slice p S[kk].es.length q).ownBlock→w2.heap[b]? = (wb).heap[b]? := fun b hb hne=>by
            rw [hgr.block b (by simp;omega) hne,Below.heap_alloc _ _ _ (by simp;omega),Below.heap_alloc _ _ _ (by first | omega | (simp;omega))]
           have hs2:wb.heap.size+2≤w2.heap.size:=by have:=hgr.size;simpa using this
           have hb2:Below w.heap.size w w2:=Below.grown ((hBc.alloc (by first | omega | (simp;omega)) _).alloc (by simp;omega) _) hgr (by simp;omega) (fun k hk=>(hown1.lt k hk).1)
           have hvb2:v'.ownBlock=(Value.slice p S[kk].es.length q).ownBlock∨∃ g,v'.ownBlock=some g∧w1.heap.size≤g:=hvb.imp id fun e=>⟨_,e,by first | omega | (simp;omega)⟩
           clear hgr hvb
           have hne:∀ (b:Nat) (c:Array Value) (t:TypeId),w1.heap[b]? = some (Obj.cells c t (0,0))→t≠140→some b≠(Value.slice p S[kk].es.length q).ownBlock:=fun b c t hb ht e=>by
            obtain ⟨c',hc'⟩:=az0 hown1 e.symm
            exact ht (bz4 hb hc')
           have hD2:=(hk2c _ (by omega) (hne _ _ _ hD (by decide))).trans hDc
           have hS2:=((hk2c _ hsl (hne _ _ _ hsec0 (by decide))).trans (hkc _ (by omega))).trans ((hkb _).symm.trans hsec1)
           have hX2:=((hk2c _ hs1 (hne _ _ _ hx1 (by decide))).trans (hkc _ hXD)).trans hx1
           obtain ⟨p',q',rfl⟩:=aza hown2
           have s8':w2.cell? ⟨sb kk,8,none⟩=some (.slice p S[kk].es.length q):=cell_of hS2 rfl
           have s8f:w2.frozen? ⟨sb kk,8,none⟩=false:=bye hS2
           clear s8 xb0 xb1 xb2 xb3 xb4 g5 g5f x0 x1 g3 g4
           go_wp2
           generalize hw3:w2.setCell ⟨sb kk,8,none⟩ _=w3
           have hS3:w3.heap[sb kk]? = some (.cells (ayc S[kk] (.slice p' (S[kk].es.length+1) q')) 129 (0,0)):=by rw [← hw3];exact bk0 hS2 _ _
           have hk3:∀ b,b≠sb kk→w3.heap[b]? = w2.heap[b]? := fun b hb=>by rw [← hw3];exact Below.heap_setCell _ _ _ _ hb
           have hs3:w2.heap.size≤w3.heap.size:=by rw [← hw3];simp
           have hb3:Below w.heap.size w w3:=by rw [← hw3];exact hb2.setCell (hJ.gr.sec kk hkk).1 _
           clear hw3
           have hD3:=(hk3 _ (Ne.symm hsD)).trans hD2
           have hX3:=(hk3 _ hsX).trans hX2
           have hrow3:=ay7 hown2 (W':=w3) fun b hb=>hk3 b (by
            rintro rfl
            obtain ⟨c',hc'⟩:=az0 hown2 hb
            exact absurd (bz4 hc' hS2) (by decide))
           have hE3:=(hk3 _ (by omega)).trans hent2
           have hM3:w3.heap[w.heap.size+2]? = w1.heap[w.heap.size+2]? := by
            have hl:w.heap.size+2 < w1.heap.size:=hL3.lt
            have hns:w.heap.size+2≠sb kk:=by
             rintro e
             obtain ⟨es,cl,e1,_⟩:=hL3
             have e1:w1.heap[w.heap.size+2]? = some (.map es cl):=e1
             rw [e,hsec0] at e1;cases e1
            exact (hk3 _ hns).trans ((hk2c _ hl (bqi hown1 hL3)).trans (hkc _ (by omega)))
           have hL3':MapK encS w3 (w.heap.size+2) L3:=hL3.keep hM3
           have hkW:∀ b,b < w1.heap.size→b≠w.heap.size+3→b≠w.heap.size+2→b≠sb kk→some b≠(vs kk).ownBlock→w3.heap[b]? = w1.heap[b]? := fun b hb n1 n2 n3 n4=>(hk3 b n3).trans ((hk2c b hb (by rw [← hpq];exact n4)).trans (hkc b n1))
           have g4':w3.cell? ⟨w.heap.size+1+1+1,4,none⟩=some (.map (some (w.heap.size+2))):=cell_of hD3 rfl
           have x0':w3.cell? ⟨wr.heap.size,0,none⟩=some (.string ⟨x.Name.toArray⟩):=cell_of hX3 rfl
           have r3':∀ n,(Instr.lookup 78 (.map (some (w.heap.size+2))) (.string ⟨x.Name.toArray⟩) false).run ji (w3.drewN n) = .ok (((ayd E x.Name).map fun k=>ptr (eb k)).getD (.pointer none)) (w3.drewN n):=fun n=>by
            have:=(hL3'.keep (w':=w3.drewN n) rfl).look_run (keyS Tryz.underlying9) Tryz.underlying78 by4 x.Name
            rw [hl3] at this;exact this
           have hadd:aq6 m (S,E,dbl) x=(ay9 S kk E.length,E ++ [⟨x,kk⟩],dbl):=by unfold aq6;simp [hAt,hk2,hN,hEn]
           rw [hEn] at r3'
           simp only [j4,jY] at r3'
           go_quiet (fail)
           all_goals go_wp2
           generalize hw5:w3.drewN nq=w5
           have hh5:w5.heap=w3.heap:=by rw [← hw5];rfl
           have hb5:Below w3.heap.size w3 w5:=by rw [← hw5];exact ⟨rfl,rfl,rfl,jq _,fun _ _=>rfl⟩
           clear hw5
           refine ayw 7 (by kernel_rfl) (by kernel_rfl) ?_
           intro wd hwd
           have hhd:wd.heap=w3.heap:=by rw [← hwd];exact hh5
           have hbd:Below w3.heap.size w3 wd:=by rw [← hwd];exact hb5.drew
           clear hwd
           have hkd:∀ b:Nat,wd.heap[b]? = w3.heap[b]? := fun b=>by rw [hhd]
           have d4:wd.cell? ⟨w.heap.size+1+1+1,4,none⟩=some (.map (some (w.heap.size+2))):=cell_of ((hkd _).trans hD3) rfl
           have y0:wd.cell? ⟨wr.heap.size,0,none⟩=some (.string ⟨x.Name.toArray⟩):=cell_of ((hkd _).trans hX3) rfl
           have hLd:MapK encS wd (w.heap.size+2) L3:=hL3'.keep (hkd _)
           obtain ⟨o,hput,hmk⟩:=hLd.put_run (keyS Tryz.underlying9) Tryz.underlying78 x.Name (.pointer (some ⟨wb.heap.size,0,none⟩)) (by rw [hl3,hEn];rfl)
           simp only [encS] at hput
           obtain ⟨w6,hw6⟩:∃ w6,w6={ wd with heap:=wd.heap.setIfInBounds (w.heap.size+2) o }:=⟨_,rfl⟩
           rw [← hw6] at hput
           obtain ⟨p1,p2,p3,p4⟩:=putW hLd hw6
           have hm6:=hmk w6 p1
           have k6:∀ b,b≠w.heap.size+2→w6.heap[b]? = w3.heap[b]? := fun b hb=>(p2 b hb).trans (hkd b)
           have hB6:Below w.heap.size w w6:=(hb3.trans (hbd.mono (by omega))).trans (p4 _ (by omega))
           have nM:∀ (b:Nat) (c:Array Value) (t:TypeId),w3.heap[b]? = some (Obj.cells c t (0,0))→b≠w.heap.size+2:=fun b c t hb e=>by
            obtain ⟨es,cl,e1,_⟩:=hL3'
            rw [← e,hb] at e1;cases e1
           clear hhd hw6 p1 p2 p3 p4 hmk hh5
           simp only [JB,List.take_zero,List.drop_succ_cons,Jw]
           repeat still_step
           try refine wpStill_nil ?_
           go_wp2
           exact ⟨⟨k+1,hkl,by go_num,_,_,_,_,_,hstep.trans hadd,hJ.added hkk hsb ((k6 _ (nM _ _ _ hE3)).trans hE3) ((k6 _ (nM _ _ _ hS3)).trans hS3) (ay7 hrow3 fun b hb=>by obtain ⟨c',hc'⟩:=az0 hrow3 hb;exact k6 b (nM _ _ _ hc')) (by rw [hpq];exact hvb2) ((k6 _ (nM _ _ _ hD3)).trans hD3) ⟨_,hm6,ez9 (e:=⟨x,kk⟩) _ hl3 hEn⟩ (fun b hb n1 n2 n3 n4=>(k6 b n2).trans (hkW b hb n1 n2 n3 n4)) hB6⟩,by simp [intOf];omega⟩
        ·have hk2':(x.Kind != 2)=true:=by simp [hk2]
         have hadd:aq6 m (S,E,dbl) x=(S,E,dbl):=by unfold aq6;simp [hAt,hk2]
         go_wp2
         go_quiet (fail)
         all_goals go_wp2
         all_goals exact ⟨⟨k+1,hkl,by go_num,S,E,dbl,eb,vs,hstep.trans hadd,hJ.keep ⟨rfl,rfl,rfl,by simp,fun b hb=>Below.heap_alloc _ _ b hb⟩⟩,by simp [intOf];omega⟩
      ·obtain rfl:k=l[m].Esds.length:=by omega
       rw [List.take_length] at hSt
       have hS':aqe 0 (azj l,[],false) (l.take (m+1))=(S,E,dbl):=by
        rw [← hSt,jH hlt,bk7,jm,Jz (Nat.le_of_lt hlt),jM]
       clear hSt
       go_wp2
       exact ⟨⟨m+1,hlt,by go_num,S,E,dbl,eb,vs,hS',hJ⟩,by simp [intOf];omega⟩
    ·obtain rfl:m=l.length:=by omega
     rw [List.take_length] at hSt
     go_wp2
     go_ret
     exact ⟨_,_,_,_,rfl,by unfold ajq;rw [hSt];exact hJ⟩
end Go.Proofs.YtfhnelkbiihpiaaGreatDoor
