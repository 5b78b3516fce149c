/- Text. -/
import Derived.Test.YtijnkhcfondehaaGreatDoorF
import Derived.Test.YtijnkhcfondehaaGreatDoorIt2
set_option maxHeartbeats 8000000
set_option linter.unusedVariables false
set_option maxRecDepth 100000
namespace Go.Proofs.YtijnkhcfondehaaGreatDoor
open Go.AE
def exF (l:List TExtent) (j:Nat):Int×Int:=((gt l j).At,(gt l j).Len)
def okL (l:List TExtent):Prop:=l.length≤512∧(∀ j,j < l.length→0≤(exF l j).1∧(exF l j).1≤512∧0≤(exF l j).2∧(exF l j).2≤512)∧(upT (exF l) l.length).length≤512
instance (l:List TExtent):Decidable (okL l):=by unfold okL;infer_instance
def firstT (track:Int):List (Nat×Int)→Int×Bool
  | []=>(0,false)
  | p :: ps=>if p.2=track then ((p.1:Int),true) else firstT track ps
def extent_Index (n:Nat) (l:List TExtent) (track:Int):Option (Int×Bool) :=
  (extent_Valid n l).bind fun r=>if r=true then gd (okL l) (some (firstT track (upT (exF l) l.length))) else some (0,false)
def xextent_Index (n:Nat):Go.AE.Fn:=mkFn (A:=List TExtent×Int) (R:=Int×Bool) 59 [(false,[.slice 80]),(false,[.int .i64])] false (fun xs=>(((cg (xs.getD 0 []) 0).toSl.map d_TExtent),(cg (xs.getD 1 []) 0).toInt)) (fun a=>[[.slice (List.map e_TExtent a.1)],[.int a.2]]) (fun a=>extent_Index n a.1 a.2) (fun r=>[.c (.int .i64) (.int r.1),.c .bool (.bool r.2)]) (fun r=>[])
theorem firstT_none {track:Int}:∀ {ps:List (Nat×Int)},(∀ p∈ps,p.2≠track)→firstT track ps=(0,false)
  | [],_=>rfl
  | p :: ps,h=>by
    simp only [firstT,h p List.mem_cons_self,if_false]
    exact firstT_none fun q hq=>h q (List.mem_cons_of_mem _ hq)
theorem firstT_some {track:Int}:∀ {ini:List (Nat×Int)} {last:Nat×Int} {ps:List (Nat×Int)},ini ++ [last] <+: ps→(∀ p∈ini,p.2≠track)→last.2=track→firstT track ps=((last.1:Int),true)
  | [],last,[],h,_,_=>by simp at h
  | [],last,p :: ps,h,_,e=>by
    obtain ⟨t,ht⟩:=h
    simp only [List.nil_append,List.cons_append,List.cons.injEq] at ht
    obtain ⟨rfl,_⟩:=ht
    simp [firstT,e]
  | q :: ini,last,[],h,_,_=>by simp at h
  | q :: ini,last,p :: ps,h,hi,e=>by
    rw [List.cons_append,List.cons_prefix_cons] at h
    obtain ⟨rfl,h2⟩:=h
    simp only [firstT,hi q List.mem_cons_self,if_false]
    exact firstT_some h2 (fun p hp=>hi p (List.mem_cons_of_mem _ hp)) e
theorem upT_lt (f:Nat→Int×Int):∀ k,∀ p∈upT f k,p.1 < (upT f k).length
  | 0,p,h=>by simp [upT] at h
  | k+1,p,h=>by
    simp only [upT,List.mem_append,List.mem_map,List.mem_range] at h
    simp only [upT,List.length_append,List.length_map,List.length_range]
    rcases h with h | ⟨j,hj,rfl⟩
    · have:=upT_lt f k p h;omega
    · dsimp only;omega
theorem firstT_range {track:Int} {N:Nat}:∀ {ps:List (Nat×Int)},(∀ p∈ps,p.1 < N)→0≤(firstT track ps).1∧(firstT track ps).1≤(N:Int)
  | [],_=>by simp [firstT]
  | p :: ps,h=>by
    simp only [firstT]
    split
    · have:=h p List.mem_cons_self;dsimp only;omega
    · exact firstT_range fun q hq=>h q (List.mem_cons_of_mem _ hq)
theorem exts_of {w:World} {al:Nat→Prop} {v:Value} {l:List TExtent} (hal:∀ b,al b→b < w.heap.size) (h:RepC Tryz.prog w al (.slice 80) v (.slice (List.map e_TExtent l))) :
    Exts w v l.length (exF l)∧∀ b,(∃ a cap,v = .slice a l.length cap∧∃ off,a=some ⟨b,off,none⟩)→0 < l.length→b < w.heap.size:=by
  cases h with
  | empty t x a cap h =>
    have e:l=[]:=by simpa [C.toSl] using h
    subst e
    exact ⟨⟨a,cap,rfl,fun h=>by simp at h⟩,fun b _ h=>by simp at h⟩
  | slice t x b off cap E hE hb hlen hcap hel f hcell hrep =>
    rw [ty80] at hE
    cases hE
    have hl:(C.slice (List.map e_TExtent l)).toSl.length=l.length:=by simp [C.toSl]
    refine ⟨⟨_,cap,by rw [hl],fun _=>⟨b,off,rfl,fun j hj=>?_⟩⟩,fun b' ⟨a,cap',e1,off',e2⟩ _=>?_⟩
    · have hj':j < (C.slice (List.map e_TExtent l)).toSl.length:=by rw [hl];exact hj
      have h0:=cellN_cell (hcell j hj' 0 (by simp))
      have h1:=cellN_cell (hcell j hj' 1 (by simp))
      have r0:=hrep j hj' 0 (by simp)
      have r1:=hrep j hj' 1 (by simp)
      have e1:eg (C.slice (List.map e_TExtent l)).toSl j=e_TExtent (gt l j):=by
        simp [C.toSl,eg,gt,List.getD_eq_getElem?_getD,hj]
      rw [e1] at r0 r1
      simp only [e_TExtent,cg_zero,cg_succ,List.getD_cons_zero,List.getD_cons_succ] at r0 r1
      simp only [List.length_cons,List.length_nil] at h0 h1
      refine ⟨?_,?_⟩
      · rw [show off+j * 2=off+(j * (0+1+1)+0) by omega,h0]
        generalize f j 0=q at r0;cases r0;rfl
      · rw [show off+j * 2+1=off+(j * (0+1+1)+1) by omega,h1]
        generalize f j 1=q at r1;cases r1;rfl
    · injection e1 with q1 q2 q3
      rw [← q1] at e2
      injection e2 with e3
      injection e3 with e4
      rw [← e4]
      exact hal _ hb
theorem cextent_Index (n:Nat):Contract Tryz.prog (xextent_Index n):=by
  refine Contract.of (fun args w=>Tryz.call59 args w) (fun _ cs=>⟨rfl,by simp [xextent_Index,mkFn]⟩) ?_
  intro w al vs cs hal hvl hcl harg hpre
  obtain ⟨hc,hs⟩:=hpre
  obtain ⟨⟨l,track⟩,hd⟩:∃ a:List TExtent×Int,a=(((cg (cs.getD 0 []) 0).toSl.map d_TExtent),(cg (cs.getD 1 []) 0).toInt):=⟨_,rfl⟩
  have hc':cs=[[.slice (List.map e_TExtent l)],[.int track]]:=by
    have:cs=[[.slice (List.map e_TExtent ((cg (cs.getD 0 []) 0).toSl.map d_TExtent))],[.int (cg (cs.getD 1 []) 0).toInt]]:=hc
    rw [this,← (Prod.mk.inj hd).1,← (Prod.mk.inj hd).2]
  subst hc'
  have hs':(extent_Index n l track).isSome=true:=by
    have h:(extent_Index n (List.map d_TExtent (List.map e_TExtent l)) track).isSome=true:=hs
    rwa [de_TExtent] at h
  obtain ⟨r,hr⟩:=Option.isSome_iff_exists.1 hs'
  have hres:((xextent_Index n).sem [[.slice (List.map e_TExtent l)],[.int track]]).res=[.c (.int .i64) (.int r.1),.c .bool (.bool r.2)]:=by
    show ([.c (.int .i64) (.int ((extent_Index n (List.map d_TExtent (List.map e_TExtent l)) track).getD default).1),.c .bool (.bool ((extent_Index n (List.map d_TExtent (List.map e_TExtent l)) track).getD default).2)]:List A)=_
    rw [de_TExtent,hr];rfl
  have hrows:((xextent_Index n).sem [[.slice (List.map e_TExtent l)],[.int track]]).rows=[]:=rfl
  match vs,hvl with
  | [v0,v1],_ =>
    have a0:=harg 0 (show 0 < 2 by decide)
    have a1:=harg 1 (show 1 < 2 by decide)
    obtain ⟨_,_,a0⟩:=a0
    obtain ⟨_,_,a1⟩:=a1
    have a0':RepC Tryz.prog w al (.slice 80) v0 (.slice (List.map e_TExtent l)):=a0
    have a1':RepC Tryz.prog w al (.int .i64) v1 (.int track):=a1
    cases a1'
    obtain ⟨hE,hlow⟩:=exts_of hal a0'
    unfold extent_Index at hr
    obtain ⟨valid,hv,hr⟩:=bind_some hr
    have hV:∀ W,Go.RowKit.Below w.heap.size w W→Calls Tryz.prog 69 #[v0] W fun e W'=>e = .returned (.bool valid)∧Go.RowKit.Below W.heap.size W W':=by
      intro W hW
      have h:=(cextent_Valid n).calls W al [v0] [[.slice (List.map e_TExtent l)]] (fun b hb=>Nat.lt_of_lt_of_le (hal b hb) hW.size) rfl rfl (fun i hi=>by
        match i,hi with
        | 0,_=>exact ⟨rfl,rfl,a0'.mono (fun b hb=>hW.block b (hal b hb)) (fun _ h=>h)⟩) (by
        refine ⟨?_,?_⟩
        · show ([[.slice (List.map e_TExtent l)]]:List (List C))=[[.slice (List.map e_TExtent (List.map d_TExtent (List.map e_TExtent l)))]]
          rw [de_TExtent]
        · show (extent_Valid n (List.map d_TExtent (List.map e_TExtent l))).isSome=true
          rw [de_TExtent,hv];rfl)
      refine Calls.mono h ?_
      rintro e W' ⟨v,rfl,hbel,_,σr,_,_,hvr⟩
      have hvr':ARel Tryz.prog W' (Al (base0 W al) W' σr (rowsHp ((xextent_Valid n).sem [[.slice (List.map e_TExtent l)]]).rows)) σr v (.c .bool (.bool ((extent_Valid n (List.map d_TExtent (List.map e_TExtent l))).getD default))):=hvr
      rw [de_TExtent,hv] at hvr'
      cases hvr' with
      | c k v x hx=>cases hx;exact ⟨rfl,hbel⟩
    have hok:valid=true→okL l:=fun h=>by
      rw [h] at hr
      simp only [if_true] at hr
      exact (gd_some hr).1
    have hI:=Index_in 3 (Nat.le_refl _) v0 l.length (exF l) track valid w hE hlow hV hok
    refine Calls.mono (callsIn_wide.1 hI) ?_
    rintro e w' ⟨hp,hbel⟩
    have hval:e = .returned (.tuple #[.int .i64 r.1,.bool r.2]):=by
      rcases hp with ⟨h1,h2⟩ | ⟨h1,h2⟩
      · rw [h1] at hr
        simp only [Bool.false_eq_true,if_false,Option.some.injEq] at hr
        rw [h2,← hr]
      · rw [h1] at hr
        simp only [if_true] at hr
        have hr2:=Option.some.inj (gd_some hr).2
        rcases h2 with ⟨h3,h4⟩ | ⟨ini,last,h3,h4,h5,h6⟩
        · rw [h3,← hr2,firstT_none h4]
        · rw [h6,← hr2,firstT_some h3 h4 h5]
    have hrng:InR .i64 r.1:=by
      have e1:IntKind.max .i64=9223372036854775807:=by decide
      have e2:IntKind.min .i64 = -9223372036854775808:=by decide
      unfold InR
      rw [e1,e2]
      cases valid with
      | false =>
        simp only [Bool.false_eq_true,if_false,Option.some.injEq] at hr
        rw [← hr];omega
      | true =>
        simp only [if_true] at hr
        have hr2:=Option.some.inj (gd_some hr).2
        have h3:=(hok rfl).2.2
        have:=firstT_range (track:=track) (upT_lt (exF l) l.length)
        rw [hr2] at this
        omega
    refine ⟨_,hval,?_⟩
    refine ⟨hbel,by rw [hrows];simp,fun _=>.dead,fun j=>rfl,fun i j b h=>by simp [blockOf] at h,?_⟩
    rw [hres]
    refine .tup [.int .i64 r.1,.bool r.2] _ rfl (fun i hi=>?_)
    match i,hi with
    | 0,_=>exact .c _ _ _ (.int .i64 (.int r.1) hrng)
    | 1,_=>exact .c _ _ _ (.bool (.bool r.2))
end Go.Proofs.YtijnkhcfondehaaGreatDoor
