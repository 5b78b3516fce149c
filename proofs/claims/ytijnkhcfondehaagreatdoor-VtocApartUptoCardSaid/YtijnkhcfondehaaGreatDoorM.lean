/- Text. -/
import Derived.Test.YtijnkhcfondehaaGreatDoorAE44
import Derived.Test.YtijnkhcfondehaaGreatDoorF
import Derived.Test.YtijnkhcfondehaaGreatDoorIt2
set_option maxHeartbeats 8000000
set_option linter.unusedVariables false
set_option linter.unusedSimpArgs false
set_option maxRecDepth 100000
open Go.IntKind renaming wrap→jc
open _root_.List renaming getD_eq_getElem?_getD→ja,mem_cons_self→j4,mem_cons_of_mem→Jb,cons_append→Jj
open _root_.Nat renaming le_of_ble_eq_true→jp
open _root_.Option renaming getD→jJ
open Go.AE.Sm renaming block→jR,seqK→jA,skip→jD,ret→jF
open Go.Proofs.Tryz renaming prog→jd
namespace Go.Proofs.YtijnkhcfondehaaGreatDoor
open Go.AE
theorem wrapI {n:Int} (h1:-9223372036854775808≤n) (h2:n < 9223372036854775808):jc .i64 n=n:=by
  simp only [jc]
  have:IntKind.i64.bits=64:=rfl
  rw [this]
  simp [IntKind.signed]
  omega
theorem gt_set_eq {α:Type} [Inhabited α] (l:List α) (i:Nat) (x:α) (h:i < l.length):gt (l.set i x) i=x:=by
  simp [gt,ja,h]
theorem gt_set_ne {α:Type} [Inhabited α] (l:List α) (i j:Nat) (x:α) (h:i≠j):gt (l.set i x) j=gt l j:=by
  simp [gt,ja,List.getElem?_set_ne h]
abbrev copL_e (v:TVtoc) (k:Nat) (l:List TDscb):S:=stB [(1,.box 9000 0),(2,.box 9001 0),(3,.own 9002 [.str,.int .i64,.int .i64,.bool,.bool,.int .i64,.int .i64,.int .i64,.int .i64,.slice 80,.int .i64] 0 l.length)] [(9000,.box [.c .str (.str v.Serial),.c (.int .i64) (.int v.Cyls),.c (.int .i64) (.int v.Heads),.c (.int .i64) (.int v.Size),.c (.slice 41) (.slice (List.map e_TDscb v.Sets))]),(9001,.box [.c .str (.str []),.c (.int .i64) (.int 0),.c (.int .i64) (.int 0),.c (.int .i64) (.int 0),.nilsl]),(9002,.rl 41 (List.map e_TDscb l) k 9 (.own 9003 [.int .i64,.int .i64] 0 (gt l k).Extents.length)),(9003,.row 80 (List.map e_TExtent (gt l k).Extents))]
abbrev copL_B (v:TVtoc) (k:Nat) (v16:Int) (l_1:List TDscb) (v17:Int):S:=stB [(1,.box 9006 0),(2,.box 9007 0),(3,.own 9008 [.str,.int .i64,.int .i64,.bool,.bool,.int .i64,.int .i64,.int .i64,.int .i64,.slice 80,.int .i64] 0 l_1.length),(15,.c (.slice 41) (.slice (List.map e_TDscb v.Sets))),(16,.c (.int .i64) (.int v16)),(17,.c (.int .i64) (.int v17))] [(9006,.box [.c .str (.str v.Serial),.c (.int .i64) (.int v.Cyls),.c (.int .i64) (.int v.Heads),.c (.int .i64) (.int v.Size),.c (.slice 41) (.slice (List.map e_TDscb v.Sets))]),(9007,.box [.c .str (.str []),.c (.int .i64) (.int 0),.c (.int .i64) (.int 0),.c (.int .i64) (.int 0),.nilsl]),(9008,.rl 41 (List.map e_TDscb l_1) k 9 (.own 9009 [.int .i64,.int .i64] 0 (gt l_1 k).Extents.length)),(9009,.row 80 (List.map e_TExtent (gt l_1 k).Extents))]
def copL (v:TVtoc) (k:Nat) (v16:Int) (x:List TDscb×Int):S:=if x.2≤(k:Int) then vtoc_Vtoc__copied_t2 v v16 x.1 x.2 else copL_B v k v16 x.1 x.2
theorem copiedL (n:Nat) (v:TVtoc) (k:Nat) (hk:k < v.Sets.length) (r:TVtoc) (H:vtoc_Vtoc__copied n v=some r):CallsM jd 57 [.dat (true,[.str,.int .i64,.int .i64,.int .i64,.slice 41]) [.str v.Serial,.int v.Cyls,.int v.Heads,.int v.Size,.slice (List.map e_TDscb v.Sets)]] []
    [.agg [.c .str (.str r.Serial),.c (.int .i64) (.int r.Cyls),.c (.int .i64) (.int r.Heads),.c (.int .i64) (.int r.Size),.own 0 [.str,.int .i64,.int .i64,.bool,.bool,.int .i64,.int .i64,.int .i64,.int .i64,.slice 80,.int .i64] 0 r.Sets.length]]
    [.rl 41 (List.map e_TDscb r.Sets) k 9 (.own 1 [.int .i64,.int .i64] 0 (gt r.Sets k).Extents.length),.row 80 (List.map e_TExtent (gt r.Sets k).Extents)]:=by
  have hΓ:=g1 (cslices_Clone_f118 n) (@g0 (Contract jd))
  refine callsM_ofL (Tryz.f57.body.getD .skip) h00 Tryz.func57 rfl Tryz.call57 (jp rfl) (jp rfl) ?_
  unfold vtoc_Vtoc__copied at H
  simp only [Tryz.f57,jJ]
  refine rA ?_
  refine sX fun K2 hK2=>?_
  obtain ⟨hg3,H⟩:=gd_some H
  iterate 7 refine oX ?_
  refine oY ?_
  refine oX ?_
  refine hK2 _ ?_
  refine Sm.cut (fun (x:(List TDscb))=>copL_e v k x) (fun x=>vtoc_Vtoc__copied_k1 n v x=some r) ?_ ?_
  · refine rA ?_
    refine jR ?_
    obtain ⟨y7,hy7,Ho7⟩:=bind_some H
    refine Sm.loopB _ (fun x=>copL v k (v.Sets.length:Int) x) hy7 ?_ ?_
    · show Weak _ _ _ (copL v k (v.Sets.length:Int) (_,0))
      rw [copL,if_pos (by show (0:Int)≤(k:Int);omega)]
      exact wb [some 16,some 32,some 208]
    rintro ⟨l_1,v17⟩ z7 H
    try dsimp only at H
    unfold vtoc_Vtoc__copied_b2 at H
    have hlen:(v.Sets.length:Int)≤2147483648:=by omega
    by_cases hik:v17≤(k:Int)
    · refine Sm.st (if_pos hik) ?_
      refine Sm.st (vtoc_Vtoc__copied_t2.eq_1 ..) ?_
      refine rA ?_
      refine jA fun K9 hK9=>?_
      refine cnd H (fun h10 H=>?_) (fun h10 H=>?_)
      · refine jD ?_
        refine hK9 _ ?_
        refine jA fun K11 hK11=>?_
        refine jR ?_
        obtain ⟨hg16,H⟩:=gd_some H
        refine rA ?_
        obtain ⟨r1,hr1,H⟩:=bind_some H
        have q:=aI @xslices_Clone_f118.eq_1 hr1
        refine rAq ?_
        obtain ⟨⟨hg14,hg15⟩,H⟩:=gd_some H
        have hw:jc .i64 (v17+1)=v17+1:=wrapI (by omega) (by omega)
        by_cases he:v17.toNat=k
        · refine eX ?_
          iterate 4 refine oX ?_
          have q:=hg15
          refine oE (stepRL_ok h00) ?_ (by intro K hK;simp only [z,seval,stepRL,opRL,storeRL,ownAt,hg15];(repeat first | refine gcI ?_ | intro (_:_≤_));exact hK)
          refine opsX0 ?_
          refine hK11 _ ?_
          refine eA ?_
          refine lf ?_
          refine nx H ?_
          show Weak _ _ _ (copL v k (v.Sets.length:Int) (_,jc .i64 (v17+1)))
          rw [copL,if_neg (by show ¬ (jc .i64 (v17+1)≤(k:Int));rw [hw];omega)]
          subst he
          show Weak _ _ _ (copL_B v v17.toNat (v.Sets.length:Int) _ _)
          rw [copL_B,gt_set_eq _ _ _ hg15]
          exact wb [some 9006,some 9007,some 9008,some 384]
        · refine eA ?_
          refine hK11 _ ?_
          refine eA ?_
          refine lf ?_
          refine nx H ?_
          show Weak _ _ _ (copL v k (v.Sets.length:Int) (_,jc .i64 (v17+1)))
          rw [copL,if_pos (by show jc .i64 (v17+1)≤(k:Int);rw [hw];omega)]
          exact wb [some 9006,some 9007,some 9008]
      exfalso
      have:¬ (v17 < (v.Sets.length:Int)):=by simpa using h10
      omega
    · refine Sm.st (if_neg hik) ?_
      refine Sm.st (copL_B.eq_1 ..) ?_
      refine rA ?_
      refine jA fun K9 hK9=>?_
      refine cnd H (fun h10 H=>?_) (fun h10 H=>?_)
      · refine jD ?_
        refine hK9 _ ?_
        refine jA fun K11 hK11=>?_
        refine jR ?_
        obtain ⟨hg16,H⟩:=gd_some H
        refine rA ?_
        obtain ⟨r1,hr1,H⟩:=bind_some H
        have q:=aI @xslices_Clone_f118.eq_1 hr1
        refine rAq ?_
        obtain ⟨⟨hg14,hg15⟩,H⟩:=gd_some H
        have hw:jc .i64 (v17+1)=v17+1:=wrapI (by omega) (by omega)
        have he:¬ v17.toNat=k:=by omega
        have hs:0≤v17∧v17 < (l_1.length:Int):=hg14
        refine eX ?_
        iterate 3 refine oX ?_
        refine oE stepV_ok ?_
        have q:=aI hg15 he
        refine oE (stepRL_ok h00) ?_ (by intro K hK;simp only [z,seval,stepRL,opRL,storeRL,ownAt,q];(repeat first | refine gcI ?_ | intro (_:_≤_));exact hK)
        refine opsX0 ?_
        refine hK11 _ ?_
        refine eA ?_
        refine lf ?_
        refine nx H ?_
        show Weak _ _ _ (copL v k (v.Sets.length:Int) (_,jc .i64 (v17+1)))
        rw [copL,if_neg (by show ¬ (jc .i64 (v17+1)≤(k:Int));rw [hw];omega)]
        show Weak _ _ _ (copL_B v k (v.Sets.length:Int) _ _)
        rw [copL_B,gt_set_ne _ _ _ _ he]
        exact wb [some 9006,some 9007,some 9008,some 9009]
      refine Sm.exit ?_
      refine lf ?_
      refine lx H fun hyy=>?_
      subst hyy
      have H:=Ho7
      try dsimp only at H
      refine lf ?_
      exact ⟨_,H,wb [some 9006,some 9007,some 9008,some 9009]⟩
  rintro l H
  try dsimp only at H
  unfold vtoc_Vtoc__copied_k1 at H
  refine Sm.st (copL_e.eq_1 ..) ?_
  refine sX fun K3 hK3=>?_
  iterate 2 refine oX ?_
  refine oE stepBL_ok ?_ (by intro K hK;simp only [z,seval,stepBL,storeBL,allOneL,oneL,liveL,boxableL];(repeat first | refine gcI ?_ | intro (_:_≤_));exact hK)
  refine hK3 _ ?_
  refine sX fun K4 hK4=>?_
  refine oX ?_
  refine oE stepBL_ok ?_ (by intro K hK;simp only [z,seval,stepBL,storeBL,allOneL,oneL,liveL,boxableL];(repeat first | refine gcI ?_ | intro (_:_≤_));exact hK)
  refine hK4 _ ?_
  refine jF ?_
  refine lf ?_
  obtain rfl:=Option.some.inj H
  refine RetL.mk (.inr rfl) [some 9002,some 9003] rfl ?_
  simp only [z,seval,RetOkL,blkL,blksL,matchL,matchLs,liveL]
def vtoc_Extend_1 (n:Nat) (d:List TDscb) (d_i:Nat) (p1:Int) (v:TVtoc):Option (Int×List TDscb) :=
  bif (decide (p1 < 1)) then
    some (1,d)
  else
    bif ((jc .i64 (8 - ((gt d d_i).Extents.length:Int))) == 0) then
      some (200,d)
    else
      (vtoc_Free n v).bind fun r1 =>
      (extent_Take n r1 p1 (jc .i64 (8 - ((gt d d_i).Extents.length:Int)))).bind fun r2 =>
      gd ((gt d d_i).Extents.length+r2.1.length≤2147483648) <|
      some (r2.2.2,d.set d_i ⟨(gt d d_i).Name,(gt d d_i).Dcb,(gt d d_i).Extents ++ r2.1,(gt d d_i).Used⟩)
theorem cExtend1_ok (n:Nat) (d:List TDscb) (k:Nat) (hk:k < d.length) (p1:Int) (v:TVtoc) (r:Int×List TDscb) (H:vtoc_Extend_1 n d k p1 v=some r) (h0:r.1=0):CallsM jd 95 [.ref (.elt 0 11 [.str,.int .i64,.int .i64,.bool,.bool,.int .i64,.int .i64,.int .i64,.int .i64,.slice 80,.int .i64] k 0),.ref (.box 2 0),.ref (.box 3 0)]
    [.rl 41 (List.map e_TDscb d) k 9 (.own 1 [.int .i64,.int .i64] 0 (gt d k).Extents.length),.row 80 (List.map e_TExtent (gt d k).Extents),.box [.c (.int .i64) (.int p1)],.box [.c .str (.str v.Serial),.c (.int .i64) (.int v.Cyls),.c (.int .i64) (.int v.Heads),.c (.int .i64) (.int v.Size),.c (.slice 41) (.slice (List.map e_TDscb v.Sets))]] [.c (.int .i64) (.int 0)]
    [.rl 41 (List.map e_TDscb r.2) k 9 (.own 4 [.int .i64,.int .i64] 0 (gt r.2 k).Extents.length),.gone,.box [.c (.int .i64) (.int p1)],.box [.c .str (.str v.Serial),.c (.int .i64) (.int v.Cyls),.c (.int .i64) (.int v.Heads),.c (.int .i64) (.int v.Size),.c (.slice 41) (.slice (List.map e_TDscb v.Sets))],.row 80 (List.map e_TExtent (gt r.2 k).Extents)]:=by
  have hΓ:=g1 (cvtoc_Free n) (g1 (cextent_Take n) (@g0 (Contract jd)))
  refine callsM_ofL (Tryz.f95.body.getD .skip) h00 Tryz.func95 rfl Tryz.call95 (jp rfl) (jp rfl) ?_
  unfold vtoc_Extend_1 at H
  simp only [Tryz.f95,jJ]
  refine rA ?_
  refine jA fun K2 hK2=>?_
  refine rA ?_
  refine cnd H (fun h5 H=>?_) (fun h5 H=>?_)
  · exfalso
    rw [← Option.some.inj H] at h0
    simp at h0
  refine jD ?_
  refine hK2 _ ?_
  refine sX fun K7 hK7=>?_
  refine oX ?_
  refine oE (stepRL_ok h00) ?_ (by intro K hK;simp only [z,seval,stepRL,opRL,nilL,fieldL];(repeat first | refine gcI ?_ | intro (_:_≤_));exact hK)
  refine oE (stepRL_ok h00) ?_ (by intro K hK;simp only [z,seval,stepRL,opRL,nilL,fieldL];(repeat first | refine gcI ?_ | intro (_:_≤_));exact hK)
  refine oE stepV_ok ?_ (by intro K hK;simp only [z,seval,hk];(repeat first | refine gcI ?_ | intro (_:_≤_));exact hK)
  iterate 3 refine oX ?_
  refine hK7 _ ?_
  refine jA fun K6 hK6=>?_
  refine rA ?_
  refine cnd H (fun h8 H=>?_) (fun h8 H=>?_)
  · exfalso
    rw [← Option.some.inj H] at h0
    simp at h0
  refine jD ?_
  refine hK6 _ ?_
  obtain ⟨r1,hr1,H⟩:=bind_some H
  obtain ⟨r2,hr2,H⟩:=bind_some H
  obtain ⟨hg9,H⟩:=gd_some H
  refine sQ [0,1,2,3,4,5,6,7,8,9,10,11] [(none,[3],[]),(none,[],[351,350,349,348,347,346,345,344,343,342,341,340,339,338,337,336]),(none,[2],[]),(none,[],[]),(none,[336],[399,398,397,396,395,394,393,392,391,390,389,388,387,386,385,384,336]),(none,[],[]),(none,[],[]),(none,[],[]),(none,[],[]),(none,[],[]),(none,[],[]),(none,[],[])] fun K8 hK8=>?_
  have q:=aI @xvtoc_Free.eq_1 (aI @xextent_Take.eq_1 (aI hr1 hr2))
  iterate 12 refine oQq ?_
  refine opsQ0 ?_
  refine hK8 _ ?_
  refine sX fun K9 hK9=>?_
  iterate 2 refine oX ?_
  refine oE (stepRL_ok h00) ?_ (by intro K hK;simp only [z,seval,stepRL,opRL,nilL,fieldL];(repeat first | refine gcI ?_ | intro (_:_≤_));exact hK)
  refine oE (stepRL_ok h00) ?_ (by intro K hK;simp only [z,seval,stepRL,opRL,nilL,fieldL];(repeat first | refine gcI ?_ | intro (_:_≤_));exact hK)
  refine oE stepV_ok ?_ (by intro K hK;simp only [z,seval,hk];(repeat first | refine gcI ?_ | intro (_:_≤_));exact hK)
  iterate 2 refine oX ?_
  refine oE (stepRL_ok h00) ?_ (by intro K hK;simp only [z,seval,stepRL,opRL,nilL,fieldL];(repeat first | refine gcI ?_ | intro (_:_≤_));exact hK)
  refine oE (stepRL_ok h00) ?_ (by intro K hK;simp only [z,seval,stepRL,opRL,nilL,fieldL];(repeat first | refine gcI ?_ | intro (_:_≤_));exact hK)
  refine oE stepV_ok ?_ (by intro K hK;simp only [z,seval,hk];(repeat first | refine gcI ?_ | intro (_:_≤_));exact hK)
  refine hK9 _ ?_
  refine rA ?_
  refine jF ?_
  refine lf ?_
  obtain rfl:=Option.some.inj H
  have h0':r2.2.2=0:=h0
  refine RetL.mk (.inr rfl) [some 0,some 1,some 2,some 3,some 544] rfl ?_
  simp only [gt_set_eq _ _ _ hk]
  simp only [z,seval,RetOkL,blkL,blksL,matchL,matchLs,liveL,h0']
theorem cExtend1_err (n:Nat) (d:List TDscb) (k:Nat) (hk:k < d.length) (p1:Int) (v:TVtoc) (r:Int×List TDscb) (H:vtoc_Extend_1 n d k p1 v=some r):CallsM jd 95 [.ref (.elt 0 11 [.str,.int .i64,.int .i64,.bool,.bool,.int .i64,.int .i64,.int .i64,.int .i64,.slice 80,.int .i64] k 0),.ref (.box 2 0),.ref (.box 3 0)]
    [.rl 41 (List.map e_TDscb d) k 9 (.own 1 [.int .i64,.int .i64] 0 (gt d k).Extents.length),.row 80 (List.map e_TExtent (gt d k).Extents),.box [.c (.int .i64) (.int p1)],.box [.c .str (.str v.Serial),.c (.int .i64) (.int v.Cyls),.c (.int .i64) (.int v.Heads),.c (.int .i64) (.int v.Size),.c (.slice 41) (.slice (List.map e_TDscb v.Sets))]] [.c (.int .i64) (.int r.1)]
    [.gone,.gone,.box [.c (.int .i64) (.int p1)],.box [.c .str (.str v.Serial),.c (.int .i64) (.int v.Cyls),.c (.int .i64) (.int v.Heads),.c (.int .i64) (.int v.Size),.c (.slice 41) (.slice (List.map e_TDscb v.Sets))]]:=by
  have hΓ:=g1 (cvtoc_Free n) (g1 (cextent_Take n) (@g0 (Contract jd)))
  refine callsM_ofL (Tryz.f95.body.getD .skip) h00 Tryz.func95 rfl Tryz.call95 (jp rfl) (jp rfl) ?_
  unfold vtoc_Extend_1 at H
  simp only [Tryz.f95,jJ]
  refine rA ?_
  refine jA fun K2 hK2=>?_
  refine rA ?_
  refine cnd H (fun h5 H=>?_) (fun h5 H=>?_)
  · refine rA ?_
    refine Sm.weak (weak_lose 0 (by simp only [z,seval,liveL])) ?_
    refine Sm.weak (weak_lose 1 (by simp only [z,seval,liveL])) ?_
    refine jF ?_
    refine lf ?_
    obtain rfl:=Option.some.inj H
    refine RetL.mk (.inr rfl) [some 0,some 1,some 2,some 3] rfl ?_
    simp only [z,seval,RetOkL,blkL,blksL,matchL,matchLs,liveL]
  refine jD ?_
  refine hK2 _ ?_
  refine sX fun K7 hK7=>?_
  refine oX ?_
  refine oE (stepRL_ok h00) ?_ (by intro K hK;simp only [z,seval,stepRL,opRL,nilL,fieldL];(repeat first | refine gcI ?_ | intro (_:_≤_));exact hK)
  refine oE (stepRL_ok h00) ?_ (by intro K hK;simp only [z,seval,stepRL,opRL,nilL,fieldL];(repeat first | refine gcI ?_ | intro (_:_≤_));exact hK)
  refine oE stepV_ok ?_ (by intro K hK;simp only [z,seval,hk];(repeat first | refine gcI ?_ | intro (_:_≤_));exact hK)
  iterate 3 refine oX ?_
  refine hK7 _ ?_
  refine jA fun K6 hK6=>?_
  refine rA ?_
  refine cnd H (fun h8 H=>?_) (fun h8 H=>?_)
  · refine rA ?_
    refine Sm.weak (weak_lose 0 (by simp only [z,seval,liveL])) ?_
    refine Sm.weak (weak_lose 1 (by simp only [z,seval,liveL])) ?_
    refine jF ?_
    refine lf ?_
    obtain rfl:=Option.some.inj H
    refine RetL.mk (.inr rfl) [some 0,some 1,some 2,some 3] rfl ?_
    simp only [z,seval,RetOkL,blkL,blksL,matchL,matchLs,liveL]
  refine jD ?_
  refine hK6 _ ?_
  obtain ⟨r1,hr1,H⟩:=bind_some H
  obtain ⟨r2,hr2,H⟩:=bind_some H
  obtain ⟨hg9,H⟩:=gd_some H
  refine sQ [0,1,2,3,4,5,6,7,8,9,10,11] [(none,[3],[]),(none,[],[351,350,349,348,347,346,345,344,343,342,341,340,339,338,337,336]),(none,[2],[]),(none,[],[]),(none,[336],[399,398,397,396,395,394,393,392,391,390,389,388,387,386,385,384,336]),(none,[],[]),(none,[],[]),(none,[],[]),(none,[],[]),(none,[],[]),(none,[],[]),(none,[],[])] fun K8 hK8=>?_
  have q:=aI @xvtoc_Free.eq_1 (aI @xextent_Take.eq_1 (aI hr1 hr2))
  iterate 12 refine oQq ?_
  refine opsQ0 ?_
  refine hK8 _ ?_
  refine sX fun K9 hK9=>?_
  iterate 2 refine oX ?_
  refine oE (stepRL_ok h00) ?_ (by intro K hK;simp only [z,seval,stepRL,opRL,nilL,fieldL];(repeat first | refine gcI ?_ | intro (_:_≤_));exact hK)
  refine oE (stepRL_ok h00) ?_ (by intro K hK;simp only [z,seval,stepRL,opRL,nilL,fieldL];(repeat first | refine gcI ?_ | intro (_:_≤_));exact hK)
  refine oE stepV_ok ?_ (by intro K hK;simp only [z,seval,hk];(repeat first | refine gcI ?_ | intro (_:_≤_));exact hK)
  iterate 2 refine oX ?_
  refine oE (stepRL_ok h00) ?_ (by intro K hK;simp only [z,seval,stepRL,opRL,nilL,fieldL];(repeat first | refine gcI ?_ | intro (_:_≤_));exact hK)
  refine oE (stepRL_ok h00) ?_ (by intro K hK;simp only [z,seval,stepRL,opRL,nilL,fieldL];(repeat first | refine gcI ?_ | intro (_:_≤_));exact hK)
  refine oE stepV_ok ?_ (by intro K hK;simp only [z,seval,hk];(repeat first | refine gcI ?_ | intro (_:_≤_));exact hK)
  refine hK9 _ ?_
  refine rA ?_
  refine Sm.weak (weak_lose 0 (by simp only [z,seval,liveL])) ?_
  refine jF ?_
  refine lf ?_
  obtain rfl:=Option.some.inj H
  refine RetL.mk (.inr rfl) [some 0,some 1,some 2,some 3] rfl ?_
  simp only [z,seval,RetOkL,blkL,blksL,matchL,matchLs,liveL]
theorem ext1_len {n:Nat} {d:List TDscb} {k:Nat} {p1:Int} {v:TVtoc} {r:Int×List TDscb} (H:vtoc_Extend_1 n d k p1 v=some r):r.2.length=d.length:=by
  unfold vtoc_Extend_1 at H
  refine bif_cases H (fun _ H=>?_) (fun _ H=>?_)
  · rw [← Option.some.inj H]
  refine bif_cases H (fun _ H=>?_) (fun _ H=>?_)
  · rw [← Option.some.inj H]
  obtain ⟨r1,hr1,H⟩:=bind_some H
  obtain ⟨r2,hr2,H⟩:=bind_some H
  obtain ⟨hg9,H⟩:=gd_some H
  rw [← Option.some.inj H];simp
def vtoc_change_L (n:Nat) (v:TVtoc) (name:List UInt8) (how:Int):Option (TVtoc×Int) :=
  (vtoc_Check n v).bind fun r1 =>
  bif (r1 != 0) then
    some ((⟨[],0,0,0,[]⟩:TVtoc),r1)
  else
    (vtoc_Vtoc__index n v name).bind fun r2 =>
    bif (!r2.2) then
      some ((⟨[],0,0,0,[]⟩:TVtoc),3)
    else
      (vtoc_Vtoc__copied n v).bind fun r3 =>
      gd ((0≤r2.1∧r2.1 < (r3.Sets.length:Int))∧r3.Sets.length=v.Sets.length) <|
      (vtoc_Extend_1 n r3.Sets (Int.toNat r2.1) how v).bind fun r4 =>
      bif (r4.1 != 0) then
        some ((⟨[],0,0,0,[]⟩:TVtoc),r4.1)
      else
        some ((⟨r3.Serial,r3.Cyls,r3.Heads,r3.Size,r4.2⟩:TVtoc),0)
theorem cvtoc_change_L (n:Nat) (v:TVtoc) (name:List UInt8) (how:Int) (r:TVtoc×Int) (H:vtoc_change_L n v name how=some r):CallsM jd 87 [.dat (true,[.str,.int .i64,.int .i64,.int .i64,.slice 41]) [.str v.Serial,.int v.Cyls,.int v.Heads,.int v.Size,.slice (List.map e_TDscb v.Sets)],.dat (false,[.str]) [.str name],.ref (.fnv 95 [.box 0 0,.box 1 0])] [.box [.c (.int .i64) (.int how)],.box [.c .str (.str v.Serial),.c (.int .i64) (.int v.Cyls),.c (.int .i64) (.int v.Heads),.c (.int .i64) (.int v.Size),.c (.slice 41) (.slice (List.map e_TDscb v.Sets))]] [.agg [.c .str (.str r.1.Serial),.c (.int .i64) (.int r.1.Cyls),.c (.int .i64) (.int r.1.Heads),.c (.int .i64) (.int r.1.Size),.own 2 [.str,.int .i64,.int .i64,.bool,.bool,.int .i64,.int .i64,.int .i64,.int .i64,.slice 80,.int .i64] 0 r.1.Sets.length],.c (.int .i64) (.int r.2)] [.box [.c (.int .i64) (.int how)],.box [.c .str (.str v.Serial),.c (.int .i64) (.int v.Cyls),.c (.int .i64) (.int v.Heads),.c (.int .i64) (.int v.Size),.c (.slice 41) (.slice (List.map e_TDscb v.Sets))],.row 41 (List.map e_TDscb r.1.Sets)]:=by
  have hΓ:=g1 (cvtoc_Check n) (g1 (cvtoc_Vtoc__index n) (@g0 (Contract jd)))
  have qe:=aI @xvtoc_Check.eq_1 @xvtoc_Vtoc__index.eq_1
  refine callsM_of (Tryz.f87.body.getD .skip) h00 Tryz.func87 rfl Tryz.call87 (jp rfl) (jp rfl) ?_
  unfold vtoc_change_L at H
  simp only [Tryz.f87,jJ]
  refine rA ?_
  refine jA fun K2 hK2=>?_
  obtain ⟨r1,hr1,H⟩:=bind_some H
  have q:=aI qe hr1
  refine rAq ?_
  refine rA ?_
  refine cnd H (fun h5 H=>?_) (fun h5 H=>?_)
  · refine rA ?_
    refine jF ?_
    refine lf ?_
    obtain rfl:=Option.some.inj H
    exact rtM [some 0,some 1,none]
  refine jD ?_
  refine hK2 _ ?_
  obtain ⟨r2,hr2,H⟩:=bind_some H
  have q:=aI qe hr2
  refine rAq ?_
  refine jA fun K8 hK8=>?_
  refine rA ?_
  refine cnd H (fun h10 H=>?_) (fun h10 H=>?_)
  · refine rA ?_
    refine jF ?_
    refine lf ?_
    obtain rfl:=Option.some.inj H
    exact rtM [some 0,some 1,none]
  refine jD ?_
  refine hK8 _ ?_
  obtain ⟨r3,hr3,H⟩:=bind_some H
  obtain ⟨⟨hg15,hgl⟩,H⟩:=gd_some H
  have hkv:Int.toNat r2.1 < v.Sets.length:=by omega
  have hkd:Int.toNat r2.1 < r3.Sets.length:=by omega
  refine sX fun K12 hK12=>?_
  refine oX ?_
  have q:=hr3
  refine oMq (copiedL n v _ hkv r3 hr3) [] [464,465] ?_
  refine oX ?_
  refine oE stepBL_ok ?_ (by intro K hK;simp only [z,seval,stepBL,storeBL,allOneL,oneL,liveL,boxableL];(repeat first | refine gcI ?_ | intro (_:_≤_));exact hK)
  refine hK12 _ ?_
  refine jA fun K13 hK13=>?_
  refine sX fun K14 hK14=>?_
  obtain ⟨r4,hr4,H⟩:=bind_some H
  have hl4:=ext1_len hr4
  iterate 4 refine oX ?_
  refine oE stepV_ok ?_ (by intro K hK;simp only [z,seval,hg15];(repeat first | refine gcI ?_ | intro (_:_≤_));exact hK)
  by_cases h0:r4.1=0
  · refine oMq (cExtend1_ok n _ _ hkd how v r4 hr4 h0) [464,465,0,1] [560] ?_
    refine oX ?_
    refine hK14 _ ?_
    refine rA ?_
    rw [h0] at H
    refine cnd H (fun h18 H=>?_) (fun h18 H=>?_)
    · exact absurd h18 (by decide)
    refine jD ?_
    refine hK13 _ ?_
    have hk4:Int.toNat r2.1 < r4.2.length:=by omega
    refine Sm.weak (weak_unlend (id:=464) (id2:=560) (t:=41) (u:=80) (es:=List.map e_TDscb r4.2) (i:=Int.toNat r2.1) (j:=9) (ks:=[.int .i64,.int .i64]) (len:=(gt r4.2 (Int.toNat r2.1)).Extents.length) (es2:=List.map e_TExtent (gt r4.2 (Int.toNat r2.1)).Extents) (by simp only [z,seval]) (by simp only [z,seval]) (by rw [eg_map _ _ _ hk4,List.take_of_length_le (by simp)];rfl) (by simp only [kdAt,ty41];rfl)) ?_
    refine rA ?_
    refine jF ?_
    refine lf ?_
    obtain rfl:=Option.some.inj H
    exact rtM [some 0,some 1,some 464]
  · refine oMq (cExtend1_err n _ _ hkd how v r4 hr4) [464,465,0,1] [] ?_
    refine oX ?_
    refine hK14 _ ?_
    refine rA ?_
    refine cnd H (fun h18 H=>?_) (fun h18 H=>?_)
    · refine rA ?_
      refine jF ?_
      refine lf ?_
      obtain rfl:=Option.some.inj H
      exact rtM [some 0,some 1,none]
    · exfalso
      simp at h18
      exact h0 h18
def vtoc_Extend (n:Nat) (v:TVtoc) (name:List UInt8) (tracks:Int):Option (TVtoc×Int) :=
  (vtoc_change_L n v name tracks).bind fun r1 =>
  some (r1.1,r1.2)
def xvtoc_Extend (n:Nat):Go.AE.Fn:=mkFn (A:=TVtoc×(List UInt8)×Int) (R:=TVtoc×Int) 46 [(true,[.str,.int .i64,.int .i64,.int .i64,.slice 41]),(false,[.str]),(false,[.int .i64])] true (fun xs=>((⟨(cg (xs.getD 0 []) 0).toStr,(cg (xs.getD 0 []) 1).toInt,(cg (xs.getD 0 []) 2).toInt,(cg (xs.getD 0 []) 3).toInt,((cg (xs.getD 0 []) 4).toSl.map d_TDscb)⟩:TVtoc),(cg (xs.getD 1 []) 0).toStr,(cg (xs.getD 2 []) 0).toInt)) (fun a=>[[.str a.1.Serial,.int a.1.Cyls,.int a.1.Heads,.int a.1.Size,.slice (List.map e_TDscb a.1.Sets)],[.str a.2.1],[.int a.2.2]]) (fun a=>vtoc_Extend n a.1 a.2.1 a.2.2) (fun r=>[.agg [.c .str (.str r.1.Serial),.c (.int .i64) (.int r.1.Cyls),.c (.int .i64) (.int r.1.Heads),.c (.int .i64) (.int r.1.Size),.own 0 [.str,.int .i64,.int .i64,.bool,.bool,.int .i64,.int .i64,.int .i64,.int .i64,.slice 80,.int .i64] 0 r.1.Sets.length],.c (.int .i64) (.int r.2)]) (fun r=>[.row 41 (List.map e_TDscb r.1.Sets)])
theorem cvtoc_Extend (n:Nat):Contract jd (xvtoc_Extend n):=by
  have hΓ:=@g0 (Contract jd)
  refine contract_f (Tryz.f46.body.getD .skip) h00 Tryz.func46 rfl Tryz.call46 (by decide) (by intro h;cases h) ?_
  rintro ⟨v,name,tracks⟩ r H
  try dsimp only at H
  unfold vtoc_Extend at H
  simp only [Tryz.f46,jJ]
  refine rA ?_
  refine sX fun K2 hK2=>?_
  obtain ⟨r1,hr1,H⟩:=bind_some H
  have q:=hr1
  iterate 2 refine oX ?_
  refine oY ?_
  refine oMq (cvtoc_change_L n _ _ _ r1 hr1) [80,48] [176] ?_
  iterate 4 refine oXq ?_
  refine hK2 _ ?_
  refine jF ?_
  refine lf ?_
  obtain rfl:=Option.some.inj H
  exact rto [some 176]
def exF (l:List TExtent) (j:Nat):Int×Int:=((gt l j).At,(gt l j).Len)
def okL (l:List TExtent):Prop:=l.length≤512∧(∀ j,j < l.length→0≤(exF l j).1∧(exF l j).1≤512∧0≤(exF l j).2∧(exF l j).2≤512)∧(upT (exF l) l.length).length≤512
instance (l:List TExtent):Decidable (okL l):=by unfold okL;infer_instance
def firstT (track:Int):List (Nat×Int)→Int×Bool
  | []=>(0,false)
  | p :: ps=>if p.2=track then ((p.1:Int),true) else firstT track ps
def extent_Index (n:Nat) (l:List TExtent) (track:Int):Option (Int×Bool) :=
  (extent_Valid n l).bind fun r=>if r=true then gd (okL l) (some (firstT track (upT (exF l) l.length))) else some (0,false)
def xextent_Index (n:Nat):Go.AE.Fn:=mkFn (A:=List TExtent×Int) (R:=Int×Bool) 59 [(false,[.slice 80]),(false,[.int .i64])] false (fun xs=>(((cg (xs.getD 0 []) 0).toSl.map d_TExtent),(cg (xs.getD 1 []) 0).toInt)) (fun a=>[[.slice (List.map e_TExtent a.1)],[.int a.2]]) (fun a=>extent_Index n a.1 a.2) (fun r=>[.c (.int .i64) (.int r.1),.c .bool (.bool r.2)]) (fun r=>[])
theorem firstT_none {track:Int}:∀ {ps:List (Nat×Int)},(∀ p∈ps,p.2≠track)→firstT track ps=(0,false)
  | [],_=>rfl
  | p :: ps,h=>by
    simp only [firstT,h p j4,if_false]
    exact firstT_none fun q hq=>h q (Jb _ hq)
theorem firstT_some {track:Int}:∀ {ini:List (Nat×Int)} {last:Nat×Int} {ps:List (Nat×Int)},ini ++ [last] <+: ps→(∀ p∈ini,p.2≠track)→last.2=track→firstT track ps=((last.1:Int),true)
  | [],last,[],h,_,_=>by simp at h
  | [],last,p :: ps,h,_,e=>by
    obtain ⟨t,ht⟩:=h
    simp only [List.nil_append,Jj,List.cons.injEq] at ht
    obtain ⟨rfl,_⟩:=ht
    simp [firstT,e]
  | q :: ini,last,[],h,_,_=>by simp at h
  | q :: ini,last,p :: ps,h,hi,e=>by
    rw [Jj,List.cons_prefix_cons] at h
    obtain ⟨rfl,h2⟩:=h
    simp only [firstT,hi q j4,if_false]
    exact firstT_some h2 (fun p hp=>hi p (Jb _ hp)) e
theorem upT_lt (f:Nat→Int×Int):∀ k,∀ p∈upT f k,p.1 < (upT f k).length
  | 0,p,h=>by simp [upT] at h
  | k+1,p,h=>by
    simp only [upT,List.mem_append,List.mem_map,List.mem_range] at h
    simp only [upT,List.length_append,List.length_map,List.length_range]
    rcases h with h | ⟨j,hj,rfl⟩
    · have:=upT_lt f k p h;omega
    · dsimp only;omega
theorem firstT_range {track:Int} {N:Nat}:∀ {ps:List (Nat×Int)},(∀ p∈ps,p.1 < N)→0≤(firstT track ps).1∧(firstT track ps).1≤(N:Int)
  | [],_=>by simp [firstT]
  | p :: ps,h=>by
    simp only [firstT]
    split
    · have:=h p j4;dsimp only;omega
    · exact firstT_range fun q hq=>h q (Jb _ hq)
theorem exts_of {w:World} {al:Nat→Prop} {v:Value} {l:List TExtent} (hal:∀ b,al b→b < w.heap.size) (h:RepC jd w al (.slice 80) v (.slice (List.map e_TExtent l))) :
    Exts w v l.length (exF l)∧∀ b,(∃ a cap,v = .slice a l.length cap∧∃ off,a=some ⟨b,off,none⟩)→0 < l.length→b < w.heap.size:=by
  cases h with
  | empty t x a cap h =>
    have e:l=[]:=by simpa [C.toSl] using h
    subst e
    exact ⟨⟨a,cap,rfl,fun h=>by simp at h⟩,fun b _ h=>by simp at h⟩
  | slice t x b off cap E hE hb hlen hcap hel f hcell hrep =>
    rw [ty80] at hE
    cases hE
    have hl:(C.slice (List.map e_TExtent l)).toSl.length=l.length:=by simp [C.toSl]
    refine ⟨⟨_,cap,by rw [hl],fun _=>⟨b,off,rfl,fun j hj=>?_⟩⟩,fun b' ⟨a,cap',e1,off',e2⟩ _=>?_⟩
    · have hj':j < (C.slice (List.map e_TExtent l)).toSl.length:=by rw [hl];exact hj
      have h0:=cellN_cell (hcell j hj' 0 (by simp))
      have h1:=cellN_cell (hcell j hj' 1 (by simp))
      have r0:=hrep j hj' 0 (by simp)
      have r1:=hrep j hj' 1 (by simp)
      have e1:eg (C.slice (List.map e_TExtent l)).toSl j=e_TExtent (gt l j):=by
        simp [C.toSl,eg,gt,ja,hj]
      rw [e1] at r0 r1
      simp only [e_TExtent,cg_zero,cg_succ,List.getD_cons_zero,List.getD_cons_succ] at r0 r1
      simp only [List.length_cons,List.length_nil] at h0 h1
      refine ⟨?_,?_⟩
      · rw [show off+j * 2=off+(j * (0+1+1)+0) by omega,h0]
        generalize f j 0=q at r0;cases r0;rfl
      · rw [show off+j * 2+1=off+(j * (0+1+1)+1) by omega,h1]
        generalize f j 1=q at r1;cases r1;rfl
    · injection e1 with q1 q2 q3
      rw [← q1] at e2
      injection e2 with e3
      injection e3 with e4
      rw [← e4]
      exact hal _ hb
theorem cextent_Index (n:Nat):Contract jd (xextent_Index n):=by
  refine Contract.of (fun args w=>Tryz.call59 args w) (fun _ cs=>⟨rfl,by simp [xextent_Index,mkFn]⟩) ?_
  intro w al vs cs hal hvl hcl harg hpre
  obtain ⟨hc,hs⟩:=hpre
  obtain ⟨⟨l,track⟩,hd⟩:∃ a:List TExtent×Int,a=(((cg (cs.getD 0 []) 0).toSl.map d_TExtent),(cg (cs.getD 1 []) 0).toInt):=⟨_,rfl⟩
  have hc':cs=[[.slice (List.map e_TExtent l)],[.int track]]:=by
    have:cs=[[.slice (List.map e_TExtent ((cg (cs.getD 0 []) 0).toSl.map d_TExtent))],[.int (cg (cs.getD 1 []) 0).toInt]]:=hc
    rw [this,← (Prod.mk.inj hd).1,← (Prod.mk.inj hd).2]
  subst hc'
  have hs':(extent_Index n l track).isSome=true:=by
    have h:(extent_Index n (List.map d_TExtent (List.map e_TExtent l)) track).isSome=true:=hs
    rwa [de_TExtent] at h
  obtain ⟨r,hr⟩:=Option.isSome_iff_exists.1 hs'
  have hres:((xextent_Index n).sem [[.slice (List.map e_TExtent l)],[.int track]]).res=[.c (.int .i64) (.int r.1),.c .bool (.bool r.2)]:=by
    show ([.c (.int .i64) (.int ((extent_Index n (List.map d_TExtent (List.map e_TExtent l)) track).getD default).1),.c .bool (.bool ((extent_Index n (List.map d_TExtent (List.map e_TExtent l)) track).getD default).2)]:List A)=_
    rw [de_TExtent,hr];rfl
  have hrows:((xextent_Index n).sem [[.slice (List.map e_TExtent l)],[.int track]]).rows=[]:=rfl
  match vs,hvl with
  | [v0,v1],_ =>
    have a0:=harg 0 (show 0 < 2 by decide)
    have a1:=harg 1 (show 1 < 2 by decide)
    obtain ⟨_,_,a0⟩:=a0
    obtain ⟨_,_,a1⟩:=a1
    have a0':RepC jd w al (.slice 80) v0 (.slice (List.map e_TExtent l)):=a0
    have a1':RepC jd w al (.int .i64) v1 (.int track):=a1
    cases a1'
    obtain ⟨hE,hlow⟩:=exts_of hal a0'
    unfold extent_Index at hr
    obtain ⟨valid,hv,hr⟩:=bind_some hr
    have hV:∀ W,Go.RowKit.Below w.heap.size w W→Calls jd 69 #[v0] W fun e W'=>e = .returned (.bool valid)∧Go.RowKit.Below W.heap.size W W':=by
      intro W hW
      have h:=(cextent_Valid n).calls W al [v0] [[.slice (List.map e_TExtent l)]] (fun b hb=>Nat.lt_of_lt_of_le (hal b hb) hW.size) rfl rfl (fun i hi=>by
        match i,hi with
        | 0,_=>exact ⟨rfl,rfl,a0'.mono (fun b hb=>hW.block b (hal b hb)) (fun _ h=>h)⟩) (by
        refine ⟨?_,?_⟩
        · show ([[.slice (List.map e_TExtent l)]]:List (List C))=[[.slice (List.map e_TExtent (List.map d_TExtent (List.map e_TExtent l)))]]
          rw [de_TExtent]
        · show (extent_Valid n (List.map d_TExtent (List.map e_TExtent l))).isSome=true
          rw [de_TExtent,hv];rfl)
      refine Calls.mono h ?_
      rintro e W' ⟨v,rfl,hbel,_,σr,_,_,hvr⟩
      have hvr':ARel jd W' (Al (base0 W al) W' σr (rowsHp ((xextent_Valid n).sem [[.slice (List.map e_TExtent l)]]).rows)) σr v (.c .bool (.bool ((extent_Valid n (List.map d_TExtent (List.map e_TExtent l))).getD default))):=hvr
      rw [de_TExtent,hv] at hvr'
      cases hvr' with
      | c k v x hx=>cases hx;exact ⟨rfl,hbel⟩
    have hok:valid=true→okL l:=fun h=>by
      rw [h] at hr
      simp only [if_true] at hr
      exact (gd_some hr).1
    have hI:=Index_in 3 (Nat.le_refl _) v0 l.length (exF l) track valid w hE hlow hV hok
    refine Calls.mono (callsIn_wide.1 hI) ?_
    rintro e w' ⟨hp,hbel⟩
    have hval:e = .returned (.tuple #[.int .i64 r.1,.bool r.2]):=by
      rcases hp with ⟨h1,h2⟩ | ⟨h1,h2⟩
      · rw [h1] at hr
        simp only [Bool.false_eq_true,if_false,Option.some.injEq] at hr
        rw [h2,← hr]
      · rw [h1] at hr
        simp only [if_true] at hr
        have hr2:=Option.some.inj (gd_some hr).2
        rcases h2 with ⟨h3,h4⟩ | ⟨ini,last,h3,h4,h5,h6⟩
        · rw [h3,← hr2,firstT_none h4]
        · rw [h6,← hr2,firstT_some h3 h4 h5]
    have hrng:InR .i64 r.1:=by
      have e1:IntKind.max .i64=9223372036854775807:=by decide
      have e2:IntKind.min .i64 = -9223372036854775808:=by decide
      unfold InR
      rw [e1,e2]
      cases valid with
      | false =>
        simp only [Bool.false_eq_true,if_false,Option.some.injEq] at hr
        rw [← hr];omega
      | true =>
        simp only [if_true] at hr
        have hr2:=Option.some.inj (gd_some hr).2
        have h3:=(hok rfl).2.2
        have:=firstT_range (track:=track) (upT_lt (exF l) l.length)
        rw [hr2] at this
        omega
    refine ⟨_,hval,?_⟩
    refine ⟨hbel,by rw [hrows];simp,fun _=>.dead,fun j=>rfl,fun i j b h=>by simp [blockOf] at h,?_⟩
    rw [hres]
    refine .tup [.int .i64 r.1,.bool r.2] _ rfl (fun i hi=>?_)
    match i,hi with
    | 0,_=>exact .c _ _ _ (.int .i64 (.int r.1) hrng)
    | 1,_=>exact .c _ _ _ (.bool (.bool r.2))
end Go.Proofs.YtijnkhcfondehaaGreatDoor
