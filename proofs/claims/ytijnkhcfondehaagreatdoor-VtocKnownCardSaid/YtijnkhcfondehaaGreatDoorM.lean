/- Text. -/
import Derived.Test.YtijnkhcfondehaaGreatDoorAE53
import Derived.Test.YtijnkhcfondehaaGreatDoorF
import Derived.Test.YtijnkhcfondehaaGreatDoorIt2
set_option maxHeartbeats 8000000
set_option linter.unusedVariables false
set_option linter.unusedSimpArgs false
set_option maxRecDepth 100000
open Go.IntKind renaming wrap→jc,bits→Jc
open _root_.List renaming getD_eq_getElem?_getD→ja,cons_append→Jy,length_append→ji,length_cons→jK,length_nil→jV
open _root_.Nat renaming le_of_ble_eq_true→ju
open _root_.Option renaming getD→jn
open Go.AE.Sm renaming cut→jS,block→jr,loopB→jL,seqK→jj,skip→jo,exit→jR,ret→jp
open Go.Proofs.Tryz renaming prog→jd
namespace Go.Proofs.YtijnkhcfondehaaGreatDoor
open Go.AE
theorem gk1 {n:Int} (h1:-9223372036854775808≤n) (h2:n < 9223372036854775808):jc .i64 n=n:=by
 simp only [jc]
 have:IntKind.i64.bits=64:=rfl
 rw [this]
 simp [IntKind.signed]
 omega
theorem ezk {α:Type} [Inhabited α] (l:List α) (i:Nat) (x:α) (h:i < l.length):gt (l.set i x) i=x:=by
 simp [gt,ja,h]
theorem fyq {α:Type} [Inhabited α] (l:List α) (i j:Nat) (x:α) (h:i≠j):gt (l.set i x) j=gt l j:=by
 simp [gt,ja,List.getElem?_set_ne h]
abbrev gqz (v:aj9) (k:Nat) (l:List aja):S:=stB [(1,.box 9000 0),(2,.box 9001 0),(3,.own 9002 [.str,.int .i64,.int .i64,.bool,.bool,.int .i64,.int .i64,.int .i64,.int .i64,.slice 80,.int .i64] 0 l.length)] [(9000,.box [.c .str (.str v.Serial),.c (.int .i64) (.int v.Cyls),.c (.int .i64) (.int v.Heads),.c (.int .i64) (.int v.Size),.c (.slice 41) (.slice (List.map aj4 v.Sets))]),(9001,.box [.c .str (.str []),.c (.int .i64) (.int 0),.c (.int .i64) (.int 0),.c (.int .i64) (.int 0),.nilsl]),(9002,.rl 41 (List.map aj4 l) k 9 (.own 9003 [.int .i64,.int .i64] 0 (gt l k).Extents.length)),(9003,.row 80 (List.map aj2 (gt l k).Extents))]
abbrev ejg (v:aj9) (k:Nat) (v16:Int) (l_1:List aja) (v17:Int):S:=stB [(1,.box 9006 0),(2,.box 9007 0),(3,.own 9008 [.str,.int .i64,.int .i64,.bool,.bool,.int .i64,.int .i64,.int .i64,.int .i64,.slice 80,.int .i64] 0 l_1.length),(15,.c (.slice 41) (.slice (List.map aj4 v.Sets))),(16,.c (.int .i64) (.int v16)),(17,.c (.int .i64) (.int v17))] [(9006,.box [.c .str (.str v.Serial),.c (.int .i64) (.int v.Cyls),.c (.int .i64) (.int v.Heads),.c (.int .i64) (.int v.Size),.c (.slice 41) (.slice (List.map aj4 v.Sets))]),(9007,.box [.c .str (.str []),.c (.int .i64) (.int 0),.c (.int .i64) (.int 0),.c (.int .i64) (.int 0),.nilsl]),(9008,.rl 41 (List.map aj4 l_1) k 9 (.own 9009 [.int .i64,.int .i64] 0 (gt l_1 k).Extents.length)),(9009,.row 80 (List.map aj2 (gt l_1 k).Extents))]
def copL (v:aj9) (k:Nat) (v16:Int) (x:List aja×Int):S:=if x.2≤(k:Int) then awl v v16 x.1 x.2 else ejg v k v16 x.1 x.2
theorem gwd (n:Nat) (v:aj9) (k:Nat) (hk:k < v.Sets.length) (r:aj9) (H:ajy n v=some r):awi jd 57 [.dat (true,[.str,.int .i64,.int .i64,.int .i64,.slice 41]) [.str v.Serial,.int v.Cyls,.int v.Heads,.int v.Size,.slice (List.map aj4 v.Sets)]] []
  [.agg [.c .str (.str r.Serial),.c (.int .i64) (.int r.Cyls),.c (.int .i64) (.int r.Heads),.c (.int .i64) (.int r.Size),.own 0 [.str,.int .i64,.int .i64,.bool,.bool,.int .i64,.int .i64,.int .i64,.int .i64,.slice 80,.int .i64] 0 r.Sets.length]]
  [.rl 41 (List.map aj4 r.Sets) k 9 (.own 1 [.int .i64,.int .i64] 0 (gt r.Sets k).Extents.length),.row 80 (List.map aj2 (gt r.Sets k).Extents)]:=by
 have hΓ:=g1 (aze n) (@g0 (aj1 jd))
 refine dq5 (Tryz.f57.body.getD .skip) h00 Tryz.func57 rfl Tryz.call57 (ju rfl) (ju rfl) ?_
 unfold ajy at H
 simp only [Tryz.f57,jn]
 refine rA ?_
 refine sX fun K2 hK2=>?_
 obtain ⟨hg3,H⟩:=aj3 H
 iterate 7 refine oX ?_
 refine oY ?_
 refine oX ?_
 refine hK2 _ ?_
 refine jS (fun (x:(List aja))=>gqz v k x) (fun x=>aqu n v x=some r) ?_ ?_
 ·refine rA ?_
  refine jr ?_
  obtain ⟨y7,hy7,Ho7⟩:=bind_some H
  refine jL _ (fun x=>copL v k (v.Sets.length:Int) x) hy7 ?_ ?_
  ·show Weak _ _ _ (copL v k (v.Sets.length:Int) (_,0))
   rw [copL,if_pos (by show (0:Int)≤(k:Int);omega)]
   exact wb [some 16,some 32,some 208]
  rintro ⟨l_1,v17⟩ z7 H
  try dsimp only at H
  unfold ak5 at H
  have hlen:(v.Sets.length:Int)≤2147483648:=by omega
  by_cases hik:v17≤(k:Int)
  ·refine Sm.st (if_pos hik) ?_
   refine Sm.st (awl.eq_1 ..) ?_
   refine rA ?_
   refine jj fun K9 hK9=>?_
   refine cnd H (fun h10 H=>?_) (fun h10 H=>?_)
   ·refine jo ?_
    refine hK9 _ ?_
    refine jj fun K11 hK11=>?_
    refine jr ?_
    obtain ⟨hg16,H⟩:=aj3 H
    refine rA ?_
    obtain ⟨r1,hr1,H⟩:=bind_some H
    have q:=aI @aqn.eq_1 hr1
    refine rAq ?_
    obtain ⟨⟨hg14,hg15⟩,H⟩:=aj3 H
    have hw:jc .i64 (v17+1)=v17+1:=gk1 (by omega) (by omega)
    by_cases he:v17.toNat=k
    ·refine eX ?_
     iterate 4 refine oX ?_
     have q:=hg15
     refine oE (aw1 h00) ?_ (by intro K hK;simp only [z,seval,bj3,opRL,dqq,ewg,hg15];(repeat first | refine gcI ?_ | intro (_:_≤_));exact hK)
     refine fwe ?_
     refine hK11 _ ?_
     refine eA ?_
     refine lf ?_
     refine nx H ?_
     show Weak _ _ _ (copL v k (v.Sets.length:Int) (_,jc .i64 (v17+1)))
     rw [copL,if_neg (by show ¬ (jc .i64 (v17+1)≤(k:Int));rw [hw];omega)]
     subst he
     show Weak _ _ _ (ejg v v17.toNat (v.Sets.length:Int) _ _)
     rw [ejg,ezk _ _ _ hg15]
     exact wb [some 9006,some 9007,some 9008,some 384]
    ·refine eA ?_
     refine hK11 _ ?_
     refine eA ?_
     refine lf ?_
     refine nx H ?_
     show Weak _ _ _ (copL v k (v.Sets.length:Int) (_,jc .i64 (v17+1)))
     rw [copL,if_pos (by show jc .i64 (v17+1)≤(k:Int);rw [hw];omega)]
     exact wb [some 9006,some 9007,some 9008]
   exfalso
   have:¬ (v17 < (v.Sets.length:Int)):=by simpa using h10
   omega
  ·refine Sm.st (if_neg hik) ?_
   refine Sm.st (ejg.eq_1 ..) ?_
   refine rA ?_
   refine jj fun K9 hK9=>?_
   refine cnd H (fun h10 H=>?_) (fun h10 H=>?_)
   ·refine jo ?_
    refine hK9 _ ?_
    refine jj fun K11 hK11=>?_
    refine jr ?_
    obtain ⟨hg16,H⟩:=aj3 H
    refine rA ?_
    obtain ⟨r1,hr1,H⟩:=bind_some H
    have q:=aI @aqn.eq_1 hr1
    refine rAq ?_
    obtain ⟨⟨hg14,hg15⟩,H⟩:=aj3 H
    have hw:jc .i64 (v17+1)=v17+1:=gk1 (by omega) (by omega)
    have he:¬ v17.toNat=k:=by omega
    have hs:0≤v17∧v17 < (l_1.length:Int):=hg14
    refine eX ?_
    iterate 3 refine oX ?_
    refine oE aqw ?_
    have q:=aI hg15 he
    refine oE (aw1 h00) ?_ (by intro K hK;simp only [z,seval,bj3,opRL,dqq,ewg,q];(repeat first | refine gcI ?_ | intro (_:_≤_));exact hK)
    refine fwe ?_
    refine hK11 _ ?_
    refine eA ?_
    refine lf ?_
    refine nx H ?_
    show Weak _ _ _ (copL v k (v.Sets.length:Int) (_,jc .i64 (v17+1)))
    rw [copL,if_neg (by show ¬ (jc .i64 (v17+1)≤(k:Int));rw [hw];omega)]
    show Weak _ _ _ (ejg v k (v.Sets.length:Int) _ _)
    rw [ejg,fyq _ _ _ _ he]
    exact wb [some 9006,some 9007,some 9008,some 9009]
   refine jR ?_
   refine lf ?_
   refine lx H fun hyy=>?_
   subst hyy
   have H:=Ho7
   try dsimp only at H
   refine lf ?_
   exact ⟨_,H,wb [some 9006,some 9007,some 9008,some 9009]⟩
 rintro l H
 try dsimp only at H
 unfold aqu at H
 refine Sm.st (gqz.eq_1 ..) ?_
 refine sX fun K3 hK3=>?_
 iterate 2 refine oX ?_
 refine oE dyd ?_ (by intro K hK;simp only [z,seval,ekk,dyg,cji,oneL,bzt,cw4];(repeat first | refine gcI ?_ | intro (_:_≤_));exact hK)
 refine hK3 _ ?_
 refine sX fun K4 hK4=>?_
 refine oX ?_
 refine oE dyd ?_ (by intro K hK;simp only [z,seval,ekk,dyg,cji,oneL,bzt,cw4];(repeat first | refine gcI ?_ | intro (_:_≤_));exact hK)
 refine hK4 _ ?_
 refine jp ?_
 refine lf ?_
 obtain rfl:=Option.some.inj H
 refine RetL.mk (.inr rfl) [some 9002,some 9003] rfl ?_
 simp only [z,seval,cwk,blkL,dyf,ak3,ay0,bzt]
def az1 (n:Nat) (d:List aja) (d_i:Nat) (p1:Int) (v:aj9):Option (Int×List aja) :=
 bif (decide (p1 < 1)) then
  some (1,d)
 else
  bif ((jc .i64 (8 - ((gt d d_i).Extents.length:Int))) == 0) then
   some (200,d)
  else
   (bzi n v).bind fun r1 =>
   (bzs n r1 p1 (jc .i64 (8 - ((gt d d_i).Extents.length:Int)))).bind fun r2 =>
   gd ((gt d d_i).Extents.length+r2.1.length≤2147483648) <|
   some (r2.2.2,d.set d_i ⟨(gt d d_i).Name,(gt d d_i).Dcb,(gt d d_i).Extents ++ r2.1,(gt d d_i).Used⟩)
theorem eym (n:Nat) (d:List aja) (k:Nat) (hk:k < d.length) (p1:Int) (v:aj9) (r:Int×List aja) (H:az1 n d k p1 v=some r) (h0:r.1=0):awi jd 95 [.ref (.elt 0 11 [.str,.int .i64,.int .i64,.bool,.bool,.int .i64,.int .i64,.int .i64,.int .i64,.slice 80,.int .i64] k 0),.ref (.box 2 0),.ref (.box 3 0)]
  [.rl 41 (List.map aj4 d) k 9 (.own 1 [.int .i64,.int .i64] 0 (gt d k).Extents.length),.row 80 (List.map aj2 (gt d k).Extents),.box [.c (.int .i64) (.int p1)],.box [.c .str (.str v.Serial),.c (.int .i64) (.int v.Cyls),.c (.int .i64) (.int v.Heads),.c (.int .i64) (.int v.Size),.c (.slice 41) (.slice (List.map aj4 v.Sets))]] [.c (.int .i64) (.int 0)]
  [.rl 41 (List.map aj4 r.2) k 9 (.own 4 [.int .i64,.int .i64] 0 (gt r.2 k).Extents.length),.gone,.box [.c (.int .i64) (.int p1)],.box [.c .str (.str v.Serial),.c (.int .i64) (.int v.Cyls),.c (.int .i64) (.int v.Heads),.c (.int .i64) (.int v.Size),.c (.slice 41) (.slice (List.map aj4 v.Sets))],.row 80 (List.map aj2 (gt r.2 k).Extents)]:=by
 have hΓ:=g1 (bzb n) (g1 (byh n) (@g0 (aj1 jd)))
 refine dq5 (Tryz.f95.body.getD .skip) h00 Tryz.func95 rfl Tryz.call95 (ju rfl) (ju rfl) ?_
 unfold az1 at H
 simp only [Tryz.f95,jn]
 refine rA ?_
 refine jj fun K2 hK2=>?_
 refine rA ?_
 refine cnd H (fun h5 H=>?_) (fun h5 H=>?_)
 ·exfalso
  rw [← Option.some.inj H] at h0
  simp at h0
 refine jo ?_
 refine hK2 _ ?_
 refine sX fun K7 hK7=>?_
 refine oX ?_
 refine oE (aw1 h00) ?_ (by intro K hK;simp only [z,seval,bj3,opRL,nilL,bqi];(repeat first | refine gcI ?_ | intro (_:_≤_));exact hK)
 refine oE (aw1 h00) ?_ (by intro K hK;simp only [z,seval,bj3,opRL,nilL,bqi];(repeat first | refine gcI ?_ | intro (_:_≤_));exact hK)
 refine oE aqw ?_ (by intro K hK;simp only [z,seval,hk];(repeat first | refine gcI ?_ | intro (_:_≤_));exact hK)
 iterate 3 refine oX ?_
 refine hK7 _ ?_
 refine jj fun K6 hK6=>?_
 refine rA ?_
 refine cnd H (fun h8 H=>?_) (fun h8 H=>?_)
 ·exfalso
  rw [← Option.some.inj H] at h0
  simp at h0
 refine jo ?_
 refine hK6 _ ?_
 obtain ⟨r1,hr1,H⟩:=bind_some H
 obtain ⟨r2,hr2,H⟩:=bind_some H
 obtain ⟨hg9,H⟩:=aj3 H
 refine sQ [0,1,2,3,4,5,6,7,8,9,10,11] [(none,[3],[]),(none,[],[351,350,349,348,347,346,345,344,343,342,341,340,339,338,337,336]),(none,[2],[]),(none,[],[]),(none,[336],[399,398,397,396,395,394,393,392,391,390,389,388,387,386,385,384,336]),(none,[],[]),(none,[],[]),(none,[],[]),(none,[],[]),(none,[],[]),(none,[],[]),(none,[],[])] fun K8 hK8=>?_
 have q:=aI @bjr.eq_1 (aI @bw4.eq_1 (aI hr1 hr2))
 iterate 12 refine oQq ?_
 refine bjh ?_
 refine hK8 _ ?_
 refine sX fun K9 hK9=>?_
 iterate 2 refine oX ?_
 refine oE (aw1 h00) ?_ (by intro K hK;simp only [z,seval,bj3,opRL,nilL,bqi];(repeat first | refine gcI ?_ | intro (_:_≤_));exact hK)
 refine oE (aw1 h00) ?_ (by intro K hK;simp only [z,seval,bj3,opRL,nilL,bqi];(repeat first | refine gcI ?_ | intro (_:_≤_));exact hK)
 refine oE aqw ?_ (by intro K hK;simp only [z,seval,hk];(repeat first | refine gcI ?_ | intro (_:_≤_));exact hK)
 iterate 2 refine oX ?_
 refine oE (aw1 h00) ?_ (by intro K hK;simp only [z,seval,bj3,opRL,nilL,bqi];(repeat first | refine gcI ?_ | intro (_:_≤_));exact hK)
 refine oE (aw1 h00) ?_ (by intro K hK;simp only [z,seval,bj3,opRL,nilL,bqi];(repeat first | refine gcI ?_ | intro (_:_≤_));exact hK)
 refine oE aqw ?_ (by intro K hK;simp only [z,seval,hk];(repeat first | refine gcI ?_ | intro (_:_≤_));exact hK)
 refine hK9 _ ?_
 refine rA ?_
 refine jp ?_
 refine lf ?_
 obtain rfl:=Option.some.inj H
 have h0':r2.2.2=0:=h0
 refine RetL.mk (.inr rfl) [some 0,some 1,some 2,some 3,some 544] rfl ?_
 simp only [ezk _ _ _ hk]
 simp only [z,seval,cwk,blkL,dyf,ak3,ay0,bzt,h0']
theorem ezo (n:Nat) (d:List aja) (k:Nat) (hk:k < d.length) (p1:Int) (v:aj9) (r:Int×List aja) (H:az1 n d k p1 v=some r):awi jd 95 [.ref (.elt 0 11 [.str,.int .i64,.int .i64,.bool,.bool,.int .i64,.int .i64,.int .i64,.int .i64,.slice 80,.int .i64] k 0),.ref (.box 2 0),.ref (.box 3 0)]
  [.rl 41 (List.map aj4 d) k 9 (.own 1 [.int .i64,.int .i64] 0 (gt d k).Extents.length),.row 80 (List.map aj2 (gt d k).Extents),.box [.c (.int .i64) (.int p1)],.box [.c .str (.str v.Serial),.c (.int .i64) (.int v.Cyls),.c (.int .i64) (.int v.Heads),.c (.int .i64) (.int v.Size),.c (.slice 41) (.slice (List.map aj4 v.Sets))]] [.c (.int .i64) (.int r.1)]
  [.gone,.gone,.box [.c (.int .i64) (.int p1)],.box [.c .str (.str v.Serial),.c (.int .i64) (.int v.Cyls),.c (.int .i64) (.int v.Heads),.c (.int .i64) (.int v.Size),.c (.slice 41) (.slice (List.map aj4 v.Sets))]]:=by
 have hΓ:=g1 (bzb n) (g1 (byh n) (@g0 (aj1 jd)))
 refine dq5 (Tryz.f95.body.getD .skip) h00 Tryz.func95 rfl Tryz.call95 (ju rfl) (ju rfl) ?_
 unfold az1 at H
 simp only [Tryz.f95,jn]
 refine rA ?_
 refine jj fun K2 hK2=>?_
 refine rA ?_
 refine cnd H (fun h5 H=>?_) (fun h5 H=>?_)
 ·refine rA ?_
  refine Sm.weak (byl 0 (by simp only [z,seval,bzt])) ?_
  refine Sm.weak (byl 1 (by simp only [z,seval,bzt])) ?_
  refine jp ?_
  refine lf ?_
  obtain rfl:=Option.some.inj H
  refine RetL.mk (.inr rfl) [some 0,some 1,some 2,some 3] rfl ?_
  simp only [z,seval,cwk,blkL,dyf,ak3,ay0,bzt]
 refine jo ?_
 refine hK2 _ ?_
 refine sX fun K7 hK7=>?_
 refine oX ?_
 refine oE (aw1 h00) ?_ (by intro K hK;simp only [z,seval,bj3,opRL,nilL,bqi];(repeat first | refine gcI ?_ | intro (_:_≤_));exact hK)
 refine oE (aw1 h00) ?_ (by intro K hK;simp only [z,seval,bj3,opRL,nilL,bqi];(repeat first | refine gcI ?_ | intro (_:_≤_));exact hK)
 refine oE aqw ?_ (by intro K hK;simp only [z,seval,hk];(repeat first | refine gcI ?_ | intro (_:_≤_));exact hK)
 iterate 3 refine oX ?_
 refine hK7 _ ?_
 refine jj fun K6 hK6=>?_
 refine rA ?_
 refine cnd H (fun h8 H=>?_) (fun h8 H=>?_)
 ·refine rA ?_
  refine Sm.weak (byl 0 (by simp only [z,seval,bzt])) ?_
  refine Sm.weak (byl 1 (by simp only [z,seval,bzt])) ?_
  refine jp ?_
  refine lf ?_
  obtain rfl:=Option.some.inj H
  refine RetL.mk (.inr rfl) [some 0,some 1,some 2,some 3] rfl ?_
  simp only [z,seval,cwk,blkL,dyf,ak3,ay0,bzt]
 refine jo ?_
 refine hK6 _ ?_
 obtain ⟨r1,hr1,H⟩:=bind_some H
 obtain ⟨r2,hr2,H⟩:=bind_some H
 obtain ⟨hg9,H⟩:=aj3 H
 refine sQ [0,1,2,3,4,5,6,7,8,9,10,11] [(none,[3],[]),(none,[],[351,350,349,348,347,346,345,344,343,342,341,340,339,338,337,336]),(none,[2],[]),(none,[],[]),(none,[336],[399,398,397,396,395,394,393,392,391,390,389,388,387,386,385,384,336]),(none,[],[]),(none,[],[]),(none,[],[]),(none,[],[]),(none,[],[]),(none,[],[]),(none,[],[])] fun K8 hK8=>?_
 have q:=aI @bjr.eq_1 (aI @bw4.eq_1 (aI hr1 hr2))
 iterate 12 refine oQq ?_
 refine bjh ?_
 refine hK8 _ ?_
 refine sX fun K9 hK9=>?_
 iterate 2 refine oX ?_
 refine oE (aw1 h00) ?_ (by intro K hK;simp only [z,seval,bj3,opRL,nilL,bqi];(repeat first | refine gcI ?_ | intro (_:_≤_));exact hK)
 refine oE (aw1 h00) ?_ (by intro K hK;simp only [z,seval,bj3,opRL,nilL,bqi];(repeat first | refine gcI ?_ | intro (_:_≤_));exact hK)
 refine oE aqw ?_ (by intro K hK;simp only [z,seval,hk];(repeat first | refine gcI ?_ | intro (_:_≤_));exact hK)
 iterate 2 refine oX ?_
 refine oE (aw1 h00) ?_ (by intro K hK;simp only [z,seval,bj3,opRL,nilL,bqi];(repeat first | refine gcI ?_ | intro (_:_≤_));exact hK)
 refine oE (aw1 h00) ?_ (by intro K hK;simp only [z,seval,bj3,opRL,nilL,bqi];(repeat first | refine gcI ?_ | intro (_:_≤_));exact hK)
 refine oE aqw ?_ (by intro K hK;simp only [z,seval,hk];(repeat first | refine gcI ?_ | intro (_:_≤_));exact hK)
 refine hK9 _ ?_
 refine rA ?_
 refine Sm.weak (byl 0 (by simp only [z,seval,bzt])) ?_
 refine jp ?_
 refine lf ?_
 obtain rfl:=Option.some.inj H
 refine RetL.mk (.inr rfl) [some 0,some 1,some 2,some 3] rfl ?_
 simp only [z,seval,cwk,blkL,dyf,ak3,ay0,bzt]
theorem gqc {n:Nat} {d:List aja} {k:Nat} {p1:Int} {v:aj9} {r:Int×List aja} (H:az1 n d k p1 v=some r):r.2.length=d.length:=by
 unfold az1 at H
 refine azn H (fun _ H=>?_) (fun _ H=>?_)
 ·rw [← Option.some.inj H]
 refine azn H (fun _ H=>?_) (fun _ H=>?_)
 ·rw [← Option.some.inj H]
 obtain ⟨r1,hr1,H⟩:=bind_some H
 obtain ⟨r2,hr2,H⟩:=bind_some H
 obtain ⟨hg9,H⟩:=aj3 H
 rw [← Option.some.inj H];simp
def bkj (n:Nat) (v:aj9) (name:List UInt8) (how:Int):Option (aj9×Int) :=
 (aq5 n v).bind fun r1 =>
 bif (r1 != 0) then
  some ((⟨[],0,0,0,[]⟩:aj9),r1)
 else
  (aqp n v name).bind fun r2 =>
  bif (!r2.2) then
   some ((⟨[],0,0,0,[]⟩:aj9),3)
  else
   (ajy n v).bind fun r3 =>
   gd ((0≤r2.1∧r2.1 < (r3.Sets.length:Int))∧r3.Sets.length=v.Sets.length) <|
   (az1 n r3.Sets (Int.toNat r2.1) how v).bind fun r4 =>
   bif (r4.1 != 0) then
    some ((⟨[],0,0,0,[]⟩:aj9),r4.1)
   else
    some ((⟨r3.Serial,r3.Cyls,r3.Heads,r3.Size,r4.2⟩:aj9),0)
theorem ej0 (n:Nat) (v:aj9) (name:List UInt8) (how:Int) (r:aj9×Int) (H:bkj n v name how=some r):awi jd 87 [.dat (true,[.str,.int .i64,.int .i64,.int .i64,.slice 41]) [.str v.Serial,.int v.Cyls,.int v.Heads,.int v.Size,.slice (List.map aj4 v.Sets)],.dat (false,[.str]) [.str name],.ref (.fnv 95 [.box 0 0,.box 1 0])] [.box [.c (.int .i64) (.int how)],.box [.c .str (.str v.Serial),.c (.int .i64) (.int v.Cyls),.c (.int .i64) (.int v.Heads),.c (.int .i64) (.int v.Size),.c (.slice 41) (.slice (List.map aj4 v.Sets))]] [.agg [.c .str (.str r.1.Serial),.c (.int .i64) (.int r.1.Cyls),.c (.int .i64) (.int r.1.Heads),.c (.int .i64) (.int r.1.Size),.own 2 [.str,.int .i64,.int .i64,.bool,.bool,.int .i64,.int .i64,.int .i64,.int .i64,.slice 80,.int .i64] 0 r.1.Sets.length],.c (.int .i64) (.int r.2)] [.box [.c (.int .i64) (.int how)],.box [.c .str (.str v.Serial),.c (.int .i64) (.int v.Cyls),.c (.int .i64) (.int v.Heads),.c (.int .i64) (.int v.Size),.c (.slice 41) (.slice (List.map aj4 v.Sets))],.row 41 (List.map aj4 r.1.Sets)]:=by
 have hΓ:=g1 (aw4 n) (g1 (awo n) (@g0 (aj1 jd)))
 have qe:=aI @aqc.eq_1 @aqz.eq_1
 refine awt (Tryz.f87.body.getD .skip) h00 Tryz.func87 rfl Tryz.call87 (ju rfl) (ju rfl) ?_
 unfold bkj at H
 simp only [Tryz.f87,jn]
 refine rA ?_
 refine jj fun K2 hK2=>?_
 obtain ⟨r1,hr1,H⟩:=bind_some H
 have q:=aI qe hr1
 refine rAq ?_
 refine rA ?_
 refine cnd H (fun h5 H=>?_) (fun h5 H=>?_)
 ·refine rA ?_
  refine jp ?_
  refine lf ?_
  obtain rfl:=Option.some.inj H
  exact rtM [some 0,some 1,none]
 refine jo ?_
 refine hK2 _ ?_
 obtain ⟨r2,hr2,H⟩:=bind_some H
 have q:=aI qe hr2
 refine rAq ?_
 refine jj fun K8 hK8=>?_
 refine rA ?_
 refine cnd H (fun h10 H=>?_) (fun h10 H=>?_)
 ·refine rA ?_
  refine jp ?_
  refine lf ?_
  obtain rfl:=Option.some.inj H
  exact rtM [some 0,some 1,none]
 refine jo ?_
 refine hK8 _ ?_
 obtain ⟨r3,hr3,H⟩:=bind_some H
 obtain ⟨⟨hg15,hgl⟩,H⟩:=aj3 H
 have hkv:Int.toNat r2.1 < v.Sets.length:=by omega
 have hkd:Int.toNat r2.1 < r3.Sets.length:=by omega
 refine sX fun K12 hK12=>?_
 refine oX ?_
 have q:=hr3
 refine oMq (gwd n v _ hkv r3 hr3) [] [464,465] ?_
 refine oX ?_
 refine oE dyd ?_ (by intro K hK;simp only [z,seval,ekk,dyg,cji,oneL,bzt,cw4];(repeat first | refine gcI ?_ | intro (_:_≤_));exact hK)
 refine hK12 _ ?_
 refine jj fun K13 hK13=>?_
 refine sX fun K14 hK14=>?_
 obtain ⟨r4,hr4,H⟩:=bind_some H
 have hl4:=gqc hr4
 iterate 4 refine oX ?_
 refine oE aqw ?_ (by intro K hK;simp only [z,seval,hg15];(repeat first | refine gcI ?_ | intro (_:_≤_));exact hK)
 by_cases h0:r4.1=0
 ·refine oMq (eym n _ _ hkd how v r4 hr4 h0) [464,465,0,1] [560] ?_
  refine oX ?_
  refine hK14 _ ?_
  refine rA ?_
  rw [h0] at H
  refine cnd H (fun h18 H=>?_) (fun h18 H=>?_)
  ·exact absurd h18 (by decide)
  refine jo ?_
  refine hK13 _ ?_
  have hk4:Int.toNat r2.1 < r4.2.length:=by omega
  refine Sm.weak (ekp (id:=464) (id2:=560) (t:=41) (u:=80) (es:=List.map aj4 r4.2) (i:=Int.toNat r2.1) (j:=9) (ks:=[.int .i64,.int .i64]) (len:=(gt r4.2 (Int.toNat r2.1)).Extents.length) (es2:=List.map aj2 (gt r4.2 (Int.toNat r2.1)).Extents) (by simp only [z,seval]) (by simp only [z,seval]) (by rw [aqx _ _ _ hk4,List.take_of_length_le (by simp)];rfl) (by simp only [kdAt,ty41];rfl)) ?_
  refine rA ?_
  refine jp ?_
  refine lf ?_
  obtain rfl:=Option.some.inj H
  exact rtM [some 0,some 1,some 464]
 ·refine oMq (ezo n _ _ hkd how v r4 hr4) [464,465,0,1] [] ?_
  refine oX ?_
  refine hK14 _ ?_
  refine rA ?_
  refine cnd H (fun h18 H=>?_) (fun h18 H=>?_)
  ·refine rA ?_
   refine jp ?_
   refine lf ?_
   obtain rfl:=Option.some.inj H
   exact rtM [some 0,some 1,none]
  ·exfalso
   simp at h18
   exact h0 h18
def cko (n:Nat) (v:aj9) (name:List UInt8) (tracks:Int):Option (aj9×Int) :=
 (bkj n v name tracks).bind fun r1 =>
 some (r1.1,r1.2)
def dwu (n:Nat):Go.AE.Fn:=mkFn (A:=aj9×(List UInt8)×Int) (R:=aj9×Int) 46 [(true,[.str,.int .i64,.int .i64,.int .i64,.slice 41]),(false,[.str]),(false,[.int .i64])] true (fun xs=>((⟨(cg (xs.getD 0 []) 0).toStr,(cg (xs.getD 0 []) 1).toInt,(cg (xs.getD 0 []) 2).toInt,(cg (xs.getD 0 []) 3).toInt,((cg (xs.getD 0 []) 4).toSl.map aqi)⟩:aj9),(cg (xs.getD 1 []) 0).toStr,(cg (xs.getD 2 []) 0).toInt)) (fun a=>[[.str a.1.Serial,.int a.1.Cyls,.int a.1.Heads,.int a.1.Size,.slice (List.map aj4 a.1.Sets)],[.str a.2.1],[.int a.2.2]]) (fun a=>cko n a.1 a.2.1 a.2.2) (fun r=>[.agg [.c .str (.str r.1.Serial),.c (.int .i64) (.int r.1.Cyls),.c (.int .i64) (.int r.1.Heads),.c (.int .i64) (.int r.1.Size),.own 0 [.str,.int .i64,.int .i64,.bool,.bool,.int .i64,.int .i64,.int .i64,.int .i64,.slice 80,.int .i64] 0 r.1.Sets.length],.c (.int .i64) (.int r.2)]) (fun r=>[.row 41 (List.map aj4 r.1.Sets)])
theorem ewu (n:Nat):aj1 jd (dwu n):=by
 have hΓ:=@g0 (aj1 jd)
 refine aj6 (Tryz.f46.body.getD .skip) h00 Tryz.func46 rfl Tryz.call46 (by decide) (by intro h;cases h) ?_
 rintro ⟨v,name,tracks⟩ r H
 try dsimp only at H
 unfold cko at H
 simp only [Tryz.f46,jn]
 refine rA ?_
 refine sX fun K2 hK2=>?_
 obtain ⟨r1,hr1,H⟩:=bind_some H
 have q:=hr1
 iterate 2 refine oX ?_
 refine oY ?_
 refine oMq (ej0 n _ _ _ r1 hr1) [80,48] [176] ?_
 iterate 4 refine oXq ?_
 refine hK2 _ ?_
 refine jp ?_
 refine lf ?_
 obtain rfl:=Option.some.inj H
 exact rto [some 176]
def exF (l:List aj0) (j:Nat):Int×Int:=((gt l j).At,(gt l j).Len)
def okL (l:List aj0):Prop:=l.length≤512∧(∀ j,j < l.length→0≤(exF l j).1∧(exF l j).1≤512∧0≤(exF l j).2∧(exF l j).2≤512)∧(upT (exF l) l.length).length≤512
instance (l:List aj0):Decidable (okL l):=by unfold okL;infer_instance
def byi (track:Int):List (Nat×Int)→Int×Bool
 | []=>(0,false)
 | p :: ps=>if p.2=track then ((p.1:Int),true) else byi track ps
def azt (n:Nat) (l:List aj0) (track:Int):Option (Int×Bool) :=
 (aqh n l).bind fun r=>if r=true then gd (okL l) (some (byi track (upT (exF l) l.length))) else some (0,false)
def ay6 (n:Nat):Go.AE.Fn:=mkFn (A:=List aj0×Int) (R:=Int×Bool) 59 [(false,[.slice 80]),(false,[.int .i64])] false (fun xs=>(((cg (xs.getD 0 []) 0).toSl.map aji),(cg (xs.getD 1 []) 0).toInt)) (fun a=>[[.slice (List.map aj2 a.1)],[.int a.2]]) (fun a=>azt n a.1 a.2) (fun r=>[.c (.int .i64) (.int r.1),.c .bool (.bool r.2)]) (fun r=>[])
theorem dy3 {track:Int}:∀ {ps:List (Nat×Int)},(∀ p∈ps,p.2≠track)→byi track ps=(0,false)
 | [],_=>rfl
 | p :: ps,h=>by
  simp only [byi,h p List.mem_cons_self,if_false]
  exact dy3 fun q hq=>h q (List.mem_cons_of_mem _ hq)
theorem dkr {track:Int}:∀ {ini:List (Nat×Int)} {last:Nat×Int} {ps:List (Nat×Int)},ini ++ [last] <+: ps→(∀ p∈ini,p.2≠track)→last.2=track→byi track ps=((last.1:Int),true)
 | [],last,[],h,_,_=>by simp at h
 | [],last,p :: ps,h,_,e=>by
  obtain ⟨t,ht⟩:=h
  simp only [List.nil_append,Jy,List.cons.injEq] at ht
  obtain ⟨rfl,_⟩:=ht
  simp [byi,e]
 | q :: ini,last,[],h,_,_=>by simp at h
 | q :: ini,last,p :: ps,h,hi,e=>by
  rw [Jy,List.cons_prefix_cons] at h
  obtain ⟨rfl,h2⟩:=h
  simp only [byi,hi q List.mem_cons_self,if_false]
  exact dkr h2 (fun p hp=>hi p (List.mem_cons_of_mem _ hp)) e
theorem gqy (f:Nat→Int×Int):∀ k,∀ p∈upT f k,p.1 < (upT f k).length
 | 0,p,h=>by simp [upT] at h
 | k+1,p,h=>by
  simp only [upT,List.mem_append,List.mem_map,List.mem_range] at h
  simp only [upT,ji,List.length_map,List.length_range]
  rcases h with h | ⟨j,hj,rfl⟩
  ·have:=gqy f k p h;omega
  ·dsimp only;omega
theorem dwp {track:Int} {N:Nat}:∀ {ps:List (Nat×Int)},(∀ p∈ps,p.1 < N)→0≤(byi track ps).1∧(byi track ps).1≤(N:Int)
 | [],_=>by simp [byi]
 | p :: ps,h=>by
  simp only [byi]
  split
  ·have:=h p List.mem_cons_self;dsimp only;omega
  ·exact dwp fun q hq=>h q (List.mem_cons_of_mem _ hq)
theorem gwi {w:World} {al:Nat→Prop} {v:Value} {l:List aj0} (hal:∀ b,al b→b < w.heap.size) (h:RepC jd w al (.slice 80) v (.slice (List.map aj2 l))) :
  Exts w v l.length (exF l)∧∀ b,(∃ a cap,v = .slice a l.length cap∧∃ off,a=some ⟨b,off,none⟩)→0 < l.length→b < w.heap.size:=by
 cases h with
 | empty t x a cap h hz =>
  have e:l=[]:=by simpa [C.toSl] using h
  subst e
  exact ⟨⟨a,cap,rfl,fun h=>by simp at h⟩,fun b _ h=>by simp at h⟩
 | slice t x b off cap hz E hE hb hlen hcap hel f hcell hrep =>
  rw [ty80] at hE
  cases hE
  have hl:(C.slice (List.map aj2 l)).toSl.length=l.length:=by simp [C.toSl]
  refine ⟨⟨_,cap,by rw [hl],fun _=>⟨b,off,rfl,fun j hj=>?_⟩⟩,fun b' ⟨a,cap',e1,off',e2⟩ _=>?_⟩
  ·have hj':j < (C.slice (List.map aj2 l)).toSl.length:=by rw [hl];exact hj
   have h0:=aye (hcell j hj' 0 (by simp))
   have h1:=aye (hcell j hj' 1 (by simp))
   have r0:=hrep j hj' 0 (by simp)
   have r1:=hrep j hj' 1 (by simp)
   have e1:eg (C.slice (List.map aj2 l)).toSl j=aj2 (gt l j):=by
    simp [C.toSl,eg,gt,ja,hj]
   rw [e1] at r0 r1
   simp only [aj2,cg_zero,cg_succ,List.getD_cons_zero,List.getD_cons_succ] at r0 r1
   simp only [jK,jV] at h0 h1
   refine ⟨?_,?_⟩
   ·rw [show off+j * 2=off+(j * (0+1+1)+0) by omega,h0]
    generalize f j 0=q at r0;cases r0;rfl
   ·rw [show off+j * 2+1=off+(j * (0+1+1)+1) by omega,h1]
    generalize f j 1=q at r1;cases r1;rfl
  ·injection e1 with q1 q2 q3
   rw [← q1] at e2
   injection e2 with e3
   injection e3 with e4
   rw [← e4]
   exact hal _ hb
theorem ewf (n:Nat):aj1 jd (ay6 n):=by
 refine aj1.of (fun args w=>Tryz.call59 args w) (fun _ cs=>⟨rfl,by simp [ay6,mkFn]⟩) ?_
 intro w al vs cs hal hvl hcl harg hpre
 obtain ⟨hc,hs⟩:=hpre
 obtain ⟨⟨l,track⟩,hd⟩:∃ a:List aj0×Int,a=(((cg (cs.getD 0 []) 0).toSl.map aji),(cg (cs.getD 1 []) 0).toInt):=⟨_,rfl⟩
 have hc':cs=[[.slice (List.map aj2 l)],[.int track]]:=by
  have:cs=[[.slice (List.map aj2 ((cg (cs.getD 0 []) 0).toSl.map aji))],[.int (cg (cs.getD 1 []) 0).toInt]]:=hc
  rw [this,← (Prod.mk.inj hd).1,← (Prod.mk.inj hd).2]
 subst hc'
 have hs':(azt n l track).isSome=true:=by
  have h:(azt n (List.map aji (List.map aj2 l)) track).isSome=true:=hs
  rwa [aym] at h
 obtain ⟨r,hr⟩:=Option.isSome_iff_exists.1 hs'
 have hres:((ay6 n).sem [[.slice (List.map aj2 l)],[.int track]]).res=[.c (.int .i64) (.int r.1),.c .bool (.bool r.2)]:=by
  show ([.c (.int .i64) (.int ((azt n (List.map aji (List.map aj2 l)) track).getD default).1),.c .bool (.bool ((azt n (List.map aji (List.map aj2 l)) track).getD default).2)]:List A)=_
  rw [aym,hr];rfl
 have hrows:((ay6 n).sem [[.slice (List.map aj2 l)],[.int track]]).rows=[]:=rfl
 match vs,hvl with
 | [v0,v1],_ =>
  have a0:=harg 0 (show 0 < 2 by decide)
  have a1:=harg 1 (show 1 < 2 by decide)
  obtain ⟨_,_,a0⟩:=a0
  obtain ⟨_,_,a1⟩:=a1
  have a0':RepC jd w al (.slice 80) v0 (.slice (List.map aj2 l)):=a0
  have a1':RepC jd w al (.int .i64) v1 (.int track):=a1
  cases a1'
  obtain ⟨hE,hlow⟩:=gwi hal a0'
  unfold azt at hr
  obtain ⟨valid,hv,hr⟩:=bind_some hr
  have hV:∀ W,Go.RowKit.Below w.heap.size w W→Calls jd 69 #[v0] W fun e W'=>e = .returned (.bool valid)∧Go.RowKit.Below W.heap.size W W':=by
   intro W hW
   have h:=(ak1 n).calls W al [v0] [[.slice (List.map aj2 l)]] (fun b hb=>Nat.lt_of_lt_of_le (hal b hb) hW.size) rfl rfl (fun i hi=>by
    match i,hi with
    | 0,_=>exact ⟨rfl,rfl,a0'.mono (fun b hb=>hW.block b (hal b hb)) (fun _ h=>h)⟩) (by
    refine ⟨?_,?_⟩
    ·show ([[.slice (List.map aj2 l)]]:List (List C))=[[.slice (List.map aj2 (List.map aji (List.map aj2 l)))]]
     rw [aym]
    ·show (aqh n (List.map aji (List.map aj2 l))).isSome=true
     rw [aym,hv];rfl)
   refine Calls.mono h ?_
   rintro e W' ⟨v,rfl,hbel,_,σr,_,_,hvr⟩
   have hvr':ARel jd W' (Al (dys W al) W' σr (ajh ((az2 n).sem [[.slice (List.map aj2 l)]]).rows)) σr v (.c .bool (.bool ((aqh n (List.map aji (List.map aj2 l))).getD default))):=hvr
   rw [aym,hv] at hvr'
   cases hvr' with
   | c k v x hx=>cases hx;exact ⟨rfl,hbel⟩
  have hok:valid=true→okL l:=fun h=>by
   rw [h] at hr
   simp only [if_true] at hr
   exact (aj3 hr).1
  have hI:=gq1 3 (Nat.le_refl _) v0 l.length (exF l) track valid w hE hlow hV hok
  refine Calls.mono (callsIn_wide.1 hI) ?_
  rintro e w' ⟨hp,hbel⟩
  have hval:e = .returned (.tuple #[.int .i64 r.1,.bool r.2]):=by
   rcases hp with ⟨h1,h2⟩ | ⟨h1,h2⟩
   ·rw [h1] at hr
    simp only [Bool.false_eq_true,if_false,Option.some.injEq] at hr
    rw [h2,← hr]
   ·rw [h1] at hr
    simp only [if_true] at hr
    have hr2:=Option.some.inj (aj3 hr).2
    rcases h2 with ⟨h3,h4⟩ | ⟨ini,last,h3,h4,h5,h6⟩
    ·rw [h3,← hr2,dy3 h4]
    ·rw [h6,← hr2,dkr h3 h4 h5]
  have hrng:InR .i64 r.1:=by
   have e1:IntKind.max .i64=9223372036854775807:=by decide
   have e2:IntKind.min .i64 = -9223372036854775808:=by decide
   unfold InR
   rw [e1,e2]
   cases valid with
   | false =>
    simp only [Bool.false_eq_true,if_false,Option.some.injEq] at hr
    rw [← hr];omega
   | true =>
    simp only [if_true] at hr
    have hr2:=Option.some.inj (aj3 hr).2
    have h3:=(hok rfl).2.2
    have:=dwp (track:=track) (gqy (exF l) l.length)
    rw [hr2] at this
    omega
  refine ⟨_,hval,?_⟩
  refine ⟨hbel,by rw [hrows];simp,fun _=>.dead,fun j=>rfl,fun i j b h=>by simp [aj5] at h,?_⟩
  rw [hres]
  refine .tup [.int .i64 r.1,.bool r.2] _ rfl (fun i hi=>?_)
  match i,hi with
  | 0,_=>exact .c _ _ _ (.int .i64 (.int r.1) hrng)
  | 1,_=>exact .c _ _ _ (.bool (.bool r.2))
theorem un9M:jd.underlying 9=some .string:=by kernel_rfl
theorem un3M:jd.underlying 3=some (.int .i64):=by kernel_rfl
theorem dyu:tyI jd 154=some ⟨[.ptr 3],false,[],3,8⟩:=by kernel_rfl
theorem fwa:tyI jd 152=some ⟨[.slice 154],false,[],154,24⟩:=by kernel_rfl
theorem fw3:slE jd 152=some (154,⟨[.ptr 3],false,[],3,8⟩):=by kernel_rfl
theorem ewk (d:aja):awi jd 122 [.ref (.box 0 0)] [.box [.c .str (.str d.Name),.c (.int .i64) (.int d.Dcb.Org),.c (.int .i64) (.int d.Dcb.Format),.c .bool (.bool d.Dcb.Blocked),.c .bool (.bool d.Dcb.Asa),.c (.int .i64) (.int d.Dcb.Lrecl),.c (.int .i64) (.int d.Dcb.Blksize),.c (.int .i64) (.int d.Dcb.KeyLen),.c (.int .i64) (.int d.Dcb.KeyPos),.c (.slice 80) (.slice (List.map aj2 d.Extents)),.c (.int .i64) (.int d.Used)]] [.bsl 1 4] [.box [.c .str (.str d.Name),.c (.int .i64) (.int d.Dcb.Org),.c (.int .i64) (.int d.Dcb.Format),.c .bool (.bool d.Dcb.Blocked),.c .bool (.bool d.Dcb.Asa),.c (.int .i64) (.int d.Dcb.Lrecl),.c (.int .i64) (.int d.Dcb.Blksize),.c (.int .i64) (.int d.Dcb.KeyLen),.c (.int .i64) (.int d.Dcb.KeyPos),.c (.slice 80) (.slice (List.map aj2 d.Extents)),.c (.int .i64) (.int d.Used)],.box [.box 0 5,.box 0 6,.box 0 8,.box 0 10]]:=by
 have hΓ:=@g0 (aj1 jd)
 refine awt (Tryz.f122.body.getD .skip) h00 Tryz.func122 rfl Tryz.call122 (ju rfl) (ju rfl) ?_
 simp only [Tryz.f122,jn]
 refine rA ?_
 refine sQ [0,1,2,3,4,5,6,7,8,9,10,11,12,13,14,15,16] [(none,[],[]),(none,[1000001,0],[]),(none,[0],[]),(none,[0],[]),(none,[],[]),(none,[1000001,0],[]),(none,[0],[]),(none,[0],[]),(none,[],[]),(none,[1000001,0],[]),(none,[0],[]),(none,[0],[]),(none,[],[]),(none,[1000001,0],[]),(none,[0],[]),(none,[1000001,0],[288]),(none,[],[])] fun K7 hK7=>?_
 have q:=aI dyu (aI fwa fw3)
 refine oQ ?_
 refine oQV ?_
 iterate 3 refine oQ ?_
 refine oQV ?_
 iterate 3 refine oQ ?_
 refine oQV ?_
 iterate 3 refine oQ ?_
 refine oQV ?_
 refine oQ ?_
 refine oQVq ?_
 refine oQ ?_
 refine bjh ?_
 refine hK7 _ ?_
 refine jp ?_
 refine lf ?_
 exact rtM [some 0,some 288]
abbrev czt (n_:Int) (d:aja) (b:List Int):S:=stB [(0,.c (.int .i64) (.int n_)),(3,.box 9004 0),(4,.box 9005 0),(6,.own 9006 [.int .u8] 0 b.length)] [(9004,.box [.c .str (.str d.Name),.c (.int .i64) (.int d.Dcb.Org),.c (.int .i64) (.int d.Dcb.Format),.c .bool (.bool d.Dcb.Blocked),.c .bool (.bool d.Dcb.Asa),.c (.int .i64) (.int d.Dcb.Lrecl),.c (.int .i64) (.int d.Dcb.Blksize),.c (.int .i64) (.int d.Dcb.KeyLen),.c (.int .i64) (.int d.Dcb.KeyPos),.c (.slice 80) (.slice (List.map aj2 d.Extents)),.c (.int .i64) (.int d.Used)]),(9005,.box [.c (.int .i64) (.int 0),.nilsl,.nilsl,.c .bool (.bool false)]),(9006,.row 5 (List.map ajw b))]
def bwc (n:Nat) (n_:Int) (d:aja) (b:List Int):Option TRec :=
 (bqf n d.Name 44).bind fun r5 =>
 gd ((0≤(jc .i64 (45 - ((b.length:Nat):Int)))∧(b.length+(Int.toNat (jc .i64 (45 - ((b.length:Nat):Int)))))≤2147483648)) <|
 some (⟨n_,r5,(b ++ aqt (Int.toNat (jc .i64 (45 - ((b.length:Nat):Int)))) 0),false⟩:TRec)
abbrev cz7 (n_:Int) (d:aja) (v57:Int) (b_1:List Int) (v58:Int):S:=stB [(0,.c (.int .i64) (.int n_)),(3,.box 9010 0),(4,.box 9011 0),(6,.own 9012 [.int .u8] 0 b_1.length),(56,.c (.slice 80) (.slice (List.map aj2 d.Extents))),(57,.c (.int .i64) (.int v57)),(58,.c (.int .i64) (.int v58))] [(9010,.box [.c .str (.str d.Name),.c (.int .i64) (.int d.Dcb.Org),.c (.int .i64) (.int d.Dcb.Format),.c .bool (.bool d.Dcb.Blocked),.c .bool (.bool d.Dcb.Asa),.c (.int .i64) (.int d.Dcb.Lrecl),.c (.int .i64) (.int d.Dcb.Blksize),.c (.int .i64) (.int d.Dcb.KeyLen),.c (.int .i64) (.int d.Dcb.KeyPos),.c (.slice 80) (.slice (List.map aj2 d.Extents)),.c (.int .i64) (.int d.Used)]),(9011,.box [.c (.int .i64) (.int 0),.nilsl,.nilsl,.c .bool (.bool false)]),(9012,.row 5 (List.map ajw b_1))]
def cz6 (n:Nat) (n_:Int) (d:aja) (v57:Int) (b_1:List Int) (v58:Int):Option (((List Int)×Int) ⊕ (((List Int)))) :=
 bif (decide (v58 < v57)) then
  gd ((0≤v58∧v58 < (d.Extents.length:Int))) <|
  (ay1 n ((gt d.Extents (Int.toNat v58)).At)).bind fun r6 =>
  gd ((b_1.length+r6.length)≤2147483648) <|
  (ay1 n ((gt d.Extents (Int.toNat v58)).Len)).bind fun r7 =>
  gd (((b_1.length+r6.length)+r7.length)≤2147483648) <|
  some (.inl (((b_1 ++ r6) ++ r7),(jc .i64 (v58+1))))
 else
  some (.inr b_1)
abbrev czp (n_:Int) (d:aja) (flags_1:Int):S:=stB [(0,.c (.int .i64) (.int n_)),(3,.box 9002 0),(4,.box 9003 0),(5,.c (.int .u8) (.int flags_1))] [(9002,.box [.c .str (.str d.Name),.c (.int .i64) (.int d.Dcb.Org),.c (.int .i64) (.int d.Dcb.Format),.c .bool (.bool d.Dcb.Blocked),.c .bool (.bool d.Dcb.Asa),.c (.int .i64) (.int d.Dcb.Lrecl),.c (.int .i64) (.int d.Dcb.Blksize),.c (.int .i64) (.int d.Dcb.KeyLen),.c (.int .i64) (.int d.Dcb.KeyPos),.c (.slice 80) (.slice (List.map aj2 d.Extents)),.c (.int .i64) (.int d.Used)]),(9003,.box [.c (.int .i64) (.int 0),.nilsl,.nilsl,.c .bool (.bool false)])]
def ayw (n:Nat) (n_:Int) (d:aja) (flags_1:Int):Option TRec :=
 (ay1 n d.Dcb.Lrecl).bind fun r1 =>
 gd ((4+r1.length)≤2147483648) <|
 (ay1 n d.Dcb.Blksize).bind fun r2 =>
 gd (((4+r1.length)+r2.length)≤2147483648) <|
 (ay1 n d.Dcb.KeyPos).bind fun r3 =>
 gd ((((4+r1.length)+r2.length)+r3.length)≤2147483648) <|
 (ay1 n d.Used).bind fun r4 =>
 gd (((((4+r1.length)+r2.length)+r3.length)+r4.length)≤2147483648) <|
 gd ((((((4+r1.length)+r2.length)+r3.length)+r4.length)+1)≤2147483648) <|
 (aql (fun (x:(List Int)×Int)=>cz6 n n_ d (d.Extents.length:Int) x.1 x.2) n (((((([(jc .u8 (d.Dcb.Org)),(jc .u8 (d.Dcb.Format)),flags_1,(jc .u8 (d.Dcb.KeyLen))] ++ r1) ++ r2) ++ r3) ++ r4) ++ [(jc .u8 ((d.Extents.length:Int)))]),0)).bind fun y9 =>
 bwc n n_ d y9
abbrev czw (n_:Int) (d:aja) (flags:Int):S:=stB [(0,.c (.int .i64) (.int n_)),(3,.box 9000 0),(4,.box 9001 0),(5,.c (.int .u8) (.int flags))] [(9000,.box [.c .str (.str d.Name),.c (.int .i64) (.int d.Dcb.Org),.c (.int .i64) (.int d.Dcb.Format),.c .bool (.bool d.Dcb.Blocked),.c .bool (.bool d.Dcb.Asa),.c (.int .i64) (.int d.Dcb.Lrecl),.c (.int .i64) (.int d.Dcb.Blksize),.c (.int .i64) (.int d.Dcb.KeyLen),.c (.int .i64) (.int d.Dcb.KeyPos),.c (.slice 80) (.slice (List.map aj2 d.Extents)),.c (.int .i64) (.int d.Used)]),(9001,.box [.c (.int .i64) (.int 0),.nilsl,.nilsl,.c .bool (.bool false)])]
def ayt (n:Nat) (n_:Int) (d:aja) (flags:Int):Option TRec :=
 bif d.Dcb.Asa then
  ayw n n_ d (jc .u8 (((BitVec.ofInt (Jc .u8) flags ||| BitVec.ofInt (Jc .u8) 64).toNat:Int)))
 else
  ayw n n_ d flags
def ckd (n:Nat) (n_:Int) (d:aja):Option TRec :=
 bif d.Dcb.Blocked then
  ayt n n_ d (jc .u8 (((BitVec.ofInt (Jc .u8) 0 ||| BitVec.ofInt (Jc .u8) 128).toNat:Int)))
 else
  ayt n n_ d 0
def recB (b r1 r2 r3 r4:List Int):Nat→List Int
 | 0=>b
 | 1=>b ++ r1
 | 2=>(b ++ r1) ++ r2
 | 3=>((b ++ r1) ++ r2) ++ r3
 | _=>(((b ++ r1) ++ r2) ++ r3) ++ r4
abbrev bwn (n_:Int) (d:aja) (b:List Int):S:=stB [(0,.c (.int .i64) (.int n_)),(3,.box 9020 0),(4,.box 9021 0),(6,.own 9022 [.int .u8] 0 b.length)] [(9020,.box [.c .str (.str d.Name),.c (.int .i64) (.int d.Dcb.Org),.c (.int .i64) (.int d.Dcb.Format),.c .bool (.bool d.Dcb.Blocked),.c .bool (.bool d.Dcb.Asa),.c (.int .i64) (.int d.Dcb.Lrecl),.c (.int .i64) (.int d.Dcb.Blksize),.c (.int .i64) (.int d.Dcb.KeyLen),.c (.int .i64) (.int d.Dcb.KeyPos),.c (.slice 80) (.slice (List.map aj2 d.Extents)),.c (.int .i64) (.int d.Used)]),(9021,.box [.c (.int .i64) (.int 0),.nilsl,.nilsl,.c .bool (.bool false)]),(9022,.row 5 (List.map ajw b))]
abbrev ajm (n_:Int) (d:aja) (b:List Int) (k:Int):S:=stB [(0,.c (.int .i64) (.int n_)),(3,.box 9024 0),(4,.box 9025 0),(6,.own 9026 [.int .u8] 0 b.length),(35,.bsl 9027 4),(36,.c (.int .i64) (.int 4)),(37,.c (.int .i64) (.int k))] [(9024,.box [.c .str (.str d.Name),.c (.int .i64) (.int d.Dcb.Org),.c (.int .i64) (.int d.Dcb.Format),.c .bool (.bool d.Dcb.Blocked),.c .bool (.bool d.Dcb.Asa),.c (.int .i64) (.int d.Dcb.Lrecl),.c (.int .i64) (.int d.Dcb.Blksize),.c (.int .i64) (.int d.Dcb.KeyLen),.c (.int .i64) (.int d.Dcb.KeyPos),.c (.slice 80) (.slice (List.map aj2 d.Extents)),.c (.int .i64) (.int d.Used)]),(9025,.box [.c (.int .i64) (.int 0),.nilsl,.nilsl,.c .bool (.bool false)]),(9026,.row 5 (List.map ajw b)),(9027,.box [.box 9024 5,.box 9024 6,.box 9024 8,.box 9024 10])]
def dwx (n:Nat):Go.AE.Fn:=mkFn (A:=Int×aja) (R:=TRec) 63 [(false,[.int .i64]),(true,[.str,.int .i64,.int .i64,.bool,.bool,.int .i64,.int .i64,.int .i64,.int .i64,.slice 80,.int .i64])] false (fun xs=>((cg (xs.getD 0 []) 0).toInt,(⟨(cg (xs.getD 1 []) 0).toStr,(⟨(cg (xs.getD 1 []) 1).toInt,(cg (xs.getD 1 []) 2).toInt,(cg (xs.getD 1 []) 3).toBool,(cg (xs.getD 1 []) 4).toBool,(cg (xs.getD 1 []) 5).toInt,(cg (xs.getD 1 []) 6).toInt,(cg (xs.getD 1 []) 7).toInt,(cg (xs.getD 1 []) 8).toInt⟩:TDcb),((cg (xs.getD 1 []) 9).toSl.map aji),(cg (xs.getD 1 []) 10).toInt⟩:aja))) (fun a=>[[.int a.1],[.str a.2.Name,.int a.2.Dcb.Org,.int a.2.Dcb.Format,.bool a.2.Dcb.Blocked,.bool a.2.Dcb.Asa,.int a.2.Dcb.Lrecl,.int a.2.Dcb.Blksize,.int a.2.Dcb.KeyLen,.int a.2.Dcb.KeyPos,.slice (List.map aj2 a.2.Extents),.int a.2.Used]]) (fun a=>ckd n a.1 a.2) (fun r=>[.agg [.c (.int .i64) (.int r.R),.own 0 [.int .u8] 0 r.Key.length,.own 1 [.int .u8] 0 r.Data.length,.c .bool (.bool r.Bad)]]) (fun r=>[.row 5 (List.map ajw r.Key),.row 5 (List.map ajw r.Data)])
theorem ekh (n:Nat):aj1 jd (dwx n):=by
 have hΓ:=g1 (eji n) (g1 (ej7 n) (@g0 (aj1 jd)))
 have qe:=aI @bz6.eq_1 @bzj.eq_1
 refine aj6 (Tryz.f63.body.getD .skip) h00 Tryz.func63 rfl Tryz.call63 (by decide) (fun _ r=>⟨rfl,m1 ⟨5,_,_,rfl,ty5,rfl⟩ (m1 ⟨5,_,_,rfl,ty5,rfl⟩ m0)⟩) ?_
 rintro ⟨n_,d⟩ r H
 try dsimp only at H
 unfold ckd at H
 simp only [Tryz.f63,jn]
 refine rA ?_
 refine rA ?_
 refine jS (fun (x:Int)=>czw n_ d x) (fun x=>ayt n n_ d x=some r) ?_ ?_
 ·refine rA ?_
  refine cnd H (fun h26 H=>?_) (fun h26 H=>?_)
  ·refine eA ?_
   refine lf ?_
   exact ⟨_,H,wb [some 48,some 64]⟩
  refine jo ?_
  refine lf ?_
  exact ⟨_,H,wb [some 48,some 64]⟩
 rintro flags H
 try dsimp only at H
 unfold ayt at H
 refine Sm.st (czw.eq_1 ..) ?_
 refine jS (fun (x:Int)=>czp n_ d x) (fun x=>ayw n n_ d x=some r) ?_ ?_
 ·refine rA ?_
  refine cnd H (fun h24 H=>?_) (fun h24 H=>?_)
  ·refine eA ?_
   refine lf ?_
   exact ⟨_,H,wb [some 9000,some 9001]⟩
  refine jo ?_
  refine lf ?_
  exact ⟨_,H,wb [some 9000,some 9001]⟩
 rintro flags_1 H
 try dsimp only at H
 unfold ayw at H
 refine Sm.st (czp.eq_1 ..) ?_
 refine rA ?_
 obtain ⟨r1,hr1,H⟩:=bind_some H
 obtain ⟨hg19,H⟩:=aj3 H
 obtain ⟨r2,hr2,H⟩:=bind_some H
 obtain ⟨hg20,H⟩:=aj3 H
 obtain ⟨r3,hr3,H⟩:=bind_some H
 obtain ⟨hg21,H⟩:=aj3 H
 obtain ⟨r4,hr4,H⟩:=bind_some H
 obtain ⟨hg22,H⟩:=aj3 H
 refine jS (X:=Unit) (fun _=>bwn n_ d (((([(jc .u8 (d.Dcb.Org)),(jc .u8 (d.Dcb.Format)),flags_1,(jc .u8 (d.Dcb.KeyLen))] ++ r1) ++ r2) ++ r3) ++ r4)) (fun _=>True) ?_ ?_
 ·refine sX fun K1 hK1=>?_
  refine oM (ewk d) [9002] [560] ?_
  refine oE cj5 ?_ (by intro K hK;simp only [z,seval,dka,bsO,dyu,fwa,fw3];(repeat first | refine gcI ?_ | intro (_:_≤_));exact hK)
  refine oX ?_
  refine hK1 _ ?_
  refine jr ?_
  refine Sm.loop (fun k=>ajm n_ d (recB [(jc .u8 (d.Dcb.Org)),(jc .u8 (d.Dcb.Format)),flags_1,(jc .u8 (d.Dcb.KeyLen))] r1 r2 r3 r4 k) k) (fun k=>k≤4) (fun k=>4 - k) 0 (by omega) (by show Weak _ _ _ (ajm n_ d [(jc .u8 (d.Dcb.Org)),(jc .u8 (d.Dcb.Format)),flags_1,(jc .u8 (d.Dcb.KeyLen))] 0);exact wb [some 9002,some 9003,some 544,some 560]) ?_
  intro k hk
  have hkk:k=0∨k=1∨k=2∨k=3∨k=4:=by omega
  rcases hkk with rfl | rfl | rfl | rfl | rfl
  ·refine Sm.st (show _=ajm n_ d (recB [(jc .u8 (d.Dcb.Org)),(jc .u8 (d.Dcb.Format)),flags_1,(jc .u8 (d.Dcb.KeyLen))] r1 r2 r3 r4 0) 0 from rfl) ?_
   refine Sm.st (ajm.eq_1 ..) ?_
   have hn:recB [(jc .u8 (d.Dcb.Org)),(jc .u8 (d.Dcb.Format)),flags_1,(jc .u8 (d.Dcb.KeyLen))] r1 r2 r3 r4 1=recB [(jc .u8 (d.Dcb.Org)),(jc .u8 (d.Dcb.Format)),flags_1,(jc .u8 (d.Dcb.KeyLen))] r1 r2 r3 r4 0 ++ r1:=rfl
   obtain ⟨bb,hB⟩:∃ bb,bb=recB [(jc .u8 (d.Dcb.Org)),(jc .u8 (d.Dcb.Format)),flags_1,(jc .u8 (d.Dcb.KeyLen))] r1 r2 r3 r4 0:=⟨_,rfl⟩
   have hl:bb.length+r1.length≤2147483648:=by rw [hB];simp only [recB,ji,jK,jV];omega
   rw [← hB] at hn ⊢
   clear hB
   refine rA ?_
   refine jj fun K11 hK11=>?_
   refine cndT ?_
   refine jo ?_
   refine hK11 _ ?_
   refine jj fun K13 hK13=>?_
   refine jr ?_
   refine sX fun K14 hK14=>?_
   refine oE cj5 ?_ (by intro K hK;simp only [z,seval,dka,bsO,dyu,fwa,fw3];(repeat first | refine gcI ?_ | intro (_:_≤_));exact hK)
   refine oX ?_ (by intro K hK;simp only [z,seval,dyu];(repeat first | refine gcI ?_ | intro (_:_≤_));exact hK)
   refine oX ?_
   refine hK14 _ ?_
   refine eX ?_
   have q:=aI qe hr1
   iterate 2 refine oX ?_
   refine oE aqw ?_
   iterate 4 refine oXq ?_
   refine fwe ?_
   refine hK13 _ ?_
   refine eA ?_
   refine lf ?_
   have hw:jc .i64 1=1:=by decide
   refine ⟨1,by omega,by omega,?_⟩
   show Weak _ _ _ (ajm n_ d (recB [(jc .u8 (d.Dcb.Org)),(jc .u8 (d.Dcb.Format)),flags_1,(jc .u8 (d.Dcb.KeyLen))] r1 r2 r3 r4 1) 1)
   rw [hn]
   exact wb [some 9024,some 9025,some 736,some 9027] (hL:=by simp only [wk,z,seval,hw])
  ·refine Sm.st (show _=ajm n_ d (recB [(jc .u8 (d.Dcb.Org)),(jc .u8 (d.Dcb.Format)),flags_1,(jc .u8 (d.Dcb.KeyLen))] r1 r2 r3 r4 1) 1 from rfl) ?_
   refine Sm.st (ajm.eq_1 ..) ?_
   have hn:recB [(jc .u8 (d.Dcb.Org)),(jc .u8 (d.Dcb.Format)),flags_1,(jc .u8 (d.Dcb.KeyLen))] r1 r2 r3 r4 2=recB [(jc .u8 (d.Dcb.Org)),(jc .u8 (d.Dcb.Format)),flags_1,(jc .u8 (d.Dcb.KeyLen))] r1 r2 r3 r4 1 ++ r2:=rfl
   obtain ⟨bb,hB⟩:∃ bb,bb=recB [(jc .u8 (d.Dcb.Org)),(jc .u8 (d.Dcb.Format)),flags_1,(jc .u8 (d.Dcb.KeyLen))] r1 r2 r3 r4 1:=⟨_,rfl⟩
   have hl:bb.length+r2.length≤2147483648:=by rw [hB];simp only [recB,ji,jK,jV];omega
   rw [← hB] at hn ⊢
   clear hB
   refine rA ?_
   refine jj fun K11 hK11=>?_
   refine cndT ?_
   refine jo ?_
   refine hK11 _ ?_
   refine jj fun K13 hK13=>?_
   refine jr ?_
   refine sX fun K14 hK14=>?_
   refine oE cj5 ?_ (by intro K hK;simp only [z,seval,dka,bsO,dyu,fwa,fw3];(repeat first | refine gcI ?_ | intro (_:_≤_));exact hK)
   refine oX ?_ (by intro K hK;simp only [z,seval,dyu];(repeat first | refine gcI ?_ | intro (_:_≤_));exact hK)
   refine oX ?_
   refine hK14 _ ?_
   refine eX ?_
   have q:=aI qe hr2
   iterate 2 refine oX ?_
   refine oE aqw ?_
   iterate 4 refine oXq ?_
   refine fwe ?_
   refine hK13 _ ?_
   refine eA ?_
   refine lf ?_
   have hw:jc .i64 2=2:=by decide
   refine ⟨2,by omega,by omega,?_⟩
   show Weak _ _ _ (ajm n_ d (recB [(jc .u8 (d.Dcb.Org)),(jc .u8 (d.Dcb.Format)),flags_1,(jc .u8 (d.Dcb.KeyLen))] r1 r2 r3 r4 2) 2)
   rw [hn]
   exact wb [some 9024,some 9025,some 736,some 9027] (hL:=by simp only [wk,z,seval,hw])
  ·refine Sm.st (show _=ajm n_ d (recB [(jc .u8 (d.Dcb.Org)),(jc .u8 (d.Dcb.Format)),flags_1,(jc .u8 (d.Dcb.KeyLen))] r1 r2 r3 r4 2) 2 from rfl) ?_
   refine Sm.st (ajm.eq_1 ..) ?_
   have hn:recB [(jc .u8 (d.Dcb.Org)),(jc .u8 (d.Dcb.Format)),flags_1,(jc .u8 (d.Dcb.KeyLen))] r1 r2 r3 r4 3=recB [(jc .u8 (d.Dcb.Org)),(jc .u8 (d.Dcb.Format)),flags_1,(jc .u8 (d.Dcb.KeyLen))] r1 r2 r3 r4 2 ++ r3:=rfl
   obtain ⟨bb,hB⟩:∃ bb,bb=recB [(jc .u8 (d.Dcb.Org)),(jc .u8 (d.Dcb.Format)),flags_1,(jc .u8 (d.Dcb.KeyLen))] r1 r2 r3 r4 2:=⟨_,rfl⟩
   have hl:bb.length+r3.length≤2147483648:=by rw [hB];simp only [recB,ji,jK,jV];omega
   rw [← hB] at hn ⊢
   clear hB
   refine rA ?_
   refine jj fun K11 hK11=>?_
   refine cndT ?_
   refine jo ?_
   refine hK11 _ ?_
   refine jj fun K13 hK13=>?_
   refine jr ?_
   refine sX fun K14 hK14=>?_
   refine oE cj5 ?_ (by intro K hK;simp only [z,seval,dka,bsO,dyu,fwa,fw3];(repeat first | refine gcI ?_ | intro (_:_≤_));exact hK)
   refine oX ?_ (by intro K hK;simp only [z,seval,dyu];(repeat first | refine gcI ?_ | intro (_:_≤_));exact hK)
   refine oX ?_
   refine hK14 _ ?_
   refine eX ?_
   have q:=aI qe hr3
   iterate 2 refine oX ?_
   refine oE aqw ?_
   iterate 4 refine oXq ?_
   refine fwe ?_
   refine hK13 _ ?_
   refine eA ?_
   refine lf ?_
   have hw:jc .i64 3=3:=by decide
   refine ⟨3,by omega,by omega,?_⟩
   show Weak _ _ _ (ajm n_ d (recB [(jc .u8 (d.Dcb.Org)),(jc .u8 (d.Dcb.Format)),flags_1,(jc .u8 (d.Dcb.KeyLen))] r1 r2 r3 r4 3) 3)
   rw [hn]
   exact wb [some 9024,some 9025,some 736,some 9027] (hL:=by simp only [wk,z,seval,hw])
  ·refine Sm.st (show _=ajm n_ d (recB [(jc .u8 (d.Dcb.Org)),(jc .u8 (d.Dcb.Format)),flags_1,(jc .u8 (d.Dcb.KeyLen))] r1 r2 r3 r4 3) 3 from rfl) ?_
   refine Sm.st (ajm.eq_1 ..) ?_
   have hn:recB [(jc .u8 (d.Dcb.Org)),(jc .u8 (d.Dcb.Format)),flags_1,(jc .u8 (d.Dcb.KeyLen))] r1 r2 r3 r4 4=recB [(jc .u8 (d.Dcb.Org)),(jc .u8 (d.Dcb.Format)),flags_1,(jc .u8 (d.Dcb.KeyLen))] r1 r2 r3 r4 3 ++ r4:=rfl
   obtain ⟨bb,hB⟩:∃ bb,bb=recB [(jc .u8 (d.Dcb.Org)),(jc .u8 (d.Dcb.Format)),flags_1,(jc .u8 (d.Dcb.KeyLen))] r1 r2 r3 r4 3:=⟨_,rfl⟩
   have hl:bb.length+r4.length≤2147483648:=by rw [hB];simp only [recB,ji,jK,jV];omega
   rw [← hB] at hn ⊢
   clear hB
   refine rA ?_
   refine jj fun K11 hK11=>?_
   refine cndT ?_
   refine jo ?_
   refine hK11 _ ?_
   refine jj fun K13 hK13=>?_
   refine jr ?_
   refine sX fun K14 hK14=>?_
   refine oE cj5 ?_ (by intro K hK;simp only [z,seval,dka,bsO,dyu,fwa,fw3];(repeat first | refine gcI ?_ | intro (_:_≤_));exact hK)
   refine oX ?_ (by intro K hK;simp only [z,seval,dyu];(repeat first | refine gcI ?_ | intro (_:_≤_));exact hK)
   refine oX ?_
   refine hK14 _ ?_
   refine eX ?_
   have q:=aI qe hr4
   iterate 2 refine oX ?_
   refine oE aqw ?_
   iterate 4 refine oXq ?_
   refine fwe ?_
   refine hK13 _ ?_
   refine eA ?_
   refine lf ?_
   have hw:jc .i64 4=4:=by decide
   refine ⟨4,by omega,by omega,?_⟩
   show Weak _ _ _ (ajm n_ d (recB [(jc .u8 (d.Dcb.Org)),(jc .u8 (d.Dcb.Format)),flags_1,(jc .u8 (d.Dcb.KeyLen))] r1 r2 r3 r4 4) 4)
   rw [hn]
   exact wb [some 9024,some 9025,some 736,some 9027] (hL:=by simp only [wk,z,seval,hw])
  ·refine Sm.st (show _=ajm n_ d (recB [(jc .u8 (d.Dcb.Org)),(jc .u8 (d.Dcb.Format)),flags_1,(jc .u8 (d.Dcb.KeyLen))] r1 r2 r3 r4 4) 4 from rfl) ?_
   refine Sm.st (ajm.eq_1 ..) ?_
   refine rA ?_
   refine jj fun K11 hK11=>?_
   refine cndF ?_
   refine jR ?_
   refine lf ?_
   refine ⟨(),trivial,?_⟩
   show Weak _ _ _ (bwn n_ d (recB [(jc .u8 (d.Dcb.Org)),(jc .u8 (d.Dcb.Format)),flags_1,(jc .u8 (d.Dcb.KeyLen))] r1 r2 r3 r4 4))
   obtain ⟨bb,hB⟩:∃ bb,bb=recB [(jc .u8 (d.Dcb.Org)),(jc .u8 (d.Dcb.Format)),flags_1,(jc .u8 (d.Dcb.KeyLen))] r1 r2 r3 r4 4:=⟨_,rfl⟩
   rw [← hB]
   exact wb [some 9024,some 9025,some 9026]
 rintro ⟨⟩ _
 refine Sm.st (bwn.eq_1 ..) ?_
 obtain ⟨bb,hB⟩:∃ bb,bb=(((([(jc .u8 (d.Dcb.Org)),(jc .u8 (d.Dcb.Format)),flags_1,(jc .u8 (d.Dcb.KeyLen))] ++ r1) ++ r2) ++ r3) ++ r4):=⟨_,rfl⟩
 have hl:bb.length=4+r1.length+r2.length+r3.length+r4.length:=by rw [hB];simp only [ji,jK,jV]
 rw [← hB] at H ⊢
 rw [← hl] at H
 obtain ⟨hg18,H⟩:=aj3 H
 refine rA ?_
 refine jS (fun (x:(List Int))=>czt n_ d x) (fun x=>bwc n n_ d x=some r) ?_ ?_
 ·refine rA ?_
  refine jr ?_
  obtain ⟨y9,hy9,Ho9⟩:=bind_some H
  refine jL _ (fun x=>cz7 n_ d (d.Extents.length:Int) x.1 x.2) hy9 (wb [some 9020,some 9021,some 864]) ?_
  rintro ⟨b_1,v58⟩ z9 H
  try dsimp only at H
  unfold cz6 at H
  refine Sm.st (cz7.eq_1 ..) ?_
  refine rA ?_
  refine jj fun K11 hK11=>?_
  refine cnd H (fun h12 H=>?_) (fun h12 H=>?_)
  ·refine jo ?_
   refine hK11 _ ?_
   refine jj fun K13 hK13=>?_
   refine jr ?_
   obtain ⟨hg17,H⟩:=aj3 H
   refine rA ?_
   obtain ⟨r6,hr6,H⟩:=bind_some H
   obtain ⟨hg15,H⟩:=aj3 H
   obtain ⟨r7,hr7,H⟩:=bind_some H
   obtain ⟨hg16,H⟩:=aj3 H
   refine eQ [0,1,2,3,4,5,6,7,8,9] [(none,[],[]),(none,[160],[]),(none,[160],[]),(none,[],[1055,1054,1053,1052,1051,1050,1049,1048,1047,1046,1045,1044,1043,1042,1041,1040]),(none,[1040,9012],[1056,9012]),(none,[160],[]),(none,[160],[]),(none,[],[1119,1118,1117,1116,1115,1114,1113,1112,1111,1110,1109,1108,1107,1106,1105,1104]),(none,[1056,1104],[1120,1056]),(none,[],[])] ?_
   have q:=aI qe (aI hr6 hr7)
   iterate 10 refine oQq ?_
   refine bjh ?_
   refine hK13 _ ?_
   refine eA ?_
   refine lf ?_
   exact nx H (wb [some 9010,some 9011,some 1120])
  refine jR ?_
  refine lf ?_
  refine lx H fun hyy=>?_
  subst hyy
  have H:=Ho9
  try dsimp only at H
  refine lf ?_
  exact ⟨_,H,wb [some 9010,some 9011,some 9012]⟩
 rintro b H
 try dsimp only at H
 unfold bwc at H
 refine Sm.st (czt.eq_1 ..) ?_
 refine sX fun K6 hK6=>?_
 obtain ⟨r5,hr5,H⟩:=bind_some H
 obtain ⟨hg7,H⟩:=aj3 H
 have q:=aI qe hr5
 iterate 8 refine oXq ?_
 refine oE (fkb 9) ?_ (by intro K hK;simp only [z,seval,bz6,bzj,hr5,fk4,appZ,un9M,un3M];(repeat first | refine gcI ?_ | intro (_:_≤_));exact hK)
 iterate 2 refine oXq ?_
 refine hK6 _ ?_
 refine jp ?_
 refine lf ?_
 obtain rfl:=Option.some.inj H
 exact rto [some 1200,some 1280]
def rowZ (A:List (List TRec)) (x:List TRec) (m:Nat):List (List C):=List.map aq3 A ++ aq3 x :: aqt m [.z]
theorem fjb (A:List (List TRec)) (x:List TRec) (m:Nat):(rowZ A x m).length=A.length+1+m:=by simp [rowZ,aqt];omega
theorem gzx (m:Nat) (x:List TRec):(aqt (m+1) [C.z]).set 0 (ajt (eg (aqt (m+1) [C.z]) 0) 0 [.slice (List.map aqm x)])=rowZ [] x m:=by
 simp [rowZ,aqt,List.replicate_succ,eg,ajt,aq4,aq3]
theorem eyo (A:List (List TRec)) (x:List TRec) (m:Nat):eg (rowZ A x m) A.length=[.slice (List.map aqm x)]:=by
 simp [rowZ,eg,ja,aq3]
theorem eke (A:List (List TRec)) (x:List TRec) (m:Nat):eg (rowZ A x (m+1)) (A.length+1)=[.z]:=by
 simp [rowZ,eg,ja,aqt,List.replicate_succ]
theorem gqf (A:List (List TRec)) (x y:List TRec) (m:Nat):(rowZ A x m).set A.length (ajt (eg (rowZ A x m) A.length) 0 [.slice (List.map aqm y)])=rowZ A y m:=by
 rw [eyo]
 simp [rowZ,ajt,aq4,aq3]
theorem gqe (A:List (List TRec)) (x y:List TRec) (m:Nat):(rowZ A x (m+1)).set (A.length+1) (ajt (eg (rowZ A x (m+1)) (A.length+1)) 0 [.slice (List.map aqm y)])=rowZ (A ++ [x]) y m:=by
 rw [eke]
 simp [rowZ,ajt,aq4,aq3,aqt,List.replicate_succ]
theorem gj8 (A:List (List TRec)) (x:List TRec) (m:Nat):(rowZ A x m).map (nrmL [.slice 87])=List.map aq3 (A ++ [x] ++ aqt m []):=by
 simp [rowZ,aqt,aq3,nrmL,nrm,C.toSl,Function.comp_def]
abbrev cwu (l:List (List TRec)):S:=stB [(8,.own 9002 [.slice 87] 0 l.length)] [(9002,.row 84 (List.map aq3 l))]
def bwk (n:Nat) (l:List (List TRec)):Option ((List (List TRec))×Int) :=
 some (l,0)
abbrev aka (v:aj9) (A:List (List TRec)) (x:List TRec) (m:Nat) (v58:Int):S:=stB [(8,.own 9004 [.slice 87] 0 (A.length+1+m)),(56,.c (.slice 41) (.slice (List.map aj4 v.Sets))),(57,.c (.int .i64) (.int (v.Sets.length:Int))),(58,.c (.int .i64) (.int v58))] [(9004,.rl 84 (rowZ A x m) A.length 0 (.own 9005 [.int .i64,.slice 5,.slice 5,.bool] 0 x.length)),(9005,.row 87 (List.map aqm x))]
def cz1 (n:Nat) (v:aj9) (A:List (List TRec)) (x:List TRec) (m:Nat) (v58:Int):Option ((List (List TRec)×List TRec×Nat×Int) ⊕ (List (List TRec))) :=
 bif (decide (v58 < (v.Sets.length:Int))) then
  gd ((0≤v58∧v58 < (v.Sets.length:Int))) <|
  (ckd n (jc .i64 ((Int.tmod v58 14)+1)) (gt v.Sets (Int.toNat v58))).bind fun r6 =>
  gd (x.length+1≤2147483648∧A.length+1+m≤2147483648) <|
  bif decide (jc .i64 (1+(jc .i64 (Int.tdiv v58 14)))=(A.length:Int)) then
   some (.inl (A,x ++ [r6],m,(jc .i64 (v58+1))))
  else
   gd (jc .i64 (1+(jc .i64 (Int.tdiv v58 14)))=((A.length+1:Nat):Int)∧0 < m) <|
   some (.inl (A ++ [x],[r6],m - 1,(jc .i64 (v58+1))))
 else
  some (.inr (A ++ [x] ++ aqt m []))
abbrev czl (v:aj9) (b:List Int):S:=stB [(1,.box 9000 0),(5,.own 9001 [.int .u8] 0 b.length)] [(9000,.box [.c .str (.str v.Serial),.c (.int .i64) (.int v.Cyls),.c (.int .i64) (.int v.Heads),.c (.int .i64) (.int v.Size),.c (.slice 41) (.slice (List.map aj4 v.Sets))]),(9001,.row 5 (List.map ajw b))]
def bwe (n:Nat) (v:aj9) (b:List Int):Option ((List (List TRec))×Int) :=
 (bqf n [] (jc .i64 (80 - ((b.length:Nat):Int)))).bind fun r4 =>
 gd ((b.length+r4.length)≤2147483648) <|
 gd ((0≤(jc .i64 (v.Size+1))∧(jc .i64 (v.Size+1))≤(jc .i64 (v.Size+1))∧(jc .i64 (v.Size+1))≤2147483648)) <|
 (bqf n [86,79,76,49] 4).bind fun r5 =>
 gd (0 < ((Int.toNat (jc .i64 (v.Size+1))):Int)∧0 < (Int.toNat (jc .i64 (v.Size+1)))) <|
 (aql (fun (x:List (List TRec)×List TRec×Nat×Int)=>cz1 n v x.1 x.2.1 x.2.2.1 x.2.2.2) n ([],[(⟨3,r5,(b ++ r4),false⟩:TRec)],(Int.toNat (jc .i64 (v.Size+1))) - 1,0)).bind fun y15 =>
 bwk n y15
abbrev cz2 (v:aj9) (v28:List Int) (b_1:List Int) (v30:Int):S:=stB [(1,.box 9008 0),(5,.own 9009 [.int .u8] 0 b_1.length),(28,.own 9010 [.int .i64] 0 v28.length),(29,.c (.int .i64) (.int 3)),(30,.c (.int .i64) (.int v30))] [(9008,.box [.c .str (.str v.Serial),.c (.int .i64) (.int v.Cyls),.c (.int .i64) (.int v.Heads),.c (.int .i64) (.int v.Size),.c (.slice 41) (.slice (List.map aj4 v.Sets))]),(9009,.row 5 (List.map ajw b_1)),(9010,.row 3 (List.map ajw v28))]
def czo (n:Nat) (v:aj9) (v28:List Int) (b_1:List Int) (v30:Int):Option (((List Int)×Int) ⊕ (((List Int)))) :=
 bif (decide (v30 < 3)) then
  gd ((0≤v30∧v30 < (v28.length:Int))∧(Int.toNat v30) < v28.length) <|
  (ay1 n (gt v28 (Int.toNat v30))).bind fun r7 =>
  gd ((b_1.length+r7.length)≤2147483648) <|
  some (.inl ((b_1 ++ r7),(jc .i64 (v30+1))))
 else
  some (.inr b_1)
def bzz (n:Nat) (v:aj9):Option ((List (List TRec))×Int) :=
 (aq5 n v).bind fun r1 =>
 bif (r1 != 0) then
  some ([],r1)
 else
  (bqf n [86,79,76,49] 4).bind fun r2 =>
  (bqf n v.Serial 6).bind fun r3 =>
  gd ((r2.length+r3.length)≤2147483648) <|
  (aql (fun (x:(List Int)×Int)=>czo n v [v.Cyls,v.Heads,v.Size] x.1 x.2) n ((r2 ++ r3),0)).bind fun y32 =>
  bwe n v y32
def cjf (n:Nat):Go.AE.Fn:=mkFn (A:=aj9) (R:=(List (List TRec))×Int) 28 [(true,[.str,.int .i64,.int .i64,.int .i64,.slice 41])] true (fun xs=>(⟨(cg (xs.getD 0 []) 0).toStr,(cg (xs.getD 0 []) 1).toInt,(cg (xs.getD 0 []) 2).toInt,(cg (xs.getD 0 []) 3).toInt,((cg (xs.getD 0 []) 4).toSl.map aqi)⟩:aj9)) (fun a=>[[.str a.Serial,.int a.Cyls,.int a.Heads,.int a.Size,.slice (List.map aj4 a.Sets)]]) (fun a=>bzz n a) (fun r=>[.own 0 [.slice 87] 0 r.1.length,.c (.int .i64) (.int r.2)]) (fun r=>[.row 84 (List.map aq3 r.1)])
theorem dw4 (n:Nat):aj1 jd (cjf n):=by
 have hΓ:=g1 (aw4 n) (g1 (ej7 n) (g1 (eji n) (g1 (ekh n) (@g0 (aj1 jd)))))
 have qe:=aI @aqc.eq_1 (aI @bzj.eq_1 @bz6.eq_1)
 refine aj6 (Tryz.f28.body.getD .skip) h00 Tryz.func28 rfl Tryz.call28 (by decide) (by intro h;cases h) ?_
 rintro v r H
 try dsimp only at H
 unfold bzz at H
 simp only [Tryz.f28,jn]
 refine rA ?_
 refine jj fun K2 hK2=>?_
 obtain ⟨r1,hr1,H⟩:=bind_some H
 have q:=aI qe hr1
 refine rAq ?_
 refine rA ?_
 refine cnd H (fun h5 H=>?_) (fun h5 H=>?_)
 ·refine rA ?_
  refine jp ?_
  refine lf ?_
  obtain rfl:=Option.some.inj H
  exact rto [none]
 refine jo ?_
 refine hK2 _ ?_
 obtain ⟨r2,hr2,H⟩:=bind_some H
 obtain ⟨r3,hr3,H⟩:=bind_some H
 obtain ⟨hg8,H⟩:=aj3 H
 refine sQ [0,1,2,3,4,5] [(none,[],[287,286,285,284,283,282,281,280,279,278,277,276,275,274,273,272]),(none,[16],[]),(none,[16],[]),(none,[],[335,334,333,332,331,330,329,328,327,326,325,324,323,322,321,320]),(none,[272,320],[336,272]),(none,[],[])] fun K7 hK7=>?_
 have q:=aI qe (aI hr2 hr3)
 iterate 6 refine oQq ?_
 refine bjh ?_
 refine hK7 _ ?_
 refine jS (fun (x:(List Int))=>czl v x) (fun x=>bwe n v x=some r) ?_ ?_
 ·refine rA ?_
  refine jr ?_
  obtain ⟨y32,hy32,Ho32⟩:=bind_some H
  refine jL _ (fun x=>cz2 v [v.Cyls,v.Heads,v.Size] x.1 x.2) hy32 (wb [some 16,some 336,some 448]) ?_
  rintro ⟨b_1,v30⟩ z32 H
  try dsimp only at H
  unfold czo at H
  refine Sm.st (cz2.eq_1 ..) ?_
  refine rA ?_
  refine jj fun K34 hK34=>?_
  refine cnd H (fun h35 H=>?_) (fun h35 H=>?_)
  ·refine jo ?_
   refine hK34 _ ?_
   refine jj fun K36 hK36=>?_
   refine jr ?_
   obtain ⟨⟨hg39,hg40⟩,H⟩:=aj3 H
   refine rA ?_
   obtain ⟨r7,hr7,H⟩:=bind_some H
   obtain ⟨hg38,H⟩:=aj3 H
   have q:=aI qe hr7
   refine eAq ?_
   refine hK36 _ ?_
   refine eA ?_
   refine lf ?_
   exact nx H (wb [some 9008,some 592,some 9010])
  refine jR ?_
  refine lf ?_
  refine lx H fun hyy=>?_
  subst hyy
  have H:=Ho32
  try dsimp only at H
  refine lf ?_
  exact ⟨_,H,wb [some 9008,some 9009]⟩
 rintro b H
 try dsimp only at H
 unfold bwe at H
 refine Sm.st (czl.eq_1 ..) ?_
 obtain ⟨r4,hr4,H⟩:=bind_some H
 obtain ⟨hg30,H⟩:=aj3 H
 have q:=aI qe hr4
 refine rAq ?_
 refine sX fun K10 hK10=>?_
 obtain ⟨hg11,H⟩:=aj3 H
 iterate 3 refine oX ?_
 refine oE fk8 ?_ (by intro K hK;simp only [z,seval,fyw,gju];(repeat first | refine gcI ?_ | intro (_:_≤_));exact hK)
 refine oX ?_
 refine hK10 _ ?_
 obtain ⟨r5,hr5,H⟩:=bind_some H
 obtain ⟨⟨hg28,hg29⟩,H⟩:=aj3 H
 obtain ⟨M,hM⟩:∃ M,Int.toNat (jc .i64 (v.Size+1))=M+1:=⟨Int.toNat (jc .i64 (v.Size+1)) - 1,by omega⟩
 rw [hM] at H hg28 hg29 ⊢
 refine sX fun K12 hK12=>?_
 have q:=aI qe hr5
 iterate 6 refine oXq ?_
 refine oE (aw1 h00) ?_ (by intro K hK;simp only [z,seval,bj3,opRL,dqq,ewg,dj0,hg29];(repeat first | refine gcI ?_ | intro (_:_≤_));exact hK)
 refine hK12 _ ?_
 refine jS (fun (x:(List (List TRec)))=>cwu x) (fun x=>bwk n x=some r) ?_ ?_
 ·refine rA ?_
  refine jr ?_
  obtain ⟨y15,hy15,Ho15⟩:=bind_some H
  refine jL _ (fun x=>aka v x.1 x.2.1 x.2.2.1 x.2.2.2) hy15 ?_ ?_
  ·show Weak _ _ _ (aka v [] [(⟨3,r5,(b ++ r4),false⟩:TRec)] M 0)
   exact wb [some 768,some 848] (hL:=by (simp only [wk,z,seval];omega)) (hH:=by (simp only [wk,z,seval];exact gzx M [⟨3,r5,b ++ r4,false⟩]))
  rintro ⟨A,x,m,v58⟩ z15 H
  try dsimp only at H
  unfold cz1 at H
  refine Sm.st (aka.eq_1 ..) ?_
  refine rA ?_
  refine jj fun K17 hK17=>?_
  refine cnd H (fun h18 H=>?_) (fun h18 H=>?_)
  ·refine jo ?_
   refine hK17 _ ?_
   refine jj fun K19 hK19=>?_
   refine jr ?_
   obtain ⟨hg27,H⟩:=aj3 H
   refine rA ?_
   refine rA ?_
   obtain ⟨r6,hr6,H⟩:=bind_some H
   obtain ⟨⟨hg22,hg23⟩,H⟩:=aj3 H
   have q0:=aI @aqc.eq_1 (aI @bzj.eq_1 (aI @bz6.eq_1 (aI @dwx.eq_1 hr6)))
   refine azn H (fun h30 H=>?_) (fun h30 H=>?_)
   ·have hn:jc .i64 (1+(jc .i64 (Int.tdiv v58 14)))=(A.length:Int):=by simpa using h30
    have hA:(0:Int)≤(A.length:Int)∧(A.length:Int) < ((A.length+1+m:Nat):Int):=by omega
    have hA2:A.length < A.length+1+m:=by omega
    have hA3:A.length < (rowZ A x m).length:=by rw [fjb];omega
    have q:=aI hn (aI hA (aI hA2 (aI hA3 (aI (Int.toNat_natCast A.length) q0))))
    refine eQ [0,1,2,3,4,5,6,7,8,9,10,11,12,13,14] [(none,[],[]),(none,[],[]),(none,[],[]),(none,[],[]),(none,[1000001,9004],[]),(none,[1000001,9004],[]),(none,[],[]),(none,[],[]),(none,[],[]),(none,[160],[]),(none,[],[1231,1230,1229,1228,1227,1226,1225,1224,1223,1222,1221,1220,1219,1218,1217,1216]),(none,[1216,1217],[1232,1216,1217]),(none,[1232,9005],[1248,9005]),(none,[1000001,9004],[]),(none,[1000001,1248,9004],[1248,9004])] ?_
    iterate 4 refine oQ ?_
    iterate 2 refine oQVq ?_
    iterate 7 refine oQq ?_
    iterate 2 refine oQVq ?_
    refine bjh ?_
    refine hK19 _ ?_
    refine eA ?_
    refine lf ?_
    refine nx H ?_
    show Weak _ _ _ (aka v A (x ++ [r6]) m (jc .i64 (v58+1)))
    exact wb [some 9004,some 1248] (hH:=by (simp only [wk,z,seval];exact gqf A x (x ++ [r6]) m))
   ·obtain ⟨⟨hn,hm⟩,H⟩:=aj3 H
    obtain ⟨m',rfl⟩:∃ m',m=m'+1:=⟨m - 1,by omega⟩
    refine Sm.weak ((wbf (L:=[(8,.own 9014 [.slice 87] 0 (A.length+1+(m'+1))),(9,.c (.int .i64) (.int v58)),(10,.box 9015 0),(11,.c (.int .i64) (.int ((A.length+1:Nat):Int))),(56,.c (.slice 41) (.slice (List.map aj4 v.Sets))),(57,.c (.int .i64) (.int (v.Sets.length:Int))),(58,.c (.int .i64) (.int v58))]) (bs:=[(9014,.row 84 (rowZ A x (m'+1))),(9015,.box [.c .str (.str (gt v.Sets (Int.toNat v58)).Name),.c (.int .i64) (.int (gt v.Sets (Int.toNat v58)).Dcb.Org),.c (.int .i64) (.int (gt v.Sets (Int.toNat v58)).Dcb.Format),.c .bool (.bool (gt v.Sets (Int.toNat v58)).Dcb.Blocked),.c .bool (.bool (gt v.Sets (Int.toNat v58)).Dcb.Asa),.c (.int .i64) (.int (gt v.Sets (Int.toNat v58)).Dcb.Lrecl),.c (.int .i64) (.int (gt v.Sets (Int.toNat v58)).Dcb.Blksize),.c (.int .i64) (.int (gt v.Sets (Int.toNat v58)).Dcb.KeyLen),.c (.int .i64) (.int (gt v.Sets (Int.toNat v58)).Dcb.KeyPos),.c (.slice 80) (.slice (List.map aj2 (gt v.Sets (Int.toNat v58)).Extents)),.c (.int .i64) (.int (gt v.Sets (Int.toNat v58)).Used)])]) [9005] [some 9004,some 160] (hL:=by (simp only [wk,z,seval,hn])) (hH:=by (simp only [wk,z,seval,bzg,zipH,subB,sub,kdAt,freezeAll,freeze1,eyo]))).trans (fqe (id:=9014) (i:=A.length+1) rfl (eke A x m') (by rw [ty84];rfl))) ?_
    have hA:(0:Int)≤((A.length+1:Nat):Int)∧((A.length+1:Nat):Int) < ((A.length+1+(m'+1):Nat):Int):=by omega
    have hA2:A.length+1 < A.length+1+(m'+1):=by omega
    have hA3:A.length+1 < (rowZ A x (m'+1)).length:=by rw [fjb];omega
    have q:=aI hA (aI hA2 (aI hA3 (aI (Int.toNat_natCast (A.length+1)) q0)))
    refine eQ [0,1,2,3,4,5,6,7,8,9,10,11,12,13,14] [(none,[],[]),(none,[],[]),(none,[],[]),(none,[],[]),(none,[1000001,9014],[]),(none,[1000001,9014],[]),(none,[],[]),(none,[],[]),(none,[],[]),(none,[9015],[]),(none,[],[1231,1230,1229,1228,1227,1226,1225,1224,1223,1222,1221,1220,1219,1218,1217,1216]),(none,[1216,1217],[1232,1216,1217]),(none,[1232],[1248]),(none,[1000001,9014],[]),(none,[1000001,1248,9014],[1248,9014])] ?_
    iterate 4 refine oQ ?_
    iterate 2 refine oQVq ?_
    iterate 7 refine oQq ?_
    iterate 2 refine oQVq ?_
    refine bjh ?_
    refine hK19 _ ?_
    refine eA ?_
    refine lf ?_
    refine nx H ?_
    show Weak _ _ _ (aka v (A ++ [x]) [r6] m' (jc .i64 (v58+1)))
    exact wb [some 9014,some 1248] (hL:=by (simp only [wk,z,seval];omega)) (hH:=by (simp only [wk,z,seval];exact gqe A x [r6] m'))
  refine jR ?_
  refine lf ?_
  refine lx H fun hyy=>?_
  subst hyy
  have H:=Ho15
  try dsimp only at H
  refine lf ?_
  refine ⟨_,H,?_⟩
  refine (wbf (L:=[(8,.own 9014 [.slice 87] 0 (A.length+1+m))]) (bs:=[(9014,.row 84 (rowZ A x m))]) [9005] [some 9004] (hH:=by (simp only [wk,z,seval,bzg,zipH,subB,sub,kdAt,freezeAll,freeze1,eyo]))).trans ((gq2 (id:=9014) (es:=rowZ A x m) rfl ty84).trans ?_)
  refine wb [some 9014] (hL:=by (simp only [wk,z,seval])) (hH:=by (simp only [wk,z,seval,gj8]))
 rintro l H
 try dsimp only at H
 unfold bwk at H
 refine Sm.st (cwu.eq_1 ..) ?_
 refine rA ?_
 refine jp ?_
 refine lf ?_
 obtain rfl:=Option.some.inj H
 exact rto [some 9002]
end Go.Proofs.YtijnkhcfondehaaGreatDoor
