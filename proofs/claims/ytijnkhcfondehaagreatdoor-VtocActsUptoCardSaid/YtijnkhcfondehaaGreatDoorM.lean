/- Text. -/
import Derived.Test.YtijnkhcfondehaaGreatDoorAE50
import Derived.Test.YtijnkhcfondehaaGreatDoorF
set_option maxHeartbeats 8000000
set_option linter.unusedVariables false
set_option linter.unusedSimpArgs false
set_option maxRecDepth 100000
open Go.IntKind renaming wrap→jd
open _root_.Nat renaming le_of_ble_eq_true→jk
open _root_.Option renaming getD→jt
open Go.AE.Sm renaming block→jC,seqK→jr,skip→jq,ret→js
open Go.Proofs.Tryz renaming prog→je
namespace Go.Proofs.YtijnkhcfondehaaGreatDoor
open Go.AE
theorem hkm {n:Int} (h1:-9223372036854775808≤n) (h2:n < 9223372036854775808):jd .i64 n=n:=by
 simp only [jd]
 have:IntKind.i64.bits=64:=rfl
 rw [this]
 simp [IntKind.signed]
 omega
theorem fjv {α:Type} [Inhabited α] (l:List α) (i:Nat) (x:α) (h:i < l.length):gt (l.set i x) i=x:=by
 simp [gt,List.getD_eq_getElem?_getD,h]
theorem gkl {α:Type} [Inhabited α] (l:List α) (i j:Nat) (x:α) (h:i≠j):gt (l.set i x) j=gt l j:=by
 simp [gt,List.getD_eq_getElem?_getD,List.getElem?_set_ne h]
abbrev hq7 (v:aj5) (k:Nat) (l:List aj6):S:=stB [(1,.box 9000 0),(2,.box 9001 0),(3,.own 9002 [.str,.int .i64,.int .i64,.bool,.bool,.int .i64,.int .i64,.int .i64,.int .i64,.slice 80,.int .i64] 0 l.length)] [(0,.reg),(9000,.box [.c .str (.str v.Serial),.c (.int .i64) (.int v.Cyls),.c (.int .i64) (.int v.Heads),.c (.int .i64) (.int v.Size),.rg 0 (.slice 41) (.slice (List.map aj3 v.Sets))]),(9001,.box [.c .str (.str []),.c (.int .i64) (.int 0),.c (.int .i64) (.int 0),.c (.int .i64) (.int 0),.nilsl]),(9002,.rl 41 (List.map aj3 l) k 9 (.own 9003 [.int .i64,.int .i64] 0 (gt l k).Extents.length)),(9003,.row 80 (List.map aj1 (gt l k).Extents))]
abbrev ewu (v:aj5) (k:Nat) (v16:Int) (l_1:List aj6) (v17:Int):S:=stB [(1,.box 9006 0),(2,.box 9007 0),(3,.own 9008 [.str,.int .i64,.int .i64,.bool,.bool,.int .i64,.int .i64,.int .i64,.int .i64,.slice 80,.int .i64] 0 l_1.length),(15,.rg 0 (.slice 41) (.slice (List.map aj3 v.Sets))),(16,.c (.int .i64) (.int v16)),(17,.c (.int .i64) (.int v17))] [(0,.reg),(9006,.box [.c .str (.str v.Serial),.c (.int .i64) (.int v.Cyls),.c (.int .i64) (.int v.Heads),.c (.int .i64) (.int v.Size),.rg 0 (.slice 41) (.slice (List.map aj3 v.Sets))]),(9007,.box [.c .str (.str []),.c (.int .i64) (.int 0),.c (.int .i64) (.int 0),.c (.int .i64) (.int 0),.nilsl]),(9008,.rl 41 (List.map aj3 l_1) k 9 (.own 9009 [.int .i64,.int .i64] 0 (gt l_1 k).Extents.length)),(9009,.row 80 (List.map aj1 (gt l_1 k).Extents))]
def copL (v:aj5) (k:Nat) (v16:Int) (x:List aj6×Int):S:=if x.2≤(k:Int) then awt v v16 x.1 x.2 else ewu v k v16 x.1 x.2
theorem hqr (n:Nat) (v:aj5) (k:Nat) (hk:k < v.Sets.length) (r:aj5) (H:ajo n v=some r):aqg je 57 [.ref (.agg [.c .str (.str v.Serial),.c (.int .i64) (.int v.Cyls),.c (.int .i64) (.int v.Heads),.c (.int .i64) (.int v.Size),.rg 0 (.slice 41) (.slice (List.map aj3 v.Sets))])] [.reg]
  [.agg [.c .str (.str r.Serial),.c (.int .i64) (.int r.Cyls),.c (.int .i64) (.int r.Heads),.c (.int .i64) (.int r.Size),.own 1 [.str,.int .i64,.int .i64,.bool,.bool,.int .i64,.int .i64,.int .i64,.int .i64,.slice 80,.int .i64] 0 r.Sets.length]]
  [.reg,.rl 41 (List.map aj3 r.Sets) k 9 (.own 2 [.int .i64,.int .i64] 0 (gt r.Sets k).Extents.length),.row 80 (List.map aj1 (gt r.Sets k).Extents)]:=by
 have hΓ:=g1 (akp n) (@g0 (aj2 je))
 refine dz0 (Tryz.f57.body.getD .skip) h00 Tryz.func57 rfl Tryz.call57 (jk rfl) (jk rfl) ?_
 unfold ajo at H
 simp only [Tryz.f57,jt]
 refine rA ?_
 refine sX fun K2 hK2=>?_
 obtain ⟨hg3,H⟩:=aj7 H
 iterate 2 refine oX ?_
 refine oE awe ?_
 iterate 2 refine oX ?_
 refine oE awe ?_
 refine oX ?_
 refine oY ?_
 refine oX ?_
 refine hK2 _ ?_
 refine Sm.cut (fun (x:(List aj6))=>hq7 v k x) (fun x=>awf n v x=some r) ?_ ?_
 ·refine sX fun K6 hK6=>?_
  iterate 2 refine oX ?_
  refine oE awe ?_
  refine oX ?_
  refine hK6 _ ?_
  refine jC ?_
  obtain ⟨y7,hy7,Ho7⟩:=bind_some H
  refine Sm.loopB _ (fun x=>copL v k (v.Sets.length:Int) x) hy7 ?_ ?_
  ·show Weak _ _ _ (copL v k (v.Sets.length:Int) (_,0))
   rw [copL,if_pos (by show (0:Int)≤(k:Int);omega)]
   exact wb [some 0,some 16,some 32,some 208]
  rintro ⟨l_1,v17⟩ z7 H
  try dsimp only at H
  unfold aqh at H
  have hlen:(v.Sets.length:Int)≤2147483648:=by omega
  by_cases hik:v17≤(k:Int)
  ·refine Sm.st (if_pos hik) ?_
   refine Sm.st (awt.eq_1 ..) ?_
   refine rA ?_
   refine jr fun K9 hK9=>?_
   refine cnd H (fun h10 H=>?_) (fun h10 H=>?_)
   ·refine jq ?_
    refine hK9 _ ?_
    refine jr fun K11 hK11=>?_
    refine jC ?_
    refine sX fun K12 hK12=>?_
    obtain ⟨hg16,H⟩:=aj7 H
    refine oX ?_
    refine oE awe ?_
    refine oE awe ?_
    iterate 3 refine oX ?_
    refine hK12 _ ?_
    obtain ⟨r1,hr1,H⟩:=bind_some H
    have q:=aI @aw9.eq_1 hr1
    refine rAq ?_
    obtain ⟨⟨hg14,hg15⟩,H⟩:=aj7 H
    have hw:jd .i64 (v17+1)=v17+1:=hkm (by omega) (by omega)
    by_cases he:v17.toNat=k
    ·refine eX ?_
     iterate 4 refine oX ?_
     have q:=hg15
     refine oE (az5 h00) ?_ (by intro K hK;simp only [z,seval,bk1,opRL,eqd,fqv,hg15];(repeat first | refine gcI ?_ | intro (_:_≤_));exact hK)
     refine gyx ?_
     refine hK11 _ ?_
     refine eA ?_
     refine lf ?_
     refine nx H ?_
     show Weak _ _ _ (copL v k (v.Sets.length:Int) (_,jd .i64 (v17+1)))
     rw [copL,if_neg (by show ¬ (jd .i64 (v17+1)≤(k:Int));rw [hw];omega)]
     subst he
     show Weak _ _ _ (ewu v v17.toNat (v.Sets.length:Int) _ _)
     rw [ewu,fjv _ _ _ hg15]
     exact wb [some 0,some 9006,some 9007,some 9008,some 384]
    ·refine eA ?_
     refine hK11 _ ?_
     refine eA ?_
     refine lf ?_
     refine nx H ?_
     show Weak _ _ _ (copL v k (v.Sets.length:Int) (_,jd .i64 (v17+1)))
     rw [copL,if_pos (by show jd .i64 (v17+1)≤(k:Int);rw [hw];omega)]
     exact wb [some 0,some 9006,some 9007,some 9008]
   exfalso
   have:¬ (v17 < (v.Sets.length:Int)):=by simpa using h10
   omega
  ·refine Sm.st (if_neg hik) ?_
   refine Sm.st (ewu.eq_1 ..) ?_
   refine rA ?_
   refine jr fun K9 hK9=>?_
   refine cnd H (fun h10 H=>?_) (fun h10 H=>?_)
   ·refine jq ?_
    refine hK9 _ ?_
    refine jr fun K11 hK11=>?_
    refine jC ?_
    refine sX fun K12 hK12=>?_
    obtain ⟨hg16,H⟩:=aj7 H
    refine oX ?_
    refine oE awe ?_
    refine oE awe ?_
    iterate 3 refine oX ?_
    refine hK12 _ ?_
    obtain ⟨r1,hr1,H⟩:=bind_some H
    have q:=aI @aw9.eq_1 hr1
    refine rAq ?_
    obtain ⟨⟨hg14,hg15⟩,H⟩:=aj7 H
    have hw:jd .i64 (v17+1)=v17+1:=hkm (by omega) (by omega)
    have he:¬ v17.toNat=k:=by omega
    have hs:0≤v17∧v17 < (l_1.length:Int):=hg14
    refine eX ?_
    iterate 3 refine oX ?_
    refine oE bz3 ?_
    have q:=aI hg15 he
    refine oE (az5 h00) ?_ (by intro K hK;simp only [z,seval,bk1,opRL,eqd,fqv,q];(repeat first | refine gcI ?_ | intro (_:_≤_));exact hK)
    refine gyx ?_
    refine hK11 _ ?_
    refine eA ?_
    refine lf ?_
    refine nx H ?_
    show Weak _ _ _ (copL v k (v.Sets.length:Int) (_,jd .i64 (v17+1)))
    rw [copL,if_neg (by show ¬ (jd .i64 (v17+1)≤(k:Int));rw [hw];omega)]
    show Weak _ _ _ (ewu v k (v.Sets.length:Int) _ _)
    rw [ewu,gkl _ _ _ _ he]
    exact wb [some 0,some 9006,some 9007,some 9008,some 9009]
   refine Sm.exit ?_
   refine lf ?_
   refine lx H fun hyy=>?_
   subst hyy
   have H:=Ho7
   try dsimp only at H
   refine lf ?_
   exact ⟨_,H,wb [some 0,some 9006,some 9007,some 9008,some 9009]⟩
 rintro l H
 try dsimp only at H
 unfold awf at H
 refine Sm.st (hq7.eq_1 ..) ?_
 refine sX fun K3 hK3=>?_
 iterate 2 refine oX ?_
 refine oE eqa ?_ (by intro K hK;simp only [z,seval,fw3,eqh,czc,oneL,cq6,ck7];(repeat first | refine gcI ?_ | intro (_:_≤_));exact hK)
 refine hK3 _ ?_
 refine sX fun K4 hK4=>?_
 refine oX ?_
 refine oE eqa ?_ (by intro K hK;simp only [z,seval,fw3,eqh,czc,oneL,cq6,ck7];(repeat first | refine gcI ?_ | intro (_:_≤_));exact hK)
 refine hK4 _ ?_
 refine js ?_
 refine lf ?_
 obtain rfl:=Option.some.inj H
 refine RetL.mk (.inr rfl) [some 0,some 9002,some 9003] rfl ?_
 simp only [z,seval,ckq,blkL,eqf,ayy,bqo,cq6]
def az9 (n:Nat) (d:List aj6) (d_i:Nat) (p1:Int) (v:aj5):Option (Int×List aj6) :=
 bif (decide (p1 < 1)) then
  some (1,d)
 else
  bif ((jd .i64 (8 - ((gt d d_i).Extents.length:Int))) == 0) then
   some (200,d)
  else
   (by2 n v).bind fun r1 =>
   (awo n r1 p1 (jd .i64 (8 - ((gt d d_i).Extents.length:Int)))).bind fun r2 =>
   gd ((gt d d_i).Extents.length+r2.1.length≤2147483648) <|
   some (r2.2.2,d.set d_i ⟨(gt d d_i).Name,(gt d d_i).Dcb,(gt d d_i).Extents ++ r2.1,(gt d d_i).Used⟩)
theorem fzb (n:Nat) (d:List aj6) (k:Nat) (hk:k < d.length) (p1:Int) (v:aj5) (r:Int×List aj6) (H:az9 n d k p1 v=some r) (h0:r.1=0):aqg je 95 [.ref (.elt 0 11 [.str,.int .i64,.int .i64,.bool,.bool,.int .i64,.int .i64,.int .i64,.int .i64,.slice 80,.int .i64] k 0),.ref (.box 3 0),.ref (.box 4 0)]
  [.rl 41 (List.map aj3 d) k 9 (.own 1 [.int .i64,.int .i64] 0 (gt d k).Extents.length),.row 80 (List.map aj1 (gt d k).Extents),.reg,.box [.c (.int .i64) (.int p1)],.box [.c .str (.str v.Serial),.c (.int .i64) (.int v.Cyls),.c (.int .i64) (.int v.Heads),.c (.int .i64) (.int v.Size),.rg 2 (.slice 41) (.slice (List.map aj3 v.Sets))]] [.c (.int .i64) (.int 0)]
  [.rl 41 (List.map aj3 r.2) k 9 (.own 5 [.int .i64,.int .i64] 0 (gt r.2 k).Extents.length),.gone,.reg,.box [.c (.int .i64) (.int p1)],.box [.c .str (.str v.Serial),.c (.int .i64) (.int v.Cyls),.c (.int .i64) (.int v.Heads),.c (.int .i64) (.int v.Size),.rg 2 (.slice 41) (.slice (List.map aj3 v.Sets))],.row 80 (List.map aj1 (gt r.2 k).Extents)]:=by
 have hΓ:=g1 (ck6 n) (g1 (cwm n) (@g0 (aj2 je)))
 refine dz0 (Tryz.f95.body.getD .skip) h00 Tryz.func95 rfl Tryz.call95 (jk rfl) (jk rfl) ?_
 unfold az9 at H
 simp only [Tryz.f95,jt]
 refine rA ?_
 refine jr fun K2 hK2=>?_
 refine rA ?_
 refine cnd H (fun h5 H=>?_) (fun h5 H=>?_)
 ·exfalso
  rw [← Option.some.inj H] at h0
  simp at h0
 refine jq ?_
 refine hK2 _ ?_
 refine sX fun K7 hK7=>?_
 refine oX ?_
 refine oE (az5 h00) ?_ (by intro K hK;simp only [z,seval,bk1,opRL,nilL,by7];(repeat first | refine gcI ?_ | intro (_:_≤_));exact hK)
 refine oE (az5 h00) ?_ (by intro K hK;simp only [z,seval,bk1,opRL,nilL,by7];(repeat first | refine gcI ?_ | intro (_:_≤_));exact hK)
 refine oE bz3 ?_ (by intro K hK;simp only [z,seval,hk];(repeat first | refine gcI ?_ | intro (_:_≤_));exact hK)
 iterate 3 refine oX ?_
 refine hK7 _ ?_
 refine jr fun K6 hK6=>?_
 refine rA ?_
 refine cnd H (fun h8 H=>?_) (fun h8 H=>?_)
 ·exfalso
  rw [← Option.some.inj H] at h0
  simp at h0
 refine jq ?_
 refine hK6 _ ?_
 obtain ⟨r1,hr1,H⟩:=bind_some H
 obtain ⟨r2,hr2,H⟩:=bind_some H
 obtain ⟨hg9,H⟩:=aj7 H
 refine sQ [0,1,2,3,4,5,6,7,8,9,10,11] [(none,[4],[]),(none,[2],[351,350,349,348,347,346,345,344,343,342,341,340,339,338,337,336,2]),(none,[3],[]),(none,[],[]),(none,[336],[399,398,397,396,395,394,393,392,391,390,389,388,387,386,385,384,336]),(none,[],[]),(none,[],[]),(none,[],[]),(none,[],[]),(none,[],[]),(none,[],[]),(none,[],[])] fun K8 hK8=>?_
 have q:=aI @cjy.eq_1 (aI @byq.eq_1 (aI hr1 hr2))
 iterate 12 refine oQq ?_
 refine ckg ?_
 refine hK8 _ ?_
 refine sX fun K9 hK9=>?_
 iterate 2 refine oX ?_
 refine oE (az5 h00) ?_ (by intro K hK;simp only [z,seval,bk1,opRL,nilL,by7];(repeat first | refine gcI ?_ | intro (_:_≤_));exact hK)
 refine oE (az5 h00) ?_ (by intro K hK;simp only [z,seval,bk1,opRL,nilL,by7];(repeat first | refine gcI ?_ | intro (_:_≤_));exact hK)
 refine oE bz3 ?_ (by intro K hK;simp only [z,seval,hk];(repeat first | refine gcI ?_ | intro (_:_≤_));exact hK)
 iterate 2 refine oX ?_
 refine oE (az5 h00) ?_ (by intro K hK;simp only [z,seval,bk1,opRL,nilL,by7];(repeat first | refine gcI ?_ | intro (_:_≤_));exact hK)
 refine oE (az5 h00) ?_ (by intro K hK;simp only [z,seval,bk1,opRL,nilL,by7];(repeat first | refine gcI ?_ | intro (_:_≤_));exact hK)
 refine oE bz3 ?_ (by intro K hK;simp only [z,seval,hk];(repeat first | refine gcI ?_ | intro (_:_≤_));exact hK)
 refine hK9 _ ?_
 refine rA ?_
 refine js ?_
 refine lf ?_
 obtain rfl:=Option.some.inj H
 have h0':r2.2.2=0:=h0
 refine RetL.mk (.inr rfl) [some 0,some 1,some 2,some 3,some 4,some 544] rfl ?_
 simp only [fjv _ _ _ hk]
 simp only [z,seval,ckq,blkL,eqf,ayy,bqo,cq6,h0']
theorem fjy (n:Nat) (d:List aj6) (k:Nat) (hk:k < d.length) (p1:Int) (v:aj5) (r:Int×List aj6) (H:az9 n d k p1 v=some r):aqg je 95 [.ref (.elt 0 11 [.str,.int .i64,.int .i64,.bool,.bool,.int .i64,.int .i64,.int .i64,.int .i64,.slice 80,.int .i64] k 0),.ref (.box 3 0),.ref (.box 4 0)]
  [.rl 41 (List.map aj3 d) k 9 (.own 1 [.int .i64,.int .i64] 0 (gt d k).Extents.length),.row 80 (List.map aj1 (gt d k).Extents),.reg,.box [.c (.int .i64) (.int p1)],.box [.c .str (.str v.Serial),.c (.int .i64) (.int v.Cyls),.c (.int .i64) (.int v.Heads),.c (.int .i64) (.int v.Size),.rg 2 (.slice 41) (.slice (List.map aj3 v.Sets))]] [.c (.int .i64) (.int r.1)]
  [.gone,.gone,.reg,.box [.c (.int .i64) (.int p1)],.box [.c .str (.str v.Serial),.c (.int .i64) (.int v.Cyls),.c (.int .i64) (.int v.Heads),.c (.int .i64) (.int v.Size),.rg 2 (.slice 41) (.slice (List.map aj3 v.Sets))]]:=by
 have hΓ:=g1 (ck6 n) (g1 (cwm n) (@g0 (aj2 je)))
 refine dz0 (Tryz.f95.body.getD .skip) h00 Tryz.func95 rfl Tryz.call95 (jk rfl) (jk rfl) ?_
 unfold az9 at H
 simp only [Tryz.f95,jt]
 refine rA ?_
 refine jr fun K2 hK2=>?_
 refine rA ?_
 refine cnd H (fun h5 H=>?_) (fun h5 H=>?_)
 ·refine rA ?_
  refine Sm.weak (cwo 0 (by simp only [z,seval,cq6])) ?_
  refine Sm.weak (cwo 1 (by simp only [z,seval,cq6])) ?_
  refine js ?_
  refine lf ?_
  obtain rfl:=Option.some.inj H
  refine RetL.mk (.inr rfl) [some 0,some 1,some 2,some 3,some 4] rfl ?_
  simp only [z,seval,ckq,blkL,eqf,ayy,bqo,cq6]
 refine jq ?_
 refine hK2 _ ?_
 refine sX fun K7 hK7=>?_
 refine oX ?_
 refine oE (az5 h00) ?_ (by intro K hK;simp only [z,seval,bk1,opRL,nilL,by7];(repeat first | refine gcI ?_ | intro (_:_≤_));exact hK)
 refine oE (az5 h00) ?_ (by intro K hK;simp only [z,seval,bk1,opRL,nilL,by7];(repeat first | refine gcI ?_ | intro (_:_≤_));exact hK)
 refine oE bz3 ?_ (by intro K hK;simp only [z,seval,hk];(repeat first | refine gcI ?_ | intro (_:_≤_));exact hK)
 iterate 3 refine oX ?_
 refine hK7 _ ?_
 refine jr fun K6 hK6=>?_
 refine rA ?_
 refine cnd H (fun h8 H=>?_) (fun h8 H=>?_)
 ·refine rA ?_
  refine Sm.weak (cwo 0 (by simp only [z,seval,cq6])) ?_
  refine Sm.weak (cwo 1 (by simp only [z,seval,cq6])) ?_
  refine js ?_
  refine lf ?_
  obtain rfl:=Option.some.inj H
  refine RetL.mk (.inr rfl) [some 0,some 1,some 2,some 3,some 4] rfl ?_
  simp only [z,seval,ckq,blkL,eqf,ayy,bqo,cq6]
 refine jq ?_
 refine hK6 _ ?_
 obtain ⟨r1,hr1,H⟩:=bind_some H
 obtain ⟨r2,hr2,H⟩:=bind_some H
 obtain ⟨hg9,H⟩:=aj7 H
 refine sQ [0,1,2,3,4,5,6,7,8,9,10,11] [(none,[4],[]),(none,[2],[351,350,349,348,347,346,345,344,343,342,341,340,339,338,337,336,2]),(none,[3],[]),(none,[],[]),(none,[336],[399,398,397,396,395,394,393,392,391,390,389,388,387,386,385,384,336]),(none,[],[]),(none,[],[]),(none,[],[]),(none,[],[]),(none,[],[]),(none,[],[]),(none,[],[])] fun K8 hK8=>?_
 have q:=aI @cjy.eq_1 (aI @byq.eq_1 (aI hr1 hr2))
 iterate 12 refine oQq ?_
 refine ckg ?_
 refine hK8 _ ?_
 refine sX fun K9 hK9=>?_
 iterate 2 refine oX ?_
 refine oE (az5 h00) ?_ (by intro K hK;simp only [z,seval,bk1,opRL,nilL,by7];(repeat first | refine gcI ?_ | intro (_:_≤_));exact hK)
 refine oE (az5 h00) ?_ (by intro K hK;simp only [z,seval,bk1,opRL,nilL,by7];(repeat first | refine gcI ?_ | intro (_:_≤_));exact hK)
 refine oE bz3 ?_ (by intro K hK;simp only [z,seval,hk];(repeat first | refine gcI ?_ | intro (_:_≤_));exact hK)
 iterate 2 refine oX ?_
 refine oE (az5 h00) ?_ (by intro K hK;simp only [z,seval,bk1,opRL,nilL,by7];(repeat first | refine gcI ?_ | intro (_:_≤_));exact hK)
 refine oE (az5 h00) ?_ (by intro K hK;simp only [z,seval,bk1,opRL,nilL,by7];(repeat first | refine gcI ?_ | intro (_:_≤_));exact hK)
 refine oE bz3 ?_ (by intro K hK;simp only [z,seval,hk];(repeat first | refine gcI ?_ | intro (_:_≤_));exact hK)
 refine hK9 _ ?_
 refine rA ?_
 refine Sm.weak (cwo 0 (by simp only [z,seval,cq6])) ?_
 refine js ?_
 refine lf ?_
 obtain rfl:=Option.some.inj H
 refine RetL.mk (.inr rfl) [some 0,some 1,some 2,some 3,some 4] rfl ?_
 simp only [z,seval,ckq,blkL,eqf,ayy,bqo,cq6]
theorem hjd {n:Nat} {d:List aj6} {k:Nat} {p1:Int} {v:aj5} {r:Int×List aj6} (H:az9 n d k p1 v=some r):r.2.length=d.length:=by
 unfold az9 at H
 refine bkv H (fun _ H=>?_) (fun _ H=>?_)
 ·rw [← Option.some.inj H]
 refine bkv H (fun _ H=>?_) (fun _ H=>?_)
 ·rw [← Option.some.inj H]
 obtain ⟨r1,hr1,H⟩:=bind_some H
 obtain ⟨r2,hr2,H⟩:=bind_some H
 obtain ⟨hg9,H⟩:=aj7 H
 rw [← Option.some.inj H];simp
def bke (n:Nat) (v:aj5) (name:List UInt8) (how:Int):Option (aj5×Int) :=
 (az3 n v).bind fun r1 =>
 bif (r1 != 0) then
  some ((⟨[],0,0,0,[]⟩:aj5),r1)
 else
  (ajx n v name).bind fun r2 =>
  bif (!r2.2) then
   some ((⟨[],0,0,0,[]⟩:aj5),3)
  else
   (ajo n v).bind fun r3 =>
   gd ((0≤r2.1∧r2.1 < (r3.Sets.length:Int))∧r3.Sets.length=v.Sets.length) <|
   (az9 n r3.Sets (Int.toNat r2.1) how v).bind fun r4 =>
   bif (r4.1 != 0) then
    some ((⟨[],0,0,0,[]⟩:aj5),r4.1)
   else
    some ((⟨r3.Serial,r3.Cyls,r3.Heads,r3.Size,r4.2⟩:aj5),0)
theorem dku (n:Nat) (v:aj5) (name:List UInt8) (how:Int) (r:aj5×Int) (H:bke n v name how=some r):aqg je 87 [.ref (.agg [.c .str (.str v.Serial),.c (.int .i64) (.int v.Cyls),.c (.int .i64) (.int v.Heads),.c (.int .i64) (.int v.Size),.rg 0 (.slice 41) (.slice (List.map aj3 v.Sets))]),.dat (false,[.str]) [.str name],.ref (.fnv 95 [.box 1 0,.box 2 0])] [.reg,.box [.c (.int .i64) (.int how)],.box [.c .str (.str v.Serial),.c (.int .i64) (.int v.Cyls),.c (.int .i64) (.int v.Heads),.c (.int .i64) (.int v.Size),.rg 0 (.slice 41) (.slice (List.map aj3 v.Sets))]] [.agg [.c .str (.str r.1.Serial),.c (.int .i64) (.int r.1.Cyls),.c (.int .i64) (.int r.1.Heads),.c (.int .i64) (.int r.1.Size),.own 3 [.str,.int .i64,.int .i64,.bool,.bool,.int .i64,.int .i64,.int .i64,.int .i64,.slice 80,.int .i64] 0 r.1.Sets.length],.c (.int .i64) (.int r.2)] [.reg,.box [.c (.int .i64) (.int how)],.box [.c .str (.str v.Serial),.c (.int .i64) (.int v.Cyls),.c (.int .i64) (.int v.Heads),.c (.int .i64) (.int v.Size),.rg 0 (.slice 41) (.slice (List.map aj3 v.Sets))],.row 41 (List.map aj3 r.1.Sets)]:=by
 have hΓ:=g1 (ak5 n) (g1 (aqp n) (@g0 (aj2 je)))
 have qe:=aI @azf.eq_1 @aqd.eq_1
 refine aq4 (Tryz.f87.body.getD .skip) h00 Tryz.func87 rfl Tryz.call87 (jk rfl) (jk rfl) ?_
 unfold bke at H
 simp only [Tryz.f87,jt]
 refine rA ?_
 refine jr fun K2 hK2=>?_
 obtain ⟨r1,hr1,H⟩:=bind_some H
 have q:=aI qe hr1
 refine rAq ?_
 refine rA ?_
 refine cnd H (fun h5 H=>?_) (fun h5 H=>?_)
 ·refine rA ?_
  refine js ?_
  refine lf ?_
  obtain rfl:=Option.some.inj H
  exact rtM [some 0,some 1,some 2,none]
 refine jq ?_
 refine hK2 _ ?_
 obtain ⟨r2,hr2,H⟩:=bind_some H
 have q:=aI qe hr2
 refine rAq ?_
 refine jr fun K8 hK8=>?_
 refine rA ?_
 refine cnd H (fun h10 H=>?_) (fun h10 H=>?_)
 ·refine rA ?_
  refine js ?_
  refine lf ?_
  obtain rfl:=Option.some.inj H
  exact rtM [some 0,some 1,some 2,none]
 refine jq ?_
 refine hK8 _ ?_
 obtain ⟨r3,hr3,H⟩:=bind_some H
 obtain ⟨⟨hg15,hgl⟩,H⟩:=aj7 H
 have hkv:Int.toNat r2.1 < v.Sets.length:=by omega
 have hkd:Int.toNat r2.1 < r3.Sets.length:=by omega
 refine sX fun K12 hK12=>?_
 refine oX ?_
 have q:=hr3
 refine oMq (hqr n v _ hkv r3 hr3) [0] [464,465] ?_
 refine oX ?_
 refine oE eqa ?_ (by intro K hK;simp only [z,seval,fw3,eqh,czc,oneL,cq6,ck7];(repeat first | refine gcI ?_ | intro (_:_≤_));exact hK)
 refine hK12 _ ?_
 refine jr fun K13 hK13=>?_
 refine sX fun K14 hK14=>?_
 obtain ⟨r4,hr4,H⟩:=bind_some H
 have hl4:=hjd hr4
 iterate 4 refine oX ?_
 refine oE bz3 ?_ (by intro K hK;simp only [z,seval,hg15];(repeat first | refine gcI ?_ | intro (_:_≤_));exact hK)
 by_cases h0:r4.1=0
 ·refine oMq (fzb n _ _ hkd how v r4 hr4 h0) [464,465,0,1,2] [560] ?_
  refine oX ?_
  refine hK14 _ ?_
  refine rA ?_
  rw [h0] at H
  refine cnd H (fun h18 H=>?_) (fun h18 H=>?_)
  ·exact absurd h18 (by decide)
  refine jq ?_
  refine hK13 _ ?_
  have hk4:Int.toNat r2.1 < r4.2.length:=by omega
  refine Sm.weak (fwc (id:=464) (id2:=560) (t:=41) (u:=80) (es:=List.map aj3 r4.2) (i:=Int.toNat r2.1) (j:=9) (ks:=[.int .i64,.int .i64]) (len:=(gt r4.2 (Int.toNat r2.1)).Extents.length) (es2:=List.map aj1 (gt r4.2 (Int.toNat r2.1)).Extents) (by simp only [z,seval]) (by simp only [z,seval]) (by rw [azw _ _ _ hk4,List.take_of_length_le (by simp)];rfl) (by simp only [kdAt,ty41];rfl)) ?_
  refine rA ?_
  refine js ?_
  refine lf ?_
  obtain rfl:=Option.some.inj H
  exact rtM [some 0,some 1,some 2,some 464]
 ·refine oMq (fjy n _ _ hkd how v r4 hr4) [464,465,0,1,2] [] ?_
  refine oX ?_
  refine hK14 _ ?_
  refine rA ?_
  refine cnd H (fun h18 H=>?_) (fun h18 H=>?_)
  ·refine rA ?_
   refine js ?_
   refine lf ?_
   obtain rfl:=Option.some.inj H
   exact rtM [some 0,some 1,some 2,none]
  ·exfalso
   simp at h18
   exact h0 h18
def bwo (n:Nat) (v:aj5) (name:List UInt8) (tracks:Int):Option (aj5×Int) :=
 (bke n v name tracks).bind fun r1 =>
 some (r1.1,r1.2)
theorem ewc (n:Nat) (v:aj5) (name:List UInt8) (tracks:Int) (r:aj5×Int) (H:bwo n v name tracks=some r):aqg je 46 [.ref (.agg [.c .str (.str v.Serial),.c (.int .i64) (.int v.Cyls),.c (.int .i64) (.int v.Heads),.c (.int .i64) (.int v.Size),.rg 0 (.slice 41) (.slice (List.map aj3 v.Sets))]),.dat (false,[.str]) [.str name],.dat (false,[.int .i64]) [.int tracks]] [.reg] [.agg [.c .str (.str r.1.Serial),.c (.int .i64) (.int r.1.Cyls),.c (.int .i64) (.int r.1.Heads),.c (.int .i64) (.int r.1.Size),.own 1 [.str,.int .i64,.int .i64,.bool,.bool,.int .i64,.int .i64,.int .i64,.int .i64,.slice 80,.int .i64] 0 r.1.Sets.length],.c (.int .i64) (.int r.2)] [.reg,.row 41 (List.map aj3 r.1.Sets)]:=by
 have hΓ:=@g0 (aj2 je)
 refine aq4 (Tryz.f46.body.getD .skip) h00 Tryz.func46 rfl Tryz.call46 (jk rfl) (jk rfl) ?_
 unfold bwo at H
 simp only [Tryz.f46,jt]
 refine rA ?_
 refine sX fun K2 hK2=>?_
 obtain ⟨r1,hr1,H⟩:=bind_some H
 have q:=hr1
 iterate 2 refine oX ?_
 refine oY ?_
 refine oMq (dku n _ _ _ r1 hr1) [0,80,48] [176] ?_
 iterate 4 refine oXq ?_
 refine hK2 _ ?_
 refine js ?_
 refine lf ?_
 obtain rfl:=Option.some.inj H
 exact rtM [some 0,some 176]
def dkk (n:Nat):Go.AE.Fn:=mkFn (A:=aj5×(List UInt8)×Int) (R:=aj5×Int) 46 [(true,[.str,.int .i64,.int .i64,.int .i64,.slice 41]),(false,[.str]),(false,[.int .i64])] false (fun xs=>((⟨(cg (xs.getD 0 []) 0).toStr,(cg (xs.getD 0 []) 1).toInt,(cg (xs.getD 0 []) 2).toInt,(cg (xs.getD 0 []) 3).toInt,((cg (xs.getD 0 []) 4).toSl.map aq3)⟩:aj5),(cg (xs.getD 1 []) 0).toStr,(cg (xs.getD 2 []) 0).toInt)) (fun a=>[[.str a.1.Serial,.int a.1.Cyls,.int a.1.Heads,.int a.1.Size,.slice (List.map aj3 a.1.Sets)],[.str a.2.1],[.int a.2.2]]) (fun a=>bwo n a.1 a.2.1 a.2.2) (fun r=>[.agg [.c .str (.str r.1.Serial),.c (.int .i64) (.int r.1.Cyls),.c (.int .i64) (.int r.1.Heads),.c (.int .i64) (.int r.1.Size),.own 0 [.str,.int .i64,.int .i64,.bool,.bool,.int .i64,.int .i64,.int .i64,.int .i64,.slice 80,.int .i64] 0 r.1.Sets.length],.c (.int .i64) (.int r.2)]) (fun r=>[.row 41 (List.map aj3 r.1.Sets)])
theorem eyv (n:Nat):aj2 je (dkk n):=bq1 Tryz.call46 fun a r h=>⟨_,_,ewc n a.1 a.2.1 a.2.2 r h,rfl,rfl,rfl,rfl⟩
end Go.Proofs.YtijnkhcfondehaaGreatDoor
