/- Text. -/
import Derived.Test.YtijnkhcfondehaaGreatDoorAE53
import Derived.Test.YtijnkhcfondehaaGreatDoorF
import Derived.Test.YtijnkhcfondehaaGreatDoorKT
set_option maxHeartbeats 8000000
set_option linter.unusedVariables false
set_option linter.unusedSimpArgs false
set_option maxRecDepth 100000
open Go.IntKind renaming wrap→jb,bits→jj
open _root_.List renaming getD_eq_getElem?_getD→ja,length_append→jg,length_cons→jq,length_nil→jS
open _root_.Nat renaming le_of_ble_eq_true→jp
open _root_.Option renaming getD→jz
open Go.AE.Sm renaming cut→Jp,block→jN,loopB→Jl,seqK→js,skip→jy,exit→Js,ret→jC
open Go.Proofs.Tryz renaming prog→jd
namespace Go.Proofs.YtijnkhcfondehaaGreatDoor
open Go.AE
theorem ij7 {n:Int} (h1:-9223372036854775808≤n) (h2:n < 9223372036854775808):jb .i64 n=n:=by
 simp only [jb]
 have:IntKind.i64.bits=64:=rfl
 rw [this];simp [IntKind.signed];omega
theorem ek6 {α:Type} [Inhabited α] (l:List α) (i:Nat) (x:α) (h:i < l.length):gt (l.set i x) i=x:=by
 simp [gt,ja,h]
theorem gzd {α:Type} [Inhabited α] (l:List α) (i j:Nat) (x:α) (h:i≠j):gt (l.set i x) j=gt l j:=by
 simp [gt,ja,List.getElem?_set_ne h]
abbrev hq8 (v:aj6) (k:Nat) (l:List aj5):S:=stB [(1,.box 9000 0),(2,.box 9001 0),(3,.own 9002 kD 0 l.length)] [(9000,.box (cV v)),(9001,.box [.c .str (.str []),.c (.int .i64) (.int 0),.c (.int .i64) (.int 0),.c (.int .i64) (.int 0),.nilsl]),(9002,.rl 41 (List.map aj4 l) k 9 (.own 9003 [.int .i64,.int .i64] 0 (gt l k).Extents.length)),(9003,.row 80 (List.map aj2 (gt l k).Extents))]
abbrev ejb (v:aj6) (k:Nat) (v16:Int) (l_1:List aj5) (v17:Int):S:=stB [(1,.box 9006 0),(2,.box 9007 0),(3,.own 9008 kD 0 l_1.length),(15,.c (.slice 41) (.slice (List.map aj4 v.Sets))),(16,.c (.int .i64) (.int v16)),(17,.c (.int .i64) (.int v17))] [(9006,.box (cV v)),(9007,.box [.c .str (.str []),.c (.int .i64) (.int 0),.c (.int .i64) (.int 0),.c (.int .i64) (.int 0),.nilsl]),(9008,.rl 41 (List.map aj4 l_1) k 9 (.own 9009 [.int .i64,.int .i64] 0 (gt l_1 k).Extents.length)),(9009,.row 80 (List.map aj2 (gt l_1 k).Extents))]
def copL (v:aj6) (k:Nat) (v16:Int) (x:List aj5×Int):S:=if x.2≤(k:Int) then azw v v16 x.1 x.2 else ejb v k v16 x.1 x.2
theorem hqx (n:Nat) (v:aj6) (k:Nat) (hk:k < v.Sets.length) (r:aj6) (H:ajn n v=some r):aw8 jd 57 [.dat (true,[.str,.int .i64,.int .i64,.int .i64,.slice 41]) [.str v.Serial,.int v.Cyls,.int v.Heads,.int v.Size,.slice (List.map aj4 v.Sets)]] []
  [.agg [.c .str (.str r.Serial),.c (.int .i64) (.int r.Cyls),.c (.int .i64) (.int r.Heads),.c (.int .i64) (.int r.Size),.own 0 kD 0 r.Sets.length]]
  [.rl 41 (List.map aj4 r.Sets) k 9 (.own 1 [.int .i64,.int .i64] 0 (gt r.Sets k).Extents.length),.row 80 (List.map aj2 (gt r.Sets k).Extents)]:=by
 have hΓ:=g1 (aku n) (@g0 (aj1 jd));refine djo (Tryz.f57.body.getD .skip) h00 Tryz.func57 rfl Tryz.call57 (jp rfl) (jp rfl) ?_;unfold ajn at H;simp only [Tryz.f57,jz];refine rA ?_;refine sX fun K2 hK2=>?_;obtain ⟨hg3,H⟩:=aj8 H
 iterate 7 refine oX ?_
 refine oY ?_;refine oX ?_;refine hK2 _ ?_;refine Jp (fun (x:(List aj5))=>hq8 v k x) (fun x=>aws n v x=some r) ?_ ?_
 ·refine rA ?_;refine jN ?_;obtain ⟨y7,hy7,Ho7⟩:=bind_some H;refine Jl _ (fun x=>copL v k (v.Sets.length:Int) x) hy7 ?_ ?_
  ·show Weak _ _ _ (copL v k (v.Sets.length:Int) (_,0));rw [copL,if_pos (by show (0:Int)≤(k:Int);omega)];exact wb [some 16,some 32,some 208]
  rintro ⟨l_1,v17⟩ z7 H
  try dsimp only at H
  unfold aqi at H;have hlen:(v.Sets.length:Int)≤2147483648:=by omega
  by_cases hik:v17≤(k:Int)
  ·refine Sm.st (if_pos hik) ?_;refine Sm.st (azw.eq_1 ..) ?_;refine rA ?_;refine js fun K9 hK9=>?_;refine cnd H (fun h10 H=>?_) (fun h10 H=>?_)
   ·refine jy (hK9 _ (js fun K11 hK11=>jN ?_));obtain ⟨hg16,H⟩:=aj8 H;refine rA ?_;obtain ⟨r1,hr1,H⟩:=bind_some H;have q:=aI @awl.eq_1 hr1;refine rAq ?_;obtain ⟨⟨hg14,hg15⟩,H⟩:=aj8 H;have hw:jb .i64 (v17+1)=v17+1:=ij7 (by omega) (by omega);by_cases he:v17.toNat=k
    ·refine eX ?_
     iterate 4 refine oX ?_
     have q:=hg15;refine oE (az4 h00) ?_ (by intro K hK;simp only [z,seval,bwp,opRL,dq4,ewt,hg15];(repeat first | refine gcI ?_ | intro (_:_≤_));exact hK);refine dym ?_;refine hK11 _ ?_;refine eA ?_;refine lf ?_;refine nx H ?_;show Weak _ _ _ (copL v k (v.Sets.length:Int) (_,jb .i64 (v17+1)));rw [copL,if_neg (by show ¬ (jb .i64 (v17+1)≤(k:Int));rw [hw];omega)];subst he;show Weak _ _ _ (ejb v v17.toNat (v.Sets.length:Int) _ _);rw [ejb,ek6 _ _ _ hg15];exact wb [some 9006,some 9007,some 9008,some 384]
    ·refine eA ?_;refine hK11 _ ?_;refine eA ?_;refine lf ?_;refine nx H ?_;show Weak _ _ _ (copL v k (v.Sets.length:Int) (_,jb .i64 (v17+1)));rw [copL,if_pos (by show jb .i64 (v17+1)≤(k:Int);rw [hw];omega)];exact wb [some 9006,some 9007,some 9008]
   exfalso
   have:¬ (v17 < (v.Sets.length:Int)):=by simpa using h10
   omega
  ·refine Sm.st (if_neg hik) ?_;refine Sm.st (ejb.eq_1 ..) ?_;refine rA ?_;refine js fun K9 hK9=>?_;refine cnd H (fun h10 H=>?_) (fun h10 H=>?_)
   ·refine jy (hK9 _ (js fun K11 hK11=>jN ?_));obtain ⟨hg16,H⟩:=aj8 H;refine rA ?_;obtain ⟨r1,hr1,H⟩:=bind_some H;have q:=aI @awl.eq_1 hr1;refine rAq ?_;obtain ⟨⟨hg14,hg15⟩,H⟩:=aj8 H;have hw:jb .i64 (v17+1)=v17+1:=ij7 (by omega) (by omega);have he:¬ v17.toNat=k:=by omega
    have hs:0≤v17∧v17 < (l_1.length:Int):=hg14;refine eX ?_
    iterate 3 refine oX ?_
    refine oE awv ?_;have q:=aI hg15 he;refine oE (az4 h00) ?_ (by intro K hK;simp only [z,seval,bwp,opRL,dq4,ewt,q];(repeat first | refine gcI ?_ | intro (_:_≤_));exact hK);refine dym ?_;refine hK11 _ ?_;refine eA ?_;refine lf ?_;refine nx H ?_;show Weak _ _ _ (copL v k (v.Sets.length:Int) (_,jb .i64 (v17+1)));rw [copL,if_neg (by show ¬ (jb .i64 (v17+1)≤(k:Int));rw [hw];omega)];show Weak _ _ _ (ejb v k (v.Sets.length:Int) _ _);rw [ejb,gzd _ _ _ _ he];exact wb [some 9006,some 9007,some 9008,some 9009]
   refine Js (lf ?_);refine lx H fun hyy=>?_;subst hyy;have H:=Ho7
   try dsimp only at H
   refine lf ?_;exact ⟨_,H,wb [some 9006,some 9007,some 9008,some 9009]⟩
 rintro l H
 try dsimp only at H
 unfold aws at H;refine Sm.st (hq8.eq_1 ..) ?_;refine sX fun K3 hK3=>?_
 iterate 2 refine oX ?_
 refine oE dy0 ?_ (by intro K hK;simp only [z,seval,eyi,dy4,cqt,oneL,cj4,cwl];(repeat first | refine gcI ?_ | intro (_:_≤_));exact hK);refine hK3 _ ?_;refine sX fun K4 hK4=>?_;refine oX ?_;refine oE dy0 ?_ (by intro K hK;simp only [z,seval,eyi,dy4,cqt,oneL,cj4,cwl];(repeat first | refine gcI ?_ | intro (_:_≤_));exact hK);refine hK4 _ (jC (lf ?_));obtain rfl:=sI H;refine RetL.mk (.inr rfl) [some 9002,some 9003] rfl ?_;simp only [z,seval,cz7,blkL,dy3,ayn,bq2,cj4]
def azj (n:Nat) (d:List aj5) (d_i:Nat) (p1:Int) (v:aj6):Option (Int×List aj5) :=
 bif (decide (p1 < 1)) then
  some (1,d)
 else
  bif ((jb .i64 (8 - ((gt d d_i).Extents.length:Int))) == 0) then
   some (200,d)
  else
   (bwn n v).bind fun r1 =>
   (az3 n r1 p1 (jb .i64 (8 - ((gt d d_i).Extents.length:Int)))).bind fun r2 =>
   gd ((gt d d_i).Extents.length+r2.1.length≤2147483648) <|
   some (r2.2.2,d.set d_i ⟨(gt d d_i).Name,(gt d d_i).Dcb,(gt d d_i).Extents ++ r2.1,(gt d d_i).Used⟩)
theorem fjx (n:Nat) (d:List aj5) (k:Nat) (hk:k < d.length) (p1:Int) (v:aj6) (r:Int×List aj5) (H:azj n d k p1 v=some r) (h0:r.1=0):aw8 jd 95 [.ref (.elt 0 11 kD k 0),.ref (.box 2 0),.ref (.box 3 0)]
  [.rl 41 (List.map aj4 d) k 9 (.own 1 [.int .i64,.int .i64] 0 (gt d k).Extents.length),.row 80 (List.map aj2 (gt d k).Extents),.box [.c (.int .i64) (.int p1)],.box (cV v)] [.c (.int .i64) (.int 0)]
  [.rl 41 (List.map aj4 r.2) k 9 (.own 4 [.int .i64,.int .i64] 0 (gt r.2 k).Extents.length),.gone,.box [.c (.int .i64) (.int p1)],.box (cV v),.row 80 (List.map aj2 (gt r.2 k).Extents)]:=by
 have hΓ:=g1 (cwk n) (g1 (cqb n) (@g0 (aj1 jd)));refine djo (Tryz.f95.body.getD .skip) h00 Tryz.func95 rfl Tryz.call95 (jp rfl) (jp rfl) ?_;unfold azj at H;simp only [Tryz.f95,jz];refine rA ?_;refine js fun K2 hK2=>?_;refine rA ?_;refine cnd H (fun h5 H=>?_) (fun h5 H=>?_)
 ·exfalso;rw [← sI H] at h0;simp at h0
 refine jy (hK2 _ ?_);refine sX fun K7 hK7=>?_;refine oX ?_;refine oE (az4 h00) ?_ (by intro K hK;simp only [z,seval,bwp,opRL,nilL,bk1];(repeat first | refine gcI ?_ | intro (_:_≤_));exact hK);refine oE (az4 h00) ?_ (by intro K hK;simp only [z,seval,bwp,opRL,nilL,bk1];(repeat first | refine gcI ?_ | intro (_:_≤_));exact hK);refine oE awv ?_ (by intro K hK;simp only [z,seval,hk];(repeat first | refine gcI ?_ | intro (_:_≤_));exact hK)
 iterate 3 refine oX ?_
 refine hK7 _ (js fun K6 hK6=>?_);refine rA ?_;refine cnd H (fun h8 H=>?_) (fun h8 H=>?_)
 ·exfalso;rw [← sI H] at h0;simp at h0
 refine jy (hK6 _ ?_);obtain ⟨r1,hr1,H⟩:=bind_some H;obtain ⟨r2,hr2,H⟩:=bind_some H;obtain ⟨hg9,H⟩:=aj8 H;refine sQ [0,1,2,3,4,5,6,7,8,9,10,11] [(none,[3],[]),(none,[],[351,350,349,348,347,346,345,344,343,342,341,340,339,338,337,336]),(none,[2],[]),(none,[],[]),(none,[336],[399,398,397,396,395,394,393,392,391,390,389,388,387,386,385,384,336]),(none,[],[]),(none,[],[]),(none,[],[]),(none,[],[]),(none,[],[]),(none,[],[]),(none,[],[])] fun K8 hK8=>?_;have q:=aI @byy.eq_1 (aI @bkk.eq_1 (aI hr1 hr2))
 iterate 12 refine oQq ?_
 refine cz0 ?_;refine hK8 _ ?_;refine sX fun K9 hK9=>?_
 iterate 2 refine oX ?_
 refine oE (az4 h00) ?_ (by intro K hK;simp only [z,seval,bwp,opRL,nilL,bk1];(repeat first | refine gcI ?_ | intro (_:_≤_));exact hK);refine oE (az4 h00) ?_ (by intro K hK;simp only [z,seval,bwp,opRL,nilL,bk1];(repeat first | refine gcI ?_ | intro (_:_≤_));exact hK);refine oE awv ?_ (by intro K hK;simp only [z,seval,hk];(repeat first | refine gcI ?_ | intro (_:_≤_));exact hK)
 iterate 2 refine oX ?_
 refine oE (az4 h00) ?_ (by intro K hK;simp only [z,seval,bwp,opRL,nilL,bk1];(repeat first | refine gcI ?_ | intro (_:_≤_));exact hK);refine oE (az4 h00) ?_ (by intro K hK;simp only [z,seval,bwp,opRL,nilL,bk1];(repeat first | refine gcI ?_ | intro (_:_≤_));exact hK);refine oE awv ?_ (by intro K hK;simp only [z,seval,hk];(repeat first | refine gcI ?_ | intro (_:_≤_));exact hK);refine hK9 _ ?_;refine rA ?_;refine jC (lf ?_);obtain rfl:=sI H;have h0':r2.2.2=0:=h0;refine RetL.mk (.inr rfl) [some 0,some 1,some 2,some 3,some 544] rfl ?_;simp only [ek6 _ _ _ hk];simp only [z,seval,cz7,blkL,dy3,ayn,bq2,cj4,h0']
theorem ekd (n:Nat) (d:List aj5) (k:Nat) (hk:k < d.length) (p1:Int) (v:aj6) (r:Int×List aj5) (H:azj n d k p1 v=some r):aw8 jd 95 [.ref (.elt 0 11 kD k 0),.ref (.box 2 0),.ref (.box 3 0)]
  [.rl 41 (List.map aj4 d) k 9 (.own 1 [.int .i64,.int .i64] 0 (gt d k).Extents.length),.row 80 (List.map aj2 (gt d k).Extents),.box [.c (.int .i64) (.int p1)],.box (cV v)] [.c (.int .i64) (.int r.1)]
  [.gone,.gone,.box [.c (.int .i64) (.int p1)],.box (cV v)]:=by
 have hΓ:=g1 (cwk n) (g1 (cqb n) (@g0 (aj1 jd)));refine djo (Tryz.f95.body.getD .skip) h00 Tryz.func95 rfl Tryz.call95 (jp rfl) (jp rfl) ?_;unfold azj at H;simp only [Tryz.f95,jz];refine rA ?_;refine js fun K2 hK2=>?_;refine rA ?_;refine cnd H (fun h5 H=>?_) (fun h5 H=>?_)
 ·refine rA ?_;refine Sm.weak (cqc 0 (by simp only [z,seval,cj4])) ?_;refine Sm.weak (cqc 1 (by simp only [z,seval,cj4])) ?_;refine jC (lf ?_);obtain rfl:=sI H;refine RetL.mk (.inr rfl) [some 0,some 1,some 2,some 3] rfl ?_;simp only [z,seval,cz7,blkL,dy3,ayn,bq2,cj4]
 refine jy (hK2 _ ?_);refine sX fun K7 hK7=>?_;refine oX ?_;refine oE (az4 h00) ?_ (by intro K hK;simp only [z,seval,bwp,opRL,nilL,bk1];(repeat first | refine gcI ?_ | intro (_:_≤_));exact hK);refine oE (az4 h00) ?_ (by intro K hK;simp only [z,seval,bwp,opRL,nilL,bk1];(repeat first | refine gcI ?_ | intro (_:_≤_));exact hK);refine oE awv ?_ (by intro K hK;simp only [z,seval,hk];(repeat first | refine gcI ?_ | intro (_:_≤_));exact hK)
 iterate 3 refine oX ?_
 refine hK7 _ (js fun K6 hK6=>?_);refine rA ?_;refine cnd H (fun h8 H=>?_) (fun h8 H=>?_)
 ·refine rA ?_;refine Sm.weak (cqc 0 (by simp only [z,seval,cj4])) ?_;refine Sm.weak (cqc 1 (by simp only [z,seval,cj4])) ?_;refine jC (lf ?_);obtain rfl:=sI H;refine RetL.mk (.inr rfl) [some 0,some 1,some 2,some 3] rfl ?_;simp only [z,seval,cz7,blkL,dy3,ayn,bq2,cj4]
 refine jy (hK6 _ ?_);obtain ⟨r1,hr1,H⟩:=bind_some H;obtain ⟨r2,hr2,H⟩:=bind_some H;obtain ⟨hg9,H⟩:=aj8 H;refine sQ [0,1,2,3,4,5,6,7,8,9,10,11] [(none,[3],[]),(none,[],[351,350,349,348,347,346,345,344,343,342,341,340,339,338,337,336]),(none,[2],[]),(none,[],[]),(none,[336],[399,398,397,396,395,394,393,392,391,390,389,388,387,386,385,384,336]),(none,[],[]),(none,[],[]),(none,[],[]),(none,[],[]),(none,[],[]),(none,[],[]),(none,[],[])] fun K8 hK8=>?_;have q:=aI @byy.eq_1 (aI @bkk.eq_1 (aI hr1 hr2))
 iterate 12 refine oQq ?_
 refine cz0 ?_;refine hK8 _ ?_;refine sX fun K9 hK9=>?_
 iterate 2 refine oX ?_
 refine oE (az4 h00) ?_ (by intro K hK;simp only [z,seval,bwp,opRL,nilL,bk1];(repeat first | refine gcI ?_ | intro (_:_≤_));exact hK);refine oE (az4 h00) ?_ (by intro K hK;simp only [z,seval,bwp,opRL,nilL,bk1];(repeat first | refine gcI ?_ | intro (_:_≤_));exact hK);refine oE awv ?_ (by intro K hK;simp only [z,seval,hk];(repeat first | refine gcI ?_ | intro (_:_≤_));exact hK)
 iterate 2 refine oX ?_
 refine oE (az4 h00) ?_ (by intro K hK;simp only [z,seval,bwp,opRL,nilL,bk1];(repeat first | refine gcI ?_ | intro (_:_≤_));exact hK);refine oE (az4 h00) ?_ (by intro K hK;simp only [z,seval,bwp,opRL,nilL,bk1];(repeat first | refine gcI ?_ | intro (_:_≤_));exact hK);refine oE awv ?_ (by intro K hK;simp only [z,seval,hk];(repeat first | refine gcI ?_ | intro (_:_≤_));exact hK);refine hK9 _ ?_;refine rA ?_;refine Sm.weak (cqc 0 (by simp only [z,seval,cj4])) ?_;refine jC (lf ?_);obtain rfl:=sI H;refine RetL.mk (.inr rfl) [some 0,some 1,some 2,some 3] rfl ?_;simp only [z,seval,cz7,blkL,dy3,ayn,bq2,cj4]
theorem gyu {n:Nat} {d:List aj5} {k:Nat} {p1:Int} {v:aj6} {r:Int×List aj5} (H:azj n d k p1 v=some r):r.2.length=d.length:=by
 unfold azj at H;refine bwe H (fun _ H=>?_) (fun _ H=>?_)
 ·rw [← sI H]
 refine bwe H (fun _ H=>?_) (fun _ H=>?_)
 ·rw [← sI H]
 obtain ⟨r1,hr1,H⟩:=bind_some H;obtain ⟨r2,hr2,H⟩:=bind_some H;obtain ⟨hg9,H⟩:=aj8 H;rw [← sI H];simp
def bz7 (n:Nat) (v:aj6) (name:List UInt8) (how:Int):Option (aj6×Int) :=
 (awb n v).bind fun r1 =>
 bif (r1 != 0) then
  some ((⟨[],0,0,0,[]⟩:aj6),r1)
 else
  (ajt n v name).bind fun r2 =>
  bif (!r2.2) then
   some ((⟨[],0,0,0,[]⟩:aj6),3)
  else
   (ajn n v).bind fun r3 =>
   gd ((0≤r2.1∧r2.1 < (r3.Sets.length:Int))∧r3.Sets.length=v.Sets.length) <|
   (azj n r3.Sets (Int.toNat r2.1) how v).bind fun r4 =>
   bif (r4.1 != 0) then
    some ((⟨[],0,0,0,[]⟩:aj6),r4.1)
   else
    some ((⟨r3.Serial,r3.Cyls,r3.Heads,r3.Size,r4.2⟩:aj6),0)
theorem dyq (n:Nat) (v:aj6) (name:List UInt8) (how:Int) (r:aj6×Int) (H:bz7 n v name how=some r):aw8 jd 87 [.dat (true,[.str,.int .i64,.int .i64,.int .i64,.slice 41]) [.str v.Serial,.int v.Cyls,.int v.Heads,.int v.Size,.slice (List.map aj4 v.Sets)],.dat (false,[.str]) [.str name],.ref (.fnv 95 [.box 0 0,.box 1 0])] [.box [.c (.int .i64) (.int how)],.box (cV v)] [.agg [.c .str (.str r.1.Serial),.c (.int .i64) (.int r.1.Cyls),.c (.int .i64) (.int r.1.Heads),.c (.int .i64) (.int r.1.Size),.own 2 kD 0 r.1.Sets.length],.c (.int .i64) (.int r.2)] [.box [.c (.int .i64) (.int how)],.box (cV v),.row 41 (List.map aj4 r.1.Sets)]:=by
 have hΓ:=g1 (akc n) (g1 (awa n) (@g0 (aj1 jd)));have qe:=aI @az6.eq_1 @aqr.eq_1;refine aw9 (Tryz.f87.body.getD .skip) h00 Tryz.func87 rfl Tryz.call87 (jp rfl) (jp rfl) ?_;unfold bz7 at H;simp only [Tryz.f87,jz];refine rA ?_;refine js fun K2 hK2=>?_;obtain ⟨r1,hr1,H⟩:=bind_some H;have q:=aI qe hr1;refine rAq ?_;refine rA ?_;refine cnd H (fun h5 H=>?_) (fun h5 H=>?_)
 ·refine rA ?_;refine jC (lf ?_);obtain rfl:=sI H;exact rtM [some 0,some 1,none]
 refine jy (hK2 _ ?_);obtain ⟨r2,hr2,H⟩:=bind_some H;have q:=aI qe hr2;refine rAq ?_;refine js fun K8 hK8=>?_;refine rA ?_;refine cnd H (fun h10 H=>?_) (fun h10 H=>?_)
 ·refine rA ?_;refine jC (lf ?_);obtain rfl:=sI H;exact rtM [some 0,some 1,none]
 refine jy (hK8 _ ?_);obtain ⟨r3,hr3,H⟩:=bind_some H;obtain ⟨⟨hg15,hgl⟩,H⟩:=aj8 H;have hkv:Int.toNat r2.1 < v.Sets.length:=by omega
 have hkd:Int.toNat r2.1 < r3.Sets.length:=by omega
 refine sX fun K12 hK12=>?_;refine oX ?_;have q:=hr3;refine oMq (hqx n v _ hkv r3 hr3) [] [464,465] ?_;refine oX ?_;refine oE dy0 ?_ (by intro K hK;simp only [z,seval,eyi,dy4,cqt,oneL,cj4,cwl];(repeat first | refine gcI ?_ | intro (_:_≤_));exact hK);refine hK12 _ (js fun K13 hK13=>?_);refine sX fun K14 hK14=>?_;obtain ⟨r4,hr4,H⟩:=bind_some H;have hl4:=gyu hr4
 iterate 4 refine oX ?_
 refine oE awv ?_ (by intro K hK;simp only [z,seval,hg15];(repeat first | refine gcI ?_ | intro (_:_≤_));exact hK);by_cases h0:r4.1=0
 ·refine oMq (fjx n _ _ hkd how v r4 hr4 h0) [464,465,0,1] [560] ?_;refine oX ?_;refine hK14 _ ?_;refine rA ?_;rw [h0] at H;refine cnd H (fun h18 H=>?_) (fun h18 H=>?_)
  ·exact absurd h18 (by decide)
  refine jy (hK13 _ ?_);have hk4:Int.toNat r2.1 < r4.2.length:=by omega
  refine Sm.weak (eyr (id:=464) (id2:=560) (t:=41) (u:=80) (es:=List.map aj4 r4.2) (i:=Int.toNat r2.1) (j:=9) (ks:=[.int .i64,.int .i64]) (len:=(gt r4.2 (Int.toNat r2.1)).Extents.length) (es2:=List.map aj2 (gt r4.2 (Int.toNat r2.1)).Extents) (by simp only [z,seval]) (by simp only [z,seval]) (by rw [aqh _ _ _ hk4,List.take_of_length_le (by simp)];rfl) (by simp only [kdAt,ty41];rfl)) ?_;refine rA ?_;refine jC (lf ?_);obtain rfl:=sI H;exact rtM [some 0,some 1,some 464]
 ·refine oMq (ekd n _ _ hkd how v r4 hr4) [464,465,0,1] [] ?_;refine oX ?_;refine hK14 _ ?_;refine rA ?_;refine cnd H (fun h18 H=>?_) (fun h18 H=>?_)
  ·refine rA ?_;refine jC (lf ?_);obtain rfl:=sI H;exact rtM [some 0,some 1,none]
  ·exfalso;simp at h18;exact h0 h18
def bk5 (n:Nat) (v:aj6) (name:List UInt8) (tracks:Int):Option (aj6×Int) :=
 (bz7 n v name tracks).bind fun r1 =>
 some (r1.1,r1.2)
def dw5 (n:Nat):Go.AE.Fn:=mkFn (A:=aj6×(List UInt8)×Int) (R:=aj6×Int) 46 [(true,[.str,.int .i64,.int .i64,.int .i64,.slice 41]),(false,[.str]),(false,[.int .i64])] true (fun xs=>((⟨(cg (xs.getD 0 []) 0).toStr,(cg (xs.getD 0 []) 1).toInt,(cg (xs.getD 0 []) 2).toInt,(cg (xs.getD 0 []) 3).toInt,((cg (xs.getD 0 []) 4).toSl.map akb)⟩:aj6),(cg (xs.getD 1 []) 0).toStr,(cg (xs.getD 2 []) 0).toInt)) (fun a=>[[.str a.1.Serial,.int a.1.Cyls,.int a.1.Heads,.int a.1.Size,.slice (List.map aj4 a.1.Sets)],[.str a.2.1],[.int a.2.2]]) (fun a=>bk5 n a.1 a.2.1 a.2.2) (fun r=>[.agg [.c .str (.str r.1.Serial),.c (.int .i64) (.int r.1.Cyls),.c (.int .i64) (.int r.1.Heads),.c (.int .i64) (.int r.1.Size),.own 0 kD 0 r.1.Sets.length],.c (.int .i64) (.int r.2)]) (fun r=>[.row 41 (List.map aj4 r.1.Sets)])
theorem eza (n:Nat):aj1 jd (dw5 n):=by
 have hΓ:=@g0 (aj1 jd);refine ajb (Tryz.f46.body.getD .skip) h00 Tryz.func46 rfl Tryz.call46 (by decide) (by intro h;cases h) ?_;rintro ⟨v,name,tracks⟩ r H
 try dsimp only at H
 unfold bk5 at H;simp only [Tryz.f46,jz];refine rA ?_;refine sX fun K2 hK2=>?_;obtain ⟨r1,hr1,H⟩:=bind_some H;have q:=hr1
 iterate 2 refine oX ?_
 refine oY ?_;refine oMq (dyq n _ _ _ r1 hr1) [80,48] [176] ?_
 iterate 4 refine oXq ?_
 refine hK2 _ (jC (lf ?_));obtain rfl:=sI H;exact rto [some 176]
def exF (l:List aj0) (j:Nat):Int×Int:=((gt l j).At,(gt l j).Len)
def okL (l:List aj0):Prop:=l.length≤512∧(∀ j,j < l.length→0≤(exF l j).1∧(exF l j).1≤512∧0≤(exF l j).2∧(exF l j).2≤512)∧(upT (exF l) l.length).length≤512
instance (l:List aj0):Decidable (okL l):=by unfold okL;infer_instance
theorem un9M:jd.underlying 9=some .string:=by kernel_rfl
theorem un3M:jd.underlying 3=some (.int .i64):=by kernel_rfl
theorem byd:tyI jd 154=some ⟨[.ptr 3],false,[],3,8⟩:=by kernel_rfl
theorem dwk:tyI jd 152=some ⟨[.slice 154],false,[],154,24⟩:=by kernel_rfl
theorem dwh:slE jd 152=some (154,⟨[.ptr 3],false,[],3,8⟩):=by kernel_rfl
theorem eww (d:aj5):aw8 jd 122 [.ref (.box 0 0)] [.box (cD d)] [.bsl 1 4] [.box (cD d),.box [.box 0 5,.box 0 6,.box 0 8,.box 0 10]]:=by
 have hΓ:=@g0 (aj1 jd);refine aw9 (Tryz.f122.body.getD .skip) h00 Tryz.func122 rfl Tryz.call122 (jp rfl) (jp rfl) ?_;simp only [Tryz.f122,jz];refine rA ?_;refine sQ [0,1,2,3,4,5,6,7,8,9,10,11,12,13,14,15,16] [(none,[],[]),(none,[1000001,0],[]),(none,[0],[]),(none,[0],[]),(none,[],[]),(none,[1000001,0],[]),(none,[0],[]),(none,[0],[]),(none,[],[]),(none,[1000001,0],[]),(none,[0],[]),(none,[0],[]),(none,[],[]),(none,[1000001,0],[]),(none,[0],[]),(none,[1000001,0],[288]),(none,[],[])] fun K7 hK7=>?_;have q:=aI byd (aI dwk dwh);refine oQ ?_;refine oQV ?_
 iterate 3 refine oQ ?_
 refine oQV ?_
 iterate 3 refine oQ ?_
 refine oQV ?_
 iterate 3 refine oQ ?_
 refine oQV ?_;refine oQ ?_;refine oQVq ?_;refine oQ ?_;refine cz0 ?_;refine hK7 _ (jC (lf ?_));exact rtM [some 0,some 288]
abbrev ck5 (n_:Int) (d:aj5) (b:List Int):S:=stB [(0,.c (.int .i64) (.int n_)),(3,.box 9004 0),(4,.box 9005 0),(6,.own 9006 [.int .u8] 0 b.length)] [(9004,.box (cD d)),(9005,.box [.c (.int .i64) (.int 0),.nilsl,.nilsl,.c .bool (.bool false)]),(9006,.row 5 (List.map aq7 b))]
def bqw (n:Nat) (n_:Int) (d:aj5) (b:List Int):Option TRec :=
 (bq8 n d.Name 44).bind fun r5 =>
 gd ((0≤(jb .i64 (45 - ((b.length:Nat):Int)))∧(b.length+(Int.toNat (jb .i64 (45 - ((b.length:Nat):Int)))))≤2147483648)) <|
 some (⟨n_,r5,(b ++ awi (Int.toNat (jb .i64 (45 - ((b.length:Nat):Int)))) 0),false⟩:TRec)
abbrev czs (n_:Int) (d:aj5) (v57:Int) (b_1:List Int) (v58:Int):S:=stB [(0,.c (.int .i64) (.int n_)),(3,.box 9010 0),(4,.box 9011 0),(6,.own 9012 [.int .u8] 0 b_1.length),(56,.c (.slice 80) (.slice (List.map aj2 d.Extents))),(57,.c (.int .i64) (.int v57)),(58,.c (.int .i64) (.int v58))] [(9010,.box (cD d)),(9011,.box [.c (.int .i64) (.int 0),.nilsl,.nilsl,.c .bool (.bool false)]),(9012,.row 5 (List.map aq7 b_1))]
def akm (n:Nat) (n_:Int) (d:aj5) (v57:Int) (b_1:List Int) (v58:Int):Option (((List Int)×Int) ⊕ (((List Int)))) :=
 bif (decide (v58 < v57)) then
  gd ((0≤v58∧v58 < (d.Extents.length:Int))) <|
  (ayz n ((gt d.Extents (Int.toNat v58)).At)).bind fun r6 =>
  gd ((b_1.length+r6.length)≤2147483648) <|
  (ayz n ((gt d.Extents (Int.toNat v58)).Len)).bind fun r7 =>
  gd (((b_1.length+r6.length)+r7.length)≤2147483648) <|
  some (.inl (((b_1 ++ r6) ++ r7),(jb .i64 (v58+1))))
 else
  some (.inr b_1)
abbrev ck2 (n_:Int) (d:aj5) (flags_1:Int):S:=stB [(0,.c (.int .i64) (.int n_)),(3,.box 9002 0),(4,.box 9003 0),(5,.c (.int .u8) (.int flags_1))] [(9002,.box (cD d)),(9003,.box [.c (.int .i64) (.int 0),.nilsl,.nilsl,.c .bool (.bool false)])]
def ako (n:Nat) (n_:Int) (d:aj5) (flags_1:Int):Option TRec :=
 (ayz n d.Dcb.Lrecl).bind fun r1 =>
 gd ((4+r1.length)≤2147483648) <|
 (ayz n d.Dcb.Blksize).bind fun r2 =>
 gd (((4+r1.length)+r2.length)≤2147483648) <|
 (ayz n d.Dcb.KeyPos).bind fun r3 =>
 gd ((((4+r1.length)+r2.length)+r3.length)≤2147483648) <|
 (ayz n d.Used).bind fun r4 =>
 gd (((((4+r1.length)+r2.length)+r3.length)+r4.length)≤2147483648) <|
 gd ((((((4+r1.length)+r2.length)+r3.length)+r4.length)+1)≤2147483648) <|
 (ajo (fun (x:(List Int)×Int)=>akm n n_ d (d.Extents.length:Int) x.1 x.2) n (((((([(jb .u8 (d.Dcb.Org)),(jb .u8 (d.Dcb.Format)),flags_1,(jb .u8 (d.Dcb.KeyLen))] ++ r1) ++ r2) ++ r3) ++ r4) ++ [(jb .u8 ((d.Extents.length:Int)))]),0)).bind fun y9 =>
 bqw n n_ d y9
abbrev ck8 (n_:Int) (d:aj5) (flags:Int):S:=stB [(0,.c (.int .i64) (.int n_)),(3,.box 9000 0),(4,.box 9001 0),(5,.c (.int .u8) (.int flags))] [(9000,.box (cD d)),(9001,.box [.c (.int .i64) (.int 0),.nilsl,.nilsl,.c .bool (.bool false)])]
def bj1 (n:Nat) (n_:Int) (d:aj5) (flags:Int):Option TRec :=
 bif d.Dcb.Asa then
  ako n n_ d (jb .u8 (((BitVec.ofInt (jj .u8) flags ||| BitVec.ofInt (jj .u8) 64).toNat:Int)))
 else
  ako n n_ d flags
def bzq (n:Nat) (n_:Int) (d:aj5):Option TRec :=
 bif d.Dcb.Blocked then
  bj1 n n_ d (jb .u8 (((BitVec.ofInt (jj .u8) 0 ||| BitVec.ofInt (jj .u8) 128).toNat:Int)))
 else
  bj1 n n_ d 0
def recB (b r1 r2 r3 r4:List Int):Nat→List Int
 | 0=>b
 | 1=>b ++ r1
 | 2=>(b ++ r1) ++ r2
 | 3=>((b ++ r1) ++ r2) ++ r3
 | _=>(((b ++ r1) ++ r2) ++ r3) ++ r4
abbrev bkw (n_:Int) (d:aj5) (b:List Int):S:=stB [(0,.c (.int .i64) (.int n_)),(3,.box 9020 0),(4,.box 9021 0),(6,.own 9022 [.int .u8] 0 b.length)] [(9020,.box (cD d)),(9021,.box [.c (.int .i64) (.int 0),.nilsl,.nilsl,.c .bool (.bool false)]),(9022,.row 5 (List.map aq7 b))]
abbrev ajm (n_:Int) (d:aj5) (b:List Int) (k:Int):S:=stB [(0,.c (.int .i64) (.int n_)),(3,.box 9024 0),(4,.box 9025 0),(6,.own 9026 [.int .u8] 0 b.length),(35,.bsl 9027 4),(36,.c (.int .i64) (.int 4)),(37,.c (.int .i64) (.int k))] [(9024,.box (cD d)),(9025,.box [.c (.int .i64) (.int 0),.nilsl,.nilsl,.c .bool (.bool false)]),(9026,.row 5 (List.map aq7 b)),(9027,.box [.box 9024 5,.box 9024 6,.box 9024 8,.box 9024 10])]
def dw8 (n:Nat):Go.AE.Fn:=mkFn (A:=Int×aj5) (R:=TRec) 63 [(false,[.int .i64]),(true,kD)] false (fun xs=>((cg (xs.getD 0 []) 0).toInt,(⟨(cg (xs.getD 1 []) 0).toStr,(⟨(cg (xs.getD 1 []) 1).toInt,(cg (xs.getD 1 []) 2).toInt,(cg (xs.getD 1 []) 3).toBool,(cg (xs.getD 1 []) 4).toBool,(cg (xs.getD 1 []) 5).toInt,(cg (xs.getD 1 []) 6).toInt,(cg (xs.getD 1 []) 7).toInt,(cg (xs.getD 1 []) 8).toInt⟩:TDcb),((cg (xs.getD 1 []) 9).toSl.map aqm),(cg (xs.getD 1 []) 10).toInt⟩:aj5))) (fun a=>[[.int a.1],[.str a.2.Name,.int a.2.Dcb.Org,.int a.2.Dcb.Format,.bool a.2.Dcb.Blocked,.bool a.2.Dcb.Asa,.int a.2.Dcb.Lrecl,.int a.2.Dcb.Blksize,.int a.2.Dcb.KeyLen,.int a.2.Dcb.KeyPos,.slice (List.map aj2 a.2.Extents),.int a.2.Used]]) (fun a=>bzq n a.1 a.2) (fun r=>[.agg [.c (.int .i64) (.int r.R),.own 0 [.int .u8] 0 r.Key.length,.own 1 [.int .u8] 0 r.Data.length,.c .bool (.bool r.Bad)]]) (fun r=>[.row 5 (List.map aq7 r.Key),.row 5 (List.map aq7 r.Data)])
theorem eye (n:Nat):aj1 jd (dw8 n):=by
 have hΓ:=g1 (ejd n) (g1 (dyw n) (@g0 (aj1 jd)));have qe:=aI @by9.eq_1 @byu.eq_1;refine ajb (Tryz.f63.body.getD .skip) h00 Tryz.func63 rfl Tryz.call63 (by decide) (fun _ r=>⟨rfl,m1 ⟨5,_,_,rfl,ty5,rfl⟩ (m1 ⟨5,_,_,rfl,ty5,rfl⟩ m0)⟩) ?_;rintro ⟨n_,d⟩ r H
 try dsimp only at H
 unfold bzq at H;simp only [Tryz.f63,jz];refine rA ?_;refine rA ?_;refine Jp (fun (x:Int)=>ck8 n_ d x) (fun x=>bj1 n n_ d x=some r) ?_ ?_
 ·refine rA ?_;refine cnd H (fun h26 H=>?_) (fun h26 H=>?_)
  ·refine eA ?_;refine lf ?_;exact ⟨_,H,wb [some 48,some 64]⟩
  refine jy (lf ?_);exact ⟨_,H,wb [some 48,some 64]⟩
 rintro flags H
 try dsimp only at H
 unfold bj1 at H;refine Sm.st (ck8.eq_1 ..) ?_;refine Jp (fun (x:Int)=>ck2 n_ d x) (fun x=>ako n n_ d x=some r) ?_ ?_
 ·refine rA ?_;refine cnd H (fun h24 H=>?_) (fun h24 H=>?_)
  ·refine eA ?_;refine lf ?_;exact ⟨_,H,wb [some 9000,some 9001]⟩
  refine jy (lf ?_);exact ⟨_,H,wb [some 9000,some 9001]⟩
 rintro flags_1 H
 try dsimp only at H
 unfold ako at H;refine Sm.st (ck2.eq_1 ..) ?_;refine rA ?_;obtain ⟨r1,hr1,H⟩:=bind_some H;obtain ⟨hg19,H⟩:=aj8 H;obtain ⟨r2,hr2,H⟩:=bind_some H;obtain ⟨hg20,H⟩:=aj8 H;obtain ⟨r3,hr3,H⟩:=bind_some H;obtain ⟨hg21,H⟩:=aj8 H;obtain ⟨r4,hr4,H⟩:=bind_some H;obtain ⟨hg22,H⟩:=aj8 H;refine Jp (X:=Unit) (fun _=>bkw n_ d (((([(jb .u8 (d.Dcb.Org)),(jb .u8 (d.Dcb.Format)),flags_1,(jb .u8 (d.Dcb.KeyLen))] ++ r1) ++ r2) ++ r3) ++ r4)) (fun _=>True) ?_ ?_
 ·refine sX fun K1 hK1=>?_;refine oM (eww d) [9002] [560] ?_;refine oE ayx ?_ (by intro K hK;simp only [z,seval,cjq,bsO,byd,dwk,dwh];(repeat first | refine gcI ?_ | intro (_:_≤_));exact hK);refine oX ?_;refine hK1 _ (jN ?_);refine Sm.loop (fun k=>ajm n_ d (recB [(jb .u8 (d.Dcb.Org)),(jb .u8 (d.Dcb.Format)),flags_1,(jb .u8 (d.Dcb.KeyLen))] r1 r2 r3 r4 k) k) (fun k=>k≤4) (fun k=>4 - k) 0 (by omega) (by show Weak _ _ _ (ajm n_ d [(jb .u8 (d.Dcb.Org)),(jb .u8 (d.Dcb.Format)),flags_1,(jb .u8 (d.Dcb.KeyLen))] 0);exact wb [some 9002,some 9003,some 544,some 560]) ?_;intro k hk;have hkk:k=0∨k=1∨k=2∨k=3∨k=4:=by omega
  rcases hkk with rfl | rfl | rfl | rfl | rfl
  ·refine Sm.st (show _=ajm n_ d (recB [(jb .u8 (d.Dcb.Org)),(jb .u8 (d.Dcb.Format)),flags_1,(jb .u8 (d.Dcb.KeyLen))] r1 r2 r3 r4 0) 0 from rfl) ?_;refine Sm.st (ajm.eq_1 ..) ?_;have hn:recB [(jb .u8 (d.Dcb.Org)),(jb .u8 (d.Dcb.Format)),flags_1,(jb .u8 (d.Dcb.KeyLen))] r1 r2 r3 r4 1=recB [(jb .u8 (d.Dcb.Org)),(jb .u8 (d.Dcb.Format)),flags_1,(jb .u8 (d.Dcb.KeyLen))] r1 r2 r3 r4 0 ++ r1:=rfl;obtain ⟨bb,hB⟩:∃ bb,bb=recB [(jb .u8 (d.Dcb.Org)),(jb .u8 (d.Dcb.Format)),flags_1,(jb .u8 (d.Dcb.KeyLen))] r1 r2 r3 r4 0:=⟨_,rfl⟩;have hl:bb.length+r1.length≤2147483648:=by rw [hB];simp only [recB,jg,jq,jS];omega
   rw [← hB] at hn ⊢;clear hB;refine rA ?_;refine js fun K11 hK11=>?_;refine cndT ?_;refine jy (hK11 _ (js fun K13 hK13=>jN ?_));refine sX fun K14 hK14=>?_;refine oE ayx ?_ (by intro K hK;simp only [z,seval,cjq,bsO,byd,dwk,dwh];(repeat first | refine gcI ?_ | intro (_:_≤_));exact hK);refine oX ?_ (by intro K hK;simp only [z,seval,byd];(repeat first | refine gcI ?_ | intro (_:_≤_));exact hK);refine oX ?_;refine hK14 _ ?_;refine eX ?_;have q:=aI qe hr1
   iterate 2 refine oX ?_
   refine oE awv ?_
   iterate 4 refine oXq ?_
   refine dym ?_;refine hK13 _ ?_;refine eA ?_;refine lf ?_;have hw:jb .i64 1=1:=by decide
   refine ⟨1,by omega,by omega,?_⟩;show Weak _ _ _ (ajm n_ d (recB [(jb .u8 (d.Dcb.Org)),(jb .u8 (d.Dcb.Format)),flags_1,(jb .u8 (d.Dcb.KeyLen))] r1 r2 r3 r4 1) 1);rw [hn];exact wb [some 9024,some 9025,some 736,some 9027] (hL:=by simp only [wk,z,seval,hw])
  ·refine Sm.st (show _=ajm n_ d (recB [(jb .u8 (d.Dcb.Org)),(jb .u8 (d.Dcb.Format)),flags_1,(jb .u8 (d.Dcb.KeyLen))] r1 r2 r3 r4 1) 1 from rfl) ?_;refine Sm.st (ajm.eq_1 ..) ?_;have hn:recB [(jb .u8 (d.Dcb.Org)),(jb .u8 (d.Dcb.Format)),flags_1,(jb .u8 (d.Dcb.KeyLen))] r1 r2 r3 r4 2=recB [(jb .u8 (d.Dcb.Org)),(jb .u8 (d.Dcb.Format)),flags_1,(jb .u8 (d.Dcb.KeyLen))] r1 r2 r3 r4 1 ++ r2:=rfl;obtain ⟨bb,hB⟩:∃ bb,bb=recB [(jb .u8 (d.Dcb.Org)),(jb .u8 (d.Dcb.Format)),flags_1,(jb .u8 (d.Dcb.KeyLen))] r1 r2 r3 r4 1:=⟨_,rfl⟩;have hl:bb.length+r2.length≤2147483648:=by rw [hB];simp only [recB,jg,jq,jS];omega
   rw [← hB] at hn ⊢;clear hB;refine rA ?_;refine js fun K11 hK11=>?_;refine cndT ?_;refine jy (hK11 _ (js fun K13 hK13=>jN ?_));refine sX fun K14 hK14=>?_;refine oE ayx ?_ (by intro K hK;simp only [z,seval,cjq,bsO,byd,dwk,dwh];(repeat first | refine gcI ?_ | intro (_:_≤_));exact hK);refine oX ?_ (by intro K hK;simp only [z,seval,byd];(repeat first | refine gcI ?_ | intro (_:_≤_));exact hK);refine oX ?_;refine hK14 _ ?_;refine eX ?_;have q:=aI qe hr2
   iterate 2 refine oX ?_
   refine oE awv ?_
   iterate 4 refine oXq ?_
   refine dym ?_;refine hK13 _ ?_;refine eA ?_;refine lf ?_;have hw:jb .i64 2=2:=by decide
   refine ⟨2,by omega,by omega,?_⟩;show Weak _ _ _ (ajm n_ d (recB [(jb .u8 (d.Dcb.Org)),(jb .u8 (d.Dcb.Format)),flags_1,(jb .u8 (d.Dcb.KeyLen))] r1 r2 r3 r4 2) 2);rw [hn];exact wb [some 9024,some 9025,some 736,some 9027] (hL:=by simp only [wk,z,seval,hw])
  ·refine Sm.st (show _=ajm n_ d (recB [(jb .u8 (d.Dcb.Org)),(jb .u8 (d.Dcb.Format)),flags_1,(jb .u8 (d.Dcb.KeyLen))] r1 r2 r3 r4 2) 2 from rfl) ?_;refine Sm.st (ajm.eq_1 ..) ?_;have hn:recB [(jb .u8 (d.Dcb.Org)),(jb .u8 (d.Dcb.Format)),flags_1,(jb .u8 (d.Dcb.KeyLen))] r1 r2 r3 r4 3=recB [(jb .u8 (d.Dcb.Org)),(jb .u8 (d.Dcb.Format)),flags_1,(jb .u8 (d.Dcb.KeyLen))] r1 r2 r3 r4 2 ++ r3:=rfl;obtain ⟨bb,hB⟩:∃ bb,bb=recB [(jb .u8 (d.Dcb.Org)),(jb .u8 (d.Dcb.Format)),flags_1,(jb .u8 (d.Dcb.KeyLen))] r1 r2 r3 r4 2:=⟨_,rfl⟩;have hl:bb.length+r3.length≤2147483648:=by rw [hB];simp only [recB,jg,jq,jS];omega
   rw [← hB] at hn ⊢;clear hB;refine rA ?_;refine js fun K11 hK11=>?_;refine cndT ?_;refine jy (hK11 _ (js fun K13 hK13=>jN ?_));refine sX fun K14 hK14=>?_;refine oE ayx ?_ (by intro K hK;simp only [z,seval,cjq,bsO,byd,dwk,dwh];(repeat first | refine gcI ?_ | intro (_:_≤_));exact hK);refine oX ?_ (by intro K hK;simp only [z,seval,byd];(repeat first | refine gcI ?_ | intro (_:_≤_));exact hK);refine oX ?_;refine hK14 _ ?_;refine eX ?_;have q:=aI qe hr3
   iterate 2 refine oX ?_
   refine oE awv ?_
   iterate 4 refine oXq ?_
   refine dym ?_;refine hK13 _ ?_;refine eA ?_;refine lf ?_;have hw:jb .i64 3=3:=by decide
   refine ⟨3,by omega,by omega,?_⟩;show Weak _ _ _ (ajm n_ d (recB [(jb .u8 (d.Dcb.Org)),(jb .u8 (d.Dcb.Format)),flags_1,(jb .u8 (d.Dcb.KeyLen))] r1 r2 r3 r4 3) 3);rw [hn];exact wb [some 9024,some 9025,some 736,some 9027] (hL:=by simp only [wk,z,seval,hw])
  ·refine Sm.st (show _=ajm n_ d (recB [(jb .u8 (d.Dcb.Org)),(jb .u8 (d.Dcb.Format)),flags_1,(jb .u8 (d.Dcb.KeyLen))] r1 r2 r3 r4 3) 3 from rfl) ?_;refine Sm.st (ajm.eq_1 ..) ?_;have hn:recB [(jb .u8 (d.Dcb.Org)),(jb .u8 (d.Dcb.Format)),flags_1,(jb .u8 (d.Dcb.KeyLen))] r1 r2 r3 r4 4=recB [(jb .u8 (d.Dcb.Org)),(jb .u8 (d.Dcb.Format)),flags_1,(jb .u8 (d.Dcb.KeyLen))] r1 r2 r3 r4 3 ++ r4:=rfl;obtain ⟨bb,hB⟩:∃ bb,bb=recB [(jb .u8 (d.Dcb.Org)),(jb .u8 (d.Dcb.Format)),flags_1,(jb .u8 (d.Dcb.KeyLen))] r1 r2 r3 r4 3:=⟨_,rfl⟩;have hl:bb.length+r4.length≤2147483648:=by rw [hB];simp only [recB,jg,jq,jS];omega
   rw [← hB] at hn ⊢;clear hB;refine rA ?_;refine js fun K11 hK11=>?_;refine cndT ?_;refine jy (hK11 _ (js fun K13 hK13=>jN ?_));refine sX fun K14 hK14=>?_;refine oE ayx ?_ (by intro K hK;simp only [z,seval,cjq,bsO,byd,dwk,dwh];(repeat first | refine gcI ?_ | intro (_:_≤_));exact hK);refine oX ?_ (by intro K hK;simp only [z,seval,byd];(repeat first | refine gcI ?_ | intro (_:_≤_));exact hK);refine oX ?_;refine hK14 _ ?_;refine eX ?_;have q:=aI qe hr4
   iterate 2 refine oX ?_
   refine oE awv ?_
   iterate 4 refine oXq ?_
   refine dym ?_;refine hK13 _ ?_;refine eA ?_;refine lf ?_;have hw:jb .i64 4=4:=by decide
   refine ⟨4,by omega,by omega,?_⟩;show Weak _ _ _ (ajm n_ d (recB [(jb .u8 (d.Dcb.Org)),(jb .u8 (d.Dcb.Format)),flags_1,(jb .u8 (d.Dcb.KeyLen))] r1 r2 r3 r4 4) 4);rw [hn];exact wb [some 9024,some 9025,some 736,some 9027] (hL:=by simp only [wk,z,seval,hw])
  ·refine Sm.st (show _=ajm n_ d (recB [(jb .u8 (d.Dcb.Org)),(jb .u8 (d.Dcb.Format)),flags_1,(jb .u8 (d.Dcb.KeyLen))] r1 r2 r3 r4 4) 4 from rfl) ?_;refine Sm.st (ajm.eq_1 ..) ?_;refine rA ?_;refine js fun K11 hK11=>?_;refine cndF ?_;refine Js (lf ?_);refine ⟨(),trivial,?_⟩;show Weak _ _ _ (bkw n_ d (recB [(jb .u8 (d.Dcb.Org)),(jb .u8 (d.Dcb.Format)),flags_1,(jb .u8 (d.Dcb.KeyLen))] r1 r2 r3 r4 4));obtain ⟨bb,hB⟩:∃ bb,bb=recB [(jb .u8 (d.Dcb.Org)),(jb .u8 (d.Dcb.Format)),flags_1,(jb .u8 (d.Dcb.KeyLen))] r1 r2 r3 r4 4:=⟨_,rfl⟩;rw [← hB];exact wb [some 9024,some 9025,some 9026]
 rintro ⟨⟩ _;refine Sm.st (bkw.eq_1 ..) ?_;obtain ⟨bb,hB⟩:∃ bb,bb=(((([(jb .u8 (d.Dcb.Org)),(jb .u8 (d.Dcb.Format)),flags_1,(jb .u8 (d.Dcb.KeyLen))] ++ r1) ++ r2) ++ r3) ++ r4):=⟨_,rfl⟩;have hl:bb.length=4+r1.length+r2.length+r3.length+r4.length:=by rw [hB];simp only [jg,jq,jS]
 rw [← hB] at H ⊢;rw [← hl] at H;obtain ⟨hg18,H⟩:=aj8 H;refine rA ?_;refine Jp (fun (x:(List Int))=>ck5 n_ d x) (fun x=>bqw n n_ d x=some r) ?_ ?_
 ·refine rA ?_;refine jN ?_;obtain ⟨y9,hy9,Ho9⟩:=bind_some H;refine Jl _ (fun x=>czs n_ d (d.Extents.length:Int) x.1 x.2) hy9 (wb [some 9020,some 9021,some 864]) ?_;rintro ⟨b_1,v58⟩ z9 H
  try dsimp only at H
  unfold akm at H;refine Sm.st (czs.eq_1 ..) ?_;refine rA ?_;refine js fun K11 hK11=>?_;refine cnd H (fun h12 H=>?_) (fun h12 H=>?_)
  ·refine jy (hK11 _ (js fun K13 hK13=>jN ?_));obtain ⟨hg17,H⟩:=aj8 H;refine rA ?_;obtain ⟨r6,hr6,H⟩:=bind_some H;obtain ⟨hg15,H⟩:=aj8 H;obtain ⟨r7,hr7,H⟩:=bind_some H;obtain ⟨hg16,H⟩:=aj8 H;refine eQ [0,1,2,3,4,5,6,7,8,9] [(none,[],[]),(none,[160],[]),(none,[160],[]),(none,[],[1055,1054,1053,1052,1051,1050,1049,1048,1047,1046,1045,1044,1043,1042,1041,1040]),(none,[1040,9012],[1056,9012]),(none,[160],[]),(none,[160],[]),(none,[],[1119,1118,1117,1116,1115,1114,1113,1112,1111,1110,1109,1108,1107,1106,1105,1104]),(none,[1056,1104],[1120,1056]),(none,[],[])] ?_;have q:=aI qe (aI hr6 hr7)
   iterate 10 refine oQq ?_
   refine cz0 ?_;refine hK13 _ ?_;refine eA ?_;refine lf ?_;exact nx H (wb [some 9010,some 9011,some 1120])
  refine Js (lf ?_);refine lx H fun hyy=>?_;subst hyy;have H:=Ho9
  try dsimp only at H
  refine lf ?_;exact ⟨_,H,wb [some 9010,some 9011,some 9012]⟩
 rintro b H
 try dsimp only at H
 unfold bqw at H;refine Sm.st (ck5.eq_1 ..) ?_;refine sX fun K6 hK6=>?_;obtain ⟨r5,hr5,H⟩:=bind_some H;obtain ⟨hg7,H⟩:=aj8 H;have q:=aI qe hr5
 iterate 8 refine oXq ?_
 refine oE (gqd 9) ?_ (by intro K hK;simp only [z,seval,by9,byu,hr5,gq1,appZ,un9M,un3M];(repeat first | refine gcI ?_ | intro (_:_≤_));exact hK)
 iterate 2 refine oXq ?_
 refine hK6 _ (jC (lf ?_));obtain rfl:=sI H;exact rto [some 1200,some 1280]
def rowZ (A:List (List TRec)) (x:List TRec) (m:Nat):List (List C):=List.map aqa A ++ aqa x :: awi m [.z]
theorem fqu (A:List (List TRec)) (x:List TRec) (m:Nat):(rowZ A x m).length=A.length+1+m:=by simp [rowZ,awi];omega
theorem ij1 (m:Nat) (x:List TRec):(awi (m+1) [C.z]).set 0 (aq2 (eg (awi (m+1) [C.z]) 0) 0 [.slice (List.map aq1 x)])=rowZ [] x m:=by
 simp [rowZ,awi,List.replicate_succ,eg,aq2,aqu,aqa]
theorem fjz (A:List (List TRec)) (x:List TRec) (m:Nat):eg (rowZ A x m) A.length=[.slice (List.map aq1 x)]:=by
 simp [rowZ,eg,ja,aqa]
theorem ey9 (A:List (List TRec)) (x:List TRec) (m:Nat):eg (rowZ A x (m+1)) (A.length+1)=[.z]:=by
 simp [rowZ,eg,ja,awi,List.replicate_succ]
theorem hj1 (A:List (List TRec)) (x y:List TRec) (m:Nat):(rowZ A x m).set A.length (aq2 (eg (rowZ A x m) A.length) 0 [.slice (List.map aq1 y)])=rowZ A y m:=by
 rw [fjz];simp [rowZ,aq2,aqu,aqa]
theorem gyx (A:List (List TRec)) (x y:List TRec) (m:Nat):(rowZ A x (m+1)).set (A.length+1) (aq2 (eg (rowZ A x (m+1)) (A.length+1)) 0 [.slice (List.map aq1 y)])=rowZ (A ++ [x]) y m:=by
 rw [ey9];simp [rowZ,aq2,aqu,aqa,awi,List.replicate_succ]
theorem gk4 (A:List (List TRec)) (x:List TRec) (m:Nat):(rowZ A x m).map (nrmL [.slice 87])=List.map aqa (A ++ [x] ++ awi m []):=by
 simp [rowZ,awi,aqa,nrmL,nrm,C.toSl,Function.comp_def]
abbrev czi (l:List (List TRec)):S:=stB [(8,.own 9002 [.slice 87] 0 l.length)] [(9002,.row 84 (List.map aqa l))]
def bks (n:Nat) (l:List (List TRec)):Option ((List (List TRec))×Int) :=
 some (l,0)
abbrev ayu (v:aj6) (A:List (List TRec)) (x:List TRec) (m:Nat) (v58:Int):S:=stB [(8,.own 9004 [.slice 87] 0 (A.length+1+m)),(56,.c (.slice 41) (.slice (List.map aj4 v.Sets))),(57,.c (.int .i64) (.int (v.Sets.length:Int))),(58,.c (.int .i64) (.int v58))] [(9004,.rl 84 (rowZ A x m) A.length 0 (.own 9005 [.int .i64,.slice 5,.slice 5,.bool] 0 x.length)),(9005,.row 87 (List.map aq1 x))]
def azs (n:Nat) (v:aj6) (A:List (List TRec)) (x:List TRec) (m:Nat) (v58:Int):Option ((List (List TRec)×List TRec×Nat×Int) ⊕ (List (List TRec))) :=
 bif (decide (v58 < (v.Sets.length:Int))) then
  gd ((0≤v58∧v58 < (v.Sets.length:Int))) <|
  (bzq n (jb .i64 ((Int.tmod v58 14)+1)) (gt v.Sets (Int.toNat v58))).bind fun r6 =>
  gd (x.length+1≤2147483648∧A.length+1+m≤2147483648) <|
  bif decide (jb .i64 (1+(jb .i64 (Int.tdiv v58 14)))=(A.length:Int)) then
   some (.inl (A,x ++ [r6],m,(jb .i64 (v58+1))))
  else
   gd (jb .i64 (1+(jb .i64 (Int.tdiv v58 14)))=((A.length+1:Nat):Int)∧0 < m) <|
   some (.inl (A ++ [x],[r6],m - 1,(jb .i64 (v58+1))))
 else
  some (.inr (A ++ [x] ++ awi m []))
abbrev ck1 (v:aj6) (b:List Int):S:=stB [(1,.box 9000 0),(5,.own 9001 [.int .u8] 0 b.length)] [(9000,.box (cV v)),(9001,.row 5 (List.map aq7 b))]
def bqy (n:Nat) (v:aj6) (b:List Int):Option ((List (List TRec))×Int) :=
 (bq8 n [] (jb .i64 (80 - ((b.length:Nat):Int)))).bind fun r4 =>
 gd ((b.length+r4.length)≤2147483648) <|
 gd ((0≤(jb .i64 (v.Size+1))∧(jb .i64 (v.Size+1))≤(jb .i64 (v.Size+1))∧(jb .i64 (v.Size+1))≤2147483648)) <|
 (bq8 n [86,79,76,49] 4).bind fun r5 =>
 gd (0 < ((Int.toNat (jb .i64 (v.Size+1))):Int)∧0 < (Int.toNat (jb .i64 (v.Size+1)))) <|
 (ajo (fun (x:List (List TRec)×List TRec×Nat×Int)=>azs n v x.1 x.2.1 x.2.2.1 x.2.2.2) n ([],[(⟨3,r5,(b ++ r4),false⟩:TRec)],(Int.toNat (jb .i64 (v.Size+1))) - 1,0)).bind fun y15 =>
 bks n y15
abbrev czo (v:aj6) (v28:List Int) (b_1:List Int) (v30:Int):S:=stB [(1,.box 9008 0),(5,.own 9009 [.int .u8] 0 b_1.length),(28,.own 9010 [.int .i64] 0 v28.length),(29,.c (.int .i64) (.int 3)),(30,.c (.int .i64) (.int v30))] [(9008,.box (cV v)),(9009,.row 5 (List.map aq7 b_1)),(9010,.row 3 (List.map aq7 v28))]
def bj4 (n:Nat) (v:aj6) (v28:List Int) (b_1:List Int) (v30:Int):Option (((List Int)×Int) ⊕ (((List Int)))) :=
 bif (decide (v30 < 3)) then
  gd ((0≤v30∧v30 < (v28.length:Int))∧(Int.toNat v30) < v28.length) <|
  (ayz n (gt v28 (Int.toNat v30))).bind fun r7 =>
  gd ((b_1.length+r7.length)≤2147483648) <|
  some (.inl ((b_1 ++ r7),(jb .i64 (v30+1))))
 else
  some (.inr b_1)
def bje (n:Nat) (v:aj6):Option ((List (List TRec))×Int) :=
 (awb n v).bind fun r1 =>
 bif (r1 != 0) then
  some ([],r1)
 else
  (bq8 n [86,79,76,49] 4).bind fun r2 =>
  (bq8 n v.Serial 6).bind fun r3 =>
  gd ((r2.length+r3.length)≤2147483648) <|
  (ajo (fun (x:(List Int)×Int)=>bj4 n v [v.Cyls,v.Heads,v.Size] x.1 x.2) n ((r2 ++ r3),0)).bind fun y32 =>
  bqy n v y32
def cqq (n:Nat):Go.AE.Fn:=mkFn (A:=aj6) (R:=(List (List TRec))×Int) 28 [(true,[.str,.int .i64,.int .i64,.int .i64,.slice 41])] true (fun xs=>(⟨(cg (xs.getD 0 []) 0).toStr,(cg (xs.getD 0 []) 1).toInt,(cg (xs.getD 0 []) 2).toInt,(cg (xs.getD 0 []) 3).toInt,((cg (xs.getD 0 []) 4).toSl.map akb)⟩:aj6)) (fun a=>[[.str a.Serial,.int a.Cyls,.int a.Heads,.int a.Size,.slice (List.map aj4 a.Sets)]]) (fun a=>bje n a) (fun r=>[.own 0 [.slice 87] 0 r.1.length,.c (.int .i64) (.int r.2)]) (fun r=>[.row 84 (List.map aqa r.1)])
theorem dqi (n:Nat):aj1 jd (cqq n):=by
 have hΓ:=g1 (akc n) (g1 (dyw n) (g1 (ejd n) (g1 (eye n) (@g0 (aj1 jd)))));have qe:=aI @az6.eq_1 (aI @byu.eq_1 @by9.eq_1);refine ajb (Tryz.f28.body.getD .skip) h00 Tryz.func28 rfl Tryz.call28 (by decide) (by intro h;cases h) ?_;rintro v r H
 try dsimp only at H
 unfold bje at H;simp only [Tryz.f28,jz];refine rA ?_;refine js fun K2 hK2=>?_;obtain ⟨r1,hr1,H⟩:=bind_some H;have q:=aI qe hr1;refine rAq ?_;refine rA ?_;refine cnd H (fun h5 H=>?_) (fun h5 H=>?_)
 ·refine rA ?_;refine jC (lf ?_);obtain rfl:=sI H;exact rto [none]
 refine jy (hK2 _ ?_);obtain ⟨r2,hr2,H⟩:=bind_some H;obtain ⟨r3,hr3,H⟩:=bind_some H;obtain ⟨hg8,H⟩:=aj8 H;refine sQ [0,1,2,3,4,5] [(none,[],[287,286,285,284,283,282,281,280,279,278,277,276,275,274,273,272]),(none,[16],[]),(none,[16],[]),(none,[],[335,334,333,332,331,330,329,328,327,326,325,324,323,322,321,320]),(none,[272,320],[336,272]),(none,[],[])] fun K7 hK7=>?_;have q:=aI qe (aI hr2 hr3)
 iterate 6 refine oQq ?_
 refine cz0 ?_;refine hK7 _ ?_;refine Jp (fun (x:(List Int))=>ck1 v x) (fun x=>bqy n v x=some r) ?_ ?_
 ·refine rA ?_;refine jN ?_;obtain ⟨y32,hy32,Ho32⟩:=bind_some H;refine Jl _ (fun x=>czo v [v.Cyls,v.Heads,v.Size] x.1 x.2) hy32 (wb [some 16,some 336,some 448]) ?_;rintro ⟨b_1,v30⟩ z32 H
  try dsimp only at H
  unfold bj4 at H;refine Sm.st (czo.eq_1 ..) ?_;refine rA ?_;refine js fun K34 hK34=>?_;refine cnd H (fun h35 H=>?_) (fun h35 H=>?_)
  ·refine jy (hK34 _ (js fun K36 hK36=>jN ?_));obtain ⟨⟨hg39,hg40⟩,H⟩:=aj8 H;refine rA ?_;obtain ⟨r7,hr7,H⟩:=bind_some H;obtain ⟨hg38,H⟩:=aj8 H;have q:=aI qe hr7;refine eAq ?_;refine hK36 _ ?_;refine eA ?_;refine lf ?_;exact nx H (wb [some 9008,some 592,some 9010])
  refine Js (lf ?_);refine lx H fun hyy=>?_;subst hyy;have H:=Ho32
  try dsimp only at H
  refine lf ?_;exact ⟨_,H,wb [some 9008,some 9009]⟩
 rintro b H
 try dsimp only at H
 unfold bqy at H;refine Sm.st (ck1.eq_1 ..) ?_;obtain ⟨r4,hr4,H⟩:=bind_some H;obtain ⟨hg30,H⟩:=aj8 H;have q:=aI qe hr4;refine rAq ?_;refine sX fun K10 hK10=>?_;obtain ⟨hg11,H⟩:=aj8 H
 iterate 3 refine oX ?_
 refine oE gq6 ?_ (by intro K hK;simp only [z,seval,gzn,gky];(repeat first | refine gcI ?_ | intro (_:_≤_));exact hK);refine oX ?_;refine hK10 _ ?_;obtain ⟨r5,hr5,H⟩:=bind_some H;obtain ⟨⟨hg28,hg29⟩,H⟩:=aj8 H;obtain ⟨M,hM⟩:∃ M,Int.toNat (jb .i64 (v.Size+1))=M+1:=⟨Int.toNat (jb .i64 (v.Size+1)) - 1,by omega⟩;rw [hM] at H hg28 hg29 ⊢;refine sX fun K12 hK12=>?_;have q:=aI qe hr5
 iterate 6 refine oXq ?_
 refine oE (az4 h00) ?_ (by intro K hK;simp only [z,seval,bwp,opRL,dq4,ewt,bzs,hg29];(repeat first | refine gcI ?_ | intro (_:_≤_));exact hK);refine hK12 _ ?_;refine Jp (fun (x:(List (List TRec)))=>czi x) (fun x=>bks n x=some r) ?_ ?_
 ·refine rA ?_;refine jN ?_;obtain ⟨y15,hy15,Ho15⟩:=bind_some H;refine Jl _ (fun x=>ayu v x.1 x.2.1 x.2.2.1 x.2.2.2) hy15 ?_ ?_
  ·show Weak _ _ _ (ayu v [] [(⟨3,r5,(b ++ r4),false⟩:TRec)] M 0);exact wb [some 768,some 848] (hL:=by (simp only [wk,z,seval];omega)) (hH:=by (simp only [wk,z,seval];exact ij1 M [⟨3,r5,b ++ r4,false⟩]))
  rintro ⟨A,x,m,v58⟩ z15 H
  try dsimp only at H
  unfold azs at H;refine Sm.st (ayu.eq_1 ..) ?_;refine rA ?_;refine js fun K17 hK17=>?_;refine cnd H (fun h18 H=>?_) (fun h18 H=>?_)
  ·refine jy (hK17 _ (js fun K19 hK19=>jN ?_));obtain ⟨hg27,H⟩:=aj8 H;refine rA ?_;refine rA ?_;obtain ⟨r6,hr6,H⟩:=bind_some H;obtain ⟨⟨hg22,hg23⟩,H⟩:=aj8 H;have q0:=aI @az6.eq_1 (aI @byu.eq_1 (aI @by9.eq_1 (aI @dw8.eq_1 hr6)));refine bwe H (fun h30 H=>?_) (fun h30 H=>?_)
   ·have hn:jb .i64 (1+(jb .i64 (Int.tdiv v58 14)))=(A.length:Int):=by simpa using h30
    have hA:(0:Int)≤(A.length:Int)∧(A.length:Int) < ((A.length+1+m:Nat):Int):=by omega
    have hA2:A.length < A.length+1+m:=by omega
    have hA3:A.length < (rowZ A x m).length:=by rw [fqu];omega
    have q:=aI hn (aI hA (aI hA2 (aI hA3 (aI (Int.toNat_natCast A.length) q0))));refine eQ [0,1,2,3,4,5,6,7,8,9,10,11,12,13,14] [(none,[],[]),(none,[],[]),(none,[],[]),(none,[],[]),(none,[1000001,9004],[]),(none,[1000001,9004],[]),(none,[],[]),(none,[],[]),(none,[],[]),(none,[160],[]),(none,[],[1231,1230,1229,1228,1227,1226,1225,1224,1223,1222,1221,1220,1219,1218,1217,1216]),(none,[1216,1217],[1232,1216,1217]),(none,[1232,9005],[1248,9005]),(none,[1000001,9004],[]),(none,[1000001,1248,9004],[1248,9004])] ?_
    iterate 4 refine oQ ?_
    iterate 2 refine oQVq ?_
    iterate 7 refine oQq ?_
    iterate 2 refine oQVq ?_
    refine cz0 ?_;refine hK19 _ ?_;refine eA ?_;refine lf ?_;refine nx H ?_;show Weak _ _ _ (ayu v A (x ++ [r6]) m (jb .i64 (v58+1)));exact wb [some 9004,some 1248] (hH:=by (simp only [wk,z,seval];exact hj1 A x (x ++ [r6]) m))
   ·obtain ⟨⟨hn,hm⟩,H⟩:=aj8 H;obtain ⟨m',rfl⟩:∃ m',m=m'+1:=⟨m - 1,by omega⟩;refine Sm.weak ((wbf (L:=[(8,.own 9014 [.slice 87] 0 (A.length+1+(m'+1))),(9,.c (.int .i64) (.int v58)),(10,.box 9015 0),(11,.c (.int .i64) (.int ((A.length+1:Nat):Int))),(56,.c (.slice 41) (.slice (List.map aj4 v.Sets))),(57,.c (.int .i64) (.int (v.Sets.length:Int))),(58,.c (.int .i64) (.int v58))]) (bs:=[(9014,.row 84 (rowZ A x (m'+1))),(9015,.box [.c .str (.str (gt v.Sets (Int.toNat v58)).Name),.c (.int .i64) (.int (gt v.Sets (Int.toNat v58)).Dcb.Org),.c (.int .i64) (.int (gt v.Sets (Int.toNat v58)).Dcb.Format),.c .bool (.bool (gt v.Sets (Int.toNat v58)).Dcb.Blocked),.c .bool (.bool (gt v.Sets (Int.toNat v58)).Dcb.Asa),.c (.int .i64) (.int (gt v.Sets (Int.toNat v58)).Dcb.Lrecl),.c (.int .i64) (.int (gt v.Sets (Int.toNat v58)).Dcb.Blksize),.c (.int .i64) (.int (gt v.Sets (Int.toNat v58)).Dcb.KeyLen),.c (.int .i64) (.int (gt v.Sets (Int.toNat v58)).Dcb.KeyPos),.c (.slice 80) (.slice (List.map aj2 (gt v.Sets (Int.toNat v58)).Extents)),.c (.int .i64) (.int (gt v.Sets (Int.toNat v58)).Used)])]) [9005] [some 9004,some 160] (hL:=by (simp only [wk,z,seval,hn])) (hH:=by (simp only [wk,z,seval,byq,zipH,subB,sub,kdAt,freezeAll,freeze1,fjz]))).trans (fzg (id:=9014) (i:=A.length+1) rfl (ey9 A x m') (by rw [ty84];rfl))) ?_;have hA:(0:Int)≤((A.length+1:Nat):Int)∧((A.length+1:Nat):Int) < ((A.length+1+(m'+1):Nat):Int):=by omega
    have hA2:A.length+1 < A.length+1+(m'+1):=by omega
    have hA3:A.length+1 < (rowZ A x (m'+1)).length:=by rw [fqu];omega
    have q:=aI hA (aI hA2 (aI hA3 (aI (Int.toNat_natCast (A.length+1)) q0)));refine eQ [0,1,2,3,4,5,6,7,8,9,10,11,12,13,14] [(none,[],[]),(none,[],[]),(none,[],[]),(none,[],[]),(none,[1000001,9014],[]),(none,[1000001,9014],[]),(none,[],[]),(none,[],[]),(none,[],[]),(none,[9015],[]),(none,[],[1231,1230,1229,1228,1227,1226,1225,1224,1223,1222,1221,1220,1219,1218,1217,1216]),(none,[1216,1217],[1232,1216,1217]),(none,[1232],[1248]),(none,[1000001,9014],[]),(none,[1000001,1248,9014],[1248,9014])] ?_
    iterate 4 refine oQ ?_
    iterate 2 refine oQVq ?_
    iterate 7 refine oQq ?_
    iterate 2 refine oQVq ?_
    refine cz0 ?_;refine hK19 _ ?_;refine eA ?_;refine lf ?_;refine nx H ?_;show Weak _ _ _ (ayu v (A ++ [x]) [r6] m' (jb .i64 (v58+1)));exact wb [some 9014,some 1248] (hL:=by (simp only [wk,z,seval];omega)) (hH:=by (simp only [wk,z,seval];exact gyx A x [r6] m'))
  refine Js (lf ?_);refine lx H fun hyy=>?_;subst hyy;have H:=Ho15
  try dsimp only at H
  refine lf ?_;refine ⟨_,H,?_⟩;refine (wbf (L:=[(8,.own 9014 [.slice 87] 0 (A.length+1+m))]) (bs:=[(9014,.row 84 (rowZ A x m))]) [9005] [some 9004] (hH:=by (simp only [wk,z,seval,byq,zipH,subB,sub,kdAt,freezeAll,freeze1,fjz]))).trans ((gyd (id:=9014) (es:=rowZ A x m) rfl ty84).trans ?_);refine wb [some 9014] (hL:=by (simp only [wk,z,seval])) (hH:=by (simp only [wk,z,seval,gk4]))
 rintro l H
 try dsimp only at H
 unfold bks at H;refine Sm.st (czi.eq_1 ..) ?_;refine rA ?_;refine jC (lf ?_);obtain rfl:=sI H;exact rto [some 9002]
end Go.Proofs.YtijnkhcfondehaaGreatDoor
