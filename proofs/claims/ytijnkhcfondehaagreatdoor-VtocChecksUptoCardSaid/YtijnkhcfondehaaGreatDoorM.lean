/- Text. -/
import Derived.Test.YtijnkhcfondehaaGreatDoorAE53
import Derived.Test.YtijnkhcfondehaaGreatDoorF
import Derived.Test.YtijnkhcfondehaaGreatDoorIt2
set_option maxHeartbeats 8000000
set_option linter.unusedVariables false
set_option linter.unusedSimpArgs false
set_option maxRecDepth 100000
open Go.IntKind renaming wrap→jc,bits→j6
open _root_.List renaming getD_eq_getElem?_getD→ja,length_append→ji,length_cons→jC,length_nil→j5
open _root_.Nat renaming le_of_ble_eq_true→Jg
open _root_.Option renaming getD→jt
open Go.AE.Sm renaming cut→j1,block→jw,loopB→jW,seqK→jp,skip→js,exit→jZ,ret→jx
open Go.Proofs.Tryz renaming prog→jd
namespace Go.Proofs.YtijnkhcfondehaaGreatDoor
open Go.AE
theorem hql {n:Int} (h1:-9223372036854775808≤n) (h2:n < 9223372036854775808):jc .i64 n=n:=by
 simp only [jc]
 have:IntKind.i64.bits=64:=rfl
 rw [this]
 simp [IntKind.signed]
 omega
theorem fyd {α:Type} [Inhabited α] (l:List α) (i:Nat) (x:α) (h:i < l.length):gt (l.set i x) i=x:=by
 simp [gt,ja,h]
theorem gqo {α:Type} [Inhabited α] (l:List α) (i j:Nat) (x:α) (h:i≠j):gt (l.set i x) j=gt l j:=by
 simp [gt,ja,List.getElem?_set_ne h]
abbrev gkl (v:aja) (k:Nat) (l:List ajc):S:=stB [(1,.box 9000 0),(2,.box 9001 0),(3,.own 9002 [.str,.int .i64,.int .i64,.bool,.bool,.int .i64,.int .i64,.int .i64,.int .i64,.slice 80,.int .i64] 0 l.length)] [(9000,.box [.c .str (.str v.Serial),.c (.int .i64) (.int v.Cyls),.c (.int .i64) (.int v.Heads),.c (.int .i64) (.int v.Size),.c (.slice 41) (.slice (List.map aj5 v.Sets))]),(9001,.box [.c .str (.str []),.c (.int .i64) (.int 0),.c (.int .i64) (.int 0),.c (.int .i64) (.int 0),.nilsl]),(9002,.rl 41 (List.map aj5 l) k 9 (.own 9003 [.int .i64,.int .i64] 0 (gt l k).Extents.length)),(9003,.row 80 (List.map aj2 (gt l k).Extents))]
abbrev ej2 (v:aja) (k:Nat) (v16:Int) (l_1:List ajc) (v17:Int):S:=stB [(1,.box 9006 0),(2,.box 9007 0),(3,.own 9008 [.str,.int .i64,.int .i64,.bool,.bool,.int .i64,.int .i64,.int .i64,.int .i64,.slice 80,.int .i64] 0 l_1.length),(15,.c (.slice 41) (.slice (List.map aj5 v.Sets))),(16,.c (.int .i64) (.int v16)),(17,.c (.int .i64) (.int v17))] [(9006,.box [.c .str (.str v.Serial),.c (.int .i64) (.int v.Cyls),.c (.int .i64) (.int v.Heads),.c (.int .i64) (.int v.Size),.c (.slice 41) (.slice (List.map aj5 v.Sets))]),(9007,.box [.c .str (.str []),.c (.int .i64) (.int 0),.c (.int .i64) (.int 0),.c (.int .i64) (.int 0),.nilsl]),(9008,.rl 41 (List.map aj5 l_1) k 9 (.own 9009 [.int .i64,.int .i64] 0 (gt l_1 k).Extents.length)),(9009,.row 80 (List.map aj2 (gt l_1 k).Extents))]
def copL (v:aja) (k:Nat) (v16:Int) (x:List ajc×Int):S:=if x.2≤(k:Int) then awq v v16 x.1 x.2 else ej2 v k v16 x.1 x.2
theorem hw8 (n:Nat) (v:aja) (k:Nat) (hk:k < v.Sets.length) (r:aja) (H:az9 n v=some r):bjz jd 57 [.dat (true,[.str,.int .i64,.int .i64,.int .i64,.slice 41]) [.str v.Serial,.int v.Cyls,.int v.Heads,.int v.Size,.slice (List.map aj5 v.Sets)]] []
  [.agg [.c .str (.str r.Serial),.c (.int .i64) (.int r.Cyls),.c (.int .i64) (.int r.Heads),.c (.int .i64) (.int r.Size),.own 0 [.str,.int .i64,.int .i64,.bool,.bool,.int .i64,.int .i64,.int .i64,.int .i64,.slice 80,.int .i64] 0 r.Sets.length]]
  [.rl 41 (List.map aj5 r.Sets) k 9 (.own 1 [.int .i64,.int .i64] 0 (gt r.Sets k).Extents.length),.row 80 (List.map aj2 (gt r.Sets k).Extents)]:=by
 have hΓ:=g1 (ak0 n) (@g0 (aj1 jd))
 refine fwq (Tryz.f57.body.getD .skip) h00 Tryz.func57 rfl Tryz.call57 (Jg rfl) (Jg rfl) ?_
 unfold az9 at H
 simp only [Tryz.f57,jt]
 refine rA ?_
 refine sX fun K2 hK2=>?_
 obtain ⟨hg3,H⟩:=aj4 H
 iterate 7 refine oX ?_
 refine oY ?_
 refine oX ?_
 refine hK2 _ ?_
 refine j1 (fun (x:(List ajc))=>gkl v k x) (fun x=>aqv n v x=some r) ?_ ?_
 ·refine rA ?_
  refine jw ?_
  obtain ⟨y7,hy7,Ho7⟩:=bind_some H
  refine jW _ (fun x=>copL v k (v.Sets.length:Int) x) hy7 ?_ ?_
  ·show Weak _ _ _ (copL v k (v.Sets.length:Int) (_,0))
   rw [copL,if_pos (by show (0:Int)≤(k:Int);omega)]
   exact wb [some 16,some 32,some 208]
  rintro ⟨l_1,v17⟩ z7 H
  try dsimp only at H
  unfold akp at H
  have hlen:(v.Sets.length:Int)≤2147483648:=by omega
  by_cases hik:v17≤(k:Int)
  ·refine Sm.st (if_pos hik) ?_
   refine Sm.st (awq.eq_1 ..) ?_
   refine rA ?_
   refine jp fun K9 hK9=>?_
   refine cnd H (fun h10 H=>?_) (fun h10 H=>?_)
   ·refine js ?_
    refine hK9 _ ?_
    refine jp fun K11 hK11=>?_
    refine jw ?_
    obtain ⟨hg16,H⟩:=aj4 H
    refine rA ?_
    obtain ⟨r1,hr1,H⟩:=bind_some H
    have q:=aI @aqq.eq_1 hr1
    refine rAq ?_
    obtain ⟨⟨hg14,hg15⟩,H⟩:=aj4 H
    have hw:jc .i64 (v17+1)=v17+1:=hql (by omega) (by omega)
    by_cases he:v17.toNat=k
    ·refine eX ?_
     iterate 4 refine oX ?_
     have q:=hg15
     refine oE (dzc h00) ?_ (by intro K hK;simp only [z,seval,ekt,opRL,dq4,ewd,hg15];(repeat first | refine gcI ?_ | intro (_:_≤_));exact hK)
     refine fzh ?_
     refine hK11 _ ?_
     refine eA ?_
     refine lf ?_
     refine nx H ?_
     show Weak _ _ _ (copL v k (v.Sets.length:Int) (_,jc .i64 (v17+1)))
     rw [copL,if_neg (by show ¬ (jc .i64 (v17+1)≤(k:Int));rw [hw];omega)]
     subst he
     show Weak _ _ _ (ej2 v v17.toNat (v.Sets.length:Int) _ _)
     rw [ej2,fyd _ _ _ hg15]
     exact wb [some 9006,some 9007,some 9008,some 384]
    ·refine eA ?_
     refine hK11 _ ?_
     refine eA ?_
     refine lf ?_
     refine nx H ?_
     show Weak _ _ _ (copL v k (v.Sets.length:Int) (_,jc .i64 (v17+1)))
     rw [copL,if_pos (by show jc .i64 (v17+1)≤(k:Int);rw [hw];omega)]
     exact wb [some 9006,some 9007,some 9008]
   exfalso
   have:¬ (v17 < (v.Sets.length:Int)):=by simpa using h10
   omega
  ·refine Sm.st (if_neg hik) ?_
   refine Sm.st (ej2.eq_1 ..) ?_
   refine rA ?_
   refine jp fun K9 hK9=>?_
   refine cnd H (fun h10 H=>?_) (fun h10 H=>?_)
   ·refine js ?_
    refine hK9 _ ?_
    refine jp fun K11 hK11=>?_
    refine jw ?_
    obtain ⟨hg16,H⟩:=aj4 H
    refine rA ?_
    obtain ⟨r1,hr1,H⟩:=bind_some H
    have q:=aI @aqq.eq_1 hr1
    refine rAq ?_
    obtain ⟨⟨hg14,hg15⟩,H⟩:=aj4 H
    have hw:jc .i64 (v17+1)=v17+1:=hql (by omega) (by omega)
    have he:¬ v17.toNat=k:=by omega
    have hs:0≤v17∧v17 < (l_1.length:Int):=hg14
    refine eX ?_
    iterate 3 refine oX ?_
    refine oE ay5 ?_
    have q:=aI hg15 he
    refine oE (dzc h00) ?_ (by intro K hK;simp only [z,seval,ekt,opRL,dq4,ewd,q];(repeat first | refine gcI ?_ | intro (_:_≤_));exact hK)
    refine fzh ?_
    refine hK11 _ ?_
    refine eA ?_
    refine lf ?_
    refine nx H ?_
    show Weak _ _ _ (copL v k (v.Sets.length:Int) (_,jc .i64 (v17+1)))
    rw [copL,if_neg (by show ¬ (jc .i64 (v17+1)≤(k:Int));rw [hw];omega)]
    show Weak _ _ _ (ej2 v k (v.Sets.length:Int) _ _)
    rw [ej2,gqo _ _ _ _ he]
    exact wb [some 9006,some 9007,some 9008,some 9009]
   refine jZ ?_
   refine lf ?_
   refine lx H fun hyy=>?_
   subst hyy
   have H:=Ho7
   try dsimp only at H
   refine lf ?_
   exact ⟨_,H,wb [some 9006,some 9007,some 9008,some 9009]⟩
 rintro l H
 try dsimp only at H
 unfold aqv at H
 refine Sm.st (gkl.eq_1 ..) ?_
 refine sX fun K3 hK3=>?_
 iterate 2 refine oX ?_
 refine oE ekr ?_ (by intro K hK;simp only [z,seval,fw3,ewh,ck9,oneL,ey9,cyb];(repeat first | refine gcI ?_ | intro (_:_≤_));exact hK)
 refine hK3 _ ?_
 refine sX fun K4 hK4=>?_
 refine oX ?_
 refine oE ekr ?_ (by intro K hK;simp only [z,seval,fw3,ewh,ck9,oneL,ey9,cyb];(repeat first | refine gcI ?_ | intro (_:_≤_));exact hK)
 refine hK4 _ ?_
 refine jx ?_
 refine lf ?_
 obtain rfl:=Option.some.inj H
 refine RetL.mk (.inr rfl) [some 9002,some 9003] rfl ?_
 simp only [z,seval,dyu,blkL,fjf,bjx,bk1,ey9]
def exF (l:List aj0) (j:Nat):Int×Int:=((gt l j).At,(gt l j).Len)
def okL (l:List aj0):Prop:=l.length≤512∧(∀ j,j < l.length→0≤(exF l j).1∧(exF l j).1≤512∧0≤(exF l j).2∧(exF l j).2≤512)∧(upT (exF l) l.length).length≤512
instance (l:List aj0):Decidable (okL l):=by unfold okL;infer_instance
theorem un9M:jd.underlying 9=some .string:=by kernel_rfl
theorem un3M:jd.underlying 3=some (.int .i64):=by kernel_rfl
theorem dya:tyI jd 154=some ⟨[.ptr 3],false,[],3,8⟩:=by kernel_rfl
theorem fzc:tyI jd 152=some ⟨[.slice 154],false,[],154,24⟩:=by kernel_rfl
theorem fz4:slE jd 152=some (154,⟨[.ptr 3],false,[],3,8⟩):=by kernel_rfl
theorem ewi (d:ajc):bjz jd 122 [.ref (.box 0 0)] [.box [.c .str (.str d.Name),.c (.int .i64) (.int d.Dcb.Org),.c (.int .i64) (.int d.Dcb.Format),.c .bool (.bool d.Dcb.Blocked),.c .bool (.bool d.Dcb.Asa),.c (.int .i64) (.int d.Dcb.Lrecl),.c (.int .i64) (.int d.Dcb.Blksize),.c (.int .i64) (.int d.Dcb.KeyLen),.c (.int .i64) (.int d.Dcb.KeyPos),.c (.slice 80) (.slice (List.map aj2 d.Extents)),.c (.int .i64) (.int d.Used)]] [.bsl 1 4] [.box [.c .str (.str d.Name),.c (.int .i64) (.int d.Dcb.Org),.c (.int .i64) (.int d.Dcb.Format),.c .bool (.bool d.Dcb.Blocked),.c .bool (.bool d.Dcb.Asa),.c (.int .i64) (.int d.Dcb.Lrecl),.c (.int .i64) (.int d.Dcb.Blksize),.c (.int .i64) (.int d.Dcb.KeyLen),.c (.int .i64) (.int d.Dcb.KeyPos),.c (.slice 80) (.slice (List.map aj2 d.Extents)),.c (.int .i64) (.int d.Used)],.box [.box 0 5,.box 0 6,.box 0 8,.box 0 10]]:=by
 have hΓ:=@g0 (aj1 jd)
 refine dj6 (Tryz.f122.body.getD .skip) h00 Tryz.func122 rfl Tryz.call122 (Jg rfl) (Jg rfl) ?_
 simp only [Tryz.f122,jt]
 refine rA ?_
 refine sQ [0,1,2,3,4,5,6,7,8,9,10,11,12,13,14,15,16] [(none,[],[]),(none,[1000001,0],[]),(none,[0],[]),(none,[0],[]),(none,[],[]),(none,[1000001,0],[]),(none,[0],[]),(none,[0],[]),(none,[],[]),(none,[1000001,0],[]),(none,[0],[]),(none,[0],[]),(none,[],[]),(none,[1000001,0],[]),(none,[0],[]),(none,[1000001,0],[288]),(none,[],[])] fun K7 hK7=>?_
 have q:=aI dya (aI fzc fz4)
 refine oQ ?_
 refine oQV ?_
 iterate 3 refine oQ ?_
 refine oQV ?_
 iterate 3 refine oQ ?_
 refine oQV ?_
 iterate 3 refine oQ ?_
 refine oQV ?_
 refine oQ ?_
 refine oQVq ?_
 refine oQ ?_
 refine ck2 ?_
 refine hK7 _ ?_
 refine jx ?_
 refine lf ?_
 exact rtM [some 0,some 288]
abbrev czn (n_:Int) (d:ajc) (b:List Int):S:=stB [(0,.c (.int .i64) (.int n_)),(3,.box 9004 0),(4,.box 9005 0),(6,.own 9006 [.int .u8] 0 b.length)] [(9004,.box [.c .str (.str d.Name),.c (.int .i64) (.int d.Dcb.Org),.c (.int .i64) (.int d.Dcb.Format),.c .bool (.bool d.Dcb.Blocked),.c .bool (.bool d.Dcb.Asa),.c (.int .i64) (.int d.Dcb.Lrecl),.c (.int .i64) (.int d.Dcb.Blksize),.c (.int .i64) (.int d.Dcb.KeyLen),.c (.int .i64) (.int d.Dcb.KeyPos),.c (.slice 80) (.slice (List.map aj2 d.Extents)),.c (.int .i64) (.int d.Used)]),(9005,.box [.c (.int .i64) (.int 0),.nilsl,.nilsl,.c .bool (.bool false)]),(9006,.row 5 (List.map ajz b))]
def bq8 (n:Nat) (n_:Int) (d:ajc) (b:List Int):Option TRec :=
 (bjk n d.Name 44).bind fun r5 =>
 gd ((0≤(jc .i64 (45 - ((b.length:Nat):Int)))∧(b.length+(Int.toNat (jc .i64 (45 - ((b.length:Nat):Int)))))≤2147483648)) <|
 some (⟨n_,r5,(b ++ aqo (Int.toNat (jc .i64 (45 - ((b.length:Nat):Int)))) 0),false⟩:TRec)
abbrev cz3 (n_:Int) (d:ajc) (v57:Int) (b_1:List Int) (v58:Int):S:=stB [(0,.c (.int .i64) (.int n_)),(3,.box 9010 0),(4,.box 9011 0),(6,.own 9012 [.int .u8] 0 b_1.length),(56,.c (.slice 80) (.slice (List.map aj2 d.Extents))),(57,.c (.int .i64) (.int v57)),(58,.c (.int .i64) (.int v58))] [(9010,.box [.c .str (.str d.Name),.c (.int .i64) (.int d.Dcb.Org),.c (.int .i64) (.int d.Dcb.Format),.c .bool (.bool d.Dcb.Blocked),.c .bool (.bool d.Dcb.Asa),.c (.int .i64) (.int d.Dcb.Lrecl),.c (.int .i64) (.int d.Dcb.Blksize),.c (.int .i64) (.int d.Dcb.KeyLen),.c (.int .i64) (.int d.Dcb.KeyPos),.c (.slice 80) (.slice (List.map aj2 d.Extents)),.c (.int .i64) (.int d.Used)]),(9011,.box [.c (.int .i64) (.int 0),.nilsl,.nilsl,.c .bool (.bool false)]),(9012,.row 5 (List.map ajz b_1))]
def azu (n:Nat) (n_:Int) (d:ajc) (v57:Int) (b_1:List Int) (v58:Int):Option (((List Int)×Int) ⊕ (((List Int)))) :=
 bif (decide (v58 < v57)) then
  gd ((0≤v58∧v58 < (d.Extents.length:Int))) <|
  (akw n ((gt d.Extents (Int.toNat v58)).At)).bind fun r6 =>
  gd ((b_1.length+r6.length)≤2147483648) <|
  (akw n ((gt d.Extents (Int.toNat v58)).Len)).bind fun r7 =>
  gd (((b_1.length+r6.length)+r7.length)≤2147483648) <|
  some (.inl (((b_1 ++ r6) ++ r7),(jc .i64 (v58+1))))
 else
  some (.inr b_1)
abbrev czk (n_:Int) (d:ajc) (flags_1:Int):S:=stB [(0,.c (.int .i64) (.int n_)),(3,.box 9002 0),(4,.box 9003 0),(5,.c (.int .u8) (.int flags_1))] [(9002,.box [.c .str (.str d.Name),.c (.int .i64) (.int d.Dcb.Org),.c (.int .i64) (.int d.Dcb.Format),.c .bool (.bool d.Dcb.Blocked),.c .bool (.bool d.Dcb.Asa),.c (.int .i64) (.int d.Dcb.Lrecl),.c (.int .i64) (.int d.Dcb.Blksize),.c (.int .i64) (.int d.Dcb.KeyLen),.c (.int .i64) (.int d.Dcb.KeyPos),.c (.slice 80) (.slice (List.map aj2 d.Extents)),.c (.int .i64) (.int d.Used)]),(9003,.box [.c (.int .i64) (.int 0),.nilsl,.nilsl,.c .bool (.bool false)])]
def azv (n:Nat) (n_:Int) (d:ajc) (flags_1:Int):Option TRec :=
 (akw n d.Dcb.Lrecl).bind fun r1 =>
 gd ((4+r1.length)≤2147483648) <|
 (akw n d.Dcb.Blksize).bind fun r2 =>
 gd (((4+r1.length)+r2.length)≤2147483648) <|
 (akw n d.Dcb.KeyPos).bind fun r3 =>
 gd ((((4+r1.length)+r2.length)+r3.length)≤2147483648) <|
 (akw n d.Used).bind fun r4 =>
 gd (((((4+r1.length)+r2.length)+r3.length)+r4.length)≤2147483648) <|
 gd ((((((4+r1.length)+r2.length)+r3.length)+r4.length)+1)≤2147483648) <|
 (aji (fun (x:(List Int)×Int)=>azu n n_ d (d.Extents.length:Int) x.1 x.2) n (((((([(jc .u8 (d.Dcb.Org)),(jc .u8 (d.Dcb.Format)),flags_1,(jc .u8 (d.Dcb.KeyLen))] ++ r1) ++ r2) ++ r3) ++ r4) ++ [(jc .u8 ((d.Extents.length:Int)))]),0)).bind fun y9 =>
 bq8 n n_ d y9
abbrev czs (n_:Int) (d:ajc) (flags:Int):S:=stB [(0,.c (.int .i64) (.int n_)),(3,.box 9000 0),(4,.box 9001 0),(5,.c (.int .u8) (.int flags))] [(9000,.box [.c .str (.str d.Name),.c (.int .i64) (.int d.Dcb.Org),.c (.int .i64) (.int d.Dcb.Format),.c .bool (.bool d.Dcb.Blocked),.c .bool (.bool d.Dcb.Asa),.c (.int .i64) (.int d.Dcb.Lrecl),.c (.int .i64) (.int d.Dcb.Blksize),.c (.int .i64) (.int d.Dcb.KeyLen),.c (.int .i64) (.int d.Dcb.KeyPos),.c (.slice 80) (.slice (List.map aj2 d.Extents)),.c (.int .i64) (.int d.Used)]),(9001,.box [.c (.int .i64) (.int 0),.nilsl,.nilsl,.c .bool (.bool false)])]
def akz (n:Nat) (n_:Int) (d:ajc) (flags:Int):Option TRec :=
 bif d.Dcb.Asa then
  azv n n_ d (jc .u8 (((BitVec.ofInt (j6 .u8) flags ||| BitVec.ofInt (j6 .u8) 64).toNat:Int)))
 else
  azv n n_ d flags
def bwx (n:Nat) (n_:Int) (d:ajc):Option TRec :=
 bif d.Dcb.Blocked then
  akz n n_ d (jc .u8 (((BitVec.ofInt (j6 .u8) 0 ||| BitVec.ofInt (j6 .u8) 128).toNat:Int)))
 else
  akz n n_ d 0
def recB (b r1 r2 r3 r4:List Int):Nat→List Int
 | 0=>b
 | 1=>b ++ r1
 | 2=>(b ++ r1) ++ r2
 | 3=>((b ++ r1) ++ r2) ++ r3
 | _=>(((b ++ r1) ++ r2) ++ r3) ++ r4
abbrev bzz (n_:Int) (d:ajc) (b:List Int):S:=stB [(0,.c (.int .i64) (.int n_)),(3,.box 9020 0),(4,.box 9021 0),(6,.own 9022 [.int .u8] 0 b.length)] [(9020,.box [.c .str (.str d.Name),.c (.int .i64) (.int d.Dcb.Org),.c (.int .i64) (.int d.Dcb.Format),.c .bool (.bool d.Dcb.Blocked),.c .bool (.bool d.Dcb.Asa),.c (.int .i64) (.int d.Dcb.Lrecl),.c (.int .i64) (.int d.Dcb.Blksize),.c (.int .i64) (.int d.Dcb.KeyLen),.c (.int .i64) (.int d.Dcb.KeyPos),.c (.slice 80) (.slice (List.map aj2 d.Extents)),.c (.int .i64) (.int d.Used)]),(9021,.box [.c (.int .i64) (.int 0),.nilsl,.nilsl,.c .bool (.bool false)]),(9022,.row 5 (List.map ajz b))]
abbrev ajo (n_:Int) (d:ajc) (b:List Int) (k:Int):S:=stB [(0,.c (.int .i64) (.int n_)),(3,.box 9024 0),(4,.box 9025 0),(6,.own 9026 [.int .u8] 0 b.length),(35,.bsl 9027 4),(36,.c (.int .i64) (.int 4)),(37,.c (.int .i64) (.int k))] [(9024,.box [.c .str (.str d.Name),.c (.int .i64) (.int d.Dcb.Org),.c (.int .i64) (.int d.Dcb.Format),.c .bool (.bool d.Dcb.Blocked),.c .bool (.bool d.Dcb.Asa),.c (.int .i64) (.int d.Dcb.Lrecl),.c (.int .i64) (.int d.Dcb.Blksize),.c (.int .i64) (.int d.Dcb.KeyLen),.c (.int .i64) (.int d.Dcb.KeyPos),.c (.slice 80) (.slice (List.map aj2 d.Extents)),.c (.int .i64) (.int d.Used)]),(9025,.box [.c (.int .i64) (.int 0),.nilsl,.nilsl,.c .bool (.bool false)]),(9026,.row 5 (List.map ajz b)),(9027,.box [.box 9024 5,.box 9024 6,.box 9024 8,.box 9024 10])]
def dw6 (n:Nat):Go.AE.Fn:=mkFn (A:=Int×ajc) (R:=TRec) 63 [(false,[.int .i64]),(true,[.str,.int .i64,.int .i64,.bool,.bool,.int .i64,.int .i64,.int .i64,.int .i64,.slice 80,.int .i64])] false (fun xs=>((cg (xs.getD 0 []) 0).toInt,(⟨(cg (xs.getD 1 []) 0).toStr,(⟨(cg (xs.getD 1 []) 1).toInt,(cg (xs.getD 1 []) 2).toInt,(cg (xs.getD 1 []) 3).toBool,(cg (xs.getD 1 []) 4).toBool,(cg (xs.getD 1 []) 5).toInt,(cg (xs.getD 1 []) 6).toInt,(cg (xs.getD 1 []) 7).toInt,(cg (xs.getD 1 []) 8).toInt⟩:TDcb),((cg (xs.getD 1 []) 9).toSl.map ajl),(cg (xs.getD 1 []) 10).toInt⟩:ajc))) (fun a=>[[.int a.1],[.str a.2.Name,.int a.2.Dcb.Org,.int a.2.Dcb.Format,.bool a.2.Dcb.Blocked,.bool a.2.Dcb.Asa,.int a.2.Dcb.Lrecl,.int a.2.Dcb.Blksize,.int a.2.Dcb.KeyLen,.int a.2.Dcb.KeyPos,.slice (List.map aj2 a.2.Extents),.int a.2.Used]]) (fun a=>bwx n a.1 a.2) (fun r=>[.agg [.c (.int .i64) (.int r.R),.own 0 [.int .u8] 0 r.Key.length,.own 1 [.int .u8] 0 r.Data.length,.c .bool (.bool r.Bad)]]) (fun r=>[.row 5 (List.map ajz r.Key),.row 5 (List.map ajz r.Data)])
theorem ekv (n:Nat):aj1 jd (dw6 n):=by
 have hΓ:=g1 (ej4 n) (g1 (dyp n) (@g0 (aj1 jd)))
 have qe:=aI @bka.eq_1 @bkr.eq_1
 refine aj7 (Tryz.f63.body.getD .skip) h00 Tryz.func63 rfl Tryz.call63 (by decide) (fun _ r=>⟨rfl,m1 ⟨5,_,_,rfl,ty5,rfl⟩ (m1 ⟨5,_,_,rfl,ty5,rfl⟩ m0)⟩) ?_
 rintro ⟨n_,d⟩ r H
 try dsimp only at H
 unfold bwx at H
 simp only [Tryz.f63,jt]
 refine rA ?_
 refine rA ?_
 refine j1 (fun (x:Int)=>czs n_ d x) (fun x=>akz n n_ d x=some r) ?_ ?_
 ·refine rA ?_
  refine cnd H (fun h26 H=>?_) (fun h26 H=>?_)
  ·refine eA ?_
   refine lf ?_
   exact ⟨_,H,wb [some 48,some 64]⟩
  refine js ?_
  refine lf ?_
  exact ⟨_,H,wb [some 48,some 64]⟩
 rintro flags H
 try dsimp only at H
 unfold akz at H
 refine Sm.st (czs.eq_1 ..) ?_
 refine j1 (fun (x:Int)=>czk n_ d x) (fun x=>azv n n_ d x=some r) ?_ ?_
 ·refine rA ?_
  refine cnd H (fun h24 H=>?_) (fun h24 H=>?_)
  ·refine eA ?_
   refine lf ?_
   exact ⟨_,H,wb [some 9000,some 9001]⟩
  refine js ?_
  refine lf ?_
  exact ⟨_,H,wb [some 9000,some 9001]⟩
 rintro flags_1 H
 try dsimp only at H
 unfold azv at H
 refine Sm.st (czk.eq_1 ..) ?_
 refine rA ?_
 obtain ⟨r1,hr1,H⟩:=bind_some H
 obtain ⟨hg19,H⟩:=aj4 H
 obtain ⟨r2,hr2,H⟩:=bind_some H
 obtain ⟨hg20,H⟩:=aj4 H
 obtain ⟨r3,hr3,H⟩:=bind_some H
 obtain ⟨hg21,H⟩:=aj4 H
 obtain ⟨r4,hr4,H⟩:=bind_some H
 obtain ⟨hg22,H⟩:=aj4 H
 refine j1 (X:=Unit) (fun _=>bzz n_ d (((([(jc .u8 (d.Dcb.Org)),(jc .u8 (d.Dcb.Format)),flags_1,(jc .u8 (d.Dcb.KeyLen))] ++ r1) ++ r2) ++ r3) ++ r4)) (fun _=>True) ?_ ?_
 ·refine sX fun K1 hK1=>?_
  refine oM (ewi d) [9002] [560] ?_
  refine oE cjy ?_ (by intro K hK;simp only [z,seval,dzp,bsO,dya,fzc,fz4];(repeat first | refine gcI ?_ | intro (_:_≤_));exact hK)
  refine oX ?_
  refine hK1 _ ?_
  refine jw ?_
  refine Sm.loop (fun k=>ajo n_ d (recB [(jc .u8 (d.Dcb.Org)),(jc .u8 (d.Dcb.Format)),flags_1,(jc .u8 (d.Dcb.KeyLen))] r1 r2 r3 r4 k) k) (fun k=>k≤4) (fun k=>4 - k) 0 (by omega) (by show Weak _ _ _ (ajo n_ d [(jc .u8 (d.Dcb.Org)),(jc .u8 (d.Dcb.Format)),flags_1,(jc .u8 (d.Dcb.KeyLen))] 0);exact wb [some 9002,some 9003,some 544,some 560]) ?_
  intro k hk
  have hkk:k=0∨k=1∨k=2∨k=3∨k=4:=by omega
  rcases hkk with rfl | rfl | rfl | rfl | rfl
  ·refine Sm.st (show _=ajo n_ d (recB [(jc .u8 (d.Dcb.Org)),(jc .u8 (d.Dcb.Format)),flags_1,(jc .u8 (d.Dcb.KeyLen))] r1 r2 r3 r4 0) 0 from rfl) ?_
   refine Sm.st (ajo.eq_1 ..) ?_
   have hn:recB [(jc .u8 (d.Dcb.Org)),(jc .u8 (d.Dcb.Format)),flags_1,(jc .u8 (d.Dcb.KeyLen))] r1 r2 r3 r4 1=recB [(jc .u8 (d.Dcb.Org)),(jc .u8 (d.Dcb.Format)),flags_1,(jc .u8 (d.Dcb.KeyLen))] r1 r2 r3 r4 0 ++ r1:=rfl
   obtain ⟨bb,hB⟩:∃ bb,bb=recB [(jc .u8 (d.Dcb.Org)),(jc .u8 (d.Dcb.Format)),flags_1,(jc .u8 (d.Dcb.KeyLen))] r1 r2 r3 r4 0:=⟨_,rfl⟩
   have hl:bb.length+r1.length≤2147483648:=by rw [hB];simp only [recB,ji,jC,j5];omega
   rw [← hB] at hn ⊢
   clear hB
   refine rA ?_
   refine jp fun K11 hK11=>?_
   refine cndT ?_
   refine js ?_
   refine hK11 _ ?_
   refine jp fun K13 hK13=>?_
   refine jw ?_
   refine sX fun K14 hK14=>?_
   refine oE cjy ?_ (by intro K hK;simp only [z,seval,dzp,bsO,dya,fzc,fz4];(repeat first | refine gcI ?_ | intro (_:_≤_));exact hK)
   refine oX ?_ (by intro K hK;simp only [z,seval,dya];(repeat first | refine gcI ?_ | intro (_:_≤_));exact hK)
   refine oX ?_
   refine hK14 _ ?_
   refine eX ?_
   have q:=aI qe hr1
   iterate 2 refine oX ?_
   refine oE ay5 ?_
   iterate 4 refine oXq ?_
   refine fzh ?_
   refine hK13 _ ?_
   refine eA ?_
   refine lf ?_
   have hw:jc .i64 1=1:=by decide
   refine ⟨1,by omega,by omega,?_⟩
   show Weak _ _ _ (ajo n_ d (recB [(jc .u8 (d.Dcb.Org)),(jc .u8 (d.Dcb.Format)),flags_1,(jc .u8 (d.Dcb.KeyLen))] r1 r2 r3 r4 1) 1)
   rw [hn]
   exact wb [some 9024,some 9025,some 736,some 9027] (hL:=by simp only [wk,z,seval,hw])
  ·refine Sm.st (show _=ajo n_ d (recB [(jc .u8 (d.Dcb.Org)),(jc .u8 (d.Dcb.Format)),flags_1,(jc .u8 (d.Dcb.KeyLen))] r1 r2 r3 r4 1) 1 from rfl) ?_
   refine Sm.st (ajo.eq_1 ..) ?_
   have hn:recB [(jc .u8 (d.Dcb.Org)),(jc .u8 (d.Dcb.Format)),flags_1,(jc .u8 (d.Dcb.KeyLen))] r1 r2 r3 r4 2=recB [(jc .u8 (d.Dcb.Org)),(jc .u8 (d.Dcb.Format)),flags_1,(jc .u8 (d.Dcb.KeyLen))] r1 r2 r3 r4 1 ++ r2:=rfl
   obtain ⟨bb,hB⟩:∃ bb,bb=recB [(jc .u8 (d.Dcb.Org)),(jc .u8 (d.Dcb.Format)),flags_1,(jc .u8 (d.Dcb.KeyLen))] r1 r2 r3 r4 1:=⟨_,rfl⟩
   have hl:bb.length+r2.length≤2147483648:=by rw [hB];simp only [recB,ji,jC,j5];omega
   rw [← hB] at hn ⊢
   clear hB
   refine rA ?_
   refine jp fun K11 hK11=>?_
   refine cndT ?_
   refine js ?_
   refine hK11 _ ?_
   refine jp fun K13 hK13=>?_
   refine jw ?_
   refine sX fun K14 hK14=>?_
   refine oE cjy ?_ (by intro K hK;simp only [z,seval,dzp,bsO,dya,fzc,fz4];(repeat first | refine gcI ?_ | intro (_:_≤_));exact hK)
   refine oX ?_ (by intro K hK;simp only [z,seval,dya];(repeat first | refine gcI ?_ | intro (_:_≤_));exact hK)
   refine oX ?_
   refine hK14 _ ?_
   refine eX ?_
   have q:=aI qe hr2
   iterate 2 refine oX ?_
   refine oE ay5 ?_
   iterate 4 refine oXq ?_
   refine fzh ?_
   refine hK13 _ ?_
   refine eA ?_
   refine lf ?_
   have hw:jc .i64 2=2:=by decide
   refine ⟨2,by omega,by omega,?_⟩
   show Weak _ _ _ (ajo n_ d (recB [(jc .u8 (d.Dcb.Org)),(jc .u8 (d.Dcb.Format)),flags_1,(jc .u8 (d.Dcb.KeyLen))] r1 r2 r3 r4 2) 2)
   rw [hn]
   exact wb [some 9024,some 9025,some 736,some 9027] (hL:=by simp only [wk,z,seval,hw])
  ·refine Sm.st (show _=ajo n_ d (recB [(jc .u8 (d.Dcb.Org)),(jc .u8 (d.Dcb.Format)),flags_1,(jc .u8 (d.Dcb.KeyLen))] r1 r2 r3 r4 2) 2 from rfl) ?_
   refine Sm.st (ajo.eq_1 ..) ?_
   have hn:recB [(jc .u8 (d.Dcb.Org)),(jc .u8 (d.Dcb.Format)),flags_1,(jc .u8 (d.Dcb.KeyLen))] r1 r2 r3 r4 3=recB [(jc .u8 (d.Dcb.Org)),(jc .u8 (d.Dcb.Format)),flags_1,(jc .u8 (d.Dcb.KeyLen))] r1 r2 r3 r4 2 ++ r3:=rfl
   obtain ⟨bb,hB⟩:∃ bb,bb=recB [(jc .u8 (d.Dcb.Org)),(jc .u8 (d.Dcb.Format)),flags_1,(jc .u8 (d.Dcb.KeyLen))] r1 r2 r3 r4 2:=⟨_,rfl⟩
   have hl:bb.length+r3.length≤2147483648:=by rw [hB];simp only [recB,ji,jC,j5];omega
   rw [← hB] at hn ⊢
   clear hB
   refine rA ?_
   refine jp fun K11 hK11=>?_
   refine cndT ?_
   refine js ?_
   refine hK11 _ ?_
   refine jp fun K13 hK13=>?_
   refine jw ?_
   refine sX fun K14 hK14=>?_
   refine oE cjy ?_ (by intro K hK;simp only [z,seval,dzp,bsO,dya,fzc,fz4];(repeat first | refine gcI ?_ | intro (_:_≤_));exact hK)
   refine oX ?_ (by intro K hK;simp only [z,seval,dya];(repeat first | refine gcI ?_ | intro (_:_≤_));exact hK)
   refine oX ?_
   refine hK14 _ ?_
   refine eX ?_
   have q:=aI qe hr3
   iterate 2 refine oX ?_
   refine oE ay5 ?_
   iterate 4 refine oXq ?_
   refine fzh ?_
   refine hK13 _ ?_
   refine eA ?_
   refine lf ?_
   have hw:jc .i64 3=3:=by decide
   refine ⟨3,by omega,by omega,?_⟩
   show Weak _ _ _ (ajo n_ d (recB [(jc .u8 (d.Dcb.Org)),(jc .u8 (d.Dcb.Format)),flags_1,(jc .u8 (d.Dcb.KeyLen))] r1 r2 r3 r4 3) 3)
   rw [hn]
   exact wb [some 9024,some 9025,some 736,some 9027] (hL:=by simp only [wk,z,seval,hw])
  ·refine Sm.st (show _=ajo n_ d (recB [(jc .u8 (d.Dcb.Org)),(jc .u8 (d.Dcb.Format)),flags_1,(jc .u8 (d.Dcb.KeyLen))] r1 r2 r3 r4 3) 3 from rfl) ?_
   refine Sm.st (ajo.eq_1 ..) ?_
   have hn:recB [(jc .u8 (d.Dcb.Org)),(jc .u8 (d.Dcb.Format)),flags_1,(jc .u8 (d.Dcb.KeyLen))] r1 r2 r3 r4 4=recB [(jc .u8 (d.Dcb.Org)),(jc .u8 (d.Dcb.Format)),flags_1,(jc .u8 (d.Dcb.KeyLen))] r1 r2 r3 r4 3 ++ r4:=rfl
   obtain ⟨bb,hB⟩:∃ bb,bb=recB [(jc .u8 (d.Dcb.Org)),(jc .u8 (d.Dcb.Format)),flags_1,(jc .u8 (d.Dcb.KeyLen))] r1 r2 r3 r4 3:=⟨_,rfl⟩
   have hl:bb.length+r4.length≤2147483648:=by rw [hB];simp only [recB,ji,jC,j5];omega
   rw [← hB] at hn ⊢
   clear hB
   refine rA ?_
   refine jp fun K11 hK11=>?_
   refine cndT ?_
   refine js ?_
   refine hK11 _ ?_
   refine jp fun K13 hK13=>?_
   refine jw ?_
   refine sX fun K14 hK14=>?_
   refine oE cjy ?_ (by intro K hK;simp only [z,seval,dzp,bsO,dya,fzc,fz4];(repeat first | refine gcI ?_ | intro (_:_≤_));exact hK)
   refine oX ?_ (by intro K hK;simp only [z,seval,dya];(repeat first | refine gcI ?_ | intro (_:_≤_));exact hK)
   refine oX ?_
   refine hK14 _ ?_
   refine eX ?_
   have q:=aI qe hr4
   iterate 2 refine oX ?_
   refine oE ay5 ?_
   iterate 4 refine oXq ?_
   refine fzh ?_
   refine hK13 _ ?_
   refine eA ?_
   refine lf ?_
   have hw:jc .i64 4=4:=by decide
   refine ⟨4,by omega,by omega,?_⟩
   show Weak _ _ _ (ajo n_ d (recB [(jc .u8 (d.Dcb.Org)),(jc .u8 (d.Dcb.Format)),flags_1,(jc .u8 (d.Dcb.KeyLen))] r1 r2 r3 r4 4) 4)
   rw [hn]
   exact wb [some 9024,some 9025,some 736,some 9027] (hL:=by simp only [wk,z,seval,hw])
  ·refine Sm.st (show _=ajo n_ d (recB [(jc .u8 (d.Dcb.Org)),(jc .u8 (d.Dcb.Format)),flags_1,(jc .u8 (d.Dcb.KeyLen))] r1 r2 r3 r4 4) 4 from rfl) ?_
   refine Sm.st (ajo.eq_1 ..) ?_
   refine rA ?_
   refine jp fun K11 hK11=>?_
   refine cndF ?_
   refine jZ ?_
   refine lf ?_
   refine ⟨(),trivial,?_⟩
   show Weak _ _ _ (bzz n_ d (recB [(jc .u8 (d.Dcb.Org)),(jc .u8 (d.Dcb.Format)),flags_1,(jc .u8 (d.Dcb.KeyLen))] r1 r2 r3 r4 4))
   obtain ⟨bb,hB⟩:∃ bb,bb=recB [(jc .u8 (d.Dcb.Org)),(jc .u8 (d.Dcb.Format)),flags_1,(jc .u8 (d.Dcb.KeyLen))] r1 r2 r3 r4 4:=⟨_,rfl⟩
   rw [← hB]
   exact wb [some 9024,some 9025,some 9026]
 rintro ⟨⟩ _
 refine Sm.st (bzz.eq_1 ..) ?_
 obtain ⟨bb,hB⟩:∃ bb,bb=(((([(jc .u8 (d.Dcb.Org)),(jc .u8 (d.Dcb.Format)),flags_1,(jc .u8 (d.Dcb.KeyLen))] ++ r1) ++ r2) ++ r3) ++ r4):=⟨_,rfl⟩
 have hl:bb.length=4+r1.length+r2.length+r3.length+r4.length:=by rw [hB];simp only [ji,jC,j5]
 rw [← hB] at H ⊢
 rw [← hl] at H
 obtain ⟨hg18,H⟩:=aj4 H
 refine rA ?_
 refine j1 (fun (x:(List Int))=>czn n_ d x) (fun x=>bq8 n n_ d x=some r) ?_ ?_
 ·refine rA ?_
  refine jw ?_
  obtain ⟨y9,hy9,Ho9⟩:=bind_some H
  refine jW _ (fun x=>cz3 n_ d (d.Extents.length:Int) x.1 x.2) hy9 (wb [some 9020,some 9021,some 864]) ?_
  rintro ⟨b_1,v58⟩ z9 H
  try dsimp only at H
  unfold azu at H
  refine Sm.st (cz3.eq_1 ..) ?_
  refine rA ?_
  refine jp fun K11 hK11=>?_
  refine cnd H (fun h12 H=>?_) (fun h12 H=>?_)
  ·refine js ?_
   refine hK11 _ ?_
   refine jp fun K13 hK13=>?_
   refine jw ?_
   obtain ⟨hg17,H⟩:=aj4 H
   refine rA ?_
   obtain ⟨r6,hr6,H⟩:=bind_some H
   obtain ⟨hg15,H⟩:=aj4 H
   obtain ⟨r7,hr7,H⟩:=bind_some H
   obtain ⟨hg16,H⟩:=aj4 H
   refine eQ [0,1,2,3,4,5,6,7,8,9] [(none,[],[]),(none,[160],[]),(none,[160],[]),(none,[],[1055,1054,1053,1052,1051,1050,1049,1048,1047,1046,1045,1044,1043,1042,1041,1040]),(none,[1040,9012],[1056,9012]),(none,[160],[]),(none,[160],[]),(none,[],[1119,1118,1117,1116,1115,1114,1113,1112,1111,1110,1109,1108,1107,1106,1105,1104]),(none,[1056,1104],[1120,1056]),(none,[],[])] ?_
   have q:=aI qe (aI hr6 hr7)
   iterate 10 refine oQq ?_
   refine ck2 ?_
   refine hK13 _ ?_
   refine eA ?_
   refine lf ?_
   exact nx H (wb [some 9010,some 9011,some 1120])
  refine jZ ?_
  refine lf ?_
  refine lx H fun hyy=>?_
  subst hyy
  have H:=Ho9
  try dsimp only at H
  refine lf ?_
  exact ⟨_,H,wb [some 9010,some 9011,some 9012]⟩
 rintro b H
 try dsimp only at H
 unfold bq8 at H
 refine Sm.st (czn.eq_1 ..) ?_
 refine sX fun K6 hK6=>?_
 obtain ⟨r5,hr5,H⟩:=bind_some H
 obtain ⟨hg7,H⟩:=aj4 H
 have q:=aI qe hr5
 iterate 8 refine oXq ?_
 refine oE (fyr 9) ?_ (by intro K hK;simp only [z,seval,bka,bkr,hr5,fyk,appZ,un9M,un3M];(repeat first | refine gcI ?_ | intro (_:_≤_));exact hK)
 iterate 2 refine oXq ?_
 refine hK6 _ ?_
 refine jx ?_
 refine lf ?_
 obtain rfl:=Option.some.inj H
 exact rto [some 1200,some 1280]
def rowZ (A:List (List TRec)) (x:List TRec) (m:Nat):List (List C):=List.map aq7 A ++ aq7 x :: aqo m [.z]
theorem fjy (A:List (List TRec)) (x:List TRec) (m:Nat):(rowZ A x m).length=A.length+1+m:=by simp [rowZ,aqo];omega
theorem hqg (m:Nat) (x:List TRec):(aqo (m+1) [C.z]).set 0 (ajw (eg (aqo (m+1) [C.z]) 0) 0 [.slice (List.map aqp x)])=rowZ [] x m:=by
 simp [rowZ,aqo,List.replicate_succ,eg,ajw,aq8,aq7]
theorem fj4 (A:List (List TRec)) (x:List TRec) (m:Nat):eg (rowZ A x m) A.length=[.slice (List.map aqp x)]:=by
 simp [rowZ,eg,ja,aq7]
theorem ekp (A:List (List TRec)) (x:List TRec) (m:Nat):eg (rowZ A x (m+1)) (A.length+1)=[.z]:=by
 simp [rowZ,eg,ja,aqo,List.replicate_succ]
theorem gzs (A:List (List TRec)) (x y:List TRec) (m:Nat):(rowZ A x m).set A.length (ajw (eg (rowZ A x m) A.length) 0 [.slice (List.map aqp y)])=rowZ A y m:=by
 rw [fj4]
 simp [rowZ,ajw,aq8,aq7]
theorem gzq (A:List (List TRec)) (x y:List TRec) (m:Nat):(rowZ A x (m+1)).set (A.length+1) (ajw (eg (rowZ A x (m+1)) (A.length+1)) 0 [.slice (List.map aqp y)])=rowZ (A ++ [x]) y m:=by
 rw [ekp]
 simp [rowZ,ajw,aq8,aq7,aqo,List.replicate_succ]
theorem gwa (A:List (List TRec)) (x:List TRec) (m:Nat):(rowZ A x m).map (nrmL [.slice 87])=List.map aq7 (A ++ [x] ++ aqo m []):=by
 simp [rowZ,aqo,aq7,nrmL,nrm,C.toSl,Function.comp_def]
abbrev cwu (l:List (List TRec)):S:=stB [(8,.own 9002 [.slice 87] 0 l.length)] [(9002,.row 84 (List.map aq7 l))]
def bzw (n:Nat) (l:List (List TRec)):Option ((List (List TRec))×Int) :=
 some (l,0)
abbrev aku (v:aja) (A:List (List TRec)) (x:List TRec) (m:Nat) (v58:Int):S:=stB [(8,.own 9004 [.slice 87] 0 (A.length+1+m)),(56,.c (.slice 41) (.slice (List.map aj5 v.Sets))),(57,.c (.int .i64) (.int (v.Sets.length:Int))),(58,.c (.int .i64) (.int v58))] [(9004,.rl 84 (rowZ A x m) A.length 0 (.own 9005 [.int .i64,.slice 5,.slice 5,.bool] 0 x.length)),(9005,.row 87 (List.map aqp x))]
def awo (n:Nat) (v:aja) (A:List (List TRec)) (x:List TRec) (m:Nat) (v58:Int):Option ((List (List TRec)×List TRec×Nat×Int) ⊕ (List (List TRec))) :=
 bif (decide (v58 < (v.Sets.length:Int))) then
  gd ((0≤v58∧v58 < (v.Sets.length:Int))) <|
  (bwx n (jc .i64 ((Int.tmod v58 14)+1)) (gt v.Sets (Int.toNat v58))).bind fun r6 =>
  gd (x.length+1≤2147483648∧A.length+1+m≤2147483648) <|
  bif decide (jc .i64 (1+(jc .i64 (Int.tdiv v58 14)))=(A.length:Int)) then
   some (.inl (A,x ++ [r6],m,(jc .i64 (v58+1))))
  else
   gd (jc .i64 (1+(jc .i64 (Int.tdiv v58 14)))=((A.length+1:Nat):Int)∧0 < m) <|
   some (.inl (A ++ [x],[r6],m - 1,(jc .i64 (v58+1))))
 else
  some (.inr (A ++ [x] ++ aqo m []))
abbrev czh (v:aja) (b:List Int):S:=stB [(1,.box 9000 0),(5,.own 9001 [.int .u8] 0 b.length)] [(9000,.box [.c .str (.str v.Serial),.c (.int .i64) (.int v.Cyls),.c (.int .i64) (.int v.Heads),.c (.int .i64) (.int v.Size),.c (.slice 41) (.slice (List.map aj5 v.Sets))]),(9001,.row 5 (List.map ajz b))]
def bq9 (n:Nat) (v:aja) (b:List Int):Option ((List (List TRec))×Int) :=
 (bjk n [] (jc .i64 (80 - ((b.length:Nat):Int)))).bind fun r4 =>
 gd ((b.length+r4.length)≤2147483648) <|
 gd ((0≤(jc .i64 (v.Size+1))∧(jc .i64 (v.Size+1))≤(jc .i64 (v.Size+1))∧(jc .i64 (v.Size+1))≤2147483648)) <|
 (bjk n [86,79,76,49] 4).bind fun r5 =>
 gd (0 < ((Int.toNat (jc .i64 (v.Size+1))):Int)∧0 < (Int.toNat (jc .i64 (v.Size+1)))) <|
 (aji (fun (x:List (List TRec)×List TRec×Nat×Int)=>awo n v x.1 x.2.1 x.2.2.1 x.2.2.2) n ([],[(⟨3,r5,(b ++ r4),false⟩:TRec)],(Int.toNat (jc .i64 (v.Size+1))) - 1,0)).bind fun y15 =>
 bzw n y15
abbrev cz0 (v:aja) (v28:List Int) (b_1:List Int) (v30:Int):S:=stB [(1,.box 9008 0),(5,.own 9009 [.int .u8] 0 b_1.length),(28,.own 9010 [.int .i64] 0 v28.length),(29,.c (.int .i64) (.int 3)),(30,.c (.int .i64) (.int v30))] [(9008,.box [.c .str (.str v.Serial),.c (.int .i64) (.int v.Cyls),.c (.int .i64) (.int v.Heads),.c (.int .i64) (.int v.Size),.c (.slice 41) (.slice (List.map aj5 v.Sets))]),(9009,.row 5 (List.map ajz b_1)),(9010,.row 3 (List.map ajz v28))]
def ay1 (n:Nat) (v:aja) (v28:List Int) (b_1:List Int) (v30:Int):Option (((List Int)×Int) ⊕ (((List Int)))) :=
 bif (decide (v30 < 3)) then
  gd ((0≤v30∧v30 < (v28.length:Int))∧(Int.toNat v30) < v28.length) <|
  (akw n (gt v28 (Int.toNat v30))).bind fun r7 =>
  gd ((b_1.length+r7.length)≤2147483648) <|
  some (.inl ((b_1 ++ r7),(jc .i64 (v30+1))))
 else
  some (.inr b_1)
def bwt (n:Nat) (v:aja):Option ((List (List TRec))×Int) :=
 (awd n v).bind fun r1 =>
 bif (r1 != 0) then
  some ([],r1)
 else
  (bjk n [86,79,76,49] 4).bind fun r2 =>
  (bjk n v.Serial 6).bind fun r3 =>
  gd ((r2.length+r3.length)≤2147483648) <|
  (aji (fun (x:(List Int)×Int)=>ay1 n v [v.Cyls,v.Heads,v.Size] x.1 x.2) n ((r2 ++ r3),0)).bind fun y32 =>
  bq9 n v y32
def dqp (n:Nat):Go.AE.Fn:=mkFn (A:=aja) (R:=(List (List TRec))×Int) 28 [(true,[.str,.int .i64,.int .i64,.int .i64,.slice 41])] true (fun xs=>(⟨(cg (xs.getD 0 []) 0).toStr,(cg (xs.getD 0 []) 1).toInt,(cg (xs.getD 0 []) 2).toInt,(cg (xs.getD 0 []) 3).toInt,((cg (xs.getD 0 []) 4).toSl.map aql)⟩:aja)) (fun a=>[[.str a.Serial,.int a.Cyls,.int a.Heads,.int a.Size,.slice (List.map aj5 a.Sets)]]) (fun a=>bwt n a) (fun r=>[.own 0 [.slice 87] 0 r.1.length,.c (.int .i64) (.int r.2)]) (fun r=>[.row 84 (List.map aq7 r.1)])
theorem ezi (n:Nat):aj1 jd (dqp n):=by
 have hΓ:=g1 (bwy n) (g1 (dyp n) (g1 (ej4 n) (g1 (ekv n) (@g0 (aj1 jd)))))
 have qe:=aI @ayd.eq_1 (aI @bkr.eq_1 @bka.eq_1)
 refine aj7 (Tryz.f28.body.getD .skip) h00 Tryz.func28 rfl Tryz.call28 (by decide) (by intro h;cases h) ?_
 rintro v r H
 try dsimp only at H
 unfold bwt at H
 simp only [Tryz.f28,jt]
 refine rA ?_
 refine jp fun K2 hK2=>?_
 obtain ⟨r1,hr1,H⟩:=bind_some H
 have q:=aI qe hr1
 refine rAq ?_
 refine rA ?_
 refine cnd H (fun h5 H=>?_) (fun h5 H=>?_)
 ·refine rA ?_
  refine jx ?_
  refine lf ?_
  obtain rfl:=Option.some.inj H
  exact rto [none]
 refine js ?_
 refine hK2 _ ?_
 obtain ⟨r2,hr2,H⟩:=bind_some H
 obtain ⟨r3,hr3,H⟩:=bind_some H
 obtain ⟨hg8,H⟩:=aj4 H
 refine sQ [0,1,2,3,4,5] [(none,[],[287,286,285,284,283,282,281,280,279,278,277,276,275,274,273,272]),(none,[16],[]),(none,[16],[]),(none,[],[335,334,333,332,331,330,329,328,327,326,325,324,323,322,321,320]),(none,[272,320],[336,272]),(none,[],[])] fun K7 hK7=>?_
 have q:=aI qe (aI hr2 hr3)
 iterate 6 refine oQq ?_
 refine ck2 ?_
 refine hK7 _ ?_
 refine j1 (fun (x:(List Int))=>czh v x) (fun x=>bq9 n v x=some r) ?_ ?_
 ·refine rA ?_
  refine jw ?_
  obtain ⟨y32,hy32,Ho32⟩:=bind_some H
  refine jW _ (fun x=>cz0 v [v.Cyls,v.Heads,v.Size] x.1 x.2) hy32 (wb [some 16,some 336,some 448]) ?_
  rintro ⟨b_1,v30⟩ z32 H
  try dsimp only at H
  unfold ay1 at H
  refine Sm.st (cz0.eq_1 ..) ?_
  refine rA ?_
  refine jp fun K34 hK34=>?_
  refine cnd H (fun h35 H=>?_) (fun h35 H=>?_)
  ·refine js ?_
   refine hK34 _ ?_
   refine jp fun K36 hK36=>?_
   refine jw ?_
   obtain ⟨⟨hg39,hg40⟩,H⟩:=aj4 H
   refine rA ?_
   obtain ⟨r7,hr7,H⟩:=bind_some H
   obtain ⟨hg38,H⟩:=aj4 H
   have q:=aI qe hr7
   refine eAq ?_
   refine hK36 _ ?_
   refine eA ?_
   refine lf ?_
   exact nx H (wb [some 9008,some 592,some 9010])
  refine jZ ?_
  refine lf ?_
  refine lx H fun hyy=>?_
  subst hyy
  have H:=Ho32
  try dsimp only at H
  refine lf ?_
  exact ⟨_,H,wb [some 9008,some 9009]⟩
 rintro b H
 try dsimp only at H
 unfold bq9 at H
 refine Sm.st (czh.eq_1 ..) ?_
 obtain ⟨r4,hr4,H⟩:=bind_some H
 obtain ⟨hg30,H⟩:=aj4 H
 have q:=aI qe hr4
 refine rAq ?_
 refine sX fun K10 hK10=>?_
 obtain ⟨hg11,H⟩:=aj4 H
 iterate 3 refine oX ?_
 refine oE fyp ?_ (by intro K hK;simp only [z,seval,gqw,gz0];(repeat first | refine gcI ?_ | intro (_:_≤_));exact hK)
 refine oX ?_
 refine hK10 _ ?_
 obtain ⟨r5,hr5,H⟩:=bind_some H
 obtain ⟨⟨hg28,hg29⟩,H⟩:=aj4 H
 obtain ⟨M,hM⟩:∃ M,Int.toNat (jc .i64 (v.Size+1))=M+1:=⟨Int.toNat (jc .i64 (v.Size+1)) - 1,by omega⟩
 rw [hM] at H hg28 hg29 ⊢
 refine sX fun K12 hK12=>?_
 have q:=aI qe hr5
 iterate 6 refine oXq ?_
 refine oE (dzc h00) ?_ (by intro K hK;simp only [z,seval,ekt,opRL,dq4,ewd,cyk,hg29];(repeat first | refine gcI ?_ | intro (_:_≤_));exact hK)
 refine hK12 _ ?_
 refine j1 (fun (x:(List (List TRec)))=>cwu x) (fun x=>bzw n x=some r) ?_ ?_
 ·refine rA ?_
  refine jw ?_
  obtain ⟨y15,hy15,Ho15⟩:=bind_some H
  refine jW _ (fun x=>aku v x.1 x.2.1 x.2.2.1 x.2.2.2) hy15 ?_ ?_
  ·show Weak _ _ _ (aku v [] [(⟨3,r5,(b ++ r4),false⟩:TRec)] M 0)
   exact wb [some 768,some 848] (hL:=by (simp only [wk,z,seval];omega)) (hH:=by (simp only [wk,z,seval];exact hqg M [⟨3,r5,b ++ r4,false⟩]))
  rintro ⟨A,x,m,v58⟩ z15 H
  try dsimp only at H
  unfold awo at H
  refine Sm.st (aku.eq_1 ..) ?_
  refine rA ?_
  refine jp fun K17 hK17=>?_
  refine cnd H (fun h18 H=>?_) (fun h18 H=>?_)
  ·refine js ?_
   refine hK17 _ ?_
   refine jp fun K19 hK19=>?_
   refine jw ?_
   obtain ⟨hg27,H⟩:=aj4 H
   refine rA ?_
   refine rA ?_
   obtain ⟨r6,hr6,H⟩:=bind_some H
   obtain ⟨⟨hg22,hg23⟩,H⟩:=aj4 H
   have q0:=aI @ayd.eq_1 (aI @bkr.eq_1 (aI @bka.eq_1 (aI @dw6.eq_1 hr6)))
   refine bqo H (fun h30 H=>?_) (fun h30 H=>?_)
   ·have hn:jc .i64 (1+(jc .i64 (Int.tdiv v58 14)))=(A.length:Int):=by simpa using h30
    have hA:(0:Int)≤(A.length:Int)∧(A.length:Int) < ((A.length+1+m:Nat):Int):=by omega
    have hA2:A.length < A.length+1+m:=by omega
    have hA3:A.length < (rowZ A x m).length:=by rw [fjy];omega
    have q:=aI hn (aI hA (aI hA2 (aI hA3 (aI (Int.toNat_natCast A.length) q0))))
    refine eQ [0,1,2,3,4,5,6,7,8,9,10,11,12,13,14] [(none,[],[]),(none,[],[]),(none,[],[]),(none,[],[]),(none,[1000001,9004],[]),(none,[1000001,9004],[]),(none,[],[]),(none,[],[]),(none,[],[]),(none,[160],[]),(none,[],[1231,1230,1229,1228,1227,1226,1225,1224,1223,1222,1221,1220,1219,1218,1217,1216]),(none,[1216,1217],[1232,1216,1217]),(none,[1232,9005],[1248,9005]),(none,[1000001,9004],[]),(none,[1000001,1248,9004],[1248,9004])] ?_
    iterate 4 refine oQ ?_
    iterate 2 refine oQVq ?_
    iterate 7 refine oQq ?_
    iterate 2 refine oQVq ?_
    refine ck2 ?_
    refine hK19 _ ?_
    refine eA ?_
    refine lf ?_
    refine nx H ?_
    show Weak _ _ _ (aku v A (x ++ [r6]) m (jc .i64 (v58+1)))
    exact wb [some 9004,some 1248] (hH:=by (simp only [wk,z,seval];exact gzs A x (x ++ [r6]) m))
   ·obtain ⟨⟨hn,hm⟩,H⟩:=aj4 H
    obtain ⟨m',rfl⟩:∃ m',m=m'+1:=⟨m - 1,by omega⟩
    refine Sm.weak ((wbf (L:=[(8,.own 9014 [.slice 87] 0 (A.length+1+(m'+1))),(9,.c (.int .i64) (.int v58)),(10,.box 9015 0),(11,.c (.int .i64) (.int ((A.length+1:Nat):Int))),(56,.c (.slice 41) (.slice (List.map aj5 v.Sets))),(57,.c (.int .i64) (.int (v.Sets.length:Int))),(58,.c (.int .i64) (.int v58))]) (bs:=[(9014,.row 84 (rowZ A x (m'+1))),(9015,.box [.c .str (.str (gt v.Sets (Int.toNat v58)).Name),.c (.int .i64) (.int (gt v.Sets (Int.toNat v58)).Dcb.Org),.c (.int .i64) (.int (gt v.Sets (Int.toNat v58)).Dcb.Format),.c .bool (.bool (gt v.Sets (Int.toNat v58)).Dcb.Blocked),.c .bool (.bool (gt v.Sets (Int.toNat v58)).Dcb.Asa),.c (.int .i64) (.int (gt v.Sets (Int.toNat v58)).Dcb.Lrecl),.c (.int .i64) (.int (gt v.Sets (Int.toNat v58)).Dcb.Blksize),.c (.int .i64) (.int (gt v.Sets (Int.toNat v58)).Dcb.KeyLen),.c (.int .i64) (.int (gt v.Sets (Int.toNat v58)).Dcb.KeyPos),.c (.slice 80) (.slice (List.map aj2 (gt v.Sets (Int.toNat v58)).Extents)),.c (.int .i64) (.int (gt v.Sets (Int.toNat v58)).Used)])]) [9005] [some 9004,some 160] (hL:=by (simp only [wk,z,seval,hn])) (hH:=by (simp only [wk,z,seval,bkn,zipH,subB,sub,kdAt,freezeAll,freeze1,fj4]))).trans (fw8 (id:=9014) (i:=A.length+1) rfl (ekp A x m') (by rw [ty84];rfl))) ?_
    have hA:(0:Int)≤((A.length+1:Nat):Int)∧((A.length+1:Nat):Int) < ((A.length+1+(m'+1):Nat):Int):=by omega
    have hA2:A.length+1 < A.length+1+(m'+1):=by omega
    have hA3:A.length+1 < (rowZ A x (m'+1)).length:=by rw [fjy];omega
    have q:=aI hA (aI hA2 (aI hA3 (aI (Int.toNat_natCast (A.length+1)) q0)))
    refine eQ [0,1,2,3,4,5,6,7,8,9,10,11,12,13,14] [(none,[],[]),(none,[],[]),(none,[],[]),(none,[],[]),(none,[1000001,9014],[]),(none,[1000001,9014],[]),(none,[],[]),(none,[],[]),(none,[],[]),(none,[9015],[]),(none,[],[1231,1230,1229,1228,1227,1226,1225,1224,1223,1222,1221,1220,1219,1218,1217,1216]),(none,[1216,1217],[1232,1216,1217]),(none,[1232],[1248]),(none,[1000001,9014],[]),(none,[1000001,1248,9014],[1248,9014])] ?_
    iterate 4 refine oQ ?_
    iterate 2 refine oQVq ?_
    iterate 7 refine oQq ?_
    iterate 2 refine oQVq ?_
    refine ck2 ?_
    refine hK19 _ ?_
    refine eA ?_
    refine lf ?_
    refine nx H ?_
    show Weak _ _ _ (aku v (A ++ [x]) [r6] m' (jc .i64 (v58+1)))
    exact wb [some 9014,some 1248] (hL:=by (simp only [wk,z,seval];omega)) (hH:=by (simp only [wk,z,seval];exact gzq A x [r6] m'))
  refine jZ ?_
  refine lf ?_
  refine lx H fun hyy=>?_
  subst hyy
  have H:=Ho15
  try dsimp only at H
  refine lf ?_
  refine ⟨_,H,?_⟩
  refine (wbf (L:=[(8,.own 9014 [.slice 87] 0 (A.length+1+m))]) (bs:=[(9014,.row 84 (rowZ A x m))]) [9005] [some 9004] (hH:=by (simp only [wk,z,seval,bkn,zipH,subB,sub,kdAt,freezeAll,freeze1,fj4]))).trans ((gzc (id:=9014) (es:=rowZ A x m) rfl ty84).trans ?_)
  refine wb [some 9014] (hL:=by (simp only [wk,z,seval])) (hH:=by (simp only [wk,z,seval,gwa]))
 rintro l H
 try dsimp only at H
 unfold bzw at H
 refine Sm.st (cwu.eq_1 ..) ?_
 refine rA ?_
 refine jx ?_
 refine lf ?_
 obtain rfl:=Option.some.inj H
 exact rto [some 9002]
end Go.Proofs.YtijnkhcfondehaaGreatDoor
