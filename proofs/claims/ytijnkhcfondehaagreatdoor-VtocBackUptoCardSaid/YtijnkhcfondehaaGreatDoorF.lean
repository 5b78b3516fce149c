/- Text. -/
import Derived.Test.YtijnkhcfondehaaGreatDoorF1
set_option maxHeartbeats 8000000
set_option linter.unusedVariables false
set_option linter.unusedSimpArgs false
set_option maxRecDepth 100000
open _root_.Int renaming tmod→Jr
open Go.IntKind renaming wrap→jb,bits→jj
open _root_.Nat renaming le_of_ble_eq_true→jp
open _root_.Option renaming getD→jz
open Go.AE.Sm renaming seqK→js,ret→jC,skip→jy,cut→Jp,block→jN,loopB→Jl,exit→Js
open Go.Proofs.Tryz renaming prog→jd
namespace Go.Proofs.YtijnkhcfondehaaGreatDoor
open Go.AE
def bj9 (n:Nat) (d:List aj5) (d_i:Nat) (p1:Int) (p1_:Int) (p1__:Bool) (p1___:Bool) (p1____:Int) (p1_____:Int) (p1______:Int) (p1_______:Int) (p2:Int):Option (Int×(List aj5)) :=
 (aqn n (⟨p1,p1_,p1__,p1___,p1____,p1_____,p1______,p1_______⟩:TDcb)).bind fun r1 =>
 bif (!r1) then
  some (1,d)
 else
  gd (d_i < d.length) <|
  (bjp n ((gt d d_i).Extents)).bind fun r2 =>
  (aq6 n p2 0 r2).bind fun r3 =>
  bif (!r3) then
   some (6,d)
  else
   gd (d_i < d.length∧d_i < d.length) <|
   some (0,(List.set (List.set d d_i (⟨(gt d d_i).Name,(⟨p1,p1_,p1__,p1___,p1____,p1_____,p1______,p1_______⟩:TDcb),(gt d d_i).Extents,(gt d d_i).Used⟩:aj5)) d_i (⟨(gt (List.set d d_i (⟨(gt d d_i).Name,(⟨p1,p1_,p1__,p1___,p1____,p1_____,p1______,p1_______⟩:TDcb),(gt d d_i).Extents,(gt d d_i).Used⟩:aj5)) d_i).Name,((gt (List.set d d_i (⟨(gt d d_i).Name,(⟨p1,p1_,p1__,p1___,p1____,p1_____,p1______,p1_______⟩:TDcb),(gt d d_i).Extents,(gt d d_i).Used⟩:aj5)) d_i).Dcb),(gt (List.set d d_i (⟨(gt d d_i).Name,(⟨p1,p1_,p1__,p1___,p1____,p1_____,p1______,p1_______⟩:TDcb),(gt d d_i).Extents,(gt d d_i).Used⟩:aj5)) d_i).Extents,p2⟩:aj5)))
theorem djh (n:Nat) (d:List aj5) (d_i:Nat) (p1:Int) (p1_:Int) (p1__:Bool) (p1___:Bool) (p1____:Int) (p1_____:Int) (p1______:Int) (p1_______:Int) (p2:Int) (r:Int×(List aj5)) (H:bj9 n d d_i p1 p1_ p1__ p1___ p1____ p1_____ p1______ p1_______ p2=some r):aw8 jd 98 [.ref (.elt 0 11 kD d_i 0),.ref (.box 1 0),.ref (.box 2 0)] [.row 41 (List.map aj4 d),.box [.c (.int .i64) (.int p1),.c (.int .i64) (.int p1_),.c .bool (.bool p1__),.c .bool (.bool p1___),.c (.int .i64) (.int p1____),.c (.int .i64) (.int p1_____),.c (.int .i64) (.int p1______),.c (.int .i64) (.int p1_______)],.box [.c (.int .i64) (.int p2)]] [.c (.int .i64) (.int r.1)] [.row 41 (List.map aj4 r.2),.box [.c (.int .i64) (.int p1),.c (.int .i64) (.int p1_),.c .bool (.bool p1__),.c .bool (.bool p1___),.c (.int .i64) (.int p1____),.c (.int .i64) (.int p1_____),.c (.int .i64) (.int p1______),.c (.int .i64) (.int p1_______)],.box [.c (.int .i64) (.int p2)]]:=by
 have hΓ:=g1 (bk3 n) (g1 (cyq n) (g1 (dz6 n) (@g0 (aj1 jd))));have qe:=aI @bq7.eq_1 (aI @cjh.eq_1 @cky.eq_1);refine aw9 (Tryz.f98.body.getD .skip) h00 Tryz.func98 rfl Tryz.call98 (jp rfl) (jp rfl) ?_;unfold bj9 at H;simp only [Tryz.f98,jz];refine rA ?_;refine js fun K2 hK2=>?_;obtain ⟨r1,hr1,H⟩:=bind_some H;have q:=aI qe hr1;refine rAq ?_;refine cnd H (fun h4 H=>?_) (fun h4 H=>?_)
 ·refine rA ?_;refine jC (lf ?_);obtain rfl:=sI H;exact rtM [some 0,some 1,some 2]
 refine jy (hK2 _ (js fun K6 hK6=>?_));obtain ⟨hg8,H⟩:=aj8 H;obtain ⟨r2,hr2,H⟩:=bind_some H;obtain ⟨r3,hr3,H⟩:=bind_some H;refine sQ [0,1,2,3,4,5,6,7] [(none,[2],[]),(none,[],[]),(none,[1000001,0],[]),(none,[0],[]),(none,[0],[]),(none,[],[223,222,221,220,219,218,217,216,215,214,213,212,211,210,209,208]),(none,[],[239,238,237,236,235,234,233,232,231,230,229,228,227,226,225,224]),(none,[],[])] fun K7 hK7=>?_;have q:=aI qe (aI hr2 hr3)
 iterate 2 refine oQq ?_
 refine oQVq ?_
 iterate 5 refine oQq ?_
 refine cz0 ?_;refine hK7 _ ?_;refine cnd H (fun h9 H=>?_) (fun h9 H=>?_)
 ·refine rA ?_;refine jC (lf ?_);obtain rfl:=sI H;exact rtM [some 0,some 1,some 2]
 refine jy (hK6 _ ?_);obtain ⟨⟨hg12,hg13⟩,H⟩:=aj8 H;refine sQ [0,1,2,3,4,5,6,7,8,9] [(none,[],[]),(none,[],[]),(none,[1],[]),(none,[2],[]),(none,[1000001,0],[]),(none,[0],[]),(none,[0],[0]),(none,[1000001,0],[]),(none,[0],[]),(none,[0],[0])] fun K11 hK11=>?_
 iterate 4 refine oQ ?_
 refine oQV ?_
 iterate 2 refine oQ ?_
 refine oQV ?_
 iterate 2 refine oQ ?_
 refine cz0 ?_;refine hK11 _ ?_;refine rA ?_;refine jC (lf ?_);obtain rfl:=sI H;exact rtM [some 0,some 1,some 2]
def bw7 (n:Nat) (v:aj6) (name:List UInt8) (how:Int) (how_:Int) (how__:Bool) (how___:Bool) (how____:Int) (how_____:Int) (how______:Int) (how_______:Int) (how________:Int):Option (aj6×Int) :=
 (awb n v).bind fun r1 =>
 bif (r1 != 0) then
  some ((⟨[],0,0,0,[]⟩:aj6),r1)
 else
  (ajt n v name).bind fun r2 =>
  bif (!r2.2) then
   some ((⟨[],0,0,0,[]⟩:aj6),3)
  else
   (ajn n v).bind fun r3 =>
   gd ((0≤r2.1∧r2.1 < (r3.Sets.length:Int))) <|
   (bj9 n r3.Sets (Int.toNat r2.1) how how_ how__ how___ how____ how_____ how______ how_______ how________).bind fun r4 =>
   gd (r4.2.length=r3.Sets.length) <|
   bif (r4.1 != 0) then
    some ((⟨[],0,0,0,[]⟩:aj6),r4.1)
   else
    some ((⟨r3.Serial,r3.Cyls,r3.Heads,r3.Size,r4.2⟩:aj6),0)
theorem dkt (n:Nat) (v:aj6) (name:List UInt8) (how:Int) (how_:Int) (how__:Bool) (how___:Bool) (how____:Int) (how_____:Int) (how______:Int) (how_______:Int) (how________:Int) (r:aj6×Int) (H:bw7 n v name how how_ how__ how___ how____ how_____ how______ how_______ how________=some r):aw8 jd 87 [.dat (true,[.str,.int .i64,.int .i64,.int .i64,.slice 41]) [.str v.Serial,.int v.Cyls,.int v.Heads,.int v.Size,.slice (List.map aj4 v.Sets)],.dat (false,[.str]) [.str name],.ref (.fnv 98 [.box 0 0,.box 1 0])] [.box [.c (.int .i64) (.int how),.c (.int .i64) (.int how_),.c .bool (.bool how__),.c .bool (.bool how___),.c (.int .i64) (.int how____),.c (.int .i64) (.int how_____),.c (.int .i64) (.int how______),.c (.int .i64) (.int how_______)],.box [.c (.int .i64) (.int how________)]] [.agg [.c .str (.str r.1.Serial),.c (.int .i64) (.int r.1.Cyls),.c (.int .i64) (.int r.1.Heads),.c (.int .i64) (.int r.1.Size),.own 2 kD 0 r.1.Sets.length],.c (.int .i64) (.int r.2)] [.box [.c (.int .i64) (.int how),.c (.int .i64) (.int how_),.c .bool (.bool how__),.c .bool (.bool how___),.c (.int .i64) (.int how____),.c (.int .i64) (.int how_____),.c (.int .i64) (.int how______),.c (.int .i64) (.int how_______)],.box [.c (.int .i64) (.int how________)],.row 41 (List.map aj4 r.1.Sets)]:=by
 have hΓ:=g1 (akc n) (g1 (awa n) (g1 (azl n) (@g0 (aj1 jd))));have qe:=aI @az6.eq_1 (aI @aqr.eq_1 @awj.eq_1);refine aw9 (Tryz.f87.body.getD .skip) h00 Tryz.func87 rfl Tryz.call87 (jp rfl) (jp rfl) ?_;unfold bw7 at H;simp only [Tryz.f87,jz];refine rA ?_;refine js fun K2 hK2=>?_;obtain ⟨r1,hr1,H⟩:=bind_some H;have q:=aI qe hr1;refine rAq ?_;refine rA ?_;refine cnd H (fun h5 H=>?_) (fun h5 H=>?_)
 ·refine rA ?_;refine jC (lf ?_);obtain rfl:=sI H;exact rtM [some 0,some 1,none]
 refine jy (hK2 _ ?_);obtain ⟨r2,hr2,H⟩:=bind_some H;have q:=aI qe hr2;refine rAq ?_;refine js fun K8 hK8=>?_;refine rA ?_;refine cnd H (fun h10 H=>?_) (fun h10 H=>?_)
 ·refine rA ?_;refine jC (lf ?_);obtain rfl:=sI H;exact rtM [some 0,some 1,none]
 refine jy (hK8 _ ?_);obtain ⟨r3,hr3,H⟩:=bind_some H;have q:=aI qe hr3;refine rAq ?_;refine js fun K13 hK13=>?_;refine sX fun K14 hK14=>?_;obtain ⟨hg15,H⟩:=aj8 H;obtain ⟨r4,hr4,H⟩:=bind_some H;obtain ⟨hg16,H⟩:=aj8 H;have q:=hr4
 iterate 5 refine oX ?_
 refine oMq (djh n _ _ _ _ _ _ _ _ _ _ _ r4 hr4) [464,0,1] [] ?_;refine oXq ?_;refine hK14 _ ?_;refine rA ?_;refine cnd H (fun h18 H=>?_) (fun h18 H=>?_)
 ·refine rA ?_;refine jC (lf ?_);obtain rfl:=sI H;exact rtM [some 0,some 1,none]
 refine jy (hK13 _ ?_);refine rA ?_;refine jC (lf ?_);obtain rfl:=sI H;exact rtM [some 0,some 1,some 464]
def bzz (n:Nat) (v:aj6) (name:List UInt8) (c:TDcb) (used:Int):Option (aj6×Int) :=
 (bw7 n v name c.Org c.Format c.Blocked c.Asa c.Lrecl c.Blksize c.KeyLen c.KeyPos used).bind fun r1 =>
 some (r1.1,r1.2)
def dw4 (n:Nat):Go.AE.Fn:=mkFn (A:=aj6×(List UInt8)×TDcb×Int) (R:=aj6×Int) 48 [(true,[.str,.int .i64,.int .i64,.int .i64,.slice 41]),(false,[.str]),(true,[.int .i64,.int .i64,.bool,.bool,.int .i64,.int .i64,.int .i64,.int .i64]),(false,[.int .i64])] true (fun xs=>((⟨(cg (xs.getD 0 []) 0).toStr,(cg (xs.getD 0 []) 1).toInt,(cg (xs.getD 0 []) 2).toInt,(cg (xs.getD 0 []) 3).toInt,((cg (xs.getD 0 []) 4).toSl.map akb)⟩:aj6),(cg (xs.getD 1 []) 0).toStr,(⟨(cg (xs.getD 2 []) 0).toInt,(cg (xs.getD 2 []) 1).toInt,(cg (xs.getD 2 []) 2).toBool,(cg (xs.getD 2 []) 3).toBool,(cg (xs.getD 2 []) 4).toInt,(cg (xs.getD 2 []) 5).toInt,(cg (xs.getD 2 []) 6).toInt,(cg (xs.getD 2 []) 7).toInt⟩:TDcb),(cg (xs.getD 3 []) 0).toInt)) (fun a=>[[.str a.1.Serial,.int a.1.Cyls,.int a.1.Heads,.int a.1.Size,.slice (List.map aj4 a.1.Sets)],[.str a.2.1],[.int a.2.2.1.Org,.int a.2.2.1.Format,.bool a.2.2.1.Blocked,.bool a.2.2.1.Asa,.int a.2.2.1.Lrecl,.int a.2.2.1.Blksize,.int a.2.2.1.KeyLen,.int a.2.2.1.KeyPos],[.int a.2.2.2]]) (fun a=>bzz n a.1 a.2.1 a.2.2.1 a.2.2.2) (fun r=>[.agg [.c .str (.str r.1.Serial),.c (.int .i64) (.int r.1.Cyls),.c (.int .i64) (.int r.1.Heads),.c (.int .i64) (.int r.1.Size),.own 0 kD 0 r.1.Sets.length],.c (.int .i64) (.int r.2)]) (fun r=>[.row 41 (List.map aj4 r.1.Sets)])
theorem ek4 (n:Nat):aj1 jd (dw4 n):=by
 have hΓ:=@g0 (aj1 jd);refine ajb (Tryz.f48.body.getD .skip) h00 Tryz.func48 rfl Tryz.call48 (by decide) (by intro h;cases h) ?_;rintro ⟨v,name,c,used⟩ r H
 try dsimp only at H
 unfold bzz at H;simp only [Tryz.f48,jz];refine rA ?_;refine sX fun K2 hK2=>?_;obtain ⟨r1,hr1,H⟩:=bind_some H;have q:=hr1
 iterate 2 refine oX ?_
 refine oY ?_;refine oMq (dkt n _ _ _ _ _ _ _ _ _ _ _ r1 hr1) [96,112] [208] ?_
 iterate 4 refine oXq ?_
 refine hK2 _ (jC (lf ?_));obtain rfl:=sI H;exact rto [some 208]
abbrev cz3 (kept:List aj0) (rest:List aj0):S:=stB [(4,.own 9000 [.int .i64,.int .i64] 0 kept.length),(5,.own 9001 [.int .i64,.int .i64] 0 rest.length)] [(9000,.row 80 (List.map aj2 kept)),(9001,.row 80 (List.map aj2 rest))]
def bwa (n:Nat) (kept:List aj0) (rest:List aj0):Option ((List aj0)×(List aj0)) :=
 some (kept,rest)
abbrev czh (n__2:Int) (kept_2:List aj0) (rest_2:List aj0) (l:List aj0) (v15:Int) (v16:Int):S:=stB [(1,.c (.int .i64) (.int n__2)),(4,.own 9006 [.int .i64,.int .i64] 0 kept_2.length),(5,.own 9007 [.int .i64,.int .i64] 0 rest_2.length),(14,.c (.slice 80) (.slice (List.map aj2 l))),(15,.c (.int .i64) (.int v15)),(16,.c (.int .i64) (.int v16))] [(9006,.row 80 (List.map aj2 kept_2)),(9007,.row 80 (List.map aj2 rest_2))]
def bqz (n:Nat) (n__2:Int) (kept_2:List aj0) (rest_2:List aj0) (l:List aj0) (v15:Int) (v16:Int):Option ((Int×(List aj0)×(List aj0)×Int) ⊕ (((List aj0)×(List aj0)))) :=
 some (.inl (n__2,kept_2,rest_2,(jb .i64 (v16+1))))
abbrev czy (n__1:Int) (kept_3:List aj0) (rest_3:List aj0) (k:Int) (l:List aj0) (v15:Int) (v16:Int):S:=stB [(1,.c (.int .i64) (.int n__1)),(4,.own 9011 [.int .i64,.int .i64] 0 kept_3.length),(5,.own 9012 [.int .i64,.int .i64] 0 rest_3.length),(8,.c (.int .i64) (.int k)),(14,.c (.slice 80) (.slice (List.map aj2 l))),(15,.c (.int .i64) (.int v15)),(16,.c (.int .i64) (.int v16))] [(9011,.row 80 (List.map aj2 kept_3)),(9012,.row 80 (List.map aj2 rest_3))]
def bj6 (n:Nat) (n__1:Int) (kept_3:List aj0) (rest_3:List aj0) (k:Int) (l:List aj0) (v15:Int) (v16:Int):Option ((Int×(List aj0)×(List aj0)×Int) ⊕ (((List aj0)×(List aj0)))) :=
 bqz n (jb .i64 (n__1 - k)) kept_3 rest_3 l v15 v16
abbrev czf (n__1:Int) (kept_3:List aj0) (rest_1:List aj0) (x_:Int) (x__1:Int) (k:Int) (l:List aj0) (v15:Int) (v16:Int):S:=stB [(1,.c (.int .i64) (.int n__1)),(4,.own 9008 [.int .i64,.int .i64] 0 kept_3.length),(5,.own 9009 [.int .i64,.int .i64] 0 rest_1.length),(7,.box 9010 0),(8,.c (.int .i64) (.int k)),(14,.c (.slice 80) (.slice (List.map aj2 l))),(15,.c (.int .i64) (.int v15)),(16,.c (.int .i64) (.int v16))] [(9008,.row 80 (List.map aj2 kept_3)),(9009,.row 80 (List.map aj2 rest_1)),(9010,.box [.c (.int .i64) (.int x_),.c (.int .i64) (.int x__1)])]
def bj5 (n:Nat) (n__1:Int) (kept_3:List aj0) (rest_1:List aj0) (x_:Int) (x__1:Int) (k:Int) (l:List aj0) (v15:Int) (v16:Int):Option ((Int×(List aj0)×(List aj0)×Int) ⊕ (((List aj0)×(List aj0)))) :=
 bif (decide (k < x__1)) then
  gd ((rest_1.length+1)≤2147483648) <|
  bj6 n n__1 kept_3 (rest_1 ++ [(⟨(jb .i64 (x_+k)),(jb .i64 (x__1 - k))⟩:aj0)]) k l v15 v16
 else
  bj6 n n__1 kept_3 rest_1 k l v15 v16
abbrev czt (l:List aj0) (v15:Int) (n__1:Int) (kept_1:List aj0) (rest_1:List aj0) (v16:Int):S:=stB [(1,.c (.int .i64) (.int n__1)),(4,.own 9004 [.int .i64,.int .i64] 0 kept_1.length),(5,.own 9005 [.int .i64,.int .i64] 0 rest_1.length),(14,.c (.slice 80) (.slice (List.map aj2 l))),(15,.c (.int .i64) (.int v15)),(16,.c (.int .i64) (.int v16))] [(9004,.row 80 (List.map aj2 kept_1)),(9005,.row 80 (List.map aj2 rest_1))]
def akn (n:Nat) (l:List aj0) (v15:Int) (n__1:Int) (kept_1:List aj0) (rest_1:List aj0) (v16:Int):Option ((Int×(List aj0)×(List aj0)×Int) ⊕ (((List aj0)×(List aj0)))) :=
 bif (decide (v16 < v15)) then
  gd ((0≤v16∧v16 < (l.length:Int))) <|
  bif (decide ((if ((gt l (Int.toNat v16)).Len) < n__1 then ((gt l (Int.toNat v16)).Len) else n__1) > 0)) then
   gd ((kept_1.length+1)≤2147483648) <|
   bj5 n n__1 (kept_1 ++ [(⟨(gt l (Int.toNat v16)).At,(if ((gt l (Int.toNat v16)).Len) < n__1 then ((gt l (Int.toNat v16)).Len) else n__1)⟩:aj0)]) rest_1 ((gt l (Int.toNat v16)).At) ((gt l (Int.toNat v16)).Len) (if ((gt l (Int.toNat v16)).Len) < n__1 then ((gt l (Int.toNat v16)).Len) else n__1) l v15 v16
  else
   bj5 n n__1 kept_1 rest_1 ((gt l (Int.toNat v16)).At) ((gt l (Int.toNat v16)).Len) (if ((gt l (Int.toNat v16)).Len) < n__1 then ((gt l (Int.toNat v16)).Len) else n__1) l v15 v16
 else
  some (.inr (kept_1,rest_1))
def bzh (n:Nat) (l:List aj0) (n_:Int):Option ((List aj0)×(List aj0)) :=
 (awf n l).bind fun r1 =>
 bif (!r1) then
  some ([],[])
 else
  (ajo (fun (x:Int×(List aj0)×(List aj0)×Int)=>akn n l (l.length:Int) x.1 x.2.1 x.2.2.1 x.2.2.2) n ((if 0 > n_ then 0 else n_),[],[],0)).bind fun y9 =>
  bwa n y9.1 y9.2
def dw7 (n:Nat):Go.AE.Fn:=mkFn (A:=(List aj0)×Int) (R:=(List aj0)×(List aj0)) 97 [(false,[.slice 80]),(false,[.int .i64])] false (fun xs=>(((cg (xs.getD 0 []) 0).toSl.map aqm),(cg (xs.getD 1 []) 0).toInt)) (fun a=>[[.slice (List.map aj2 a.1)],[.int a.2]]) (fun a=>bzh n a.1 a.2) (fun r=>[.own 0 [.int .i64,.int .i64] 0 r.1.length,.own 1 [.int .i64,.int .i64] 0 r.2.length]) (fun r=>[.row 80 (List.map aj2 r.1),.row 80 (List.map aj2 r.2)])
theorem ezn (n:Nat):aj1 jd (dw7 n):=by
 have hΓ:=g1 (bq5 n) (@g0 (aj1 jd));refine ajb (Tryz.f97.body.getD .skip) h00 Tryz.func97 rfl Tryz.call97 (by decide) (fun _ r=>⟨rfl,m1 ⟨80,_,_,rfl,ty80,rfl⟩ (m1 ⟨80,_,_,rfl,ty80,rfl⟩ m0)⟩) ?_;rintro ⟨l,n_⟩ r H
 try dsimp only at H
 unfold bzh at H;simp only [Tryz.f97,jz];refine rA ?_;refine js fun K2 hK2=>?_;obtain ⟨r1,hr1,H⟩:=bind_some H;have q:=aI @ayj.eq_1 hr1;refine rAq ?_;refine cnd H (fun h4 H=>?_) (fun h4 H=>?_)
 ·refine rA ?_;refine jC (lf ?_);obtain rfl:=sI H;exact rto [none,none]
 refine jy (hK2 _ ?_);refine rA ?_;refine Jp (fun (x:(List aj0)×(List aj0))=>cz3 x.1 x.2) (fun x=>bwa n x.1 x.2=some r) ?_ ?_
 ·refine rA ?_;refine jN ?_;obtain ⟨y9,hy9,Ho9⟩:=bind_some H;refine Jl _ (fun x=>czt l (l.length:Int) x.1 x.2.1 x.2.2.1 x.2.2.2) hy9 (wb [none,none]) ?_;rintro ⟨n__1,kept_1,rest_1,v16⟩ z9 H
  try dsimp only at H
  unfold akn at H;refine Sm.st (czt.eq_1 ..) ?_;refine rA ?_;refine js fun K11 hK11=>?_;refine cnd H (fun h12 H=>?_) (fun h12 H=>?_)
  ·refine jy (hK11 _ ?_);refine Jp (fun (x:Int×(List aj0)×(List aj0))=>czh x.1 x.2.1 x.2.2 l (l.length:Int) v16) (fun x=>bqz n x.1 x.2.1 x.2.2 l (l.length:Int) v16=some z9) ?_ ?_
   ·refine jN ?_;obtain ⟨hg21,H⟩:=aj8 H;refine rA ?_;refine rA ?_;refine Jp (fun (x:(List aj0))=>czf n__1 x rest_1 ((gt l (Int.toNat v16)).At) ((gt l (Int.toNat v16)).Len) (if ((gt l (Int.toNat v16)).Len) < n__1 then ((gt l (Int.toNat v16)).Len) else n__1) l (l.length:Int) v16) (fun x=>bj5 n n__1 x rest_1 ((gt l (Int.toNat v16)).At) ((gt l (Int.toNat v16)).Len) (if ((gt l (Int.toNat v16)).Len) < n__1 then ((gt l (Int.toNat v16)).Len) else n__1) l (l.length:Int) v16=some z9) ?_ ?_
    ·refine rA ?_;refine cnd H (fun h19 H=>?_) (fun h19 H=>?_)
     ·obtain ⟨hg20,H⟩:=aj8 H;refine eA ?_;refine lf ?_;exact ⟨_,H,wb [some 512,some 9005,some 112]⟩
     refine jy (lf ?_);exact ⟨_,H,wb [some 9004,some 9005,some 112]⟩
    rintro kept_3 H
    try dsimp only at H
    unfold bj5 at H;refine Sm.st (czf.eq_1 ..) ?_;refine Jp (fun (x:(List aj0))=>czy n__1 kept_3 x (if ((gt l (Int.toNat v16)).Len) < n__1 then ((gt l (Int.toNat v16)).Len) else n__1) l (l.length:Int) v16) (fun x=>bj6 n n__1 kept_3 x (if ((gt l (Int.toNat v16)).Len) < n__1 then ((gt l (Int.toNat v16)).Len) else n__1) l (l.length:Int) v16=some z9) ?_ ?_
    ·refine rA ?_;refine cnd H (fun h16 H=>?_) (fun h16 H=>?_)
     ·obtain ⟨hg17,H⟩:=aj8 H;refine eA ?_;refine lf ?_;exact ⟨_,H,wb [some 9008,some 768]⟩
     refine jy (lf ?_);exact ⟨_,H,wb [some 9008,some 9009]⟩
    rintro rest_3 H
    try dsimp only at H
    unfold bj6 at H;refine Sm.st (czy.eq_1 ..) ?_;refine eA ?_;refine lf ?_;exact ⟨((jb .i64 (n__1 - (if ((gt l (Int.toNat v16)).Len) < n__1 then ((gt l (Int.toNat v16)).Len) else n__1))),kept_3,rest_3),H,wb [some 9011,some 9012]⟩
   rintro ⟨n__2,kept_2,rest_2⟩ H
   try dsimp only at H
   unfold bqz at H;refine Sm.st (czh.eq_1 ..) ?_;refine eA ?_;refine lf ?_;exact nx H (wb [some 9006,some 9007])
  refine Js (lf ?_);refine lx H fun hyy=>?_;subst hyy;have H:=Ho9
  try dsimp only at H
  refine lf ?_;exact ⟨(kept_1,rest_1),H,wb [some 9004,some 9005]⟩
 rintro ⟨kept,rest⟩ H
 try dsimp only at H
 unfold bwa at H;refine Sm.st (cz3.eq_1 ..) ?_;refine rA ?_;refine jC (lf ?_);obtain rfl:=sI H;exact rto [some 9000,some 9001]
def ayg (n:Nat) (d:List aj5) (d_i:Nat) (p1:Int):Option (Int×(List aj5)) :=
 gd (d_i < d.length∧d_i < d.length) <|
 (bzh n ((gt d d_i).Extents) (if 1 > (if ((gt d d_i).Used) > p1 then ((gt d d_i).Used) else p1) then 1 else (if ((gt d d_i).Used) > p1 then ((gt d d_i).Used) else p1))).bind fun r1 =>
 gd (d_i < d.length) <|
 some (0,(List.set d d_i (⟨(gt d d_i).Name,((gt d d_i).Dcb),r1.1,(gt d d_i).Used⟩:aj5)))
theorem cy7 (n:Nat) (d:List aj5) (d_i:Nat) (p1:Int) (r:Int×(List aj5)) (H:ayg n d d_i p1=some r):aw8 jd 96 [.ref (.elt 0 11 kD d_i 0),.ref (.box 1 0)] [.row 41 (List.map aj4 d),.box [.c (.int .i64) (.int p1)]] [.c (.int .i64) (.int r.1)] [.row 41 (List.map aj4 r.2),.box [.c (.int .i64) (.int p1)]]:=by
 have hΓ:=g1 (ezn n) (@g0 (aj1 jd));refine aw9 (Tryz.f96.body.getD .skip) h00 Tryz.func96 rfl Tryz.call96 (jp rfl) (jp rfl) ?_;unfold ayg at H;simp only [Tryz.f96,jz];refine rA ?_;obtain ⟨⟨hg3,hg4⟩,H⟩:=aj8 H;obtain ⟨r1,hr1,H⟩:=bind_some H;obtain ⟨hg5,H⟩:=aj8 H;refine sQ [0,1,2,3,4,5,6,7,8,9,10,11,12,13,14,15,16,17] [(none,[],[]),(none,[],[]),(none,[1000001,0],[]),(none,[0],[]),(none,[0],[]),(none,[1],[]),(none,[],[]),(none,[1000001,0],[]),(none,[0],[]),(none,[0],[]),(none,[],[]),(none,[],[271,270,269,268,267,266,265,264,263,262,261,260,259,258,257,256]),(none,[],[]),(none,[],[]),(none,[],[]),(none,[1000001,0],[]),(none,[0],[]),(none,[0,256],[0,256])] fun K2 hK2=>?_;have q:=aI @dw7.eq_1 hr1
 iterate 2 refine oQq ?_
 refine oQVq ?_
 iterate 4 refine oQq ?_
 refine oQVq ?_
 iterate 7 refine oQq ?_
 refine oQVq ?_
 iterate 2 refine oQq ?_
 refine cz0 ?_;refine hK2 _ ?_;refine rA ?_;refine jC (lf ?_);obtain rfl:=sI H;exact rtM [some 0,some 1]
def bqu (n:Nat) (v:aj6) (name:List UInt8) (how:Int):Option (aj6×Int) :=
 (awb n v).bind fun r1 =>
 bif (r1 != 0) then
  some ((⟨[],0,0,0,[]⟩:aj6),r1)
 else
  (ajt n v name).bind fun r2 =>
  bif (!r2.2) then
   some ((⟨[],0,0,0,[]⟩:aj6),3)
  else
   (ajn n v).bind fun r3 =>
   gd ((0≤r2.1∧r2.1 < (r3.Sets.length:Int))) <|
   (ayg n r3.Sets (Int.toNat r2.1) how).bind fun r4 =>
   gd (r4.2.length=r3.Sets.length) <|
   bif (r4.1 != 0) then
    some ((⟨[],0,0,0,[]⟩:aj6),r4.1)
   else
    some ((⟨r3.Serial,r3.Cyls,r3.Heads,r3.Size,r4.2⟩:aj6),0)
theorem dzm (n:Nat) (v:aj6) (name:List UInt8) (how:Int) (r:aj6×Int) (H:bqu n v name how=some r):aw8 jd 87 [.dat (true,[.str,.int .i64,.int .i64,.int .i64,.slice 41]) [.str v.Serial,.int v.Cyls,.int v.Heads,.int v.Size,.slice (List.map aj4 v.Sets)],.dat (false,[.str]) [.str name],.ref (.fnv 96 [.box 0 0])] [.box [.c (.int .i64) (.int how)]] [.agg [.c .str (.str r.1.Serial),.c (.int .i64) (.int r.1.Cyls),.c (.int .i64) (.int r.1.Heads),.c (.int .i64) (.int r.1.Size),.own 1 kD 0 r.1.Sets.length],.c (.int .i64) (.int r.2)] [.box [.c (.int .i64) (.int how)],.row 41 (List.map aj4 r.1.Sets)]:=by
 have hΓ:=g1 (akc n) (g1 (awa n) (g1 (azl n) (@g0 (aj1 jd))));have qe:=aI @az6.eq_1 (aI @aqr.eq_1 @awj.eq_1);refine aw9 (Tryz.f87.body.getD .skip) h00 Tryz.func87 rfl Tryz.call87 (jp rfl) (jp rfl) ?_;unfold bqu at H;simp only [Tryz.f87,jz];refine rA ?_;refine js fun K2 hK2=>?_;obtain ⟨r1,hr1,H⟩:=bind_some H;have q:=aI qe hr1;refine rAq ?_;refine rA ?_;refine cnd H (fun h5 H=>?_) (fun h5 H=>?_)
 ·refine rA ?_;refine jC (lf ?_);obtain rfl:=sI H;exact rtM [some 0,none]
 refine jy (hK2 _ ?_);obtain ⟨r2,hr2,H⟩:=bind_some H;have q:=aI qe hr2;refine rAq ?_;refine js fun K8 hK8=>?_;refine rA ?_;refine cnd H (fun h10 H=>?_) (fun h10 H=>?_)
 ·refine rA ?_;refine jC (lf ?_);obtain rfl:=sI H;exact rtM [some 0,none]
 refine jy (hK8 _ ?_);obtain ⟨r3,hr3,H⟩:=bind_some H;have q:=aI qe hr3;refine rAq ?_;refine js fun K13 hK13=>?_;refine sX fun K14 hK14=>?_;obtain ⟨hg15,H⟩:=aj8 H;obtain ⟨r4,hr4,H⟩:=bind_some H;obtain ⟨hg16,H⟩:=aj8 H;have q:=hr4
 iterate 5 refine oX ?_
 refine oMq (cy7 n _ _ _ r4 hr4) [464,0] [] ?_;refine oXq ?_;refine hK14 _ ?_;refine rA ?_;refine cnd H (fun h18 H=>?_) (fun h18 H=>?_)
 ·refine rA ?_;refine jC (lf ?_);obtain rfl:=sI H;exact rtM [some 0,none]
 refine jy (hK13 _ ?_);refine rA ?_;refine jC (lf ?_);obtain rfl:=sI H;exact rtM [some 0,some 464]
def bwq (n:Nat) (v:aj6) (name:List UInt8) (keep:Int):Option (aj6×Int) :=
 (bqu n v name keep).bind fun r1 =>
 some (r1.1,r1.2)
def cy9 (n:Nat):Go.AE.Fn:=mkFn (A:=aj6×(List UInt8)×Int) (R:=aj6×Int) 47 [(true,[.str,.int .i64,.int .i64,.int .i64,.slice 41]),(false,[.str]),(false,[.int .i64])] true (fun xs=>((⟨(cg (xs.getD 0 []) 0).toStr,(cg (xs.getD 0 []) 1).toInt,(cg (xs.getD 0 []) 2).toInt,(cg (xs.getD 0 []) 3).toInt,((cg (xs.getD 0 []) 4).toSl.map akb)⟩:aj6),(cg (xs.getD 1 []) 0).toStr,(cg (xs.getD 2 []) 0).toInt)) (fun a=>[[.str a.1.Serial,.int a.1.Cyls,.int a.1.Heads,.int a.1.Size,.slice (List.map aj4 a.1.Sets)],[.str a.2.1],[.int a.2.2]]) (fun a=>bwq n a.1 a.2.1 a.2.2) (fun r=>[.agg [.c .str (.str r.1.Serial),.c (.int .i64) (.int r.1.Cyls),.c (.int .i64) (.int r.1.Heads),.c (.int .i64) (.int r.1.Size),.own 0 kD 0 r.1.Sets.length],.c (.int .i64) (.int r.2)]) (fun r=>[.row 41 (List.map aj4 r.1.Sets)])
theorem ewr (n:Nat):aj1 jd (cy9 n):=by
 have hΓ:=@g0 (aj1 jd);refine ajb (Tryz.f47.body.getD .skip) h00 Tryz.func47 rfl Tryz.call47 (by decide) (by intro h;cases h) ?_;rintro ⟨v,name,keep⟩ r H
 try dsimp only at H
 unfold bwq at H;simp only [Tryz.f47,jz];refine rA ?_;refine sX fun K2 hK2=>?_;obtain ⟨r1,hr1,H⟩:=bind_some H;have q:=hr1
 iterate 2 refine oX ?_
 refine oY ?_;refine oMq (dzm n _ _ _ r1 hr1) [80] [176] ?_
 iterate 4 refine oXq ?_
 refine hK2 _ (jC (lf ?_));obtain rfl:=sI H;exact rto [some 176]
def cqa (n:Nat) (b:List Int) (at_:Int) (n_:Int):Option Bool :=
 some (if (decide (at_ ≥ 0))=true then (decide (at_≤(jb .i64 ((b.length:Int) - n_)))) else false)
def ej6 (n:Nat):Go.AE.Fn:=mkFn (A:=(List Int)×Int×Int) (R:=Bool) 184 [(false,[.slice 5]),(false,[.int .i64]),(false,[.int .i64])] false (fun xs=>(((cg (xs.getD 0 []) 0).toSl.map bzg),(cg (xs.getD 1 []) 0).toInt,(cg (xs.getD 2 []) 0).toInt)) (fun a=>[[.slice (List.map aq7 a.1)],[.int a.2.1],[.int a.2.2]]) (fun a=>cqa n a.1 a.2.1 a.2.2) (fun r=>[.c .bool (.bool r)]) (fun r=>[])
theorem fkf (n:Nat):aj1 jd (ej6 n):=by
 have hΓ:=@g0 (aj1 jd);refine cF (Tryz.f184.body.getD .skip) Tryz.func184 rfl Tryz.call184 ?_;rintro ⟨b,at_,n_⟩ r H
 try dsimp only at H
 unfold cqa at H;simp only [Tryz.f184,jz];refine rA ?_;refine rA ?_;refine jC (lf ?_);obtain rfl:=sI H;exact rt []
def cyc (n:Nat) (b:List Int) (at_:Int):Option (Int×Bool) :=
 (cqa n b at_ 2).bind fun r1 =>
 bif (!r1) then
  some (0,false)
 else
  gd ((0≤at_∧at_ < (b.length:Int))∧(0≤(jb .i64 (at_+1))∧(jb .i64 (at_+1)) < (b.length:Int))) <|
  some ((jb .u32 ((jb .i32 ((jb .i16 (((BitVec.ofInt (jj .i16) (jb .i16 ((jb .i16 ((gt b (Int.toNat at_)))) * 2 ^ min 8 (jj .i16))) ||| BitVec.ofInt (jj .i16) (jb .i16 ((gt b (Int.toNat (jb .i64 (at_+1))))))).toNat:Int))))))),true)
def ejq (n:Nat):Go.AE.Fn:=mkFn (A:=(List Int)×Int) (R:=Int×Bool) 146 [(false,[.slice 5]),(false,[.int .i64])] false (fun xs=>(((cg (xs.getD 0 []) 0).toSl.map bzg),(cg (xs.getD 1 []) 0).toInt)) (fun a=>[[.slice (List.map aq7 a.1)],[.int a.2]]) (fun a=>cyc n a.1 a.2) (fun r=>[.c (.int .u32) (.int r.1),.c .bool (.bool r.2)]) (fun r=>[])
theorem fzt (n:Nat):aj1 jd (ejq n):=by
 have hΓ:=g1 (fkf n) (@g0 (aj1 jd));refine cF (Tryz.f146.body.getD .skip) Tryz.func146 rfl Tryz.call146 ?_;rintro ⟨b,at_⟩ r H
 try dsimp only at H
 unfold cyc at H;simp only [Tryz.f146,jz];refine rA ?_;refine js fun K2 hK2=>?_;obtain ⟨r1,hr1,H⟩:=bind_some H;have q:=aI @ej6.eq_1 hr1;refine rAq ?_;refine cnd H (fun h4 H=>?_) (fun h4 H=>?_)
 ·refine rA ?_;refine jC (lf ?_);obtain rfl:=sI H;exact rt []
 refine jy (hK2 _ ?_);obtain ⟨⟨hg7,hg8⟩,H⟩:=aj8 H;refine sQ [0,1,2,3,4,5,6,7,8,9,10,11,12,13,14,15,16] [(none,[],[]),(none,[],[]),(none,[],[]),(none,[],[]),(none,[],[]),(none,[1000001],[]),(none,[],[]),(none,[],[]),(none,[],[]),(none,[],[]),(none,[],[]),(none,[],[]),(none,[],[]),(none,[],[]),(none,[],[]),(none,[],[]),(none,[],[])] fun K6 hK6=>?_
 iterate 5 refine oQ ?_
 refine oQV ?_
 iterate 11 refine oQ ?_
 refine cz0 ?_;refine hK6 _ (jC (lf ?_));obtain rfl:=sI H;exact rt []
def az7 (n:Nat) (b:List Int) (at_:Int):Option Int :=
 (cyc n b at_).bind fun r1 =>
 some (jb .i64 ((jb .u32 (((BitVec.ofInt (jj .u32) r1.1 &&& BitVec.ofInt (jj .u32) 65535).toNat:Int)))))
def djm (n:Nat):Go.AE.Fn:=mkFn (A:=(List Int)×Int) (R:=Int) 101 [(false,[.slice 5]),(false,[.int .i64])] false (fun xs=>(((cg (xs.getD 0 []) 0).toSl.map bzg),(cg (xs.getD 1 []) 0).toInt)) (fun a=>[[.slice (List.map aq7 a.1)],[.int a.2]]) (fun a=>az7 n a.1 a.2) (fun r=>[.c (.int .i64) (.int r)]) (fun r=>[])
theorem dyx (n:Nat):aj1 jd (djm n):=by
 have hΓ:=g1 (fzt n) (@g0 (aj1 jd));refine cF (Tryz.f101.body.getD .skip) Tryz.func101 rfl Tryz.call101 ?_;rintro ⟨b,at_⟩ r H
 try dsimp only at H
 unfold az7 at H;simp only [Tryz.f101,jz];refine rA ?_;obtain ⟨r1,hr1,H⟩:=bind_some H;have q:=aI @ejq.eq_1 hr1;refine rAq ?_;refine rA ?_;refine jC (lf ?_);obtain rfl:=sI H;exact rt []
def cje (n:Nat) (r_:TRec):Option Bool :=
 some (if (if (decide (r_.R ≥ 1))=true then (decide (r_.R≤255)) else false)=true then (decide ((r_.Key.length:Int)≤255)) else false)
def dqs (n:Nat):Go.AE.Fn:=mkFn (A:=TRec) (R:=Bool) 185 [(true,[.int .i64,.slice 5,.slice 5,.bool])] false (fun xs=>(⟨(cg (xs.getD 0 []) 0).toInt,((cg (xs.getD 0 []) 1).toSl.map bzg),((cg (xs.getD 0 []) 2).toSl.map bzg),(cg (xs.getD 0 []) 3).toBool⟩:TRec)) (fun a=>[[.int a.R,.slice (List.map aq7 a.Key),.slice (List.map aq7 a.Data),.bool a.Bad]]) (fun a=>cje n a) (fun r=>[.c .bool (.bool r)]) (fun r=>[])
theorem eke (n:Nat):aj1 jd (dqs n):=by
 have hΓ:=@g0 (aj1 jd);refine cF (Tryz.f185.body.getD .skip) Tryz.func185 rfl Tryz.call185 ?_;rintro r_ r H
 try dsimp only at H
 unfold cje at H;simp only [Tryz.f185,jz];refine rA ?_;refine rA ?_;refine jC (lf ?_);obtain rfl:=sI H;exact rt []
abbrev bz1:S:=stB [] []
def azx (n:Nat):Option Bool :=
 some true
abbrev bz2 (s1:List Int) (s2:List Int) (v12:Int) (v13:Int):S:=stB [(0,.c (.slice 5) (.slice (List.map aq7 s1))),(1,.c (.slice 5) (.slice (List.map aq7 s2))),(12,.c (.int .i64) (.int v12)),(13,.c (.int .i64) (.int v13))] []
def awr (n:Nat) (s1:List Int) (s2:List Int) (v12:Int) (v13:Int):Option ((Int) ⊕ (((Bool) ⊕ (Unit)))) :=
 bif (decide (v13 < v12)) then
  gd ((0≤v13∧v13 < (s1.length:Int))∧(0≤v13∧v13 < (s2.length:Int))) <|
  bif ((gt s1 (Int.toNat v13)) != (gt s2 (Int.toNat v13))) then
   some (.inr (.inl false))
  else
   some (.inl (jb .i64 (v13+1)))
 else
  some (.inr (.inr ()))
def aqe (n:Nat) (s1:List Int) (s2:List Int):Option Bool :=
 bif ((s1.length:Int) != (s2.length:Int)) then
  some false
 else
  (ajo (fun (x:Int)=>awr n s1 s2 (s1.length:Int) x) n 0).bind fun y8 =>
  match y8 with
  | .inl vv =>
   some vv
  | .inr vv =>
   azx n
def bkn (n:Nat):Go.AE.Fn:=mkFn (A:=(List Int)×(List Int)) (R:=Bool) 150 [(false,[.slice 5]),(false,[.slice 5])] false (fun xs=>(((cg (xs.getD 0 []) 0).toSl.map bzg),((cg (xs.getD 1 []) 0).toSl.map bzg))) (fun a=>[[.slice (List.map aq7 a.1)],[.slice (List.map aq7 a.2)]]) (fun a=>aqe n a.1 a.2) (fun r=>[.c .bool (.bool r)]) (fun r=>[])
theorem cyp (n:Nat):aj1 jd (bkn n):=by
 have hΓ:=@g0 (aj1 jd);refine cF (Tryz.f150.body.getD .skip) Tryz.func150 rfl Tryz.call150 ?_;rintro ⟨s1,s2⟩ r H
 try dsimp only at H
 unfold aqe at H;simp only [Tryz.f150,jz];refine rA ?_;refine js fun K2 hK2=>?_;refine rA ?_;refine cnd H (fun h4 H=>?_) (fun h4 H=>?_)
 ·refine rA ?_;refine jC (lf ?_);obtain rfl:=sI H;exact rt []
 refine jy (hK2 _ ?_);refine Jp (fun (x:Unit)=>bz1) (fun x=>azx n=some r) ?_ ?_
 ·refine rA ?_;refine jN ?_;obtain ⟨y8,hy8,Ho8⟩:=bind_some H;refine Jl _ (fun x=>bz2 s1 s2 (s1.length:Int) x) hy8 (wb []) ?_;rintro v13 z8 H
  try dsimp only at H
  unfold awr at H;refine Sm.st (bz2.eq_1 ..) ?_;refine rA ?_;refine js fun K10 hK10=>?_;refine cnd H (fun h11 H=>?_) (fun h11 H=>?_)
  ·refine jy (hK10 _ (js fun K12 hK12=>jN ?_));refine rA ?_;obtain ⟨⟨hg17,hg18⟩,H⟩:=aj8 H;refine rD ?_;refine cnd H (fun h15 H=>?_) (fun h15 H=>?_)
   ·refine rA ?_;refine jC (lf ?_);refine lx H fun hyy=>?_;subst hyy;have H:=Ho8
    try dsimp only at H
    refine lf ?_;obtain rfl:=sI H;exact rt []
   refine jy (hK12 _ ?_);refine eA ?_;refine lf ?_;exact nx H (wb [])
  refine Js (lf ?_);refine lx H fun hyy=>?_;subst hyy;have H:=Ho8
  try dsimp only at H
  refine lf ?_;exact ⟨(),H,wb []⟩
 rintro ⟨⟩ H
 try dsimp only at H
 unfold azx at H;refine Sm.st (bz1.eq_1 ..) ?_;refine rA ?_;refine jC (lf ?_);obtain rfl:=sI H;exact rt []
def bzt (n:Nat) (x_:TRec) (y:TRec):Option Bool :=
 gd (((if (x_.R == y.R)=true then (x_.Bad == y.Bad) else false)=true→(aqe n x_.Key y.Key).isSome=true)∧((if (if (x_.R == y.R)=true then (x_.Bad == y.Bad) else false)=true then ((aqe n x_.Key y.Key).getD default) else false)=true→(aqe n x_.Data y.Data).isSome=true)) <|
 some (if (if (if (x_.R == y.R)=true then (x_.Bad == y.Bad) else false)=true then ((aqe n x_.Key y.Key).getD default) else false)=true then ((aqe n x_.Data y.Data).getD default) else false)
def dwf (n:Nat):Go.AE.Fn:=mkFn (A:=TRec×TRec) (R:=Bool) 149 [(true,[.int .i64,.slice 5,.slice 5,.bool]),(true,[.int .i64,.slice 5,.slice 5,.bool])] false (fun xs=>((⟨(cg (xs.getD 0 []) 0).toInt,((cg (xs.getD 0 []) 1).toSl.map bzg),((cg (xs.getD 0 []) 2).toSl.map bzg),(cg (xs.getD 0 []) 3).toBool⟩:TRec),(⟨(cg (xs.getD 1 []) 0).toInt,((cg (xs.getD 1 []) 1).toSl.map bzg),((cg (xs.getD 1 []) 2).toSl.map bzg),(cg (xs.getD 1 []) 3).toBool⟩:TRec))) (fun a=>[[.int a.1.R,.slice (List.map aq7 a.1.Key),.slice (List.map aq7 a.1.Data),.bool a.1.Bad],[.int a.2.R,.slice (List.map aq7 a.2.Key),.slice (List.map aq7 a.2.Data),.bool a.2.Bad]]) (fun a=>bzt n a.1 a.2) (fun r=>[.c .bool (.bool r)]) (fun r=>[])
theorem ezk (n:Nat):aj1 jd (dwf n):=by
 have hΓ:=g1 (cyp n) (@g0 (aj1 jd));refine cF (Tryz.f149.body.getD .skip) Tryz.func149 rfl Tryz.call149 ?_;rintro ⟨x_,y⟩ r H
 try dsimp only at H
 unfold bzt at H;simp only [Tryz.f149,jz];refine rA ?_;obtain ⟨⟨hg3,hg4⟩,H⟩:=aj8 H;have q:=@bkn.eq_1;refine rAq ?_;refine jC (lf ?_);obtain rfl:=sI H;exact rt []
abbrev ay2:S:=stB [] []
def aqz (n:Nat):Option Bool :=
 some true
abbrev aky (s2:List TRec) (s1:List TRec) (v16:Int) (v17:Int):S:=stB [(1,.c (.slice 87) (.slice (List.map aq1 s2))),(2,.fnv 149 []),(15,.c (.slice 87) (.slice (List.map aq1 s1))),(16,.c (.int .i64) (.int v16)),(17,.c (.int .i64) (.int v17))] []
def aq9 (n:Nat) (s2:List TRec) (s1:List TRec) (v16:Int) (v17:Int):Option ((Int) ⊕ (((Bool) ⊕ (Unit)))) :=
 bif (decide (v17 < v16)) then
  gd ((0≤v17∧v17 < (s1.length:Int))) <|
  gd ((0≤v17∧v17 < (s2.length:Int))) <|
  (bzt n (gt s1 (Int.toNat v17)) (gt s2 (Int.toNat v17))).bind fun r1 =>
  bif (!r1) then
   some (.inr (.inl false))
  else
   some (.inl (jb .i64 (v17+1)))
 else
  some (.inr (.inr ()))
def aqq (n:Nat) (s1:List TRec) (s2:List TRec):Option Bool :=
 bif ((s1.length:Int) != (s2.length:Int)) then
  some false
 else
  (ajo (fun (x:Int)=>aq9 n s2 s1 (s1.length:Int) x) n 0).bind fun y8 =>
  match y8 with
  | .inl vv =>
   some vv
  | .inr vv =>
   aqz n
theorem bkv (n:Nat) (s1:List TRec) (s2:List TRec) (r:Bool) (H:aqq n s1 s2=some r):aw8 jd 148 [.dat (false,[.slice 87]) [.slice (List.map aq1 s1)],.dat (false,[.slice 87]) [.slice (List.map aq1 s2)],.ref (.fnv 149 [])] [] [.c .bool (.bool r)] []:=by
 have hΓ:=g1 (ezk n) (@g0 (aj1 jd));refine aw9 (Tryz.f148.body.getD .skip) h00 Tryz.func148 rfl Tryz.call148 (jp rfl) (jp rfl) ?_;unfold aqq at H;simp only [Tryz.f148,jz];refine rA ?_;refine js fun K2 hK2=>?_;refine rA ?_;refine cnd H (fun h4 H=>?_) (fun h4 H=>?_)
 ·refine rA ?_;refine jC (lf ?_);obtain rfl:=sI H;exact rtM []
 refine jy (hK2 _ ?_);refine Jp (fun (x:Unit)=>ay2) (fun x=>aqz n=some r) ?_ ?_
 ·refine rA ?_;refine jN ?_;obtain ⟨y8,hy8,Ho8⟩:=bind_some H;refine Jl _ (fun x=>aky s2 s1 (s1.length:Int) x) hy8 (wb []) ?_;rintro v17 z8 H
  try dsimp only at H
  unfold aq9 at H;refine Sm.st (aky.eq_1 ..) ?_;refine rA ?_;refine js fun K10 hK10=>?_;refine cnd H (fun h11 H=>?_) (fun h11 H=>?_)
  ·refine jy (hK10 _ (js fun K12 hK12=>jN ?_));obtain ⟨hg19,H⟩:=aj8 H;refine rA ?_;obtain ⟨hg18,H⟩:=aj8 H;refine rA ?_;obtain ⟨r1,hr1,H⟩:=bind_some H;have q:=aI @dwf.eq_1 hr1;refine rAq ?_;refine cnd H (fun h16 H=>?_) (fun h16 H=>?_)
   ·refine rA ?_;refine jC (lf ?_);refine lx H fun hyy=>?_;subst hyy;have H:=Ho8
    try dsimp only at H
    refine lf ?_;obtain rfl:=sI H;exact rtM []
   refine jy (hK12 _ ?_);refine eA ?_;refine lf ?_;exact nx H (wb [])
  refine Js (lf ?_);refine lx H fun hyy=>?_;subst hyy;have H:=Ho8
  try dsimp only at H
  refine lf ?_;exact ⟨(),H,wb []⟩
 rintro ⟨⟩ H
 try dsimp only at H
 unfold aqz at H;refine Sm.st (ay2.eq_1 ..) ?_;refine rA ?_;refine jC (lf ?_);obtain rfl:=sI H;exact rtM []
def bzu (n:Nat) (s:bka):Option (aj6×Int) :=
 gd ((jb .i64 ((jb .i64 ((jb .i64 ((jb .i64 ((Jr s.Cyls 4)))+1)) * (jb .i64 ((jb .i64 ((Jr s.Heads 3)))+2)))) - 1))≠0) <|
 (ckq n [86,49] (jb .i64 ((jb .i64 ((Jr s.Cyls 4)))+1)) (jb .i64 ((jb .i64 ((Jr s.Heads 3)))+2)) (jb .i64 ((Jr (jb .i64 ((Jr s.Size 2))) (jb .i64 ((jb .i64 ((jb .i64 ((jb .i64 ((Jr s.Cyls 4)))+1)) * (jb .i64 ((jb .i64 ((Jr s.Heads 3)))+2)))) - 1)))+1))).bind fun r1 =>
 some ((⟨r1.1.Serial,r1.1.Cyls,r1.1.Heads,r1.1.Size,[]⟩:aj6),r1.2)
def dqr (n:Nat):Go.AE.Fn:=mkFn (A:=bka) (R:=aj6×Int) 38 [(true,[.int .u8,.int .u8,.int .u8])] false (fun xs=>(⟨(cg (xs.getD 0 []) 0).toInt,(cg (xs.getD 0 []) 1).toInt,(cg (xs.getD 0 []) 2).toInt⟩:bka)) (fun a=>[[.int a.Cyls,.int a.Heads,.int a.Size]]) (fun a=>bzu n a) (fun r=>[.agg [.c .str (.str r.1.Serial),.c (.int .i64) (.int r.1.Cyls),.c (.int .i64) (.int r.1.Heads),.c (.int .i64) (.int r.1.Size),.nilsl],.c (.int .i64) (.int r.2)]) (fun r=>[])
theorem ez6 (n:Nat):aj1 jd (dqr n):=by
 have hΓ:=g1 (eyb n) (@g0 (aj1 jd));refine cF (Tryz.f38.body.getD .skip) Tryz.func38 rfl Tryz.call38 ?_;rintro s r H
 try dsimp only at H
 unfold bzu at H;simp only [Tryz.f38,jz];refine rA ?_;refine rA ?_;refine rA ?_;obtain ⟨hg5,H⟩:=aj8 H;obtain ⟨r1,hr1,H⟩:=bind_some H;have q:=aI @dk4.eq_1 hr1;refine rAq ?_;refine jC (lf ?_);obtain rfl:=sI H;exact rt []
def bj8 (n:Nat) (d:List aj5) (d_i:Nat) (p1:List UInt8) (p2:List UInt8) (p2_:Int) (p2__:Int) (p2___:Int) (p2____:List aj5):Option (Int×(List aj5)) :=
 (bk2 n p1).bind fun r1 =>
 bif (!r1) then
  some (1,d)
 else
  (ajt n (⟨p2,p2_,p2__,p2___,p2____⟩:aj6) p1).bind fun r2 =>
  bif r2.2 then
   some (4,d)
  else
   gd (d_i < d.length) <|
   some (0,(List.set d d_i (⟨p1,((gt d d_i).Dcb),(gt d d_i).Extents,(gt d d_i).Used⟩:aj5)))
theorem djp (n:Nat) (d:List aj5) (d_i:Nat) (p1:List UInt8) (p2:List UInt8) (p2_:Int) (p2__:Int) (p2___:Int) (p2____:List aj5) (r:Int×(List aj5)) (H:bj8 n d d_i p1 p2 p2_ p2__ p2___ p2____=some r):aw8 jd 91 [.ref (.elt 0 11 kD d_i 0),.ref (.box 1 0),.ref (.box 2 0)] [.row 41 (List.map aj4 d),.box [.c .str (.str p1)],.box [.c .str (.str p2),.c (.int .i64) (.int p2_),.c (.int .i64) (.int p2__),.c (.int .i64) (.int p2___),.c (.slice 41) (.slice (List.map aj4 p2____))]] [.c (.int .i64) (.int r.1)] [.row 41 (List.map aj4 r.2),.box [.c .str (.str p1)],.box [.c .str (.str p2),.c (.int .i64) (.int p2_),.c (.int .i64) (.int p2__),.c (.int .i64) (.int p2___),.c (.slice 41) (.slice (List.map aj4 p2____))]]:=by
 have hΓ:=g1 (dq5 n) (g1 (awa n) (@g0 (aj1 jd)));have qe:=aI @cws.eq_1 @aqr.eq_1;refine aw9 (Tryz.f91.body.getD .skip) h00 Tryz.func91 rfl Tryz.call91 (jp rfl) (jp rfl) ?_;unfold bj8 at H;simp only [Tryz.f91,jz];refine rA ?_;refine js fun K2 hK2=>?_;obtain ⟨r1,hr1,H⟩:=bind_some H;have q:=aI qe hr1;refine rAq ?_;refine cnd H (fun h4 H=>?_) (fun h4 H=>?_)
 ·refine rA ?_;refine jC (lf ?_);obtain rfl:=sI H;exact rtM [some 0,some 1,some 2]
 refine jy (hK2 _ (js fun K6 hK6=>?_));obtain ⟨r2,hr2,H⟩:=bind_some H;have q:=aI qe hr2;refine rAq ?_;refine rA ?_;refine cnd H (fun h9 H=>?_) (fun h9 H=>?_)
 ·refine rA ?_;refine jC (lf ?_);obtain rfl:=sI H;exact rtM [some 0,some 1,some 2]
 refine jy (hK6 _ ?_);refine sX fun K11 hK11=>?_;obtain ⟨hg12,H⟩:=aj8 H
 iterate 2 refine oX ?_
 refine oE gy6 ?_
 iterate 2 refine oX ?_
 refine hK11 _ ?_;refine rA ?_;refine jC (lf ?_);obtain rfl:=sI H;exact rtM [some 0,some 1,some 2]
def bqx (n:Nat) (v:aj6) (name:List UInt8) (how:List UInt8) (how_:List UInt8) (how__:Int) (how___:Int) (how____:Int) (how_____:List aj5):Option (aj6×Int) :=
 (awb n v).bind fun r1 =>
 bif (r1 != 0) then
  some ((⟨[],0,0,0,[]⟩:aj6),r1)
 else
  (ajt n v name).bind fun r2 =>
  bif (!r2.2) then
   some ((⟨[],0,0,0,[]⟩:aj6),3)
  else
   (ajn n v).bind fun r3 =>
   gd ((0≤r2.1∧r2.1 < (r3.Sets.length:Int))) <|
   (bj8 n r3.Sets (Int.toNat r2.1) how how_ how__ how___ how____ how_____).bind fun r4 =>
   gd (r4.2.length=r3.Sets.length) <|
   bif (r4.1 != 0) then
    some ((⟨[],0,0,0,[]⟩:aj6),r4.1)
   else
    some ((⟨r3.Serial,r3.Cyls,r3.Heads,r3.Size,r4.2⟩:aj6),0)
theorem dk7 (n:Nat) (v:aj6) (name:List UInt8) (how:List UInt8) (how_:List UInt8) (how__:Int) (how___:Int) (how____:Int) (how_____:List aj5) (r:aj6×Int) (H:bqx n v name how how_ how__ how___ how____ how_____=some r):aw8 jd 87 [.dat (true,[.str,.int .i64,.int .i64,.int .i64,.slice 41]) [.str v.Serial,.int v.Cyls,.int v.Heads,.int v.Size,.slice (List.map aj4 v.Sets)],.dat (false,[.str]) [.str name],.ref (.fnv 91 [.box 0 0,.box 1 0])] [.box [.c .str (.str how)],.box [.c .str (.str how_),.c (.int .i64) (.int how__),.c (.int .i64) (.int how___),.c (.int .i64) (.int how____),.c (.slice 41) (.slice (List.map aj4 how_____))]] [.agg [.c .str (.str r.1.Serial),.c (.int .i64) (.int r.1.Cyls),.c (.int .i64) (.int r.1.Heads),.c (.int .i64) (.int r.1.Size),.own 2 kD 0 r.1.Sets.length],.c (.int .i64) (.int r.2)] [.box [.c .str (.str how)],.box [.c .str (.str how_),.c (.int .i64) (.int how__),.c (.int .i64) (.int how___),.c (.int .i64) (.int how____),.c (.slice 41) (.slice (List.map aj4 how_____))],.row 41 (List.map aj4 r.1.Sets)]:=by
 have hΓ:=g1 (akc n) (g1 (awa n) (g1 (azl n) (@g0 (aj1 jd))));have qe:=aI @az6.eq_1 (aI @aqr.eq_1 @awj.eq_1);refine aw9 (Tryz.f87.body.getD .skip) h00 Tryz.func87 rfl Tryz.call87 (jp rfl) (jp rfl) ?_;unfold bqx at H;simp only [Tryz.f87,jz];refine rA ?_;refine js fun K2 hK2=>?_;obtain ⟨r1,hr1,H⟩:=bind_some H;have q:=aI qe hr1;refine rAq ?_;refine rA ?_;refine cnd H (fun h5 H=>?_) (fun h5 H=>?_)
 ·refine rA ?_;refine jC (lf ?_);obtain rfl:=sI H;exact rtM [some 0,some 1,none]
 refine jy (hK2 _ ?_);obtain ⟨r2,hr2,H⟩:=bind_some H;have q:=aI qe hr2;refine rAq ?_;refine js fun K8 hK8=>?_;refine rA ?_;refine cnd H (fun h10 H=>?_) (fun h10 H=>?_)
 ·refine rA ?_;refine jC (lf ?_);obtain rfl:=sI H;exact rtM [some 0,some 1,none]
 refine jy (hK8 _ ?_);obtain ⟨r3,hr3,H⟩:=bind_some H;have q:=aI qe hr3;refine rAq ?_;refine js fun K13 hK13=>?_;refine sX fun K14 hK14=>?_;obtain ⟨hg15,H⟩:=aj8 H;obtain ⟨r4,hr4,H⟩:=bind_some H;obtain ⟨hg16,H⟩:=aj8 H;have q:=hr4
 iterate 5 refine oX ?_
 refine oMq (djp n _ _ _ _ _ _ _ _ r4 hr4) [464,0,1] [] ?_;refine oXq ?_;refine hK14 _ ?_;refine rA ?_;refine cnd H (fun h18 H=>?_) (fun h18 H=>?_)
 ·refine rA ?_;refine jC (lf ?_);obtain rfl:=sI H;exact rtM [some 0,some 1,none]
 refine jy (hK13 _ ?_);refine rA ?_;refine jC (lf ?_);obtain rfl:=sI H;exact rtM [some 0,some 1,some 464]
def aqd (n:Nat) (s:List aj5):Option (List aj5):=fj3 (fun x y=>bqe n x y) s
theorem bym (n:Nat) (s:List aj5) (r:List aj5) (H:aqd n s=some r):aw8 jd 92 [.ref (.own 0 kD 0 s.length),.ref (.fnv 93 [])] [.row 41 (List.map aj4 s)] [] [.row 41 (List.map aj4 r)] :=
 dw1 iqi ty41 Tryz.isAgg41 Tryz.sizeOf41 (by decide) (by decide) (by intro args w;exact Tryz.call93 args w) aj4 (fun _=>rfl) (fun x y=>bqe n x y) (fun x y c h=>iql x y c h) s r H
def bk6 (n:Nat) (v:aj6) (old:List UInt8) (name:List UInt8):Option (aj6×Int) :=
 (bqx n v old name v.Serial v.Cyls v.Heads v.Size v.Sets).bind fun r1 =>
 (aqd n r1.1.Sets).bind fun r2 =>
 some ((⟨r1.1.Serial,r1.1.Cyls,r1.1.Heads,r1.1.Size,(List.take r1.1.Sets.length r2)⟩:aj6),r1.2)
def dqf (n:Nat):Go.AE.Fn:=mkFn (A:=aj6×(List UInt8)×(List UInt8)) (R:=aj6×Int) 45 [(true,[.str,.int .i64,.int .i64,.int .i64,.slice 41]),(false,[.str]),(false,[.str])] true (fun xs=>((⟨(cg (xs.getD 0 []) 0).toStr,(cg (xs.getD 0 []) 1).toInt,(cg (xs.getD 0 []) 2).toInt,(cg (xs.getD 0 []) 3).toInt,((cg (xs.getD 0 []) 4).toSl.map akb)⟩:aj6),(cg (xs.getD 1 []) 0).toStr,(cg (xs.getD 2 []) 0).toStr)) (fun a=>[[.str a.1.Serial,.int a.1.Cyls,.int a.1.Heads,.int a.1.Size,.slice (List.map aj4 a.1.Sets)],[.str a.2.1],[.str a.2.2]]) (fun a=>bk6 n a.1 a.2.1 a.2.2) (fun r=>[.agg (cV r.1),.c (.int .i64) (.int r.2)]) (fun r=>[])
theorem ez8 (n:Nat):aj1 jd (dqf n):=by
 have hΓ:=@g0 (aj1 jd);refine ajb (Tryz.f45.body.getD .skip) h00 Tryz.func45 rfl Tryz.call45 (by decide) (by intro h;cases h) ?_;rintro ⟨v,old,name⟩ r H
 try dsimp only at H
 unfold bk6 at H;simp only [Tryz.f45,jz];refine rA ?_;refine sX fun K2 hK2=>?_;obtain ⟨r1,hr1,H⟩:=bind_some H;have q:=hr1
 iterate 2 refine oX ?_
 refine oY ?_;refine oMq (dk7 n _ _ _ _ _ _ _ _ r1 hr1) [80,48] [224] ?_
 iterate 6 refine oXq ?_
 refine hK2 _ ?_;refine sX fun K3 hK3=>?_;obtain ⟨r2,hr2,H⟩:=bind_some H;have q:=hr2
 iterate 2 refine oX ?_
 refine oMq (bym n _ r2 hr2) [224] [] ?_;refine hK3 _ ?_;refine rA ?_;refine jC (lf ?_);obtain rfl:=sI H;exact rt []
def bzi (n:Nat) (a:aj5) (b:aj5):Option Bool :=
 gd (((if (if (a.Name == b.Name)=true then ((a.Dcb.Org == b.Dcb.Org) && ((a.Dcb.Format == b.Dcb.Format) && ((a.Dcb.Blocked == b.Dcb.Blocked) && ((a.Dcb.Asa == b.Dcb.Asa) && ((a.Dcb.Lrecl == b.Dcb.Lrecl) && ((a.Dcb.Blksize == b.Dcb.Blksize) && ((a.Dcb.KeyLen == b.Dcb.KeyLen) && (a.Dcb.KeyPos == b.Dcb.KeyPos)))))))) else false)=true then (a.Used == b.Used) else false)=true→(aww n a.Extents b.Extents).isSome=true)) <|
 some (if (if (if (a.Name == b.Name)=true then ((a.Dcb.Org == b.Dcb.Org) && ((a.Dcb.Format == b.Dcb.Format) && ((a.Dcb.Blocked == b.Dcb.Blocked) && ((a.Dcb.Asa == b.Dcb.Asa) && ((a.Dcb.Lrecl == b.Dcb.Lrecl) && ((a.Dcb.Blksize == b.Dcb.Blksize) && ((a.Dcb.KeyLen == b.Dcb.KeyLen) && (a.Dcb.KeyPos == b.Dcb.KeyPos)))))))) else false)=true then (a.Used == b.Used) else false)=true then ((aww n a.Extents b.Extents).getD default) else false)
def dwb (n:Nat):Go.AE.Fn:=mkFn (A:=aj5×aj5) (R:=Bool) 40 [(true,kD),(true,kD)] false (fun xs=>((⟨(cg (xs.getD 0 []) 0).toStr,(⟨(cg (xs.getD 0 []) 1).toInt,(cg (xs.getD 0 []) 2).toInt,(cg (xs.getD 0 []) 3).toBool,(cg (xs.getD 0 []) 4).toBool,(cg (xs.getD 0 []) 5).toInt,(cg (xs.getD 0 []) 6).toInt,(cg (xs.getD 0 []) 7).toInt,(cg (xs.getD 0 []) 8).toInt⟩:TDcb),((cg (xs.getD 0 []) 9).toSl.map aqm),(cg (xs.getD 0 []) 10).toInt⟩:aj5),(⟨(cg (xs.getD 1 []) 0).toStr,(⟨(cg (xs.getD 1 []) 1).toInt,(cg (xs.getD 1 []) 2).toInt,(cg (xs.getD 1 []) 3).toBool,(cg (xs.getD 1 []) 4).toBool,(cg (xs.getD 1 []) 5).toInt,(cg (xs.getD 1 []) 6).toInt,(cg (xs.getD 1 []) 7).toInt,(cg (xs.getD 1 []) 8).toInt⟩:TDcb),((cg (xs.getD 1 []) 9).toSl.map aqm),(cg (xs.getD 1 []) 10).toInt⟩:aj5))) (fun a=>[[.str a.1.Name,.int a.1.Dcb.Org,.int a.1.Dcb.Format,.bool a.1.Dcb.Blocked,.bool a.1.Dcb.Asa,.int a.1.Dcb.Lrecl,.int a.1.Dcb.Blksize,.int a.1.Dcb.KeyLen,.int a.1.Dcb.KeyPos,.slice (List.map aj2 a.1.Extents),.int a.1.Used],[.str a.2.Name,.int a.2.Dcb.Org,.int a.2.Dcb.Format,.bool a.2.Dcb.Blocked,.bool a.2.Dcb.Asa,.int a.2.Dcb.Lrecl,.int a.2.Dcb.Blksize,.int a.2.Dcb.KeyLen,.int a.2.Dcb.KeyPos,.slice (List.map aj2 a.2.Extents),.int a.2.Used]]) (fun a=>bzi n a.1 a.2) (fun r=>[.c .bool (.bool r)]) (fun r=>[])
theorem ezd (n:Nat):aj1 jd (dwb n):=by
 have hΓ:=g1 (czj n) (@g0 (aj1 jd));refine cF (Tryz.f40.body.getD .skip) Tryz.func40 rfl Tryz.call40 ?_;rintro ⟨a,b⟩ r H
 try dsimp only at H
 unfold bzi at H;simp only [Tryz.f40,jz];refine rA ?_;obtain ⟨hg3,H⟩:=aj8 H;have q:=@by5.eq_1;refine rAq ?_;refine jC (lf ?_);obtain rfl:=sI H;exact rt []
abbrev cz5:S:=stB [] []
def bw2 (n:Nat):Option Bool :=
 some true
abbrev ck3 (a:aj6) (b:aj6) (k:Int):S:=stB [(2,.box 9002 0),(3,.box 9003 0),(5,.c (.int .i64) (.int k))] [(9002,.box (cV a)),(9003,.box (cV b))]
def ayw (n:Nat) (a:aj6) (b:aj6) (k:Int):Option ((Int) ⊕ (((Bool) ⊕ (Unit)))) :=
 bif (decide (k < (a.Sets.length:Int))) then
  gd ((0≤k∧k < (a.Sets.length:Int))∧(0≤k∧k < (b.Sets.length:Int))) <|
  (bzi n (gt a.Sets (Int.toNat k)) (gt b.Sets (Int.toNat k))).bind fun r1 =>
  bif (!r1) then
   some (.inr (.inl false))
  else
   some (.inl (jb .i64 (k+1)))
 else
  some (.inr (.inr ()))
def bjj (n:Nat) (a:aj6) (b:aj6):Option Bool :=
 bif (if (if (if (if (a.Serial != b.Serial)=true then true else (a.Cyls != b.Cyls))=true then true else (a.Heads != b.Heads))=true then true else (a.Size != b.Size))=true then true else ((a.Sets.length:Int) != (b.Sets.length:Int))) then
  some false
 else
  (ajo (fun (x:Int)=>ayw n a b x) n 0).bind fun y8 =>
  match y8 with
  | .inl vv =>
   some vv
  | .inr vv =>
   bw2 n
def dw9 (n:Nat):Go.AE.Fn:=mkFn (A:=aj6×aj6) (R:=Bool) 44 [(true,[.str,.int .i64,.int .i64,.int .i64,.slice 41]),(true,[.str,.int .i64,.int .i64,.int .i64,.slice 41])] false (fun xs=>((⟨(cg (xs.getD 0 []) 0).toStr,(cg (xs.getD 0 []) 1).toInt,(cg (xs.getD 0 []) 2).toInt,(cg (xs.getD 0 []) 3).toInt,((cg (xs.getD 0 []) 4).toSl.map akb)⟩:aj6),(⟨(cg (xs.getD 1 []) 0).toStr,(cg (xs.getD 1 []) 1).toInt,(cg (xs.getD 1 []) 2).toInt,(cg (xs.getD 1 []) 3).toInt,((cg (xs.getD 1 []) 4).toSl.map akb)⟩:aj6))) (fun a=>[[.str a.1.Serial,.int a.1.Cyls,.int a.1.Heads,.int a.1.Size,.slice (List.map aj4 a.1.Sets)],[.str a.2.Serial,.int a.2.Cyls,.int a.2.Heads,.int a.2.Size,.slice (List.map aj4 a.2.Sets)]]) (fun a=>bjj n a.1 a.2) (fun r=>[.c .bool (.bool r)]) (fun r=>[])
theorem ekz (n:Nat):aj1 jd (dw9 n):=by
 have hΓ:=g1 (ezd n) (@g0 (aj1 jd));refine cF (Tryz.f44.body.getD .skip) Tryz.func44 rfl Tryz.call44 ?_;rintro ⟨a,b⟩ r H
 try dsimp only at H
 unfold bjj at H;simp only [Tryz.f44,jz];refine rA ?_;refine js fun K2 hK2=>?_;refine rA ?_;refine cnd H (fun h4 H=>?_) (fun h4 H=>?_)
 ·refine rA ?_;refine jC (lf ?_);obtain rfl:=sI H;exact rt []
 refine jy (hK2 _ ?_);refine Jp (fun (x:Unit)=>cz5) (fun x=>bw2 n=some r) ?_ ?_
 ·refine rA ?_;refine jN ?_;obtain ⟨y8,hy8,Ho8⟩:=bind_some H;refine Jl _ (fun x=>ck3 a b x) hy8 (wb [some 32,some 48]) ?_;rintro k z8 H
  try dsimp only at H
  unfold ayw at H;refine Sm.st (ck3.eq_1 ..) ?_;refine js fun K9 hK9=>?_;refine rA ?_;refine cnd H (fun h11 H=>?_) (fun h11 H=>?_)
  ·refine jy (hK9 _ (js fun K12 hK12=>jN ?_));obtain ⟨⟨hg16,hg17⟩,H⟩:=aj8 H;obtain ⟨r1,hr1,H⟩:=bind_some H;have q:=aI @dwb.eq_1 hr1;refine rDq ?_;refine cnd H (fun h14 H=>?_) (fun h14 H=>?_)
   ·refine rA ?_;refine jC (lf ?_);refine lx H fun hyy=>?_;subst hyy;have H:=Ho8
    try dsimp only at H
    refine lf ?_;obtain rfl:=sI H;exact rt []
   refine jy (hK12 _ ?_);refine eA ?_;refine lf ?_;exact nx H (wb [some 9002,some 9003])
  refine Js (lf ?_);refine lx H fun hyy=>?_;subst hyy;have H:=Ho8
  try dsimp only at H
  refine lf ?_;exact ⟨(),H,wb []⟩
 rintro ⟨⟩ H
 try dsimp only at H
 unfold bw2 at H;refine Sm.st (cz5.eq_1 ..) ?_;refine rA ?_;refine jC (lf ?_);obtain rfl:=sI H;exact rt []
def bqn (n:Nat) (c:Int):Option (Int×Bool) :=
 bif (if (decide (c < 32))=true then true else (decide (c > 126))) then
  some (0,false)
 else
  gd ((0≤(jb .u8 (c - 32))∧(jb .u8 (c - 32)) < ([64,90,127,123,91,108,80,125,77,93,92,78,107,96,75,97,240,241,242,243,244,245,246,247,248,249,122,94,76,126,110,111,124,193,194,195,196,197,198,199,200,201,209,210,211,212,213,214,215,216,217,226,227,228,229,230,231,232,233,186,224,187,176,109,121,129,130,131,132,133,134,135,136,137,145,146,147,148,149,150,151,152,153,162,163,164,165,166,167,168,169,192,79,208,161].length:Int))) <|
  some ((((([64,90,127,123,91,108,80,125,77,93,92,78,107,96,75,97,240,241,242,243,244,245,246,247,248,249,122,94,76,126,110,111,124,193,194,195,196,197,198,199,200,201,209,210,211,212,213,214,215,216,217,226,227,228,229,230,231,232,233,186,224,187,176,109,121,129,130,131,132,133,134,135,136,137,145,146,147,148,149,150,151,152,153,162,163,164,165,166,167,168,169,192,79,208,161]:List UInt8).getD (Int.toNat (jb .u8 (c - 32))) 0).toNat:Nat):Int),true)
def dqg (n:Nat):Go.AE.Fn:=mkFn (A:=Int) (R:=Int×Bool) 194 [(false,[.int .u8])] false (fun xs=>(cg (xs.getD 0 []) 0).toInt) (fun a=>[[.int a]]) (fun a=>bqn n a) (fun r=>[.c (.int .u8) (.int r.1),.c .bool (.bool r.2)]) (fun r=>[])
theorem ekp (n:Nat):aj1 jd (dqg n):=by
 have hΓ:=@g0 (aj1 jd);refine cF (Tryz.f194.body.getD .skip) Tryz.func194 rfl Tryz.call194 ?_;rintro c r H
 try dsimp only at H
 unfold bqn at H;simp only [Tryz.f194,jz];refine rA ?_;refine js fun K2 hK2=>?_;refine rA ?_;refine cnd H (fun h4 H=>?_) (fun h4 H=>?_)
 ·refine rA ?_;refine jC (lf ?_);obtain rfl:=sI H;exact rt []
 refine jy (hK2 _ ?_);obtain ⟨hg7,H⟩:=aj8 H;refine rA ?_;refine jC (lf ?_);obtain rfl:=sI H;exact rt []
abbrev cjs (out:List Int):S:=stB [(6,.own 9000 [.int .u8] 0 out.length)] [(9000,.row 5 (List.map aq7 out))]
def bww (n:Nat) (out:List Int):Option ((List Int)×Int) :=
 some (out,0)
abbrev cq2 (s:List UInt8) (out_2:List Int) (v13:Int) (v14:Int):S:=stB [(0,.c .str (.str s)),(6,.own 9003 [.int .u8] 0 out_2.length),(13,.c (.int .i64) (.int v13)),(14,.c (.int .i64) (.int v14))] [(9003,.row 5 (List.map aq7 out_2))]
def azf (n:Nat) (s:List UInt8) (out_2:List Int) (v13:Int) (v14:Int):Option (((List Int)×Int) ⊕ ((((List Int)×Int) ⊕ ((List Int))))) :=
 some (.inl (out_2,(jb .i64 (v14+1))))
abbrev cq1 (s:List UInt8) (v13:Int) (out_1:List Int) (v14:Int):S:=stB [(0,.c .str (.str s)),(6,.own 9002 [.int .u8] 0 out_1.length),(13,.c (.int .i64) (.int v13)),(14,.c (.int .i64) (.int v14))] [(9002,.row 5 (List.map aq7 out_1))]
def azd (n:Nat) (s:List UInt8) (v13:Int) (out_1:List Int) (v14:Int):Option (((List Int)×Int) ⊕ ((((List Int)×Int) ⊕ ((List Int))))) :=
 bif (decide (v14 < v13)) then
  gd ((0≤v14∧v14 < (out_1.length:Int))∧(Int.toNat v14) < out_1.length) <|
  bif (decide (v14 ≥ (s.length:Int))) then
   azf n s (List.set out_1 (Int.toNat v14) 64) v13 v14
  else
   gd ((0≤v14∧v14 < (s.length:Int))) <|
   (bqn n (((s.getD (Int.toNat v14) 0).toNat:Nat):Int)).bind fun r1 =>
   bif (!r1.2) then
    some (.inr (.inl ([],20)))
   else
    gd ((0≤v14∧v14 < (out_1.length:Int))∧(Int.toNat v14) < out_1.length) <|
    azf n s (List.set (List.set out_1 (Int.toNat v14) 64) (Int.toNat v14) r1.1) v13 v14
 else
  some (.inr (.inr out_1))
def bz5 (n:Nat) (s:List UInt8) (n_:Int):Option ((List Int)×Int) :=
 gd ((0≤n_∧n_≤n_∧n_≤2147483648)) <|
 (ajo (fun (x:(List Int)×Int)=>azd n s (((Int.toNat n_):Nat):Int) x.1 x.2) n ((awi (Int.toNat n_) 0),0)).bind fun y6 =>
 match y6 with
 | .inl vv =>
  some (vv.1,vv.2)
 | .inr vv =>
  bww n vv
def ck0 (n:Nat):Go.AE.Fn:=mkFn (A:=(List UInt8)×Int) (R:=(List Int)×Int) 162 [(false,[.str]),(false,[.int .i64])] false (fun xs=>((cg (xs.getD 0 []) 0).toStr,(cg (xs.getD 1 []) 0).toInt)) (fun a=>[[.str a.1],[.int a.2]]) (fun a=>bz5 n a.1 a.2) (fun r=>[.own 0 [.int .u8] 0 r.1.length,.c (.int .i64) (.int r.2)]) (fun r=>[.row 5 (List.map aq7 r.1)])
theorem dyi (n:Nat):aj1 jd (ck0 n):=by
 have hΓ:=g1 (ekp n) (@g0 (aj1 jd));refine ajb (Tryz.f162.body.getD .skip) h00 Tryz.func162 rfl Tryz.call162 (by decide) (fun _ r=>⟨rfl,m1 ⟨5,_,_,rfl,ty5,rfl⟩ m0⟩) ?_;rintro ⟨s,n_⟩ r H
 try dsimp only at H
 unfold bz5 at H;simp only [Tryz.f162,jz];refine rA ?_;refine sX fun K2 hK2=>?_;obtain ⟨hg3,H⟩:=aj8 H;refine oX ?_;refine oY ?_;refine oX ?_;refine hK2 _ ?_;refine Jp (fun (x:(List Int))=>cjs x) (fun x=>bww n x=some r) ?_ ?_
 ·refine rA ?_;refine jN ?_;obtain ⟨y6,hy6,Ho6⟩:=bind_some H;refine Jl _ (fun x=>cq1 s (((Int.toNat n_):Nat):Int) x.1 x.2) hy6 (wb [some 176]) ?_;rintro ⟨out_1,v14⟩ z6 H
  try dsimp only at H
  unfold azd at H;refine Sm.st (cq1.eq_1 ..) ?_;refine rA ?_;refine js fun K8 hK8=>?_;refine cnd H (fun h9 H=>?_) (fun h9 H=>?_)
  ·refine jy (hK8 _ ?_);refine Jp (fun (x:(List Int))=>cq2 s x (((Int.toNat n_):Nat):Int) v14) (fun x=>azf n s x (((Int.toNat n_):Nat):Int) v14=some z6) ?_ ?_
   ·refine jN ?_;refine rA ?_;obtain ⟨⟨hg23,hg24⟩,H⟩:=aj8 H;refine rA ?_;refine js fun K12 hK12=>?_;refine rA ?_;refine cnd H (fun h14 H=>?_) (fun h14 H=>?_)
    ·refine Js (lf ?_);exact ⟨_,H,wb [some 9002]⟩
    refine jy (hK12 _ ?_);obtain ⟨hg22,H⟩:=aj8 H;obtain ⟨r1,hr1,H⟩:=bind_some H;have q:=aI @dqg.eq_1 hr1;refine rAq ?_;refine js fun K16 hK16=>?_;refine rA ?_;refine cnd H (fun h18 H=>?_) (fun h18 H=>?_)
    ·refine rA ?_;refine jC (lf ?_);refine lx H fun hyy=>?_;subst hyy;have H:=Ho6
     try dsimp only at H
     refine lf ?_;obtain rfl:=sI H;exact rto [none]
    refine jy (hK16 _ ?_);obtain ⟨⟨hg20,hg21⟩,H⟩:=aj8 H;refine eA ?_;refine lf ?_;exact ⟨_,H,wb [some 9002]⟩
   rintro out_2 H
   try dsimp only at H
   unfold azf at H;refine Sm.st (cq2.eq_1 ..) ?_;refine eA ?_;refine lf ?_;exact nx H (wb [some 9003])
  refine Js (lf ?_);refine lx H fun hyy=>?_;subst hyy;have H:=Ho6
  try dsimp only at H
  refine lf ?_;exact ⟨_,H,wb [some 9002]⟩
 rintro out H
 try dsimp only at H
 unfold bww at H;refine Sm.st (cjs.eq_1 ..) ?_;refine rA ?_;refine jC (lf ?_);obtain rfl:=sI H;exact rto [some 9000]
def cwr (n:Nat) (s:List UInt8) (n_:Int):Option ((List Int)×Int) :=
 bif (if (decide (n_ < 0))=true then true else (decide (n_ > 65536))) then
  some ([],1)
 else
  bif (decide ((s.length:Int) > n_)) then
   some ([],2)
  else
   (bz5 n s n_).bind fun r1 =>
   some (r1.1,r1.2)
def dza (n:Nat):Go.AE.Fn:=mkFn (A:=(List UInt8)×Int) (R:=(List Int)×Int) 121 [(false,[.str]),(false,[.int .i64])] false (fun xs=>((cg (xs.getD 0 []) 0).toStr,(cg (xs.getD 1 []) 0).toInt)) (fun a=>[[.str a.1],[.int a.2]]) (fun a=>cwr n a.1 a.2) (fun r=>[.own 0 [.int .u8] 0 r.1.length,.c (.int .i64) (.int r.2)]) (fun r=>[.row 5 (List.map aq7 r.1)])
theorem fqc (n:Nat):aj1 jd (dza n):=by
 have hΓ:=g1 (dyi n) (@g0 (aj1 jd));refine ajb (Tryz.f121.body.getD .skip) h00 Tryz.func121 rfl Tryz.call121 (by decide) (fun _ r=>⟨rfl,m1 ⟨5,_,_,rfl,ty5,rfl⟩ m0⟩) ?_;rintro ⟨s,n_⟩ r H
 try dsimp only at H
 unfold cwr at H;simp only [Tryz.f121,jz];refine rA ?_;refine js fun K2 hK2=>jN ?_;refine rA ?_;refine cnd H (fun h4 H=>?_) (fun h4 H=>?_)
 ·refine rA ?_;refine jC (lf ?_);obtain rfl:=sI H;exact rto [none]
 refine rA ?_;refine cnd H (fun h7 H=>?_) (fun h7 H=>?_)
 ·refine rA ?_;refine jC (lf ?_);obtain rfl:=sI H;exact rto [none]
 refine jy (hK2 _ ?_);obtain ⟨r1,hr1,H⟩:=bind_some H;have q:=aI @ck0.eq_1 hr1;refine rAq ?_;refine jC (lf ?_);obtain rfl:=sI H;exact rto [some 320]
def bq8 (n:Nat) (s:List UInt8) (n_:Int):Option (List Int) :=
 (cwr n s n_).bind fun r1 =>
 some r1.1
def byu (n:Nat):Go.AE.Fn:=mkFn (A:=(List UInt8)×Int) (R:=(List Int)) 61 [(false,[.str]),(false,[.int .i64])] false (fun xs=>((cg (xs.getD 0 []) 0).toStr,(cg (xs.getD 1 []) 0).toInt)) (fun a=>[[.str a.1],[.int a.2]]) (fun a=>bq8 n a.1 a.2) (fun r=>[.own 0 [.int .u8] 0 r.length]) (fun r=>[.row 5 (List.map aq7 r)])
theorem dyw (n:Nat):aj1 jd (byu n):=by
 have hΓ:=g1 (fqc n) (@g0 (aj1 jd));refine ajb (Tryz.f61.body.getD .skip) h00 Tryz.func61 rfl Tryz.call61 (by decide) (fun _ r=>⟨rfl,m1 ⟨5,_,_,rfl,ty5,rfl⟩ m0⟩) ?_;rintro ⟨s,n_⟩ r H
 try dsimp only at H
 unfold bq8 at H;simp only [Tryz.f61,jz];refine rA ?_;obtain ⟨r1,hr1,H⟩:=bind_some H;have q:=aI @dza.eq_1 hr1;refine rAq ?_;refine rA ?_;refine jC (lf ?_);obtain rfl:=sI H;exact rto [some 160]
def ayz (n:Nat) (n_:Int):Option (List Int) :=
 some [(jb .u8 ((Int.fdiv n_ (2 ^ min 8 (jj .i64))))),(jb .u8 (n_))]
def by9 (n:Nat):Go.AE.Fn:=mkFn (A:=Int) (R:=(List Int)) 62 [(false,[.int .i64])] false (fun xs=>(cg (xs.getD 0 []) 0).toInt) (fun a=>[[.int a]]) (fun a=>ayz n a) (fun r=>[.own 0 [.int .u8] 0 r.length]) (fun r=>[.row 5 (List.map aq7 r)])
theorem ejd (n:Nat):aj1 jd (by9 n):=by
 have hΓ:=@g0 (aj1 jd);refine ajb (Tryz.f62.body.getD .skip) h00 Tryz.func62 rfl Tryz.call62 (by decide) (fun _ r=>⟨rfl,m1 ⟨5,_,_,rfl,ty5,rfl⟩ m0⟩) ?_;rintro n_ r H
 try dsimp only at H
 unfold ayz at H;simp only [Tryz.f62,jz];refine rA ?_;refine sX fun K2 hK2=>?_;refine oX ?_;refine oE awv ?_
 iterate 5 refine oX ?_
 refine hK2 _ (jC (lf ?_));obtain rfl:=sI H;exact rto [some 128]
end Go.Proofs.YtijnkhcfondehaaGreatDoor
