/- Text. -/
import Derived.Test.YtijnkhcfondehaaGreatDoorF1
set_option maxHeartbeats 8000000
set_option linter.unusedVariables false
set_option linter.unusedSimpArgs false
set_option maxRecDepth 100000
open Go.IntKind renaming wrap→jc
open _root_.Nat renaming le_of_ble_eq_true→ju
open _root_.Option renaming getD→jn
open Go.AE.Sm renaming seqK→jj,ret→jp,skip→jo,cut→jS,block→jr,loopB→jL,exit→jR
open Go.Proofs.Tryz renaming prog→jd
namespace Go.Proofs.YtijnkhcfondehaaGreatDoor
open Go.AE
def bj7 (n:Nat) (d:List aja) (d_i:Nat) (p1:Int) (p1_:Int) (p1__:Bool) (p1___:Bool) (p1____:Int) (p1_____:Int) (p1______:Int) (p1_______:Int) (p2:Int):Option (Int×(List aja)) :=
 (aqg n (⟨p1,p1_,p1__,p1___,p1____,p1_____,p1______,p1_______⟩:TDcb)).bind fun r1 =>
 bif (!r1) then
  some (1,d)
 else
  gd (d_i < d.length) <|
  (bw7 n ((gt d d_i).Extents)).bind fun r2 =>
  (ajv n p2 0 r2).bind fun r3 =>
  bif (!r3) then
   some (6,d)
  else
   gd (d_i < d.length∧d_i < d.length) <|
   some (0,(List.set (List.set d d_i (⟨(gt d d_i).Name,(⟨p1,p1_,p1__,p1___,p1____,p1_____,p1______,p1_______⟩:TDcb),(gt d d_i).Extents,(gt d d_i).Used⟩:aja)) d_i (⟨(gt (List.set d d_i (⟨(gt d d_i).Name,(⟨p1,p1_,p1__,p1___,p1____,p1_____,p1______,p1_______⟩:TDcb),(gt d d_i).Extents,(gt d d_i).Used⟩:aja)) d_i).Name,((gt (List.set d d_i (⟨(gt d d_i).Name,(⟨p1,p1_,p1__,p1___,p1____,p1_____,p1______,p1_______⟩:TDcb),(gt d d_i).Extents,(gt d d_i).Used⟩:aja)) d_i).Dcb),(gt (List.set d d_i (⟨(gt d d_i).Name,(⟨p1,p1_,p1__,p1___,p1____,p1_____,p1______,p1_______⟩:TDcb),(gt d d_i).Extents,(gt d d_i).Used⟩:aja)) d_i).Extents,p2⟩:aja)))
theorem dq0 (n:Nat) (d:List aja) (d_i:Nat) (p1:Int) (p1_:Int) (p1__:Bool) (p1___:Bool) (p1____:Int) (p1_____:Int) (p1______:Int) (p1_______:Int) (p2:Int) (r:Int×(List aja)) (H:bj7 n d d_i p1 p1_ p1__ p1___ p1____ p1_____ p1______ p1_______ p2=some r):awi jd 98 [.ref (.elt 0 11 [.str,.int .i64,.int .i64,.bool,.bool,.int .i64,.int .i64,.int .i64,.int .i64,.slice 80,.int .i64] d_i 0),.ref (.box 1 0),.ref (.box 2 0)] [.row 41 (List.map aj4 d),.box [.c (.int .i64) (.int p1),.c (.int .i64) (.int p1_),.c .bool (.bool p1__),.c .bool (.bool p1___),.c (.int .i64) (.int p1____),.c (.int .i64) (.int p1_____),.c (.int .i64) (.int p1______),.c (.int .i64) (.int p1_______)],.box [.c (.int .i64) (.int p2)]] [.c (.int .i64) (.int r.1)] [.row 41 (List.map aj4 r.2),.box [.c (.int .i64) (.int p1),.c (.int .i64) (.int p1_),.c .bool (.bool p1__),.c .bool (.bool p1___),.c (.int .i64) (.int p1____),.c (.int .i64) (.int p1_____),.c (.int .i64) (.int p1______),.c (.int .i64) (.int p1_______)],.box [.c (.int .i64) (.int p2)]]:=by
 have hΓ:=g1 (bqm n) (g1 (dj3 n) (g1 (dzn n) (@g0 (aj1 jd))))
 have qe:=aI @ay4.eq_1 (aI @bka.eq_1 @cy0.eq_1)
 refine awt (Tryz.f98.body.getD .skip) h00 Tryz.func98 rfl Tryz.call98 (ju rfl) (ju rfl) ?_
 unfold bj7 at H
 simp only [Tryz.f98,jn]
 refine rA ?_
 refine jj fun K2 hK2=>?_
 obtain ⟨r1,hr1,H⟩:=bind_some H
 have q:=aI qe hr1
 refine rAq ?_
 refine cnd H (fun h4 H=>?_) (fun h4 H=>?_)
 ·refine rA ?_
  refine jp ?_
  refine lf ?_
  obtain rfl:=Option.some.inj H
  exact rtM [some 0,some 1,some 2]
 refine jo ?_
 refine hK2 _ ?_
 refine jj fun K6 hK6=>?_
 obtain ⟨hg8,H⟩:=aj3 H
 obtain ⟨r2,hr2,H⟩:=bind_some H
 obtain ⟨r3,hr3,H⟩:=bind_some H
 refine sQ [0,1,2,3,4,5,6,7] [(none,[2],[]),(none,[],[]),(none,[1000001,0],[]),(none,[0],[]),(none,[0],[]),(none,[],[223,222,221,220,219,218,217,216,215,214,213,212,211,210,209,208]),(none,[],[239,238,237,236,235,234,233,232,231,230,229,228,227,226,225,224]),(none,[],[])] fun K7 hK7=>?_
 have q:=aI qe (aI hr2 hr3)
 iterate 2 refine oQq ?_
 refine oQVq ?_
 iterate 5 refine oQq ?_
 refine bjh ?_
 refine hK7 _ ?_
 refine cnd H (fun h9 H=>?_) (fun h9 H=>?_)
 ·refine rA ?_
  refine jp ?_
  refine lf ?_
  obtain rfl:=Option.some.inj H
  exact rtM [some 0,some 1,some 2]
 refine jo ?_
 refine hK6 _ ?_
 obtain ⟨⟨hg12,hg13⟩,H⟩:=aj3 H
 refine sQ [0,1,2,3,4,5,6,7,8,9] [(none,[],[]),(none,[],[]),(none,[1],[]),(none,[2],[]),(none,[1000001,0],[]),(none,[0],[]),(none,[0],[0]),(none,[1000001,0],[]),(none,[0],[]),(none,[0],[0])] fun K11 hK11=>?_
 iterate 4 refine oQ ?_
 refine oQV ?_
 iterate 2 refine oQ ?_
 refine oQV ?_
 iterate 2 refine oQ ?_
 refine bjh ?_
 refine hK11 _ ?_
 refine rA ?_
 refine jp ?_
 refine lf ?_
 obtain rfl:=Option.some.inj H
 exact rtM [some 0,some 1,some 2]
def bww (n:Nat) (v:aj9) (name:List UInt8) (how:Int) (how_:Int) (how__:Bool) (how___:Bool) (how____:Int) (how_____:Int) (how______:Int) (how_______:Int) (how________:Int):Option (aj9×Int) :=
 (aq5 n v).bind fun r1 =>
 bif (r1 != 0) then
  some ((⟨[],0,0,0,[]⟩:aj9),r1)
 else
  (aqp n v name).bind fun r2 =>
  bif (!r2.2) then
   some ((⟨[],0,0,0,[]⟩:aj9),3)
  else
   (ajy n v).bind fun r3 =>
   gd ((0≤r2.1∧r2.1 < (r3.Sets.length:Int))) <|
   (bj7 n r3.Sets (Int.toNat r2.1) how how_ how__ how___ how____ how_____ how______ how_______ how________).bind fun r4 =>
   gd (r4.2.length=r3.Sets.length) <|
   bif (r4.1 != 0) then
    some ((⟨[],0,0,0,[]⟩:aj9),r4.1)
   else
    some ((⟨r3.Serial,r3.Cyls,r3.Heads,r3.Size,r4.2⟩:aj9),0)
theorem dy5 (n:Nat) (v:aj9) (name:List UInt8) (how:Int) (how_:Int) (how__:Bool) (how___:Bool) (how____:Int) (how_____:Int) (how______:Int) (how_______:Int) (how________:Int) (r:aj9×Int) (H:bww n v name how how_ how__ how___ how____ how_____ how______ how_______ how________=some r):awi jd 87 [.dat (true,[.str,.int .i64,.int .i64,.int .i64,.slice 41]) [.str v.Serial,.int v.Cyls,.int v.Heads,.int v.Size,.slice (List.map aj4 v.Sets)],.dat (false,[.str]) [.str name],.ref (.fnv 98 [.box 0 0,.box 1 0])] [.box [.c (.int .i64) (.int how),.c (.int .i64) (.int how_),.c .bool (.bool how__),.c .bool (.bool how___),.c (.int .i64) (.int how____),.c (.int .i64) (.int how_____),.c (.int .i64) (.int how______),.c (.int .i64) (.int how_______)],.box [.c (.int .i64) (.int how________)]] [.agg [.c .str (.str r.1.Serial),.c (.int .i64) (.int r.1.Cyls),.c (.int .i64) (.int r.1.Heads),.c (.int .i64) (.int r.1.Size),.own 2 [.str,.int .i64,.int .i64,.bool,.bool,.int .i64,.int .i64,.int .i64,.int .i64,.slice 80,.int .i64] 0 r.1.Sets.length],.c (.int .i64) (.int r.2)] [.box [.c (.int .i64) (.int how),.c (.int .i64) (.int how_),.c .bool (.bool how__),.c .bool (.bool how___),.c (.int .i64) (.int how____),.c (.int .i64) (.int how_____),.c (.int .i64) (.int how______),.c (.int .i64) (.int how_______)],.box [.c (.int .i64) (.int how________)],.row 41 (List.map aj4 r.1.Sets)]:=by
 have hΓ:=g1 (aw4 n) (g1 (awo n) (g1 (azb n) (@g0 (aj1 jd))))
 have qe:=aI @aqc.eq_1 (aI @aqz.eq_1 @awe.eq_1)
 refine awt (Tryz.f87.body.getD .skip) h00 Tryz.func87 rfl Tryz.call87 (ju rfl) (ju rfl) ?_
 unfold bww at H
 simp only [Tryz.f87,jn]
 refine rA ?_
 refine jj fun K2 hK2=>?_
 obtain ⟨r1,hr1,H⟩:=bind_some H
 have q:=aI qe hr1
 refine rAq ?_
 refine rA ?_
 refine cnd H (fun h5 H=>?_) (fun h5 H=>?_)
 ·refine rA ?_
  refine jp ?_
  refine lf ?_
  obtain rfl:=Option.some.inj H
  exact rtM [some 0,some 1,none]
 refine jo ?_
 refine hK2 _ ?_
 obtain ⟨r2,hr2,H⟩:=bind_some H
 have q:=aI qe hr2
 refine rAq ?_
 refine jj fun K8 hK8=>?_
 refine rA ?_
 refine cnd H (fun h10 H=>?_) (fun h10 H=>?_)
 ·refine rA ?_
  refine jp ?_
  refine lf ?_
  obtain rfl:=Option.some.inj H
  exact rtM [some 0,some 1,none]
 refine jo ?_
 refine hK8 _ ?_
 obtain ⟨r3,hr3,H⟩:=bind_some H
 have q:=aI qe hr3
 refine rAq ?_
 refine jj fun K13 hK13=>?_
 refine sX fun K14 hK14=>?_
 obtain ⟨hg15,H⟩:=aj3 H
 obtain ⟨r4,hr4,H⟩:=bind_some H
 obtain ⟨hg16,H⟩:=aj3 H
 have q:=hr4
 iterate 5 refine oX ?_
 refine oMq (dq0 n _ _ _ _ _ _ _ _ _ _ _ r4 hr4) [464,0,1] [] ?_
 refine oXq ?_
 refine hK14 _ ?_
 refine rA ?_
 refine cnd H (fun h18 H=>?_) (fun h18 H=>?_)
 ·refine rA ?_
  refine jp ?_
  refine lf ?_
  obtain rfl:=Option.some.inj H
  exact rtM [some 0,some 1,none]
 refine jo ?_
 refine hK13 _ ?_
 refine rA ?_
 refine jp ?_
 refine lf ?_
 obtain rfl:=Option.some.inj H
 exact rtM [some 0,some 1,some 464]
def ckk (n:Nat) (v:aj9) (name:List UInt8) (c:TDcb) (used:Int):Option (aj9×Int) :=
 (bww n v name c.Org c.Format c.Blocked c.Asa c.Lrecl c.Blksize c.KeyLen c.KeyPos used).bind fun r1 =>
 some (r1.1,r1.2)
def dwt (n:Nat):Go.AE.Fn:=mkFn (A:=aj9×(List UInt8)×TDcb×Int) (R:=aj9×Int) 48 [(true,[.str,.int .i64,.int .i64,.int .i64,.slice 41]),(false,[.str]),(true,[.int .i64,.int .i64,.bool,.bool,.int .i64,.int .i64,.int .i64,.int .i64]),(false,[.int .i64])] true (fun xs=>((⟨(cg (xs.getD 0 []) 0).toStr,(cg (xs.getD 0 []) 1).toInt,(cg (xs.getD 0 []) 2).toInt,(cg (xs.getD 0 []) 3).toInt,((cg (xs.getD 0 []) 4).toSl.map aqi)⟩:aj9),(cg (xs.getD 1 []) 0).toStr,(⟨(cg (xs.getD 2 []) 0).toInt,(cg (xs.getD 2 []) 1).toInt,(cg (xs.getD 2 []) 2).toBool,(cg (xs.getD 2 []) 3).toBool,(cg (xs.getD 2 []) 4).toInt,(cg (xs.getD 2 []) 5).toInt,(cg (xs.getD 2 []) 6).toInt,(cg (xs.getD 2 []) 7).toInt⟩:TDcb),(cg (xs.getD 3 []) 0).toInt)) (fun a=>[[.str a.1.Serial,.int a.1.Cyls,.int a.1.Heads,.int a.1.Size,.slice (List.map aj4 a.1.Sets)],[.str a.2.1],[.int a.2.2.1.Org,.int a.2.2.1.Format,.bool a.2.2.1.Blocked,.bool a.2.2.1.Asa,.int a.2.2.1.Lrecl,.int a.2.2.1.Blksize,.int a.2.2.1.KeyLen,.int a.2.2.1.KeyPos],[.int a.2.2.2]]) (fun a=>ckk n a.1 a.2.1 a.2.2.1 a.2.2.2) (fun r=>[.agg [.c .str (.str r.1.Serial),.c (.int .i64) (.int r.1.Cyls),.c (.int .i64) (.int r.1.Heads),.c (.int .i64) (.int r.1.Size),.own 0 [.str,.int .i64,.int .i64,.bool,.bool,.int .i64,.int .i64,.int .i64,.int .i64,.slice 80,.int .i64] 0 r.1.Sets.length],.c (.int .i64) (.int r.2)]) (fun r=>[.row 41 (List.map aj4 r.1.Sets)])
theorem ezj (n:Nat):aj1 jd (dwt n):=by
 have hΓ:=@g0 (aj1 jd)
 refine aj6 (Tryz.f48.body.getD .skip) h00 Tryz.func48 rfl Tryz.call48 (by decide) (by intro h;cases h) ?_
 rintro ⟨v,name,c,used⟩ r H
 try dsimp only at H
 unfold ckk at H
 simp only [Tryz.f48,jn]
 refine rA ?_
 refine sX fun K2 hK2=>?_
 obtain ⟨r1,hr1,H⟩:=bind_some H
 have q:=hr1
 iterate 2 refine oX ?_
 refine oY ?_
 refine oMq (dy5 n _ _ _ _ _ _ _ _ _ _ _ r1 hr1) [96,112] [208] ?_
 iterate 4 refine oXq ?_
 refine hK2 _ ?_
 refine jp ?_
 refine lf ?_
 obtain rfl:=Option.some.inj H
 exact rto [some 208]
abbrev cwh (kept:List aj0) (rest:List aj0):S:=stB [(4,.own 9000 [.int .i64,.int .i64] 0 kept.length),(5,.own 9001 [.int .i64,.int .i64] 0 rest.length)] [(9000,.row 80 (List.map aj2 kept)),(9001,.row 80 (List.map aj2 rest))]
def bz0 (n:Nat) (kept:List aj0) (rest:List aj0):Option ((List aj0)×(List aj0)) :=
 some (kept,rest)
abbrev cws (n__2:Int) (kept_2:List aj0) (rest_2:List aj0) (l:List aj0) (v15:Int) (v16:Int):S:=stB [(1,.c (.int .i64) (.int n__2)),(4,.own 9006 [.int .i64,.int .i64] 0 kept_2.length),(5,.own 9007 [.int .i64,.int .i64] 0 rest_2.length),(14,.c (.slice 80) (.slice (List.map aj2 l))),(15,.c (.int .i64) (.int v15)),(16,.c (.int .i64) (.int v16))] [(9006,.row 80 (List.map aj2 kept_2)),(9007,.row 80 (List.map aj2 rest_2))]
def bwf (n:Nat) (n__2:Int) (kept_2:List aj0) (rest_2:List aj0) (l:List aj0) (v15:Int) (v16:Int):Option ((Int×(List aj0)×(List aj0)×Int) ⊕ (((List aj0)×(List aj0)))) :=
 some (.inl (n__2,kept_2,rest_2,(jc .i64 (v16+1))))
abbrev czh (n__1:Int) (kept_3:List aj0) (rest_3:List aj0) (k:Int) (l:List aj0) (v15:Int) (v16:Int):S:=stB [(1,.c (.int .i64) (.int n__1)),(4,.own 9011 [.int .i64,.int .i64] 0 kept_3.length),(5,.own 9012 [.int .i64,.int .i64] 0 rest_3.length),(8,.c (.int .i64) (.int k)),(14,.c (.slice 80) (.slice (List.map aj2 l))),(15,.c (.int .i64) (.int v15)),(16,.c (.int .i64) (.int v16))] [(9011,.row 80 (List.map aj2 kept_3)),(9012,.row 80 (List.map aj2 rest_3))]
def ayx (n:Nat) (n__1:Int) (kept_3:List aj0) (rest_3:List aj0) (k:Int) (l:List aj0) (v15:Int) (v16:Int):Option ((Int×(List aj0)×(List aj0)×Int) ⊕ (((List aj0)×(List aj0)))) :=
 bwf n (jc .i64 (n__1 - k)) kept_3 rest_3 l v15 v16
abbrev cwq (n__1:Int) (kept_3:List aj0) (rest_1:List aj0) (x_:Int) (x__1:Int) (k:Int) (l:List aj0) (v15:Int) (v16:Int):S:=stB [(1,.c (.int .i64) (.int n__1)),(4,.own 9008 [.int .i64,.int .i64] 0 kept_3.length),(5,.own 9009 [.int .i64,.int .i64] 0 rest_1.length),(7,.box 9010 0),(8,.c (.int .i64) (.int k)),(14,.c (.slice 80) (.slice (List.map aj2 l))),(15,.c (.int .i64) (.int v15)),(16,.c (.int .i64) (.int v16))] [(9008,.row 80 (List.map aj2 kept_3)),(9009,.row 80 (List.map aj2 rest_1)),(9010,.box [.c (.int .i64) (.int x_),.c (.int .i64) (.int x__1)])]
def ayv (n:Nat) (n__1:Int) (kept_3:List aj0) (rest_1:List aj0) (x_:Int) (x__1:Int) (k:Int) (l:List aj0) (v15:Int) (v16:Int):Option ((Int×(List aj0)×(List aj0)×Int) ⊕ (((List aj0)×(List aj0)))) :=
 bif (decide (k < x__1)) then
  gd ((rest_1.length+1)≤2147483648) <|
  ayx n n__1 kept_3 (rest_1 ++ [(⟨(jc .i64 (x_+k)),(jc .i64 (x__1 - k))⟩:aj0)]) k l v15 v16
 else
  ayx n n__1 kept_3 rest_1 k l v15 v16
abbrev cz8 (l:List aj0) (v15:Int) (n__1:Int) (kept_1:List aj0) (rest_1:List aj0) (v16:Int):S:=stB [(1,.c (.int .i64) (.int n__1)),(4,.own 9004 [.int .i64,.int .i64] 0 kept_1.length),(5,.own 9005 [.int .i64,.int .i64] 0 rest_1.length),(14,.c (.slice 80) (.slice (List.map aj2 l))),(15,.c (.int .i64) (.int v15)),(16,.c (.int .i64) (.int v16))] [(9004,.row 80 (List.map aj2 kept_1)),(9005,.row 80 (List.map aj2 rest_1))]
def czn (n:Nat) (l:List aj0) (v15:Int) (n__1:Int) (kept_1:List aj0) (rest_1:List aj0) (v16:Int):Option ((Int×(List aj0)×(List aj0)×Int) ⊕ (((List aj0)×(List aj0)))) :=
 bif (decide (v16 < v15)) then
  gd ((0≤v16∧v16 < (l.length:Int))) <|
  bif (decide ((if ((gt l (Int.toNat v16)).Len) < n__1 then ((gt l (Int.toNat v16)).Len) else n__1) > 0)) then
   gd ((kept_1.length+1)≤2147483648) <|
   ayv n n__1 (kept_1 ++ [(⟨(gt l (Int.toNat v16)).At,(if ((gt l (Int.toNat v16)).Len) < n__1 then ((gt l (Int.toNat v16)).Len) else n__1)⟩:aj0)]) rest_1 ((gt l (Int.toNat v16)).At) ((gt l (Int.toNat v16)).Len) (if ((gt l (Int.toNat v16)).Len) < n__1 then ((gt l (Int.toNat v16)).Len) else n__1) l v15 v16
  else
   ayv n n__1 kept_1 rest_1 ((gt l (Int.toNat v16)).At) ((gt l (Int.toNat v16)).Len) (if ((gt l (Int.toNat v16)).Len) < n__1 then ((gt l (Int.toNat v16)).Len) else n__1) l v15 v16
 else
  some (.inr (kept_1,rest_1))
def ck3 (n:Nat) (l:List aj0) (n_:Int):Option ((List aj0)×(List aj0)) :=
 (aqh n l).bind fun r1 =>
 bif (!r1) then
  some ([],[])
 else
  (aql (fun (x:Int×(List aj0)×(List aj0)×Int)=>czn n l (l.length:Int) x.1 x.2.1 x.2.2.1 x.2.2.2) n ((if 0 > n_ then 0 else n_),[],[],0)).bind fun y9 =>
  bz0 n y9.1 y9.2
def dwv (n:Nat):Go.AE.Fn:=mkFn (A:=(List aj0)×Int) (R:=(List aj0)×(List aj0)) 97 [(false,[.slice 80]),(false,[.int .i64])] false (fun xs=>(((cg (xs.getD 0 []) 0).toSl.map aji),(cg (xs.getD 1 []) 0).toInt)) (fun a=>[[.slice (List.map aj2 a.1)],[.int a.2]]) (fun a=>ck3 n a.1 a.2) (fun r=>[.own 0 [.int .i64,.int .i64] 0 r.1.length,.own 1 [.int .i64,.int .i64] 0 r.2.length]) (fun r=>[.row 80 (List.map aj2 r.1),.row 80 (List.map aj2 r.2)])
theorem ez5 (n:Nat):aj1 jd (dwv n):=by
 have hΓ:=g1 (ak1 n) (@g0 (aj1 jd))
 refine aj6 (Tryz.f97.body.getD .skip) h00 Tryz.func97 rfl Tryz.call97 (by decide) (fun _ r=>⟨rfl,m1 ⟨80,_,_,rfl,ty80,rfl⟩ (m1 ⟨80,_,_,rfl,ty80,rfl⟩ m0)⟩) ?_
 rintro ⟨l,n_⟩ r H
 try dsimp only at H
 unfold ck3 at H
 simp only [Tryz.f97,jn]
 refine rA ?_
 refine jj fun K2 hK2=>?_
 obtain ⟨r1,hr1,H⟩:=bind_some H
 have q:=aI @az2.eq_1 hr1
 refine rAq ?_
 refine cnd H (fun h4 H=>?_) (fun h4 H=>?_)
 ·refine rA ?_
  refine jp ?_
  refine lf ?_
  obtain rfl:=Option.some.inj H
  exact rto [none,none]
 refine jo ?_
 refine hK2 _ ?_
 refine rA ?_
 refine jS (fun (x:(List aj0)×(List aj0))=>cwh x.1 x.2) (fun x=>bz0 n x.1 x.2=some r) ?_ ?_
 ·refine rA ?_
  refine jr ?_
  obtain ⟨y9,hy9,Ho9⟩:=bind_some H
  refine jL _ (fun x=>cz8 l (l.length:Int) x.1 x.2.1 x.2.2.1 x.2.2.2) hy9 (wb [none,none]) ?_
  rintro ⟨n__1,kept_1,rest_1,v16⟩ z9 H
  try dsimp only at H
  unfold czn at H
  refine Sm.st (cz8.eq_1 ..) ?_
  refine rA ?_
  refine jj fun K11 hK11=>?_
  refine cnd H (fun h12 H=>?_) (fun h12 H=>?_)
  ·refine jo ?_
   refine hK11 _ ?_
   refine jS (fun (x:Int×(List aj0)×(List aj0))=>cws x.1 x.2.1 x.2.2 l (l.length:Int) v16) (fun x=>bwf n x.1 x.2.1 x.2.2 l (l.length:Int) v16=some z9) ?_ ?_
   ·refine jr ?_
    obtain ⟨hg21,H⟩:=aj3 H
    refine rA ?_
    refine rA ?_
    refine jS (fun (x:(List aj0))=>cwq n__1 x rest_1 ((gt l (Int.toNat v16)).At) ((gt l (Int.toNat v16)).Len) (if ((gt l (Int.toNat v16)).Len) < n__1 then ((gt l (Int.toNat v16)).Len) else n__1) l (l.length:Int) v16) (fun x=>ayv n n__1 x rest_1 ((gt l (Int.toNat v16)).At) ((gt l (Int.toNat v16)).Len) (if ((gt l (Int.toNat v16)).Len) < n__1 then ((gt l (Int.toNat v16)).Len) else n__1) l (l.length:Int) v16=some z9) ?_ ?_
    ·refine rA ?_
     refine cnd H (fun h19 H=>?_) (fun h19 H=>?_)
     ·obtain ⟨hg20,H⟩:=aj3 H
      refine eA ?_
      refine lf ?_
      exact ⟨_,H,wb [some 512,some 9005,some 112]⟩
     refine jo ?_
     refine lf ?_
     exact ⟨_,H,wb [some 9004,some 9005,some 112]⟩
    rintro kept_3 H
    try dsimp only at H
    unfold ayv at H
    refine Sm.st (cwq.eq_1 ..) ?_
    refine jS (fun (x:(List aj0))=>czh n__1 kept_3 x (if ((gt l (Int.toNat v16)).Len) < n__1 then ((gt l (Int.toNat v16)).Len) else n__1) l (l.length:Int) v16) (fun x=>ayx n n__1 kept_3 x (if ((gt l (Int.toNat v16)).Len) < n__1 then ((gt l (Int.toNat v16)).Len) else n__1) l (l.length:Int) v16=some z9) ?_ ?_
    ·refine rA ?_
     refine cnd H (fun h16 H=>?_) (fun h16 H=>?_)
     ·obtain ⟨hg17,H⟩:=aj3 H
      refine eA ?_
      refine lf ?_
      exact ⟨_,H,wb [some 9008,some 768]⟩
     refine jo ?_
     refine lf ?_
     exact ⟨_,H,wb [some 9008,some 9009]⟩
    rintro rest_3 H
    try dsimp only at H
    unfold ayx at H
    refine Sm.st (czh.eq_1 ..) ?_
    refine eA ?_
    refine lf ?_
    exact ⟨((jc .i64 (n__1 - (if ((gt l (Int.toNat v16)).Len) < n__1 then ((gt l (Int.toNat v16)).Len) else n__1))),kept_3,rest_3),H,wb [some 9011,some 9012]⟩
   rintro ⟨n__2,kept_2,rest_2⟩ H
   try dsimp only at H
   unfold bwf at H
   refine Sm.st (cws.eq_1 ..) ?_
   refine eA ?_
   refine lf ?_
   exact nx H (wb [some 9006,some 9007])
  refine jR ?_
  refine lf ?_
  refine lx H fun hyy=>?_
  subst hyy
  have H:=Ho9
  try dsimp only at H
  refine lf ?_
  exact ⟨(kept_1,rest_1),H,wb [some 9004,some 9005]⟩
 rintro ⟨kept,rest⟩ H
 try dsimp only at H
 unfold bz0 at H
 refine Sm.st (cwh.eq_1 ..) ?_
 refine rA ?_
 refine jp ?_
 refine lf ?_
 obtain rfl:=Option.some.inj H
 exact rto [some 9000,some 9001]
def ayg (n:Nat) (d:List aja) (d_i:Nat) (p1:Int):Option (Int×(List aja)) :=
 gd (d_i < d.length∧d_i < d.length) <|
 (ck3 n ((gt d d_i).Extents) (if 1 > (if ((gt d d_i).Used) > p1 then ((gt d d_i).Used) else p1) then 1 else (if ((gt d d_i).Used) > p1 then ((gt d d_i).Used) else p1))).bind fun r1 =>
 gd (d_i < d.length) <|
 some (0,(List.set d d_i (⟨(gt d d_i).Name,((gt d d_i).Dcb),r1.1,(gt d d_i).Used⟩:aja)))
theorem cya (n:Nat) (d:List aja) (d_i:Nat) (p1:Int) (r:Int×(List aja)) (H:ayg n d d_i p1=some r):awi jd 96 [.ref (.elt 0 11 [.str,.int .i64,.int .i64,.bool,.bool,.int .i64,.int .i64,.int .i64,.int .i64,.slice 80,.int .i64] d_i 0),.ref (.box 1 0)] [.row 41 (List.map aj4 d),.box [.c (.int .i64) (.int p1)]] [.c (.int .i64) (.int r.1)] [.row 41 (List.map aj4 r.2),.box [.c (.int .i64) (.int p1)]]:=by
 have hΓ:=g1 (ez5 n) (@g0 (aj1 jd))
 refine awt (Tryz.f96.body.getD .skip) h00 Tryz.func96 rfl Tryz.call96 (ju rfl) (ju rfl) ?_
 unfold ayg at H
 simp only [Tryz.f96,jn]
 refine rA ?_
 obtain ⟨⟨hg3,hg4⟩,H⟩:=aj3 H
 obtain ⟨r1,hr1,H⟩:=bind_some H
 obtain ⟨hg5,H⟩:=aj3 H
 refine sQ [0,1,2,3,4,5,6,7,8,9,10,11,12,13,14,15,16,17] [(none,[],[]),(none,[],[]),(none,[1000001,0],[]),(none,[0],[]),(none,[0],[]),(none,[1],[]),(none,[],[]),(none,[1000001,0],[]),(none,[0],[]),(none,[0],[]),(none,[],[]),(none,[],[271,270,269,268,267,266,265,264,263,262,261,260,259,258,257,256]),(none,[],[]),(none,[],[]),(none,[],[]),(none,[1000001,0],[]),(none,[0],[]),(none,[0,256],[0,256])] fun K2 hK2=>?_
 have q:=aI @dwv.eq_1 hr1
 iterate 2 refine oQq ?_
 refine oQVq ?_
 iterate 4 refine oQq ?_
 refine oQVq ?_
 iterate 7 refine oQq ?_
 refine oQVq ?_
 iterate 2 refine oQq ?_
 refine bjh ?_
 refine hK2 _ ?_
 refine rA ?_
 refine jp ?_
 refine lf ?_
 obtain rfl:=Option.some.inj H
 exact rtM [some 0,some 1]
def bwb (n:Nat) (v:aj9) (name:List UInt8) (how:Int):Option (aj9×Int) :=
 (aq5 n v).bind fun r1 =>
 bif (r1 != 0) then
  some ((⟨[],0,0,0,[]⟩:aj9),r1)
 else
  (aqp n v name).bind fun r2 =>
  bif (!r2.2) then
   some ((⟨[],0,0,0,[]⟩:aj9),3)
  else
   (ajy n v).bind fun r3 =>
   gd ((0≤r2.1∧r2.1 < (r3.Sets.length:Int))) <|
   (ayg n r3.Sets (Int.toNat r2.1) how).bind fun r4 =>
   gd (r4.2.length=r3.Sets.length) <|
   bif (r4.1 != 0) then
    some ((⟨[],0,0,0,[]⟩:aj9),r4.1)
   else
    some ((⟨r3.Serial,r3.Cyls,r3.Heads,r3.Size,r4.2⟩:aj9),0)
theorem dk2 (n:Nat) (v:aj9) (name:List UInt8) (how:Int) (r:aj9×Int) (H:bwb n v name how=some r):awi jd 87 [.dat (true,[.str,.int .i64,.int .i64,.int .i64,.slice 41]) [.str v.Serial,.int v.Cyls,.int v.Heads,.int v.Size,.slice (List.map aj4 v.Sets)],.dat (false,[.str]) [.str name],.ref (.fnv 96 [.box 0 0])] [.box [.c (.int .i64) (.int how)]] [.agg [.c .str (.str r.1.Serial),.c (.int .i64) (.int r.1.Cyls),.c (.int .i64) (.int r.1.Heads),.c (.int .i64) (.int r.1.Size),.own 1 [.str,.int .i64,.int .i64,.bool,.bool,.int .i64,.int .i64,.int .i64,.int .i64,.slice 80,.int .i64] 0 r.1.Sets.length],.c (.int .i64) (.int r.2)] [.box [.c (.int .i64) (.int how)],.row 41 (List.map aj4 r.1.Sets)]:=by
 have hΓ:=g1 (aw4 n) (g1 (awo n) (g1 (azb n) (@g0 (aj1 jd))))
 have qe:=aI @aqc.eq_1 (aI @aqz.eq_1 @awe.eq_1)
 refine awt (Tryz.f87.body.getD .skip) h00 Tryz.func87 rfl Tryz.call87 (ju rfl) (ju rfl) ?_
 unfold bwb at H
 simp only [Tryz.f87,jn]
 refine rA ?_
 refine jj fun K2 hK2=>?_
 obtain ⟨r1,hr1,H⟩:=bind_some H
 have q:=aI qe hr1
 refine rAq ?_
 refine rA ?_
 refine cnd H (fun h5 H=>?_) (fun h5 H=>?_)
 ·refine rA ?_
  refine jp ?_
  refine lf ?_
  obtain rfl:=Option.some.inj H
  exact rtM [some 0,none]
 refine jo ?_
 refine hK2 _ ?_
 obtain ⟨r2,hr2,H⟩:=bind_some H
 have q:=aI qe hr2
 refine rAq ?_
 refine jj fun K8 hK8=>?_
 refine rA ?_
 refine cnd H (fun h10 H=>?_) (fun h10 H=>?_)
 ·refine rA ?_
  refine jp ?_
  refine lf ?_
  obtain rfl:=Option.some.inj H
  exact rtM [some 0,none]
 refine jo ?_
 refine hK8 _ ?_
 obtain ⟨r3,hr3,H⟩:=bind_some H
 have q:=aI qe hr3
 refine rAq ?_
 refine jj fun K13 hK13=>?_
 refine sX fun K14 hK14=>?_
 obtain ⟨hg15,H⟩:=aj3 H
 obtain ⟨r4,hr4,H⟩:=bind_some H
 obtain ⟨hg16,H⟩:=aj3 H
 have q:=hr4
 iterate 5 refine oX ?_
 refine oMq (cya n _ _ _ r4 hr4) [464,0] [] ?_
 refine oXq ?_
 refine hK14 _ ?_
 refine rA ?_
 refine cnd H (fun h18 H=>?_) (fun h18 H=>?_)
 ·refine rA ?_
  refine jp ?_
  refine lf ?_
  obtain rfl:=Option.some.inj H
  exact rtM [some 0,none]
 refine jo ?_
 refine hK13 _ ?_
 refine rA ?_
 refine jp ?_
 refine lf ?_
 obtain rfl:=Option.some.inj H
 exact rtM [some 0,some 464]
def cqw (n:Nat) (v:aj9) (name:List UInt8) (keep:Int):Option (aj9×Int) :=
 (bwb n v name keep).bind fun r1 =>
 some (r1.1,r1.2)
def cyb (n:Nat):Go.AE.Fn:=mkFn (A:=aj9×(List UInt8)×Int) (R:=aj9×Int) 47 [(true,[.str,.int .i64,.int .i64,.int .i64,.slice 41]),(false,[.str]),(false,[.int .i64])] true (fun xs=>((⟨(cg (xs.getD 0 []) 0).toStr,(cg (xs.getD 0 []) 1).toInt,(cg (xs.getD 0 []) 2).toInt,(cg (xs.getD 0 []) 3).toInt,((cg (xs.getD 0 []) 4).toSl.map aqi)⟩:aj9),(cg (xs.getD 1 []) 0).toStr,(cg (xs.getD 2 []) 0).toInt)) (fun a=>[[.str a.1.Serial,.int a.1.Cyls,.int a.1.Heads,.int a.1.Size,.slice (List.map aj4 a.1.Sets)],[.str a.2.1],[.int a.2.2]]) (fun a=>cqw n a.1 a.2.1 a.2.2) (fun r=>[.agg [.c .str (.str r.1.Serial),.c (.int .i64) (.int r.1.Cyls),.c (.int .i64) (.int r.1.Heads),.c (.int .i64) (.int r.1.Size),.own 0 [.str,.int .i64,.int .i64,.bool,.bool,.int .i64,.int .i64,.int .i64,.int .i64,.slice 80,.int .i64] 0 r.1.Sets.length],.c (.int .i64) (.int r.2)]) (fun r=>[.row 41 (List.map aj4 r.1.Sets)])
theorem ewe (n:Nat):aj1 jd (cyb n):=by
 have hΓ:=@g0 (aj1 jd)
 refine aj6 (Tryz.f47.body.getD .skip) h00 Tryz.func47 rfl Tryz.call47 (by decide) (by intro h;cases h) ?_
 rintro ⟨v,name,keep⟩ r H
 try dsimp only at H
 unfold cqw at H
 simp only [Tryz.f47,jn]
 refine rA ?_
 refine sX fun K2 hK2=>?_
 obtain ⟨r1,hr1,H⟩:=bind_some H
 have q:=hr1
 iterate 2 refine oX ?_
 refine oY ?_
 refine oMq (dk2 n _ _ _ r1 hr1) [80] [176] ?_
 iterate 4 refine oXq ?_
 refine hK2 _ ?_
 refine jp ?_
 refine lf ?_
 obtain rfl:=Option.some.inj H
 exact rto [some 176]
abbrev cys (v:List UInt8) (v_1:Int) (v_2:Int) (v_3:Int) (v_4:List aja):S:=stB [(1,.box 9000 0)] [(9000,.box [.c .str (.str v),.c (.int .i64) (.int v_1),.c (.int .i64) (.int v_2),.c (.int .i64) (.int v_3),.own 9001 [.str,.int .i64,.int .i64,.bool,.bool,.int .i64,.int .i64,.int .i64,.int .i64,.slice 80,.int .i64] 0 v_4.length]),(9001,.row 41 (List.map aj4 v_4))]
def bk7 (n:Nat) (v:List UInt8) (v_1:Int) (v_2:Int) (v_3:Int) (v_4:List aja):Option Bool :=
 (awk n).bind fun r2 =>
 (az0 n (⟨v,v_1,v_2,v_3,v_4⟩:aj9) (⟨[90],r2,[],0⟩:aja) 1).bind fun r3 =>
 gd (((r3.2 == 7)=true→(aq5 n (⟨v,v_1,v_2,v_3,v_4⟩:aj9)).isSome=true)) <|
 some (if (r3.2 == 7)=true then (((aq5 n (⟨v,v_1,v_2,v_3,v_4⟩:aj9)).getD default) == 0) else false)
abbrev djy (v_5:List UInt8) (v_6:Int) (v_7:Int) (v_8:Int) (v_9:List aja) (k:Int):S:=stB [(1,.box 9005 0),(3,.c (.int .i64) (.int k))] [(9005,.box [.c .str (.str v_5),.c (.int .i64) (.int v_6),.c (.int .i64) (.int v_7),.c (.int .i64) (.int v_8),.own 9006 [.str,.int .i64,.int .i64,.bool,.bool,.int .i64,.int .i64,.int .i64,.int .i64,.slice 80,.int .i64] 0 v_9.length]),(9006,.row 41 (List.map aj4 v_9))]
def cyo (n:Nat) (v_5:List UInt8) (v_6:Int) (v_7:Int) (v_8:Int) (v_9:List aja) (k:Int):Option (((List UInt8)×Int×Int×Int×(List aja)×Int) ⊕ (((Bool) ⊕ ((List UInt8)×Int×Int×Int×(List aja))))) :=
 bif (decide (k < 14)) then
  gd ([78].length+(bje [(jc .u8 ((jc .i64 (65+k))))]).length≤2147483648) <|
  (awk n).bind fun r4 =>
  (az0 n (⟨v_5,v_6,v_7,v_8,v_9⟩:aj9) (⟨(78 :: (bje [(jc .u8 ((jc .i64 (65+k))))])),r4,[],0⟩:aja) 1).bind fun r5 =>
  bif (r5.2 != 0) then
   some (.inr (.inl false))
  else
   some (.inl (r5.1.Serial,r5.1.Cyls,r5.1.Heads,r5.1.Size,r5.1.Sets,(jc .i64 (k+1))))
 else
  some (.inr (.inr (v_5,v_6,v_7,v_8,v_9)))
def bza (n:Nat):Option Bool :=
 (bzq n [86,50] 8 8 1).bind fun r1 =>
 (aql (fun (x:(List UInt8)×Int×Int×Int×(List aja)×Int)=>cyo n x.1 x.2.1 x.2.2.1 x.2.2.2.1 x.2.2.2.2.1 x.2.2.2.2.2) n (r1.1.Serial,r1.1.Cyls,r1.1.Heads,r1.1.Size,[],0)).bind fun y7 =>
 match y7 with
 | .inl vv =>
  some vv
 | .inr vv =>
  bk7 n vv.1 vv.2.1 vv.2.2.1 vv.2.2.2.1 vv.2.2.2.2
def dkk (n:Nat):Go.AE.Fn:=mkFn (A:=Unit) (R:=Bool) 50 [] false (fun xs=>()) (fun a=>[]) (fun a=>bza n) (fun r=>[.c .bool (.bool r)]) (fun r=>[])
theorem ey1 (n:Nat):aj1 jd (dkk n):=by
 have hΓ:=g1 (dyc n) (g1 (cj2 n) (g1 (byd n) (g1 (aw4 n) (@g0 (aj1 jd)))))
 have qe:=aI @cyh.eq_1 (aI @bqy.eq_1 (aI @bw0.eq_1 @aqc.eq_1))
 refine aj6 (Tryz.f50.body.getD .skip) h00 Tryz.func50 rfl Tryz.call50 (by decide) (by intro _ r;exact ⟨rfl,by simp⟩) ?_
 rintro ⟨⟩ r H
 try dsimp only at H
 unfold bza at H
 simp only [Tryz.f50,jn]
 refine rA ?_
 obtain ⟨r1,hr1,H⟩:=bind_some H
 have q:=aI qe hr1
 refine rAq ?_
 refine jS (fun (x:(List UInt8)×Int×Int×Int×(List aja))=>cys x.1 x.2.1 x.2.2.1 x.2.2.2.1 x.2.2.2.2) (fun x=>bk7 n x.1 x.2.1 x.2.2.1 x.2.2.2.1 x.2.2.2.2=some r) ?_ ?_
 ·refine rA ?_
  refine jr ?_
  obtain ⟨y7,hy7,Ho7⟩:=bind_some H
  refine jL _ (fun x=>djy x.1 x.2.1 x.2.2.1 x.2.2.2.1 x.2.2.2.2.1 x.2.2.2.2.2) hy7 (wb [some 16,none]) ?_
  rintro ⟨v_5,v_6,v_7,v_8,v_9,k⟩ z7 H
  try dsimp only at H
  unfold cyo at H
  refine Sm.st (djy.eq_1 ..) ?_
  refine jj fun K8 hK8=>?_
  refine rA ?_
  refine cnd H (fun h10 H=>?_) (fun h10 H=>?_)
  ·refine jo ?_
   refine hK8 _ ?_
   refine jj fun K11 hK11=>?_
   refine jr ?_
   obtain ⟨hg13,H⟩:=aj3 H
   obtain ⟨r4,hr4,H⟩:=bind_some H
   obtain ⟨r5,hr5,H⟩:=bind_some H
   refine sQ [0,1,2,3,4,5,6,7,8,9,10,11,12,13,14,15] [(none,[9005],[]),(none,[],[]),(none,[],[]),(none,[],[]),(none,[],[336]),(none,[1000001,336],[]),(none,[],[]),(none,[],[399,398,397,396,395,394,393,392,391,390,389,388,387,386,385,384]),(none,[],[]),(none,[9006],[431,430,429,428,427,426,425,424,423,422,421,420,419,418,417,416,9006]),(none,[],[]),(none,[],[]),(none,[],[]),(none,[],[64]),(none,[64,416],[64]),(none,[],[])] fun K12 hK12=>?_
   have q:=aI qe (aI hr4 hr5)
   iterate 5 refine oQq ?_
   refine oQVq ?_
   iterate 10 refine oQq ?_
   refine bjh ?_
   refine hK12 _ ?_
   refine jj fun K14 hK14=>?_
   refine rA ?_
   refine cnd H (fun h16 H=>?_) (fun h16 H=>?_)
   ·refine rA ?_
    refine jp ?_
    refine lf ?_
    refine lx H fun hyy=>?_
    subst hyy
    have H:=Ho7
    try dsimp only at H
    refine lf ?_
    obtain rfl:=Option.some.inj H
    exact rt []
   refine jo ?_
   refine hK14 _ ?_
   refine eA ?_
   refine hK11 _ ?_
   refine eA ?_
   refine lf ?_
   exact nx H (wb [some 9005,some 416])
  refine jR ?_
  refine lf ?_
  refine lx H fun hyy=>?_
  subst hyy
  have H:=Ho7
  try dsimp only at H
  refine lf ?_
  exact ⟨(v_5,v_6,v_7,v_8,v_9),H,wb [some 9005,some 9006]⟩
 rintro ⟨v,v_1,v_2,v_3,v_4⟩ H
 try dsimp only at H
 unfold bk7 at H
 refine Sm.st (cys.eq_1 ..) ?_
 obtain ⟨r2,hr2,H⟩:=bind_some H
 obtain ⟨r3,hr3,H⟩:=bind_some H
 refine sQ [0,1,2,3,4,5,6,7,8,9] [(none,[9000],[]),(none,[],[559,558,557,556,555,554,553,552,551,550,549,548,547,546,545,544]),(none,[],[]),(none,[9001],[591,590,589,588,587,586,585,584,583,582,581,580,579,578,577,576,9001]),(none,[],[]),(none,[],[]),(none,[],[]),(none,[],[96]),(none,[96,576],[96]),(none,[],[])] fun K3 hK3=>?_
 have q:=aI qe (aI hr2 hr3)
 iterate 10 refine oQq ?_
 refine bjh ?_
 refine hK3 _ ?_
 obtain ⟨hg5,H⟩:=aj3 H
 have q:=qe
 refine rAq ?_
 refine jp ?_
 refine lf ?_
 obtain rfl:=Option.some.inj H
 exact rt []
def ckf (n:Nat) (c:Int):Option (Int×Bool) :=
 bif (if (decide (c < 32))=true then true else (decide (c > 126))) then
  some (0,false)
 else
  gd ((0≤(jc .u8 (c - 32))∧(jc .u8 (c - 32)) < ([64,90,127,123,91,108,80,125,77,93,92,78,107,96,75,97,240,241,242,243,244,245,246,247,248,249,122,94,76,126,110,111,124,193,194,195,196,197,198,199,200,201,209,210,211,212,213,214,215,216,217,226,227,228,229,230,231,232,233,186,224,187,176,109,121,129,130,131,132,133,134,135,136,137,145,146,147,148,149,150,151,152,153,162,163,164,165,166,167,168,169,192,79,208,161].length:Int))) <|
  some ((((([64,90,127,123,91,108,80,125,77,93,92,78,107,96,75,97,240,241,242,243,244,245,246,247,248,249,122,94,76,126,110,111,124,193,194,195,196,197,198,199,200,201,209,210,211,212,213,214,215,216,217,226,227,228,229,230,231,232,233,186,224,187,176,109,121,129,130,131,132,133,134,135,136,137,145,146,147,148,149,150,151,152,153,162,163,164,165,166,167,168,169,192,79,208,161]:List UInt8).getD (Int.toNat (jc .u8 (c - 32))) 0).toNat:Nat):Int),true)
def dw2 (n:Nat):Go.AE.Fn:=mkFn (A:=Int) (R:=Int×Bool) 194 [(false,[.int .u8])] false (fun xs=>(cg (xs.getD 0 []) 0).toInt) (fun a=>[[.int a]]) (fun a=>ckf n a) (fun r=>[.c (.int .u8) (.int r.1),.c .bool (.bool r.2)]) (fun r=>[])
theorem ezw (n:Nat):aj1 jd (dw2 n):=by
 have hΓ:=@g0 (aj1 jd)
 refine aj6 (Tryz.f194.body.getD .skip) h00 Tryz.func194 rfl Tryz.call194 (by decide) (by intro _ r;exact ⟨rfl,by simp⟩) ?_
 rintro c r H
 try dsimp only at H
 unfold ckf at H
 simp only [Tryz.f194,jn]
 refine rA ?_
 refine jj fun K2 hK2=>?_
 refine rA ?_
 refine cnd H (fun h4 H=>?_) (fun h4 H=>?_)
 ·refine rA ?_
  refine jp ?_
  refine lf ?_
  obtain rfl:=Option.some.inj H
  exact rt []
 refine jo ?_
 refine hK2 _ ?_
 obtain ⟨hg7,H⟩:=aj3 H
 refine rA ?_
 refine jp ?_
 refine lf ?_
 obtain rfl:=Option.some.inj H
 exact rt []
abbrev bkt (out:List Int):S:=stB [(6,.own 9000 [.int .u8] 0 out.length)] [(9000,.row 5 (List.map ajw out))]
def bj6 (n:Nat) (out:List Int):Option ((List Int)×Int) :=
 some (out,0)
abbrev by7 (s:List UInt8) (out_2:List Int) (v13:Int) (v14:Int):S:=stB [(0,.c .str (.str s)),(6,.own 9003 [.int .u8] 0 out_2.length),(13,.c (.int .i64) (.int v13)),(14,.c (.int .i64) (.int v14))] [(9003,.row 5 (List.map ajw out_2))]
def akf (n:Nat) (s:List UInt8) (out_2:List Int) (v13:Int) (v14:Int):Option (((List Int)×Int) ⊕ ((((List Int)×Int) ⊕ ((List Int))))) :=
 some (.inl (out_2,(jc .i64 (v14+1))))
abbrev by5 (s:List UInt8) (v13:Int) (out_1:List Int) (v14:Int):S:=stB [(0,.c .str (.str s)),(6,.own 9002 [.int .u8] 0 out_1.length),(13,.c (.int .i64) (.int v13)),(14,.c (.int .i64) (.int v14))] [(9002,.row 5 (List.map ajw out_1))]
def bks (n:Nat) (s:List UInt8) (v13:Int) (out_1:List Int) (v14:Int):Option (((List Int)×Int) ⊕ ((((List Int)×Int) ⊕ ((List Int))))) :=
 bif (decide (v14 < v13)) then
  gd ((0≤v14∧v14 < (out_1.length:Int))∧(Int.toNat v14) < out_1.length) <|
  bif (decide (v14 ≥ (s.length:Int))) then
   akf n s (List.set out_1 (Int.toNat v14) 64) v13 v14
  else
   gd ((0≤v14∧v14 < (s.length:Int))) <|
   (ckf n (((s.getD (Int.toNat v14) 0).toNat:Nat):Int)).bind fun r1 =>
   bif (!r1.2) then
    some (.inr (.inl ([],20)))
   else
    gd ((0≤v14∧v14 < (out_1.length:Int))∧(Int.toNat v14) < out_1.length) <|
    akf n s (List.set (List.set out_1 (Int.toNat v14) 64) (Int.toNat v14) r1.1) v13 v14
 else
  some (.inr (.inr out_1))
def bk8 (n:Nat) (s:List UInt8) (n_:Int):Option ((List Int)×Int) :=
 gd ((0≤n_∧n_≤n_∧n_≤2147483648)) <|
 (aql (fun (x:(List Int)×Int)=>bks n s (((Int.toNat n_):Nat):Int) x.1 x.2) n ((aqt (Int.toNat n_) 0),0)).bind fun y6 =>
 match y6 with
 | .inl vv =>
  some (vv.1,vv.2)
 | .inr vv =>
  bj6 n vv
def czk (n:Nat):Go.AE.Fn:=mkFn (A:=(List UInt8)×Int) (R:=(List Int)×Int) 162 [(false,[.str]),(false,[.int .i64])] false (fun xs=>((cg (xs.getD 0 []) 0).toStr,(cg (xs.getD 1 []) 0).toInt)) (fun a=>[[.str a.1],[.int a.2]]) (fun a=>bk8 n a.1 a.2) (fun r=>[.own 0 [.int .u8] 0 r.1.length,.c (.int .i64) (.int r.2)]) (fun r=>[.row 5 (List.map ajw r.1)])
theorem dyv (n:Nat):aj1 jd (czk n):=by
 have hΓ:=g1 (ezw n) (@g0 (aj1 jd))
 refine aj6 (Tryz.f162.body.getD .skip) h00 Tryz.func162 rfl Tryz.call162 (by decide) (fun _ r=>⟨rfl,m1 ⟨5,_,_,rfl,ty5,rfl⟩ m0⟩) ?_
 rintro ⟨s,n_⟩ r H
 try dsimp only at H
 unfold bk8 at H
 simp only [Tryz.f162,jn]
 refine rA ?_
 refine sX fun K2 hK2=>?_
 obtain ⟨hg3,H⟩:=aj3 H
 refine oX ?_
 refine oY ?_
 refine oX ?_
 refine hK2 _ ?_
 refine jS (fun (x:(List Int))=>bkt x) (fun x=>bj6 n x=some r) ?_ ?_
 ·refine rA ?_
  refine jr ?_
  obtain ⟨y6,hy6,Ho6⟩:=bind_some H
  refine jL _ (fun x=>by5 s (((Int.toNat n_):Nat):Int) x.1 x.2) hy6 (wb [some 176]) ?_
  rintro ⟨out_1,v14⟩ z6 H
  try dsimp only at H
  unfold bks at H
  refine Sm.st (by5.eq_1 ..) ?_
  refine rA ?_
  refine jj fun K8 hK8=>?_
  refine cnd H (fun h9 H=>?_) (fun h9 H=>?_)
  ·refine jo ?_
   refine hK8 _ ?_
   refine jS (fun (x:(List Int))=>by7 s x (((Int.toNat n_):Nat):Int) v14) (fun x=>akf n s x (((Int.toNat n_):Nat):Int) v14=some z6) ?_ ?_
   ·refine jr ?_
    refine rA ?_
    obtain ⟨⟨hg23,hg24⟩,H⟩:=aj3 H
    refine rA ?_
    refine jj fun K12 hK12=>?_
    refine rA ?_
    refine cnd H (fun h14 H=>?_) (fun h14 H=>?_)
    ·refine jR ?_
     refine lf ?_
     exact ⟨_,H,wb [some 9002]⟩
    refine jo ?_
    refine hK12 _ ?_
    obtain ⟨hg22,H⟩:=aj3 H
    obtain ⟨r1,hr1,H⟩:=bind_some H
    have q:=aI @dw2.eq_1 hr1
    refine rAq ?_
    refine jj fun K16 hK16=>?_
    refine rA ?_
    refine cnd H (fun h18 H=>?_) (fun h18 H=>?_)
    ·refine rA ?_
     refine jp ?_
     refine lf ?_
     refine lx H fun hyy=>?_
     subst hyy
     have H:=Ho6
     try dsimp only at H
     refine lf ?_
     obtain rfl:=Option.some.inj H
     exact rto [none]
    refine jo ?_
    refine hK16 _ ?_
    obtain ⟨⟨hg20,hg21⟩,H⟩:=aj3 H
    refine eA ?_
    refine lf ?_
    exact ⟨_,H,wb [some 9002]⟩
   rintro out_2 H
   try dsimp only at H
   unfold akf at H
   refine Sm.st (by7.eq_1 ..) ?_
   refine eA ?_
   refine lf ?_
   exact nx H (wb [some 9003])
  refine jR ?_
  refine lf ?_
  refine lx H fun hyy=>?_
  subst hyy
  have H:=Ho6
  try dsimp only at H
  refine lf ?_
  exact ⟨_,H,wb [some 9002]⟩
 rintro out H
 try dsimp only at H
 unfold bj6 at H
 refine Sm.st (bkt.eq_1 ..) ?_
 refine rA ?_
 refine jp ?_
 refine lf ?_
 obtain rfl:=Option.some.inj H
 exact rto [some 9000]
def dqh (n:Nat) (s:List UInt8) (n_:Int):Option ((List Int)×Int) :=
 bif (if (decide (n_ < 0))=true then true else (decide (n_ > 65536))) then
  some ([],1)
 else
  bif (decide ((s.length:Int) > n_)) then
   some ([],2)
  else
   (bk8 n s n_).bind fun r1 =>
   some (r1.1,r1.2)
def dzr (n:Nat):Go.AE.Fn:=mkFn (A:=(List UInt8)×Int) (R:=(List Int)×Int) 121 [(false,[.str]),(false,[.int .i64])] false (fun xs=>((cg (xs.getD 0 []) 0).toStr,(cg (xs.getD 1 []) 0).toInt)) (fun a=>[[.str a.1],[.int a.2]]) (fun a=>dqh n a.1 a.2) (fun r=>[.own 0 [.int .u8] 0 r.1.length,.c (.int .i64) (.int r.2)]) (fun r=>[.row 5 (List.map ajw r.1)])
theorem eyv (n:Nat):aj1 jd (dzr n):=by
 have hΓ:=g1 (dyv n) (@g0 (aj1 jd))
 refine aj6 (Tryz.f121.body.getD .skip) h00 Tryz.func121 rfl Tryz.call121 (by decide) (fun _ r=>⟨rfl,m1 ⟨5,_,_,rfl,ty5,rfl⟩ m0⟩) ?_
 rintro ⟨s,n_⟩ r H
 try dsimp only at H
 unfold dqh at H
 simp only [Tryz.f121,jn]
 refine rA ?_
 refine jj fun K2 hK2=>?_
 refine jr ?_
 refine rA ?_
 refine cnd H (fun h4 H=>?_) (fun h4 H=>?_)
 ·refine rA ?_
  refine jp ?_
  refine lf ?_
  obtain rfl:=Option.some.inj H
  exact rto [none]
 refine rA ?_
 refine cnd H (fun h7 H=>?_) (fun h7 H=>?_)
 ·refine rA ?_
  refine jp ?_
  refine lf ?_
  obtain rfl:=Option.some.inj H
  exact rto [none]
 refine jo ?_
 refine hK2 _ ?_
 obtain ⟨r1,hr1,H⟩:=bind_some H
 have q:=aI @czk.eq_1 hr1
 refine rAq ?_
 refine jp ?_
 refine lf ?_
 obtain rfl:=Option.some.inj H
 exact rto [some 320]
def bqf (n:Nat) (s:List UInt8) (n_:Int):Option (List Int) :=
 (dqh n s n_).bind fun r1 =>
 some r1.1
def bzj (n:Nat):Go.AE.Fn:=mkFn (A:=(List UInt8)×Int) (R:=(List Int)) 61 [(false,[.str]),(false,[.int .i64])] false (fun xs=>((cg (xs.getD 0 []) 0).toStr,(cg (xs.getD 1 []) 0).toInt)) (fun a=>[[.str a.1],[.int a.2]]) (fun a=>bqf n a.1 a.2) (fun r=>[.own 0 [.int .u8] 0 r.length]) (fun r=>[.row 5 (List.map ajw r)])
theorem ej7 (n:Nat):aj1 jd (bzj n):=by
 have hΓ:=g1 (eyv n) (@g0 (aj1 jd))
 refine aj6 (Tryz.f61.body.getD .skip) h00 Tryz.func61 rfl Tryz.call61 (by decide) (fun _ r=>⟨rfl,m1 ⟨5,_,_,rfl,ty5,rfl⟩ m0⟩) ?_
 rintro ⟨s,n_⟩ r H
 try dsimp only at H
 unfold bqf at H
 simp only [Tryz.f61,jn]
 refine rA ?_
 obtain ⟨r1,hr1,H⟩:=bind_some H
 have q:=aI @dzr.eq_1 hr1
 refine rAq ?_
 refine rA ?_
 refine jp ?_
 refine lf ?_
 obtain rfl:=Option.some.inj H
 exact rto [some 160]
def ay1 (n:Nat) (n_:Int):Option (List Int) :=
 some [(jc .u8 ((Int.fdiv n_ (2 ^ min 8 (IntKind.bits .i64))))),(jc .u8 (n_))]
def bz6 (n:Nat):Go.AE.Fn:=mkFn (A:=Int) (R:=(List Int)) 62 [(false,[.int .i64])] false (fun xs=>(cg (xs.getD 0 []) 0).toInt) (fun a=>[[.int a]]) (fun a=>ay1 n a) (fun r=>[.own 0 [.int .u8] 0 r.length]) (fun r=>[.row 5 (List.map ajw r)])
theorem eji (n:Nat):aj1 jd (bz6 n):=by
 have hΓ:=@g0 (aj1 jd)
 refine aj6 (Tryz.f62.body.getD .skip) h00 Tryz.func62 rfl Tryz.call62 (by decide) (fun _ r=>⟨rfl,m1 ⟨5,_,_,rfl,ty5,rfl⟩ m0⟩) ?_
 rintro n_ r H
 try dsimp only at H
 unfold ay1 at H
 simp only [Tryz.f62,jn]
 refine rA ?_
 refine sX fun K2 hK2=>?_
 refine oX ?_
 refine oE aqw ?_
 iterate 5 refine oX ?_
 refine hK2 _ ?_
 refine jp ?_
 refine lf ?_
 obtain rfl:=Option.some.inj H
 exact rto [some 128]
end Go.Proofs.YtijnkhcfondehaaGreatDoor
