/- Text. -/
import Derived.Test.YtijnkhcfondehaaGreatDoorF1
set_option maxHeartbeats 8000000
set_option linter.unusedVariables false
set_option linter.unusedSimpArgs false
set_option maxRecDepth 100000
open Go.IntKind renaming wrap→ja,bits→jj
open _root_.Nat renaming le_of_ble_eq_true→jZ
open _root_.Option renaming getD→jr
open Go.AE.Sm renaming seqK→jn,ret→jv,skip→jp,cut→jU,block→js,loopB→jO,exit→jT
open Go.Proofs.Tryz renaming prog→jd
namespace Go.Proofs.YtijnkhcfondehaaGreatDoor
open Go.AE
def cqz (n:Nat) (d:List aj8) (d_i:Nat) (p1:Int) (p1_:Int) (p1__:Bool) (p1___:Bool) (p1____:Int) (p1_____:Int) (p1______:Int) (p1_______:Int) (p2:Int):Option (Int×(List aj8)) :=
 (aqd n (⟨p1,p1_,p1__,p1___,p1____,p1_____,p1______,p1_______⟩:TDcb)).bind fun r1 =>
 bif (!r1) then
  some (1,d)
 else
  gd (d_i < d.length) <|
  (bjm n ((gt d d_i).Extents)).bind fun r2 =>
  (aq1 n p2 0 r2).bind fun r3 =>
  bif (!r3) then
   some (6,d)
  else
   gd (d_i < d.length∧d_i < d.length) <|
   some (0,(List.set (List.set d d_i (⟨(gt d d_i).Name,(⟨p1,p1_,p1__,p1___,p1____,p1_____,p1______,p1_______⟩:TDcb),(gt d d_i).Extents,(gt d d_i).Used⟩:aj8)) d_i (⟨(gt (List.set d d_i (⟨(gt d d_i).Name,(⟨p1,p1_,p1__,p1___,p1____,p1_____,p1______,p1_______⟩:TDcb),(gt d d_i).Extents,(gt d d_i).Used⟩:aj8)) d_i).Name,((gt (List.set d d_i (⟨(gt d d_i).Name,(⟨p1,p1_,p1__,p1___,p1____,p1_____,p1______,p1_______⟩:TDcb),(gt d d_i).Extents,(gt d d_i).Used⟩:aj8)) d_i).Dcb),(gt (List.set d d_i (⟨(gt d d_i).Name,(⟨p1,p1_,p1__,p1___,p1____,p1_____,p1______,p1_______⟩:TDcb),(gt d d_i).Extents,(gt d d_i).Used⟩:aj8)) d_i).Extents,p2⟩:aj8)))
theorem gq1 (n:Nat) (d:List aj8) (d_i:Nat) (p1:Int) (p1_:Int) (p1__:Bool) (p1___:Bool) (p1____:Int) (p1_____:Int) (p1______:Int) (p1_______:Int) (p2:Int) (r:Int×(List aj8)) (H:cqz n d d_i p1 p1_ p1__ p1___ p1____ p1_____ p1______ p1_______ p2=some r):akx jd 98 [.ref (.elt 0 11 kD d_i 0),.ref (.box 1 0),.ref (.box 2 0)] [.row 41 (List.map aj6 d),.box [.c (.int .i64) (.int p1),.c (.int .i64) (.int p1_),.c .bool (.bool p1__),.c .bool (.bool p1___),.c (.int .i64) (.int p1____),.c (.int .i64) (.int p1_____),.c (.int .i64) (.int p1______),.c (.int .i64) (.int p1_______)],.box [.c (.int .i64) (.int p2)]] [.c (.int .i64) (.int r.1)] [.row 41 (List.map aj6 r.2),.box [.c (.int .i64) (.int p1),.c (.int .i64) (.int p1_),.c .bool (.bool p1__),.c .bool (.bool p1___),.c (.int .i64) (.int p1____),.c (.int .i64) (.int p1_____),.c (.int .i64) (.int p1______),.c (.int .i64) (.int p1_______)],.box [.c (.int .i64) (.int p2)]]:=by
 have hΓ:=g1 (bks n) (g1 (dws n) (g1 (ejl n) (@g0 (aj1 jd))));have qe:=aI @bqc.eq_1 (aI @cqa.eq_1 @dql.eq_1);refine bkq (Tryz.f98.body.getD .skip) h00 Tryz.func98 rfl Tryz.call98 (jZ rfl) (jZ rfl) ?_;unfold cqz at H;simp only [Tryz.f98,jr];refine rA ?_;refine jn fun K2 hK2=>?_;obtain ⟨r1,hr1,H⟩:=bind_some H;have q:=aI qe hr1;refine rAq ?_;refine cnd H (fun h4 H=>?_) (fun h4 H=>?_)
 ·refine rA ?_;refine jv (lf ?_);obtain rfl:=sI H;exact rtM [some 0,some 1,some 2]
 refine jp (hK2 _ (jn fun K6 hK6=>?_));obtain ⟨hg8,H⟩:=aj3 H;obtain ⟨r2,hr2,H⟩:=bind_some H;obtain ⟨r3,hr3,H⟩:=bind_some H;refine sQ [0,1,2,3,4,5,6,7] [(none,[2],[]),(none,[],[]),(none,[1000001,0],[]),(none,[0],[]),(none,[0],[]),(none,[],[223,222,221,220,219,218,217,216,215,214,213,212,211,210,209,208]),(none,[],[239,238,237,236,235,234,233,232,231,230,229,228,227,226,225,224]),(none,[],[])] fun K7 hK7=>?_;have q:=aI qe (aI hr2 hr3)
 iterate 2 refine oQq ?_
 refine oQVq ?_
 iterate 5 refine oQq ?_
 refine byo ?_;refine hK7 _ ?_;refine cnd H (fun h9 H=>?_) (fun h9 H=>?_)
 ·refine rA ?_;refine jv (lf ?_);obtain rfl:=sI H;exact rtM [some 0,some 1,some 2]
 refine jp (hK6 _ ?_);obtain ⟨⟨hg12,hg13⟩,H⟩:=aj3 H;refine sQ [0,1,2,3,4,5,6,7,8,9] [(none,[],[]),(none,[],[]),(none,[1],[]),(none,[2],[]),(none,[1000001,0],[]),(none,[0],[]),(none,[0],[0]),(none,[1000001,0],[]),(none,[0],[]),(none,[0],[0])] fun K11 hK11=>?_
 iterate 4 refine oQ ?_
 refine oQV ?_
 iterate 2 refine oQ ?_
 refine oQV ?_
 iterate 2 refine oQ ?_
 refine byo ?_;refine hK11 _ ?_;refine rA ?_;refine jv (lf ?_);obtain rfl:=sI H;exact rtM [some 0,some 1,some 2]
abbrev cky (kept:List aj0) (rest:List aj0):S:=stB [(4,.own 9000 [.int .i64,.int .i64] 0 kept.length),(5,.own 9001 [.int .i64,.int .i64] 0 rest.length)] [(9000,.row 80 (List.map aj2 kept)),(9001,.row 80 (List.map aj2 rest))]
def byz (n:Nat) (kept:List aj0) (rest:List aj0):Option ((List aj0)×(List aj0)) :=
 some (kept,rest)
abbrev cyb (n__2:Int) (kept_2:List aj0) (rest_2:List aj0) (l:List aj0) (v15:Int) (v16:Int):S:=stB [(1,.c (.int .i64) (.int n__2)),(4,.own 9006 [.int .i64,.int .i64] 0 kept_2.length),(5,.own 9007 [.int .i64,.int .i64] 0 rest_2.length),(14,.c (.slice 80) (.slice (List.map aj2 l))),(15,.c (.int .i64) (.int v15)),(16,.c (.int .i64) (.int v16))] [(9006,.row 80 (List.map aj2 kept_2)),(9007,.row 80 (List.map aj2 rest_2))]
def byf (n:Nat) (n__2:Int) (kept_2:List aj0) (rest_2:List aj0) (l:List aj0) (v15:Int) (v16:Int):Option ((Int×(List aj0)×(List aj0)×Int) ⊕ (((List aj0)×(List aj0)))) :=
 some (.inl (n__2,kept_2,rest_2,(ja .i64 (v16+1))))
abbrev cyx (n__1:Int) (kept_3:List aj0) (rest_3:List aj0) (k:Int) (l:List aj0) (v15:Int) (v16:Int):S:=stB [(1,.c (.int .i64) (.int n__1)),(4,.own 9011 [.int .i64,.int .i64] 0 kept_3.length),(5,.own 9012 [.int .i64,.int .i64] 0 rest_3.length),(8,.c (.int .i64) (.int k)),(14,.c (.slice 80) (.slice (List.map aj2 l))),(15,.c (.int .i64) (.int v15)),(16,.c (.int .i64) (.int v16))] [(9011,.row 80 (List.map aj2 kept_3)),(9012,.row 80 (List.map aj2 rest_3))]
def bwr (n:Nat) (n__1:Int) (kept_3:List aj0) (rest_3:List aj0) (k:Int) (l:List aj0) (v15:Int) (v16:Int):Option ((Int×(List aj0)×(List aj0)×Int) ⊕ (((List aj0)×(List aj0)))) :=
 byf n (ja .i64 (n__1 - k)) kept_3 rest_3 l v15 v16
abbrev cy9 (n__1:Int) (kept_3:List aj0) (rest_1:List aj0) (x_:Int) (x__1:Int) (k:Int) (l:List aj0) (v15:Int) (v16:Int):S:=stB [(1,.c (.int .i64) (.int n__1)),(4,.own 9008 [.int .i64,.int .i64] 0 kept_3.length),(5,.own 9009 [.int .i64,.int .i64] 0 rest_1.length),(7,.box 9010 0),(8,.c (.int .i64) (.int k)),(14,.c (.slice 80) (.slice (List.map aj2 l))),(15,.c (.int .i64) (.int v15)),(16,.c (.int .i64) (.int v16))] [(9008,.row 80 (List.map aj2 kept_3)),(9009,.row 80 (List.map aj2 rest_1)),(9010,.box [.c (.int .i64) (.int x_),.c (.int .i64) (.int x__1)])]
def bwn (n:Nat) (n__1:Int) (kept_3:List aj0) (rest_1:List aj0) (x_:Int) (x__1:Int) (k:Int) (l:List aj0) (v15:Int) (v16:Int):Option ((Int×(List aj0)×(List aj0)×Int) ⊕ (((List aj0)×(List aj0)))) :=
 bif (decide (k < x__1)) then
  gd ((rest_1.length+1)≤2147483648) <|
  bwr n n__1 kept_3 (rest_1 ++ [(⟨(ja .i64 (x_+k)),(ja .i64 (x__1 - k))⟩:aj0)]) k l v15 v16
 else
  bwr n n__1 kept_3 rest_1 k l v15 v16
abbrev cyq (l:List aj0) (v15:Int) (n__1:Int) (kept_1:List aj0) (rest_1:List aj0) (v16:Int):S:=stB [(1,.c (.int .i64) (.int n__1)),(4,.own 9004 [.int .i64,.int .i64] 0 kept_1.length),(5,.own 9005 [.int .i64,.int .i64] 0 rest_1.length),(14,.c (.slice 80) (.slice (List.map aj2 l))),(15,.c (.int .i64) (.int v15)),(16,.c (.int .i64) (.int v16))] [(9004,.row 80 (List.map aj2 kept_1)),(9005,.row 80 (List.map aj2 rest_1))]
def dj4 (n:Nat) (l:List aj0) (v15:Int) (n__1:Int) (kept_1:List aj0) (rest_1:List aj0) (v16:Int):Option ((Int×(List aj0)×(List aj0)×Int) ⊕ (((List aj0)×(List aj0)))) :=
 bif (decide (v16 < v15)) then
  gd ((0≤v16∧v16 < (l.length:Int))) <|
  bif (decide ((if ((gt l (Int.toNat v16)).Len) < n__1 then ((gt l (Int.toNat v16)).Len) else n__1) > 0)) then
   gd ((kept_1.length+1)≤2147483648) <|
   bwn n n__1 (kept_1 ++ [(⟨(gt l (Int.toNat v16)).At,(if ((gt l (Int.toNat v16)).Len) < n__1 then ((gt l (Int.toNat v16)).Len) else n__1)⟩:aj0)]) rest_1 ((gt l (Int.toNat v16)).At) ((gt l (Int.toNat v16)).Len) (if ((gt l (Int.toNat v16)).Len) < n__1 then ((gt l (Int.toNat v16)).Len) else n__1) l v15 v16
  else
   bwn n n__1 kept_1 rest_1 ((gt l (Int.toNat v16)).At) ((gt l (Int.toNat v16)).Len) (if ((gt l (Int.toNat v16)).Len) < n__1 then ((gt l (Int.toNat v16)).Len) else n__1) l v15 v16
 else
  some (.inr (kept_1,rest_1))
def eq0 (n:Nat) (l:List aj0) (n_:Int):Option ((List aj0)×(List aj0)) :=
 (aq9 n l).bind fun r1 =>
 bif (!r1) then
  some ([],[])
 else
  (ajg (fun (x:Int×(List aj0)×(List aj0)×Int)=>dj4 n l (l.length:Int) x.1 x.2.1 x.2.2.1 x.2.2.2) n ((if 0 > n_ then 0 else n_),[],[],0)).bind fun y9 =>
  byz n y9.1 y9.2
def fwv (n:Nat):Go.AE.Fn:=mkFn (A:=(List aj0)×Int) (R:=(List aj0)×(List aj0)) 97 [(false,[.slice 80]),(false,[.int .i64])] false (fun xs=>(((cg (xs.getD 0 []) 0).toSl.map ajl),(cg (xs.getD 1 []) 0).toInt)) (fun a=>[[.slice (List.map aj2 a.1)],[.int a.2]]) (fun a=>eq0 n a.1 a.2) (fun r=>[.own 0 [.int .i64,.int .i64] 0 r.1.length,.own 1 [.int .i64,.int .i64] 0 r.2.length]) (fun r=>[.row 80 (List.map aj2 r.1),.row 80 (List.map aj2 r.2)])
theorem ijb (n:Nat):aj1 jd (fwv n):=by
 have hΓ:=g1 (ayi n) (@g0 (aj1 jd));refine aj5 (Tryz.f97.body.getD .skip) h00 Tryz.func97 rfl Tryz.call97 (by decide) (fun _ r=>⟨rfl,m1 ⟨80,_,_,rfl,ty80,rfl⟩ (m1 ⟨80,_,_,rfl,ty80,rfl⟩ m0)⟩) ?_;rintro ⟨l,n_⟩ r H
 try dsimp only at H
 unfold eq0 at H;simp only [Tryz.f97,jr];refine rA ?_;refine jn fun K2 hK2=>?_;obtain ⟨r1,hr1,H⟩:=bind_some H;have q:=aI @ak5.eq_1 hr1;refine rAq ?_;refine cnd H (fun h4 H=>?_) (fun h4 H=>?_)
 ·refine rA ?_;refine jv (lf ?_);obtain rfl:=sI H;exact rto [none,none]
 refine jp (hK2 _ ?_);refine rA ?_;refine jU (fun (x:(List aj0)×(List aj0))=>cky x.1 x.2) (fun x=>byz n x.1 x.2=some r) ?_ ?_
 ·refine rA ?_;refine js ?_;obtain ⟨y9,hy9,Ho9⟩:=bind_some H;refine jO _ (fun x=>cyq l (l.length:Int) x.1 x.2.1 x.2.2.1 x.2.2.2) hy9 (wb [none,none]) ?_;rintro ⟨n__1,kept_1,rest_1,v16⟩ z9 H
  try dsimp only at H
  unfold dj4 at H;refine Sm.st (cyq.eq_1 ..) ?_;refine rA ?_;refine jn fun K11 hK11=>?_;refine cnd H (fun h12 H=>?_) (fun h12 H=>?_)
  ·refine jp (hK11 _ ?_);refine jU (fun (x:Int×(List aj0)×(List aj0))=>cyb x.1 x.2.1 x.2.2 l (l.length:Int) v16) (fun x=>byf n x.1 x.2.1 x.2.2 l (l.length:Int) v16=some z9) ?_ ?_
   ·refine js ?_;obtain ⟨hg21,H⟩:=aj3 H;refine rA ?_;refine rA ?_;refine jU (fun (x:(List aj0))=>cy9 n__1 x rest_1 ((gt l (Int.toNat v16)).At) ((gt l (Int.toNat v16)).Len) (if ((gt l (Int.toNat v16)).Len) < n__1 then ((gt l (Int.toNat v16)).Len) else n__1) l (l.length:Int) v16) (fun x=>bwn n n__1 x rest_1 ((gt l (Int.toNat v16)).At) ((gt l (Int.toNat v16)).Len) (if ((gt l (Int.toNat v16)).Len) < n__1 then ((gt l (Int.toNat v16)).Len) else n__1) l (l.length:Int) v16=some z9) ?_ ?_
    ·refine rA ?_;refine cnd H (fun h19 H=>?_) (fun h19 H=>?_)
     ·obtain ⟨hg20,H⟩:=aj3 H;refine eA ?_;refine lf ?_;exact ⟨_,H,wb [some 512,some 9005,some 112]⟩
     refine jp (lf ?_);exact ⟨_,H,wb [some 9004,some 9005,some 112]⟩
    rintro kept_3 H
    try dsimp only at H
    unfold bwn at H;refine Sm.st (cy9.eq_1 ..) ?_;refine jU (fun (x:(List aj0))=>cyx n__1 kept_3 x (if ((gt l (Int.toNat v16)).Len) < n__1 then ((gt l (Int.toNat v16)).Len) else n__1) l (l.length:Int) v16) (fun x=>bwr n n__1 kept_3 x (if ((gt l (Int.toNat v16)).Len) < n__1 then ((gt l (Int.toNat v16)).Len) else n__1) l (l.length:Int) v16=some z9) ?_ ?_
    ·refine rA ?_;refine cnd H (fun h16 H=>?_) (fun h16 H=>?_)
     ·obtain ⟨hg17,H⟩:=aj3 H;refine eA ?_;refine lf ?_;exact ⟨_,H,wb [some 9008,some 768]⟩
     refine jp (lf ?_);exact ⟨_,H,wb [some 9008,some 9009]⟩
    rintro rest_3 H
    try dsimp only at H
    unfold bwr at H;refine Sm.st (cyx.eq_1 ..) ?_;refine eA ?_;refine lf ?_;exact ⟨((ja .i64 (n__1 - (if ((gt l (Int.toNat v16)).Len) < n__1 then ((gt l (Int.toNat v16)).Len) else n__1))),kept_3,rest_3),H,wb [some 9011,some 9012]⟩
   rintro ⟨n__2,kept_2,rest_2⟩ H
   try dsimp only at H
   unfold byf at H;refine Sm.st (cyb.eq_1 ..) ?_;refine eA ?_;refine lf ?_;exact nx H (wb [some 9006,some 9007])
  refine jT (lf ?_);refine lx H fun hyy=>?_;subst hyy;have H:=Ho9
  try dsimp only at H
  refine lf ?_;exact ⟨(kept_1,rest_1),H,wb [some 9004,some 9005]⟩
 rintro ⟨kept,rest⟩ H
 try dsimp only at H
 unfold byz at H;refine Sm.st (cky.eq_1 ..) ?_;refine rA ?_;refine jv (lf ?_);obtain rfl:=sI H;exact rto [some 9000,some 9001]
def cwf (n:Nat) (b:List Int) (at_:Int) (n_:Int):Option Bool :=
 some (if (decide (at_ ≥ 0))=true then (decide (at_≤(ja .i64 ((b.length:Int) - n_)))) else false)
def ezq (n:Nat):Go.AE.Fn:=mkFn (A:=(List Int)×Int×Int) (R:=Bool) 184 [(false,[.slice 5]),(false,[.int .i64]),(false,[.int .i64])] false (fun xs=>(((cg (xs.getD 0 []) 0).toSl.map akn),(cg (xs.getD 1 []) 0).toInt,(cg (xs.getD 2 []) 0).toInt)) (fun a=>[[.slice (List.map ajj a.1)],[.int a.2.1],[.int a.2.2]]) (fun a=>cwf n a.1 a.2.1 a.2.2) (fun r=>[.c .bool (.bool r)]) (fun r=>[])
theorem gqy (n:Nat):aj1 jd (ezq n):=by
 have hΓ:=@g0 (aj1 jd);refine cF (Tryz.f184.body.getD .skip) Tryz.func184 rfl Tryz.call184 ?_;rintro ⟨b,at_,n_⟩ r H
 try dsimp only at H
 unfold cwf at H;simp only [Tryz.f184,jr];refine rA ?_;refine rA ?_;refine jv (lf ?_);obtain rfl:=sI H;exact rt []
def dw0 (n:Nat) (b:List Int) (at_:Int):Option (Int×Bool) :=
 (cwf n b at_ 2).bind fun r1 =>
 bif (!r1) then
  some (0,false)
 else
  gd ((0≤at_∧at_ < (b.length:Int))∧(0≤(ja .i64 (at_+1))∧(ja .i64 (at_+1)) < (b.length:Int))) <|
  some ((ja .u32 ((ja .i32 ((ja .i16 (((BitVec.ofInt (jj .i16) (ja .i16 ((ja .i16 ((gt b (Int.toNat at_)))) * 2 ^ min 8 (jj .i16))) ||| BitVec.ofInt (jj .i16) (ja .i16 ((gt b (Int.toNat (ja .i64 (at_+1))))))).toNat:Int))))))),true)
def ekb (n:Nat):Go.AE.Fn:=mkFn (A:=(List Int)×Int) (R:=Int×Bool) 146 [(false,[.slice 5]),(false,[.int .i64])] false (fun xs=>(((cg (xs.getD 0 []) 0).toSl.map akn),(cg (xs.getD 1 []) 0).toInt)) (fun a=>[[.slice (List.map ajj a.1)],[.int a.2]]) (fun a=>dw0 n a.1 a.2) (fun r=>[.c (.int .u32) (.int r.1),.c .bool (.bool r.2)]) (fun r=>[])
theorem gqc (n:Nat):aj1 jd (ekb n):=by
 have hΓ:=g1 (gqy n) (@g0 (aj1 jd));refine cF (Tryz.f146.body.getD .skip) Tryz.func146 rfl Tryz.call146 ?_;rintro ⟨b,at_⟩ r H
 try dsimp only at H
 unfold dw0 at H;simp only [Tryz.f146,jr];refine rA ?_;refine jn fun K2 hK2=>?_;obtain ⟨r1,hr1,H⟩:=bind_some H;have q:=aI @ezq.eq_1 hr1;refine rAq ?_;refine cnd H (fun h4 H=>?_) (fun h4 H=>?_)
 ·refine rA ?_;refine jv (lf ?_);obtain rfl:=sI H;exact rt []
 refine jp (hK2 _ ?_);obtain ⟨⟨hg7,hg8⟩,H⟩:=aj3 H;refine sQ [0,1,2,3,4,5,6,7,8,9,10,11,12,13,14,15,16] [(none,[],[]),(none,[],[]),(none,[],[]),(none,[],[]),(none,[],[]),(none,[1000001],[]),(none,[],[]),(none,[],[]),(none,[],[]),(none,[],[]),(none,[],[]),(none,[],[]),(none,[],[]),(none,[],[]),(none,[],[]),(none,[],[]),(none,[],[])] fun K6 hK6=>?_
 iterate 5 refine oQ ?_
 refine oQV ?_
 iterate 11 refine oQ ?_
 refine byo ?_;refine hK6 _ (jv (lf ?_));obtain rfl:=sI H;exact rt []
def awg (n:Nat) (b:List Int) (at_:Int):Option Int :=
 (dw0 n b at_).bind fun r1 =>
 some (ja .i64 ((ja .u32 (((BitVec.ofInt (jj .u32) r1.1 &&& BitVec.ofInt (jj .u32) 65535).toNat:Int)))))
def dzx (n:Nat):Go.AE.Fn:=mkFn (A:=(List Int)×Int) (R:=Int) 101 [(false,[.slice 5]),(false,[.int .i64])] false (fun xs=>(((cg (xs.getD 0 []) 0).toSl.map akn),(cg (xs.getD 1 []) 0).toInt)) (fun a=>[[.slice (List.map ajj a.1)],[.int a.2]]) (fun a=>awg n a.1 a.2) (fun r=>[.c (.int .i64) (.int r)]) (fun r=>[])
theorem ezh (n:Nat):aj1 jd (dzx n):=by
 have hΓ:=g1 (gqc n) (@g0 (aj1 jd));refine cF (Tryz.f101.body.getD .skip) Tryz.func101 rfl Tryz.call101 ?_;rintro ⟨b,at_⟩ r H
 try dsimp only at H
 unfold awg at H;simp only [Tryz.f101,jr];refine rA ?_;obtain ⟨r1,hr1,H⟩:=bind_some H;have q:=aI @ekb.eq_1 hr1;refine rAq ?_;refine rA ?_;refine jv (lf ?_);obtain rfl:=sI H;exact rt []
def cq7 (n:Nat) (r_:TRec):Option Bool :=
 some (if (if (decide (r_.R ≥ 1))=true then (decide (r_.R≤255)) else false)=true then (decide ((r_.Key.length:Int)≤255)) else false)
def dy8 (n:Nat):Go.AE.Fn:=mkFn (A:=TRec) (R:=Bool) 185 [(true,[.int .i64,.slice 5,.slice 5,.bool])] false (fun xs=>(⟨(cg (xs.getD 0 []) 0).toInt,((cg (xs.getD 0 []) 1).toSl.map akn),((cg (xs.getD 0 []) 2).toSl.map akn),(cg (xs.getD 0 []) 3).toBool⟩:TRec)) (fun a=>[[.int a.R,.slice (List.map ajj a.Key),.slice (List.map ajj a.Data),.bool a.Bad]]) (fun a=>cq7 n a) (fun r=>[.c .bool (.bool r)]) (fun r=>[])
theorem fw1 (n:Nat):aj1 jd (dy8 n):=by
 have hΓ:=@g0 (aj1 jd);refine cF (Tryz.f185.body.getD .skip) Tryz.func185 rfl Tryz.call185 ?_;rintro r_ r H
 try dsimp only at H
 unfold cq7 at H;simp only [Tryz.f185,jr];refine rA ?_;refine rA ?_;refine jv (lf ?_);obtain rfl:=sI H;exact rt []
abbrev bzg:S:=stB [] []
def azd (n:Nat):Option Bool :=
 some true
abbrev bzh (s1:List Int) (s2:List Int) (v12:Int) (v13:Int):S:=stB [(0,.c (.slice 5) (.slice (List.map ajj s1))),(1,.c (.slice 5) (.slice (List.map ajj s2))),(12,.c (.int .i64) (.int v12)),(13,.c (.int .i64) (.int v13))] []
def aw4 (n:Nat) (s1:List Int) (s2:List Int) (v12:Int) (v13:Int):Option ((Int) ⊕ (((Bool) ⊕ (Unit)))) :=
 bif (decide (v13 < v12)) then
  gd ((0≤v13∧v13 < (s1.length:Int))∧(0≤v13∧v13 < (s2.length:Int))) <|
  bif ((gt s1 (Int.toNat v13)) != (gt s2 (Int.toNat v13))) then
   some (.inr (.inl false))
  else
   some (.inl (ja .i64 (v13+1)))
 else
  some (.inr (.inr ()))
def aq5 (n:Nat) (s1:List Int) (s2:List Int):Option Bool :=
 bif ((s1.length:Int) != (s2.length:Int)) then
  some false
 else
  (ajg (fun (x:Int)=>aw4 n s1 s2 (s1.length:Int) x) n 0).bind fun y8 =>
  match y8 with
  | .inl vv =>
   some vv
  | .inr vv =>
   azd n
def bya (n:Nat):Go.AE.Fn:=mkFn (A:=(List Int)×(List Int)) (R:=Bool) 150 [(false,[.slice 5]),(false,[.slice 5])] false (fun xs=>(((cg (xs.getD 0 []) 0).toSl.map akn),((cg (xs.getD 1 []) 0).toSl.map akn))) (fun a=>[[.slice (List.map ajj a.1)],[.slice (List.map ajj a.2)]]) (fun a=>aq5 n a.1 a.2) (fun r=>[.c .bool (.bool r)]) (fun r=>[])
theorem dwr (n:Nat):aj1 jd (bya n):=by
 have hΓ:=@g0 (aj1 jd);refine cF (Tryz.f150.body.getD .skip) Tryz.func150 rfl Tryz.call150 ?_;rintro ⟨s1,s2⟩ r H
 try dsimp only at H
 unfold aq5 at H;simp only [Tryz.f150,jr];refine rA ?_;refine jn fun K2 hK2=>?_;refine rA ?_;refine cnd H (fun h4 H=>?_) (fun h4 H=>?_)
 ·refine rA ?_;refine jv (lf ?_);obtain rfl:=sI H;exact rt []
 refine jp (hK2 _ ?_);refine jU (fun (x:Unit)=>bzg) (fun x=>azd n=some r) ?_ ?_
 ·refine rA ?_;refine js ?_;obtain ⟨y8,hy8,Ho8⟩:=bind_some H;refine jO _ (fun x=>bzh s1 s2 (s1.length:Int) x) hy8 (wb []) ?_;rintro v13 z8 H
  try dsimp only at H
  unfold aw4 at H;refine Sm.st (bzh.eq_1 ..) ?_;refine rA ?_;refine jn fun K10 hK10=>?_;refine cnd H (fun h11 H=>?_) (fun h11 H=>?_)
  ·refine jp (hK10 _ (jn fun K12 hK12=>js ?_));refine rA ?_;obtain ⟨⟨hg17,hg18⟩,H⟩:=aj3 H;refine rD ?_;refine cnd H (fun h15 H=>?_) (fun h15 H=>?_)
   ·refine rA ?_;refine jv (lf ?_);refine lx H fun hyy=>?_;subst hyy;have H:=Ho8
    try dsimp only at H
    refine lf ?_;obtain rfl:=sI H;exact rt []
   refine jp (hK12 _ ?_);refine eA ?_;refine lf ?_;exact nx H (wb [])
  refine jT (lf ?_);refine lx H fun hyy=>?_;subst hyy;have H:=Ho8
  try dsimp only at H
  refine lf ?_;exact ⟨(),H,wb []⟩
 rintro ⟨⟩ H
 try dsimp only at H
 unfold azd at H;refine Sm.st (bzg.eq_1 ..) ?_;refine rA ?_;refine jv (lf ?_);obtain rfl:=sI H;exact rt []
def bkh (n:Nat) (x_:TRec) (y:TRec):Option Bool :=
 gd (((if (x_.R == y.R)=true then (x_.Bad == y.Bad) else false)=true→(aq5 n x_.Key y.Key).isSome=true)∧((if (if (x_.R == y.R)=true then (x_.Bad == y.Bad) else false)=true then ((aq5 n x_.Key y.Key).getD default) else false)=true→(aq5 n x_.Data y.Data).isSome=true)) <|
 some (if (if (if (x_.R == y.R)=true then (x_.Bad == y.Bad) else false)=true then ((aq5 n x_.Key y.Key).getD default) else false)=true then ((aq5 n x_.Data y.Data).getD default) else false)
def dyw (n:Nat):Go.AE.Fn:=mkFn (A:=TRec×TRec) (R:=Bool) 149 [(true,[.int .i64,.slice 5,.slice 5,.bool]),(true,[.int .i64,.slice 5,.slice 5,.bool])] false (fun xs=>((⟨(cg (xs.getD 0 []) 0).toInt,((cg (xs.getD 0 []) 1).toSl.map akn),((cg (xs.getD 0 []) 2).toSl.map akn),(cg (xs.getD 0 []) 3).toBool⟩:TRec),(⟨(cg (xs.getD 1 []) 0).toInt,((cg (xs.getD 1 []) 1).toSl.map akn),((cg (xs.getD 1 []) 2).toSl.map akn),(cg (xs.getD 1 []) 3).toBool⟩:TRec))) (fun a=>[[.int a.1.R,.slice (List.map ajj a.1.Key),.slice (List.map ajj a.1.Data),.bool a.1.Bad],[.int a.2.R,.slice (List.map ajj a.2.Key),.slice (List.map ajj a.2.Data),.bool a.2.Bad]]) (fun a=>bkh n a.1 a.2) (fun r=>[.c .bool (.bool r)]) (fun r=>[])
theorem fq9 (n:Nat):aj1 jd (dyw n):=by
 have hΓ:=g1 (dwr n) (@g0 (aj1 jd));refine cF (Tryz.f149.body.getD .skip) Tryz.func149 rfl Tryz.call149 ?_;rintro ⟨x_,y⟩ r H
 try dsimp only at H
 unfold bkh at H;simp only [Tryz.f149,jr];refine rA ?_;obtain ⟨⟨hg3,hg4⟩,H⟩:=aj3 H;have q:=@bya.eq_1;refine rAq ?_;refine jv (lf ?_);obtain rfl:=sI H;exact rt []
abbrev aks:S:=stB [] []
def aqk (n:Nat):Option Bool :=
 some true
abbrev akp (s2:List TRec) (s1:List TRec) (v16:Int) (v17:Int):S:=stB [(1,.c (.slice 87) (.slice (List.map ajr s2))),(2,.fnv 149 []),(15,.c (.slice 87) (.slice (List.map ajr s1))),(16,.c (.int .i64) (.int v16)),(17,.c (.int .i64) (.int v17))] []
def aq3 (n:Nat) (s2:List TRec) (s1:List TRec) (v16:Int) (v17:Int):Option ((Int) ⊕ (((Bool) ⊕ (Unit)))) :=
 bif (decide (v17 < v16)) then
  gd ((0≤v17∧v17 < (s1.length:Int))) <|
  gd ((0≤v17∧v17 < (s2.length:Int))) <|
  (bkh n (gt s1 (Int.toNat v17)) (gt s2 (Int.toNat v17))).bind fun r1 =>
  bif (!r1) then
   some (.inr (.inl false))
  else
   some (.inl (ja .i64 (v17+1)))
 else
  some (.inr (.inr ()))
def aqf (n:Nat) (s1:List TRec) (s2:List TRec):Option Bool :=
 bif ((s1.length:Int) != (s2.length:Int)) then
  some false
 else
  (ajg (fun (x:Int)=>aq3 n s2 s1 (s1.length:Int) x) n 0).bind fun y8 =>
  match y8 with
  | .inl vv =>
   some vv
  | .inr vv =>
   aqk n
theorem bym (n:Nat) (s1:List TRec) (s2:List TRec) (r:Bool) (H:aqf n s1 s2=some r):akx jd 148 [.dat (false,[.slice 87]) [.slice (List.map ajr s1)],.dat (false,[.slice 87]) [.slice (List.map ajr s2)],.ref (.fnv 149 [])] [] [.c .bool (.bool r)] []:=by
 have hΓ:=g1 (fq9 n) (@g0 (aj1 jd));refine bkq (Tryz.f148.body.getD .skip) h00 Tryz.func148 rfl Tryz.call148 (jZ rfl) (jZ rfl) ?_;unfold aqf at H;simp only [Tryz.f148,jr];refine rA ?_;refine jn fun K2 hK2=>?_;refine rA ?_;refine cnd H (fun h4 H=>?_) (fun h4 H=>?_)
 ·refine rA ?_;refine jv (lf ?_);obtain rfl:=sI H;exact rtM []
 refine jp (hK2 _ ?_);refine jU (fun (x:Unit)=>aks) (fun x=>aqk n=some r) ?_ ?_
 ·refine rA ?_;refine js ?_;obtain ⟨y8,hy8,Ho8⟩:=bind_some H;refine jO _ (fun x=>akp s2 s1 (s1.length:Int) x) hy8 (wb []) ?_;rintro v17 z8 H
  try dsimp only at H
  unfold aq3 at H;refine Sm.st (akp.eq_1 ..) ?_;refine rA ?_;refine jn fun K10 hK10=>?_;refine cnd H (fun h11 H=>?_) (fun h11 H=>?_)
  ·refine jp (hK10 _ (jn fun K12 hK12=>js ?_));obtain ⟨hg19,H⟩:=aj3 H;refine rA ?_;obtain ⟨hg18,H⟩:=aj3 H;refine rA ?_;obtain ⟨r1,hr1,H⟩:=bind_some H;have q:=aI @dyw.eq_1 hr1;refine rAq ?_;refine cnd H (fun h16 H=>?_) (fun h16 H=>?_)
   ·refine rA ?_;refine jv (lf ?_);refine lx H fun hyy=>?_;subst hyy;have H:=Ho8
    try dsimp only at H
    refine lf ?_;obtain rfl:=sI H;exact rtM []
   refine jp (hK12 _ ?_);refine eA ?_;refine lf ?_;exact nx H (wb [])
  refine jT (lf ?_);refine lx H fun hyy=>?_;subst hyy;have H:=Ho8
  try dsimp only at H
  refine lf ?_;exact ⟨(),H,wb []⟩
 rintro ⟨⟩ H
 try dsimp only at H
 unfold aqk at H;refine Sm.st (aks.eq_1 ..) ?_;refine rA ?_;refine jv (lf ?_);obtain rfl:=sI H;exact rtM []
abbrev dwz:S:=stB [] []
def cqb (n:Nat):Option (Int×Bool) :=
 some (0,false)
abbrev dw8 (b:Int) (l:List Int) (i:Int):S:=stB [(0,.c (.int .u8) (.int b)),(4,.own 9001 [.int .u8] 0 l.length),(5,.c (.int .i64) (.int i))] [(9001,.row 5 (List.map ajj l))]
def cq2 (n:Nat) (b:Int) (l:List Int) (i:Int):Option ((Int) ⊕ (((Int×Bool) ⊕ (Unit)))) :=
 bif (decide (i < ((l.length:Nat):Int))) then
  gd ((0≤i∧i < (l.length:Int))∧(Int.toNat i) < l.length) <|
  bif ((gt l (Int.toNat i)) == b) then
   some (.inr (.inl ((ja .u8 ((ja .i64 (32+i)))),true)))
  else
   some (.inl (ja .i64 (i+1)))
 else
  some (.inr (.inr ()))
def bzy (n:Nat) (b:Int):Option (Int×Bool) :=
 (bkf n).bind fun r1 =>
 (ajg (fun (x:Int)=>cq2 n b r1 x) n 0).bind fun y5 =>
 match y5 with
 | .inl vv =>
  some (vv.1,vv.2)
 | .inr vv =>
  cqb n
def eq2 (n:Nat):Go.AE.Fn:=mkFn (A:=Int) (R:=Int×Bool) 226 [(false,[.int .u8])] false (fun xs=>(cg (xs.getD 0 []) 0).toInt) (fun a=>[[.int a]]) (fun a=>bzy n a) (fun r=>[.c (.int .u8) (.int r.1),.c .bool (.bool r.2)]) (fun r=>[])
theorem fy1 (n:Nat):aj1 jd (eq2 n):=by
 have hΓ:=g1 (dy5 n) (@g0 (aj1 jd));refine cF (Tryz.f226.body.getD .skip) Tryz.func226 rfl Tryz.call226 ?_;rintro b r H
 try dsimp only at H
 unfold bzy at H;simp only [Tryz.f226,jr];refine rA ?_;obtain ⟨r1,hr1,H⟩:=bind_some H;have q:=aI @czi.eq_1 hr1;refine rAq ?_;refine jU (fun (x:Unit)=>dwz) (fun x=>cqb n=some r) ?_ ?_
 ·refine rA ?_;refine js ?_;obtain ⟨y5,hy5,Ho5⟩:=bind_some H;refine jO _ (fun x=>dw8 b r1 x) hy5 (wb [some 96]) ?_;rintro i z5 H
  try dsimp only at H
  unfold cq2 at H;refine Sm.st (dw8.eq_1 ..) ?_;refine jn fun K6 hK6=>?_;refine rA ?_;refine cnd H (fun h8 H=>?_) (fun h8 H=>?_)
  ·refine jp (hK6 _ (jn fun K9 hK9=>js ?_));obtain ⟨⟨hg13,hg14⟩,H⟩:=aj3 H;refine rA ?_;refine cnd H (fun h11 H=>?_) (fun h11 H=>?_)
   ·refine rA ?_;refine jv (lf ?_);refine lx H fun hyy=>?_;subst hyy;have H:=Ho5
    try dsimp only at H
    refine lf ?_;obtain rfl:=sI H;exact rt []
   refine jp (hK9 _ ?_);refine eA ?_;refine lf ?_;exact nx H (wb [some 9001])
  refine jT (lf ?_);refine lx H fun hyy=>?_;subst hyy;have H:=Ho5
  try dsimp only at H
  refine lf ?_;exact ⟨(),H,wb []⟩
 rintro ⟨⟩ H
 try dsimp only at H
 unfold cqb at H;refine Sm.st (dwz.eq_1 ..) ?_;refine rA ?_;refine jv (lf ?_);obtain rfl:=sI H;exact rt []
abbrev ckf (out:List Int):S:=stB [(3,.own 9000 [.int .u8] 0 out.length)] [(9000,.row 5 (List.map ajj out))]
def bqq (n:Nat) (out:List Int):Option (List UInt8) :=
 some (awk out)
abbrev cka (b:List Int) (out_2:List Int) (i:Int):S:=stB [(0,.c (.slice 5) (.slice (List.map ajj b))),(3,.own 9003 [.int .u8] 0 out_2.length),(4,.c (.int .i64) (.int i))] [(9003,.row 5 (List.map ajj out_2))]
def bqr (n:Nat) (b:List Int) (out_2:List Int) (i:Int):Option (((List Int)×Int) ⊕ (((List Int)))) :=
 some (.inl (out_2,(ja .i64 (i+1))))
abbrev ck0 (b:List Int) (out_1:List Int) (i:Int) (c:Int):S:=stB [(0,.c (.slice 5) (.slice (List.map ajj b))),(3,.own 9004 [.int .u8] 0 out_1.length),(4,.c (.int .i64) (.int i)),(5,.c (.int .u8) (.int c))] [(9004,.row 5 (List.map ajj out_1))]
def akt (n:Nat) (b:List Int) (out_1:List Int) (i:Int) (c:Int):Option (((List Int)×Int) ⊕ (((List Int)))) :=
 gd ((out_1.length+1)≤2147483648) <|
 bqr n b (out_1 ++ [c]) i
abbrev cwh (b:List Int) (out_1:List Int) (i:Int):S:=stB [(0,.c (.slice 5) (.slice (List.map ajj b))),(3,.own 9002 [.int .u8] 0 out_1.length),(4,.c (.int .i64) (.int i))] [(9002,.row 5 (List.map ajj out_1))]
def azf (n:Nat) (b:List Int) (out_1:List Int) (i:Int):Option (((List Int)×Int) ⊕ (((List Int)))) :=
 bif (decide (i < (b.length:Int))) then
  gd ((0≤i∧i < (b.length:Int))) <|
  (bzy n (gt b (Int.toNat i))).bind fun r1 =>
  bif (!r1.2) then
   akt n b out_1 i 46
  else
   akt n b out_1 i r1.1
 else
  some (.inr out_1)
def bwu (n:Nat) (b:List Int):Option (List UInt8) :=
 (ajg (fun (x:(List Int)×Int)=>azf n b x.1 x.2) n ([],0)).bind fun y5 =>
 bqq n y5
def dzb (n:Nat):Go.AE.Fn:=mkFn (A:=(List Int)) (R:=(List UInt8)) 208 [(false,[.slice 5])] false (fun xs=>((cg (xs.getD 0 []) 0).toSl.map akn)) (fun a=>[[.slice (List.map ajj a)]]) (fun a=>bwu n a) (fun r=>[.c .str (.str r)]) (fun r=>[])
theorem eyk (n:Nat):aj1 jd (dzb n):=by
 have hΓ:=g1 (fy1 n) (@g0 (aj1 jd));refine cF (Tryz.f208.body.getD .skip) Tryz.func208 rfl Tryz.call208 ?_;rintro b r H
 try dsimp only at H
 unfold bwu at H;simp only [Tryz.f208,jr];refine rA ?_;refine rA ?_;refine jU (fun (x:(List Int))=>ckf x) (fun x=>bqq n x=some r) ?_ ?_
 ·refine rA ?_;refine js ?_;obtain ⟨y5,hy5,Ho5⟩:=bind_some H;refine jO _ (fun x=>cwh b x.1 x.2) hy5 (wb [none]) ?_;rintro ⟨out_1,i⟩ z5 H
  try dsimp only at H
  unfold azf at H;refine Sm.st (cwh.eq_1 ..) ?_;refine jn fun K6 hK6=>?_;refine rA ?_;refine cnd H (fun h8 H=>?_) (fun h8 H=>?_)
  ·refine jp (hK6 _ ?_);refine jU (fun (x:(List Int))=>cka b x i) (fun x=>bqr n b x i=some z5) ?_ ?_
   ·refine js ?_;obtain ⟨hg13,H⟩:=aj3 H;obtain ⟨r1,hr1,H⟩:=bind_some H;have q:=aI @eq2.eq_1 hr1;refine rAq ?_;refine jU (fun (x:Int)=>ck0 b out_1 i x) (fun x=>akt n b out_1 i x=some z5) ?_ ?_
    ·refine rA ?_;refine cnd H (fun h12 H=>?_) (fun h12 H=>?_)
     ·refine eA ?_;refine lf ?_;exact ⟨_,H,wb [some 9002]⟩
     refine jp (lf ?_);exact ⟨_,H,wb [some 9002]⟩
    rintro c H
    try dsimp only at H
    unfold akt at H;refine Sm.st (ck0.eq_1 ..) ?_;obtain ⟨hg10,H⟩:=aj3 H;refine eA ?_;refine lf ?_;exact ⟨_,H,wb [some 416]⟩
   rintro out_2 H
   try dsimp only at H
   unfold bqr at H;refine Sm.st (cka.eq_1 ..) ?_;refine eA ?_;refine lf ?_;exact nx H (wb [some 9003])
  refine jT (lf ?_);refine lx H fun hyy=>?_;subst hyy;have H:=Ho5
  try dsimp only at H
  refine lf ?_;exact ⟨_,H,wb [some 9002]⟩
 rintro out H
 try dsimp only at H
 unfold bqq at H;refine Sm.st (ckf.eq_1 ..) ?_;refine sX fun K3 hK3=>?_;refine oX ?_;refine oE awz ?_;refine oX ?_;refine hK3 _ (jv (lf ?_));obtain rfl:=sI H;exact rt []
abbrev dwy (b:List Int) (n_:Int):S:=stB [(0,.c (.slice 5) (.slice (List.map ajj b))),(3,.c (.int .i64) (.int n_))] []
def bzs (n:Nat) (b:List Int) (n_:Int):Option (List UInt8) :=
 gd ((0≤n_∧n_≤(b.length:Int))) <|
 (bwu n (List.take (Int.toNat n_) b)).bind fun r1 =>
 some r1
abbrev dqu (b:List Int) (n__1:Int):S:=stB [(0,.c (.slice 5) (.slice (List.map ajj b))),(3,.c (.int .i64) (.int n__1))] []
def ayd (n:Nat) (b:List Int) (n__1:Int):Option ((Int) ⊕ ((Int))) :=
 gd (((decide (n__1 > 0))=true→(0≤(ja .i64 (n__1 - 1))∧(ja .i64 (n__1 - 1)) < (b.length:Int)))) <|
 bif (if (decide (n__1 > 0))=true then ((gt b (Int.toNat (ja .i64 (n__1 - 1)))) == 64) else false) then
  some (.inl (ja .i64 (n__1 - 1)))
 else
  some (.inr n__1)
def ckl (n:Nat) (b:List Int):Option (List UInt8) :=
 (ajg (fun (x:Int)=>ayd n b x) n (b.length:Int)).bind fun y5 =>
 bzs n b y5
def ew1 (n:Nat):Go.AE.Fn:=mkFn (A:=(List Int)) (R:=(List UInt8)) 187 [(false,[.slice 5])] false (fun xs=>((cg (xs.getD 0 []) 0).toSl.map akn)) (fun a=>[[.slice (List.map ajj a)]]) (fun a=>ckl n a) (fun r=>[.c .str (.str r)]) (fun r=>[])
theorem fy4 (n:Nat):aj1 jd (ew1 n):=by
 have hΓ:=g1 (eyk n) (@g0 (aj1 jd));refine cF (Tryz.f187.body.getD .skip) Tryz.func187 rfl Tryz.call187 ?_;rintro b r H
 try dsimp only at H
 unfold ckl at H;simp only [Tryz.f187,jr];refine rA ?_;refine rA ?_;refine jU (fun (x:Int)=>dwy b x) (fun x=>bzs n b x=some r) ?_ ?_
 ·refine js ?_;obtain ⟨y5,hy5,Ho5⟩:=bind_some H;refine jO _ (fun x=>dqu b x) hy5 (wb []) ?_;rintro n__1 z5 H
  try dsimp only at H
  unfold ayd at H;refine Sm.st (dqu.eq_1 ..) ?_;refine jn fun K6 hK6=>?_;obtain ⟨hg9,H⟩:=aj3 H;refine rA ?_;refine cnd H (fun h8 H=>?_) (fun h8 H=>?_)
  ·refine jp (hK6 _ (js ?_));refine eA ?_;refine lf ?_;exact nx H (wb [])
  refine jT (lf ?_);refine lx H fun hyy=>?_;subst hyy;have H:=Ho5
  try dsimp only at H
  refine lf ?_;exact ⟨_,H,wb []⟩
 rintro n_ H
 try dsimp only at H
 unfold bzs at H;refine Sm.st (dwy.eq_1 ..) ?_;obtain ⟨hg4,H⟩:=aj3 H;obtain ⟨r1,hr1,H⟩:=bind_some H;have q:=aI @dzb.eq_1 hr1;refine rAq ?_;refine jv (lf ?_);obtain rfl:=sI H;exact rt []
def bzz (n:Nat) (b:List Int):Option (List UInt8) :=
 (ckl n b).bind fun r1 =>
 some r1
def ewd (n:Nat):Go.AE.Fn:=mkFn (A:=(List Int)) (R:=(List UInt8)) 151 [(false,[.slice 5])] false (fun xs=>((cg (xs.getD 0 []) 0).toSl.map akn)) (fun a=>[[.slice (List.map ajj a)]]) (fun a=>bzz n a) (fun r=>[.c .str (.str r)]) (fun r=>[])
theorem fkt (n:Nat):aj1 jd (ewd n):=by
 have hΓ:=g1 (fy4 n) (@g0 (aj1 jd));refine cF (Tryz.f151.body.getD .skip) Tryz.func151 rfl Tryz.call151 ?_;rintro b r H
 try dsimp only at H
 unfold bzz at H;simp only [Tryz.f151,jr];refine rA ?_;obtain ⟨r1,hr1,H⟩:=bind_some H;have q:=aI @ew1.eq_1 hr1;refine rAq ?_;refine jv (lf ?_);obtain rfl:=sI H;exact rt []
def aqr (n:Nat) (b:List Int) (at_:Int):Option Int :=
 gd ((0≤at_∧at_ < (b.length:Int))∧(0≤(ja .i64 (at_+1))∧(ja .i64 (at_+1)) < (b.length:Int))) <|
 some (ja .i64 ((ja .i64 (256 * (ja .i64 ((gt b (Int.toNat at_))))))+(ja .i64 ((gt b (Int.toNat (ja .i64 (at_+1))))))))
def ewo (n:Nat):Go.AE.Fn:=mkFn (A:=(List Int)×Int) (R:=Int) 152 [(false,[.slice 5]),(false,[.int .i64])] false (fun xs=>(((cg (xs.getD 0 []) 0).toSl.map akn),(cg (xs.getD 1 []) 0).toInt)) (fun a=>[[.slice (List.map ajj a.1)],[.int a.2]]) (fun a=>aqr n a.1 a.2) (fun r=>[.c (.int .i64) (.int r)]) (fun r=>[])
theorem fkp (n:Nat):aj1 jd (ewo n):=by
 have hΓ:=@g0 (aj1 jd);refine cF (Tryz.f152.body.getD .skip) Tryz.func152 rfl Tryz.call152 ?_;rintro ⟨b,at_⟩ r H
 try dsimp only at H
 unfold aqr at H;simp only [Tryz.f152,jr];refine rA ?_;obtain ⟨⟨hg3,hg4⟩,H⟩:=aj3 H;refine rD ?_;refine jv (lf ?_);obtain rfl:=sI H;exact rt []
abbrev dj7 (v:List UInt8) (v_1:Int) (v_2:Int) (v_3:Int) (v_4:List aj8):S:=stB [(2,.box 9000 0),(5,.box 9001 0)] [(9000,.box [.c .str (.str []),.c (.int .i64) (.int 0),.c (.int .i64) (.int 0),.c (.int .i64) (.int 0),.nilsl]),(9001,.box [.c .str (.str v),.c (.int .i64) (.int v_1),.c (.int .i64) (.int v_2),.c (.int .i64) (.int v_3),.own 9002 kD 0 v_4.length]),(9002,.row 41 (List.map aj6 v_4))]
def cj0 (n:Nat) (v:List UInt8) (v_1:Int) (v_2:Int) (v_3:Int) (v_4:List aj8):Option (aja×Bool) :=
 some ((⟨v,v_1,v_2,v_3,v_4⟩:aja),true)
abbrev cyf (l:List (List TRec)) (v_5:List UInt8) (v_6:Int) (v_7:Int) (v_8:Int) (v_10:List aj8) (n_:Int):S:=stB [(0,.c (.slice 84) (.slice (List.map ajh l))),(2,.box 9011 0),(5,.box 9012 0),(6,.c (.int .i64) (.int n_))] [(9011,.box [.c .str (.str []),.c (.int .i64) (.int 0),.c (.int .i64) (.int 0),.c (.int .i64) (.int 0),.nilsl]),(9012,.box [.c .str (.str v_5),.c (.int .i64) (.int v_6),.c (.int .i64) (.int v_7),.c (.int .i64) (.int v_8),.own 9013 kD 0 v_10.length]),(9013,.row 41 (List.map aj6 v_10))]
def bwi (n:Nat) (l:List (List TRec)) (v_5:List UInt8) (v_6:Int) (v_7:Int) (v_8:Int) (v_10:List aj8) (n_:Int):Option (((List aj8)×Int) ⊕ (((aja×Bool) ⊕ ((List aj8))))) :=
 some (.inl (v_10,(ja .i64 (n_+1))))
abbrev dje (l:List (List TRec)) (v_5:List UInt8) (v_6:Int) (v_7:Int) (v_8:Int) (v_12:List aj8) (n_:Int) (k:Int):S:=stB [(0,.c (.slice 84) (.slice (List.map ajh l))),(2,.box 9020 0),(5,.box 9021 0),(6,.c (.int .i64) (.int n_)),(7,.c (.int .i64) (.int k))] [(9020,.box [.c .str (.str []),.c (.int .i64) (.int 0),.c (.int .i64) (.int 0),.c (.int .i64) (.int 0),.nilsl]),(9021,.box [.c .str (.str v_5),.c (.int .i64) (.int v_6),.c (.int .i64) (.int v_7),.c (.int .i64) (.int v_8),.own 9022 kD 0 v_12.length]),(9022,.row 41 (List.map aj6 v_12))]
def bwo (n:Nat) (l:List (List TRec)) (v_5:List UInt8) (v_6:Int) (v_7:Int) (v_8:Int) (v_12:List aj8) (n_:Int) (k:Int):Option (((List aj8)×Int) ⊕ (((aja×Bool) ⊕ ((List aj8))))) :=
 some (.inl (v_12,(ja .i64 (k+1))))
abbrev cyy (l:List (List TRec)) (v_5:List UInt8) (v_6:Int) (v_7:Int) (v_8:Int) (v_11:List aj8) (n_:Int) (k:Int) (d:List UInt8) (d_1:Int) (d_2:Int) (d_3:Bool) (d_4:Bool) (d_5:Int) (d_6:Int) (d_7:Int) (d_8:Int) (d_9:List aj0) (d_10:Int):S:=stB [(0,.c (.slice 84) (.slice (List.map ajh l))),(2,.box 9023 0),(5,.box 9024 0),(6,.c (.int .i64) (.int n_)),(7,.c (.int .i64) (.int k)),(9,.box 9026 0)] [(9023,.box [.c .str (.str []),.c (.int .i64) (.int 0),.c (.int .i64) (.int 0),.c (.int .i64) (.int 0),.nilsl]),(9024,.box [.c .str (.str v_5),.c (.int .i64) (.int v_6),.c (.int .i64) (.int v_7),.c (.int .i64) (.int v_8),.own 9025 kD 0 v_11.length]),(9025,.row 41 (List.map aj6 v_11)),(9026,.box [.c .str (.str d),.c (.int .i64) (.int d_1),.c (.int .i64) (.int d_2),.c .bool (.bool d_3),.c .bool (.bool d_4),.c (.int .i64) (.int d_5),.c (.int .i64) (.int d_6),.c (.int .i64) (.int d_7),.c (.int .i64) (.int d_8),.own 9027 [.int .i64,.int .i64] 0 d_9.length,.c (.int .i64) (.int d_10)]),(9027,.row 80 (List.map aj2 d_9))]
def bwf (n:Nat) (l:List (List TRec)) (v_5:List UInt8) (v_6:Int) (v_7:Int) (v_8:Int) (v_11:List aj8) (n_:Int) (k:Int) (d:List UInt8) (d_1:Int) (d_2:Int) (d_3:Bool) (d_4:Bool) (d_5:Int) (d_6:Int) (d_7:Int) (d_8:Int) (d_9:List aj0) (d_10:Int):Option (((List aj8)×Int) ⊕ (((aja×Bool) ⊕ ((List aj8))))) :=
 gd ((v_11.length+1)≤2147483648) <|
 bwo n l v_5 v_6 v_7 v_8 (v_11 ++ [(⟨d,(⟨d_1,d_2,d_3,d_4,d_5,d_6,d_7,d_8⟩:TDcb),d_9,d_10⟩:aj8)]) n_ k
abbrev djf (l:List (List TRec)) (v_5:List UInt8) (v_6:Int) (v_7:Int) (v_8:Int) (v_11:List aj8) (n_:Int) (k:Int) (r:Int) (r_1:List Int) (r_2:List Int) (r_3:Bool) (d_11:List UInt8) (d_12:Int) (d_13:Int) (d_14:Bool) (d_15:Bool) (d_16:Int) (d_17:Int) (d_18:Int) (d_19:Int) (d_21:Int) (d_20:List aj0) (i:Int):S:=stB [(0,.c (.slice 84) (.slice (List.map ajh l))),(2,.box 9039 0),(5,.box 9040 0),(6,.c (.int .i64) (.int n_)),(7,.c (.int .i64) (.int k)),(8,.box 9042 0),(9,.box 9043 0),(10,.c (.int .i64) (.int i))] [(9039,.box [.c .str (.str []),.c (.int .i64) (.int 0),.c (.int .i64) (.int 0),.c (.int .i64) (.int 0),.nilsl]),(9040,.box [.c .str (.str v_5),.c (.int .i64) (.int v_6),.c (.int .i64) (.int v_7),.c (.int .i64) (.int v_8),.own 9041 kD 0 v_11.length]),(9041,.row 41 (List.map aj6 v_11)),(9042,.box [.c (.int .i64) (.int r),.c (.slice 5) (.slice (List.map ajj r_1)),.c (.slice 5) (.slice (List.map ajj r_2)),.c .bool (.bool r_3)]),(9043,.box [.c .str (.str d_11),.c (.int .i64) (.int d_12),.c (.int .i64) (.int d_13),.c .bool (.bool d_14),.c .bool (.bool d_15),.c (.int .i64) (.int d_16),.c (.int .i64) (.int d_17),.c (.int .i64) (.int d_18),.c (.int .i64) (.int d_19),.own 9044 [.int .i64,.int .i64] 0 d_20.length,.c (.int .i64) (.int d_21)]),(9044,.row 80 (List.map aj2 d_20))]
def ayq (n:Nat) (l:List (List TRec)) (v_5:List UInt8) (v_6:Int) (v_7:Int) (v_8:Int) (v_11:List aj8) (n_:Int) (k:Int) (r:Int) (r_1:List Int) (r_2:List Int) (r_3:Bool) (d_11:List UInt8) (d_12:Int) (d_13:Int) (d_14:Bool) (d_15:Bool) (d_16:Int) (d_17:Int) (d_18:Int) (d_19:Int) (d_21:Int) (d_20:List aj0) (i:Int):Option (((List aj0)×Int) ⊕ (((List aj0)))) :=
 gd (12 < (r_2.length:Int)) <|
 bif (decide (i < (ja .i64 ((gt r_2 12))))) then
  (aqr n r_2 (ja .i64 (13+(ja .i64 (4 * i))))).bind fun r10 =>
  (aqr n r_2 (ja .i64 (15+(ja .i64 (4 * i))))).bind fun r11 =>
  gd ((d_20.length+1)≤2147483648) <|
  some (.inl ((d_20 ++ [(⟨r10,r11⟩:aj0)]),(ja .i64 (i+1))))
 else
  some (.inr d_20)
abbrev cy2 (l:List (List TRec)) (v_5:List UInt8) (v_6:Int) (v_7:Int) (v_8:Int) (n_:Int) (v_11:List aj8) (k:Int):S:=stB [(0,.c (.slice 84) (.slice (List.map ajh l))),(2,.box 9017 0),(5,.box 9018 0),(6,.c (.int .i64) (.int n_)),(7,.c (.int .i64) (.int k))] [(9017,.box [.c .str (.str []),.c (.int .i64) (.int 0),.c (.int .i64) (.int 0),.c (.int .i64) (.int 0),.nilsl]),(9018,.box [.c .str (.str v_5),.c (.int .i64) (.int v_6),.c (.int .i64) (.int v_7),.c (.int .i64) (.int v_8),.own 9019 kD 0 v_11.length]),(9019,.row 41 (List.map aj6 v_11))]
def az9 (n:Nat) (l:List (List TRec)) (v_5:List UInt8) (v_6:Int) (v_7:Int) (v_8:Int) (n_:Int) (v_11:List aj8) (k:Int):Option (((List aj8)×Int) ⊕ (((aja×Bool) ⊕ ((List aj8))))) :=
 gd ((0≤n_∧n_ < (l.length:Int))) <|
 bif (decide (k < ((gt l (Int.toNat n_)).length:Int))) then
  gd ((0≤n_∧n_ < (l.length:Int))∧(0≤k∧k < ((gt l (Int.toNat n_)).length:Int))) <|
  gd (((!((((gt (gt l (Int.toNat n_)) (Int.toNat k)).Data).length:Int) != 45))=true→12 < (((gt (gt l (Int.toNat n_)) (Int.toNat k)).Data).length:Int))) <|
  bif (if ((((gt (gt l (Int.toNat n_)) (Int.toNat k)).Data).length:Int) != 45)=true then true else (decide ((gt ((gt (gt l (Int.toNat n_)) (Int.toNat k)).Data) 12) > 8))) then
   some (.inr (.inl ((⟨[],0,0,0,[]⟩:aja),false)))
  else
   (bzz n ((gt (gt l (Int.toNat n_)) (Int.toNat k)).Key)).bind fun r5 =>
   (aqr n ((gt (gt l (Int.toNat n_)) (Int.toNat k)).Data) 10).bind fun r6 =>
   gd (0 < (((gt (gt l (Int.toNat n_)) (Int.toNat k)).Data).length:Int)∧1 < (((gt (gt l (Int.toNat n_)) (Int.toNat k)).Data).length:Int)∧2 < (((gt (gt l (Int.toNat n_)) (Int.toNat k)).Data).length:Int)∧2 < (((gt (gt l (Int.toNat n_)) (Int.toNat k)).Data).length:Int)∧3 < (((gt (gt l (Int.toNat n_)) (Int.toNat k)).Data).length:Int)) <|
   (aqr n ((gt (gt l (Int.toNat n_)) (Int.toNat k)).Data) 4).bind fun r7 =>
   (aqr n ((gt (gt l (Int.toNat n_)) (Int.toNat k)).Data) 6).bind fun r8 =>
   (aqr n ((gt (gt l (Int.toNat n_)) (Int.toNat k)).Data) 8).bind fun r9 =>
   (ajg (fun (x:(List aj0)×Int)=>ayq n l v_5 v_6 v_7 v_8 v_11 n_ k ((gt (gt l (Int.toNat n_)) (Int.toNat k)).R) ((gt (gt l (Int.toNat n_)) (Int.toNat k)).Key) ((gt (gt l (Int.toNat n_)) (Int.toNat k)).Data) ((gt (gt l (Int.toNat n_)) (Int.toNat k)).Bad) r5 (ja .i64 ((gt ((gt (gt l (Int.toNat n_)) (Int.toNat k)).Data) 0))) (ja .i64 ((gt ((gt (gt l (Int.toNat n_)) (Int.toNat k)).Data) 1))) (decide ((gt ((gt (gt l (Int.toNat n_)) (Int.toNat k)).Data) 2) ≥ 128)) ((Int.tmod (ja .u8 (Int.tdiv (gt ((gt (gt l (Int.toNat n_)) (Int.toNat k)).Data) 2) 64)) 2) == 1) r7 r8 (ja .i64 ((gt ((gt (gt l (Int.toNat n_)) (Int.toNat k)).Data) 3))) r9 r6 x.1 x.2) n ([],0)).bind fun y28 =>
   bwf n l v_5 v_6 v_7 v_8 v_11 n_ k r5 (ja .i64 ((gt ((gt (gt l (Int.toNat n_)) (Int.toNat k)).Data) 0))) (ja .i64 ((gt ((gt (gt l (Int.toNat n_)) (Int.toNat k)).Data) 1))) (decide ((gt ((gt (gt l (Int.toNat n_)) (Int.toNat k)).Data) 2) ≥ 128)) ((Int.tmod (ja .u8 (Int.tdiv (gt ((gt (gt l (Int.toNat n_)) (Int.toNat k)).Data) 2) 64)) 2) == 1) r7 r8 (ja .i64 ((gt ((gt (gt l (Int.toNat n_)) (Int.toNat k)).Data) 3))) r9 y28 r6
 else
  some (.inr (.inr v_11))
abbrev djd (l:List (List TRec)) (v_5:List UInt8) (v_6:Int) (v_7:Int) (v_8:Int) (v_9:List aj8) (n_:Int):S:=stB [(0,.c (.slice 84) (.slice (List.map ajh l))),(2,.box 9008 0),(5,.box 9009 0),(6,.c (.int .i64) (.int n_))] [(9008,.box [.c .str (.str []),.c (.int .i64) (.int 0),.c (.int .i64) (.int 0),.c (.int .i64) (.int 0),.nilsl]),(9009,.box [.c .str (.str v_5),.c (.int .i64) (.int v_6),.c (.int .i64) (.int v_7),.c (.int .i64) (.int v_8),.own 9010 kD 0 v_9.length]),(9010,.row 41 (List.map aj6 v_9))]
def awa (n:Nat) (l:List (List TRec)) (v_5:List UInt8) (v_6:Int) (v_7:Int) (v_8:Int) (v_9:List aj8) (n_:Int):Option (((List aj8)×Int) ⊕ (((aja×Bool) ⊕ ((List aj8))))) :=
 bif (decide (n_ < (l.length:Int))) then
  (ajg (fun (x:(List aj8)×Int)=>az9 n l v_5 v_6 v_7 v_8 n_ x.1 x.2) n (v_9,0)).bind fun y15 =>
  match y15 with
  | .inl vv =>
   some (.inr (.inl (vv.1,vv.2)))
  | .inr vv =>
   bwi n l v_5 v_6 v_7 v_8 vv n_
 else
  some (.inr (.inr v_9))
def bkb (n:Nat) (l:List (List TRec)):Option (aja×Bool) :=
 gd (((!((l.length:Int) == 0))=true→0 < (l.length:Int))∧((!(if ((l.length:Int) == 0)=true then true else (((gt l 0).length:Int) != 1)))=true→0 < (l.length:Int))∧((!(if ((l.length:Int) == 0)=true then true else (((gt l 0).length:Int) != 1)))=true→0 < ((gt l 0).length:Int))) <|
 bif (if (if ((l.length:Int) == 0)=true then true else (((gt l 0).length:Int) != 1))=true then true else ((((gt (gt l 0) 0).Data).length:Int) != 80)) then
  some ((⟨[],0,0,0,[]⟩:aja),false)
 else
  gd (0 < (l.length:Int)∧0 < ((gt l 0).length:Int)) <|
  gd ((0≤4∧4≤10∧10≤(((gt (gt l 0) 0).Data).length:Int))) <|
  (bzz n (List.drop 4 (List.take 10 ((gt (gt l 0) 0).Data)))).bind fun r1 =>
  (aqr n ((gt (gt l 0) 0).Data) 10).bind fun r2 =>
  (aqr n ((gt (gt l 0) 0).Data) 12).bind fun r3 =>
  (aqr n ((gt (gt l 0) 0).Data) 14).bind fun r4 =>
  (ajg (fun (x:(List aj8)×Int)=>awa n l r1 r2 r3 r4 x.1 x.2) n ([],1)).bind fun y10 =>
  match y10 with
  | .inl vv =>
   some (vv.1,vv.2)
  | .inr vv =>
   cj0 n r1 r2 r3 r4 vv
def dyb (n:Nat):Go.AE.Fn:=mkFn (A:=(List (List TRec))) (R:=aja×Bool) 105 [(false,[.slice 84])] true (fun xs=>((cg (xs.getD 0 []) 0).toSl.map bje)) (fun a=>[[.slice (List.map ajh a)]]) (fun a=>bkb n a) (fun r=>[.agg [.c .str (.str r.1.Serial),.c (.int .i64) (.int r.1.Cyls),.c (.int .i64) (.int r.1.Heads),.c (.int .i64) (.int r.1.Size),.own 0 kD 0 r.1.Sets.length],.c .bool (.bool r.2)]) (fun r=>[.row 41 (List.map aj6 r.1.Sets)])
theorem fwe (n:Nat):aj1 jd (dyb n):=by
 have hΓ:=g1 (fkt n) (g1 (fkp n) (@g0 (aj1 jd)));have qe:=aI @ewd.eq_1 @ewo.eq_1;refine aj5 (Tryz.f105.body.getD .skip) h00 Tryz.func105 rfl Tryz.call105 (by decide) (by intro h;cases h) ?_;rintro l r H
 try dsimp only at H
 unfold bkb at H;simp only [Tryz.f105,jr];refine rA ?_;refine jn fun K2 hK2=>?_;obtain ⟨⟨hg47,hg48,hg49⟩,H⟩:=aj3 H;refine rA ?_;refine cnd H (fun h4 H=>?_) (fun h4 H=>?_)
 ·refine rA ?_;refine jv (lf ?_);obtain rfl:=sI H;exact rto [none]
 refine jp (hK2 _ ?_);obtain ⟨⟨hg45,hg46⟩,H⟩:=aj3 H;refine rA ?_;obtain ⟨hg44,H⟩:=aj3 H;obtain ⟨r1,hr1,H⟩:=bind_some H;obtain ⟨r2,hr2,H⟩:=bind_some H;obtain ⟨r3,hr3,H⟩:=bind_some H;obtain ⟨r4,hr4,H⟩:=bind_some H;have q:=aI qe (aI hr1 (aI hr2 (aI hr3 hr4)));refine rAq ?_;refine jU (fun (x:(List UInt8)×Int×Int×Int×(List aj8))=>dj7 x.1 x.2.1 x.2.2.1 x.2.2.2.1 x.2.2.2.2) (fun x=>cj0 n x.1 x.2.1 x.2.2.1 x.2.2.2.1 x.2.2.2.2=some r) ?_ ?_
 ·refine rA ?_;refine js ?_;obtain ⟨y10,hy10,Ho10⟩:=bind_some H;refine jO _ (fun x=>djd l r1 r2 r3 r4 x.1 x.2) hy10 (wb [some 32,some 80,none]) ?_;rintro ⟨v_9,n_⟩ z10 H
  try dsimp only at H
  unfold awa at H;refine Sm.st (djd.eq_1 ..) ?_;refine jn fun K11 hK11=>?_;refine rA ?_;refine cnd H (fun h13 H=>?_) (fun h13 H=>?_)
  ·refine jp (hK11 _ ?_);refine jU (fun (x:(List aj8))=>cyf l r1 r2 r3 r4 x n_) (fun x=>bwi n l r1 r2 r3 r4 x n_=some z10) ?_ ?_
   ·refine js ?_;refine rA ?_;refine js ?_;obtain ⟨y15,hy15,Ho15⟩:=bind_some H;refine jO _ (fun x=>cy2 l r1 r2 r3 r4 n_ x.1 x.2) hy15 (wb [some 9008,some 9009,some 9010]) ?_;rintro ⟨v_11,k⟩ z15 H
    try dsimp only at H
    unfold az9 at H;refine Sm.st (cy2.eq_1 ..) ?_;refine jn fun K16 hK16=>?_;obtain ⟨hg43,H⟩:=aj3 H;refine rA ?_;refine cnd H (fun h18 H=>?_) (fun h18 H=>?_)
    ·refine jp (hK16 _ ?_);refine jU (fun (x:(List aj8))=>dje l r1 r2 r3 r4 x n_ k) (fun x=>bwo n l r1 r2 r3 r4 x n_ k=some z15) ?_ ?_
     ·refine js ?_;obtain ⟨⟨hg41,hg42⟩,H⟩:=aj3 H;refine rA ?_;refine jn fun K20 hK20=>?_;obtain ⟨hg40,H⟩:=aj3 H;refine rA ?_;refine cnd H (fun h22 H=>?_) (fun h22 H=>?_)
      ·refine rA ?_;refine jv (lf ?_);refine lx H fun hyy=>?_;subst hyy;have H:=Ho15
       try dsimp only at H
       refine lf ?_;refine lx H fun hyy=>?_;subst hyy;have H:=Ho10
       try dsimp only at H
       refine lf ?_;obtain rfl:=sI H;exact rto [none]
      refine jp (hK20 _ ?_);obtain ⟨r5,hr5,H⟩:=bind_some H;obtain ⟨r6,hr6,H⟩:=bind_some H;refine sQ [0,1,2,3,4,5,6,7,8] [(none,[128],[]),(none,[128],[]),(none,[],[1359,1358,1357,1356,1355,1354,1353,1352,1351,1350,1349,1348,1347,1346,1345,1344]),(none,[128],[]),(none,[128],[]),(none,[],[1407,1406,1405,1404,1403,1402,1401,1400,1399,1398,1397,1396,1395,1394,1393,1392]),(none,[],[]),(none,[],[144]),(none,[144],[144])] fun K24 hK24=>?_;have q:=aI qe (aI hr5 hr6)
      iterate 9 refine oQq ?_
      refine byo ?_;refine hK24 _ ?_;obtain ⟨⟨hg35,hg36,hg37,hg38,hg39⟩,H⟩:=aj3 H;obtain ⟨r7,hr7,H⟩:=bind_some H;obtain ⟨r8,hr8,H⟩:=bind_some H;obtain ⟨r9,hr9,H⟩:=bind_some H;have q:=aI qe (aI hr7 (aI hr8 hr9));refine rDq ?_;refine jU (fun (x:(List UInt8)×Int×Int×Bool×Bool×Int×Int×Int×Int×(List aj0)×Int)=>cyy l r1 r2 r3 r4 v_11 n_ k x.1 x.2.1 x.2.2.1 x.2.2.2.1 x.2.2.2.2.1 x.2.2.2.2.2.1 x.2.2.2.2.2.2.1 x.2.2.2.2.2.2.2.1 x.2.2.2.2.2.2.2.2.1 x.2.2.2.2.2.2.2.2.2.1 x.2.2.2.2.2.2.2.2.2.2) (fun x=>bwf n l r1 r2 r3 r4 v_11 n_ k x.1 x.2.1 x.2.2.1 x.2.2.2.1 x.2.2.2.2.1 x.2.2.2.2.2.1 x.2.2.2.2.2.2.1 x.2.2.2.2.2.2.2.1 x.2.2.2.2.2.2.2.2.1 x.2.2.2.2.2.2.2.2.2.1 x.2.2.2.2.2.2.2.2.2.2=some z15) ?_ ?_
      ·refine rA ?_;refine js ?_;obtain ⟨y28,hy28,Ho28⟩:=bind_some H;refine jO _ (fun x=>djf l r1 r2 r3 r4 v_11 n_ k ((gt (gt l (Int.toNat n_)) (Int.toNat k)).R) ((gt (gt l (Int.toNat n_)) (Int.toNat k)).Key) ((gt (gt l (Int.toNat n_)) (Int.toNat k)).Data) ((gt (gt l (Int.toNat n_)) (Int.toNat k)).Bad) r5 (ja .i64 ((gt ((gt (gt l (Int.toNat n_)) (Int.toNat k)).Data) 0))) (ja .i64 ((gt ((gt (gt l (Int.toNat n_)) (Int.toNat k)).Data) 1))) (decide ((gt ((gt (gt l (Int.toNat n_)) (Int.toNat k)).Data) 2) ≥ 128)) ((Int.tmod (ja .u8 (Int.tdiv (gt ((gt (gt l (Int.toNat n_)) (Int.toNat k)).Data) 2) 64)) 2) == 1) r7 r8 (ja .i64 ((gt ((gt (gt l (Int.toNat n_)) (Int.toNat k)).Data) 3))) r9 r6 x.1 x.2) hy28 (wb [some 9017,some 9018,some 9019,some 128,some 144,none]) ?_;rintro ⟨d_20,i⟩ z28 H
       try dsimp only at H
       unfold ayq at H;refine Sm.st (djf.eq_1 ..) ?_;refine jn fun K29 hK29=>?_;obtain ⟨hg34,H⟩:=aj3 H;refine rA ?_;refine cnd H (fun h31 H=>?_) (fun h31 H=>?_)
       ·refine jp (hK29 _ (jn fun K32 hK32=>js ?_));obtain ⟨r10,hr10,H⟩:=bind_some H;obtain ⟨r11,hr11,H⟩:=bind_some H;obtain ⟨hg33,H⟩:=aj3 H;have q:=aI qe (aI hr10 hr11);refine eDq ?_;refine hK32 _ ?_;refine eA ?_;refine lf ?_;exact nx H (wb [some 9039,some 9040,some 9041,some 9042,some 9043,some 2432])
       refine jT (lf ?_);refine lx H fun hyy=>?_;subst hyy;have H:=Ho28
       try dsimp only at H
       refine lf ?_;exact ⟨(r5,(ja .i64 ((gt ((gt (gt l (Int.toNat n_)) (Int.toNat k)).Data) 0))),(ja .i64 ((gt ((gt (gt l (Int.toNat n_)) (Int.toNat k)).Data) 1))),(decide ((gt ((gt (gt l (Int.toNat n_)) (Int.toNat k)).Data) 2) ≥ 128)),((Int.tmod (ja .u8 (Int.tdiv (gt ((gt (gt l (Int.toNat n_)) (Int.toNat k)).Data) 2) 64)) 2) == 1),r7,r8,(ja .i64 ((gt ((gt (gt l (Int.toNat n_)) (Int.toNat k)).Data) 3))),r9,d_20,r6),H,wb [some 9039,some 9040,some 9041,some 9043,some 9044]⟩
      rintro ⟨d,d_1,d_2,d_3,d_4,d_5,d_6,d_7,d_8,d_9,d_10⟩ H
      try dsimp only at H
      unfold bwf at H;refine Sm.st (cyy.eq_1 ..) ?_;obtain ⟨hg26,H⟩:=aj3 H;refine eA ?_;refine lf ?_;exact ⟨_,H,wb [some 9023,some 9024,some 2528]⟩
     rintro v_12 H
     try dsimp only at H
     unfold bwo at H;refine Sm.st (dje.eq_1 ..) ?_;refine eA ?_;refine lf ?_;exact nx H (wb [some 9020,some 9021,some 9022])
    refine jT (lf ?_);refine lx H fun hyy=>?_;subst hyy;have H:=Ho15
    try dsimp only at H
    refine lf ?_;exact ⟨_,H,wb [some 9017,some 9018,some 9019]⟩
   rintro v_10 H
   try dsimp only at H
   unfold bwi at H;refine Sm.st (cyf.eq_1 ..) ?_;refine eA ?_;refine lf ?_;exact nx H (wb [some 9011,some 9012,some 9013])
  refine jT (lf ?_);refine lx H fun hyy=>?_;subst hyy;have H:=Ho10
  try dsimp only at H
  refine lf ?_;exact ⟨(r1,r2,r3,r4,v_9),H,wb [some 9008,some 9009,some 9010]⟩
 rintro ⟨v,v_1,v_2,v_3,v_4⟩ H
 try dsimp only at H
 unfold cj0 at H;refine Sm.st (dj7.eq_1 ..) ?_;refine rA ?_;refine jv (lf ?_);obtain rfl:=sI H;exact rto [some 9002]
def bwx (n:Nat) (l:List (List TRec)):Option (aja×Int) :=
 (bkb n l).bind fun r1 =>
 bif (!r1.2) then
  some ((⟨[],0,0,0,[]⟩:aja),5)
 else
  (bjj n r1.1).bind fun r2 =>
  bif (r2.2 != 0) then
   some ((⟨[],0,0,0,[]⟩:aja),5)
  else
   gd ((!(r2.2 != 0))=true) <|
   (awv n l r2.1).bind fun r3 =>
   bif (!r3) then
    some ((⟨[],0,0,0,[]⟩:aja),5)
   else
    some (r1.1,0)
def dz6 (n:Nat):Go.AE.Fn:=mkFn (A:=(List (List TRec))) (R:=aja×Int) 52 [(false,[.slice 84])] true (fun xs=>((cg (xs.getD 0 []) 0).toSl.map bje)) (fun a=>[[.slice (List.map ajh a)]]) (fun a=>bwx n a) (fun r=>[.agg (cV r.1),.c (.int .i64) (.int r.2)]) (fun r=>[])
theorem fj7 (n:Nat):aj1 jd (dz6 n):=by
 have hΓ:=g1 (fwe n) (g1 (dzm n) (g1 (cja n) (@g0 (aj1 jd))));have qe:=aI @dyb.eq_1 (aI @cqg.eq_1 @bw6.eq_1);refine aj5 (Tryz.f52.body.getD .skip) h00 Tryz.func52 rfl Tryz.call52 (by decide) (by intro h;cases h) ?_;rintro l r H
 try dsimp only at H
 unfold bwx at H;simp only [Tryz.f52,jr];refine rA ?_;obtain ⟨r1,hr1,H⟩:=bind_some H;have q:=aI qe hr1;refine rAq ?_;refine jn fun K3 hK3=>?_;refine rA ?_;refine cnd H (fun h5 H=>?_) (fun h5 H=>?_)
 ·refine rA ?_;refine jv (lf ?_);obtain rfl:=sI H;exact rt []
 refine jp (hK3 _ ?_);obtain ⟨r2,hr2,H⟩:=bind_some H;have q:=aI qe hr2;refine rAq ?_;refine jn fun K8 hK8=>?_;refine sX fun K9 hK9=>?_;have q:=qe
 iterate 5 refine oXq ?_
 refine ak7 H (fun hs10 H=>?_) (fun hs10 H=>?_)
 ·have q:=aI qe hs10;refine oFq ?_;refine oFq ?_;refine oPl ?_;refine hK9 _ ?_;refine cndT ?_;refine rA ?_;refine jv (lf ?_);obtain rfl:=sI H;exact rt []
 obtain ⟨hg13,H⟩:=aj3 H;obtain ⟨r3,hr3,H⟩:=bind_some H;have q:=aI qe (aI hs10 hr3);refine oTG ?_;refine oTG ?_;refine oPr ?_;refine hK9 _ ?_;refine cnd H (fun h14 H=>?_) (fun h14 H=>?_)
 ·refine rA ?_;refine jv (lf ?_);obtain rfl:=sI H;exact rt []
 refine jp (hK8 _ ?_);refine rA ?_;refine jv (lf ?_);obtain rfl:=sI H;exact rt []
def bw2 (n:Nat) (c:Int):Option (Int×Bool) :=
 bif (if (decide (c < 32))=true then true else (decide (c > 126))) then
  some (0,false)
 else
  gd ((0≤(ja .u8 (c - 32))∧(ja .u8 (c - 32)) < ([64,90,127,123,91,108,80,125,77,93,92,78,107,96,75,97,240,241,242,243,244,245,246,247,248,249,122,94,76,126,110,111,124,193,194,195,196,197,198,199,200,201,209,210,211,212,213,214,215,216,217,226,227,228,229,230,231,232,233,186,224,187,176,109,121,129,130,131,132,133,134,135,136,137,145,146,147,148,149,150,151,152,153,162,163,164,165,166,167,168,169,192,79,208,161].length:Int))) <|
  some ((((([64,90,127,123,91,108,80,125,77,93,92,78,107,96,75,97,240,241,242,243,244,245,246,247,248,249,122,94,76,126,110,111,124,193,194,195,196,197,198,199,200,201,209,210,211,212,213,214,215,216,217,226,227,228,229,230,231,232,233,186,224,187,176,109,121,129,130,131,132,133,134,135,136,137,145,146,147,148,149,150,151,152,153,162,163,164,165,166,167,168,169,192,79,208,161]:List UInt8).getD (Int.toNat (ja .u8 (c - 32))) 0).toNat:Nat):Int),true)
def dkq (n:Nat):Go.AE.Fn:=mkFn (A:=Int) (R:=Int×Bool) 194 [(false,[.int .u8])] false (fun xs=>(cg (xs.getD 0 []) 0).toInt) (fun a=>[[.int a]]) (fun a=>bw2 n a) (fun r=>[.c (.int .u8) (.int r.1),.c .bool (.bool r.2)]) (fun r=>[])
theorem fwc (n:Nat):aj1 jd (dkq n):=by
 have hΓ:=@g0 (aj1 jd);refine cF (Tryz.f194.body.getD .skip) Tryz.func194 rfl Tryz.call194 ?_;rintro c r H
 try dsimp only at H
 unfold bw2 at H;simp only [Tryz.f194,jr];refine rA ?_;refine jn fun K2 hK2=>?_;refine rA ?_;refine cnd H (fun h4 H=>?_) (fun h4 H=>?_)
 ·refine rA ?_;refine jv (lf ?_);obtain rfl:=sI H;exact rt []
 refine jp (hK2 _ ?_);obtain ⟨hg7,H⟩:=aj3 H;refine rA ?_;refine jv (lf ?_);obtain rfl:=sI H;exact rt []
abbrev cqp (out:List Int):S:=stB [(6,.own 9000 [.int .u8] 0 out.length)] [(9000,.row 5 (List.map ajj out))]
def bz9 (n:Nat) (out:List Int):Option ((List Int)×Int) :=
 some (out,0)
abbrev cw5 (s:List UInt8) (out_2:List Int) (v13:Int) (v14:Int):S:=stB [(0,.c .str (.str s)),(6,.own 9003 [.int .u8] 0 out_2.length),(13,.c (.int .i64) (.int v13)),(14,.c (.int .i64) (.int v14))] [(9003,.row 5 (List.map ajj out_2))]
def awt (n:Nat) (s:List UInt8) (out_2:List Int) (v13:Int) (v14:Int):Option (((List Int)×Int) ⊕ ((((List Int)×Int) ⊕ ((List Int))))) :=
 some (.inl (out_2,(ja .i64 (v14+1))))
abbrev cw3 (s:List UInt8) (v13:Int) (out_1:List Int) (v14:Int):S:=stB [(0,.c .str (.str s)),(6,.own 9002 [.int .u8] 0 out_1.length),(13,.c (.int .i64) (.int v13)),(14,.c (.int .i64) (.int v14))] [(9002,.row 5 (List.map ajj out_1))]
def awr (n:Nat) (s:List UInt8) (v13:Int) (out_1:List Int) (v14:Int):Option (((List Int)×Int) ⊕ ((((List Int)×Int) ⊕ ((List Int))))) :=
 bif (decide (v14 < v13)) then
  gd ((0≤v14∧v14 < (out_1.length:Int))∧(Int.toNat v14) < out_1.length) <|
  bif (decide (v14 ≥ (s.length:Int))) then
   awt n s (List.set out_1 (Int.toNat v14) 64) v13 v14
  else
   gd ((0≤v14∧v14 < (s.length:Int))) <|
   (bw2 n (((s.getD (Int.toNat v14) 0).toNat:Nat):Int)).bind fun r1 =>
   bif (!r1.2) then
    some (.inr (.inl ([],20)))
   else
    gd ((0≤v14∧v14 < (out_1.length:Int))∧(Int.toNat v14) < out_1.length) <|
    awt n s (List.set (List.set out_1 (Int.toNat v14) 64) (Int.toNat v14) r1.1) v13 v14
 else
  some (.inr (.inr out_1))
def bzt (n:Nat) (s:List UInt8) (n_:Int):Option ((List Int)×Int) :=
 gd ((0≤n_∧n_≤n_∧n_≤2147483648)) <|
 (ajg (fun (x:(List Int)×Int)=>awr n s (((Int.toNat n_):Nat):Int) x.1 x.2) n ((aw0 (Int.toNat n_) 0),0)).bind fun y6 =>
 match y6 with
 | .inl vv =>
  some (vv.1,vv.2)
 | .inr vv =>
  bz9 n vv
def dj1 (n:Nat):Go.AE.Fn:=mkFn (A:=(List UInt8)×Int) (R:=(List Int)×Int) 162 [(false,[.str]),(false,[.int .i64])] false (fun xs=>((cg (xs.getD 0 []) 0).toStr,(cg (xs.getD 1 []) 0).toInt)) (fun a=>[[.str a.1],[.int a.2]]) (fun a=>bzt n a.1 a.2) (fun r=>[.own 0 [.int .u8] 0 r.1.length,.c (.int .i64) (.int r.2)]) (fun r=>[.row 5 (List.map ajj r.1)])
theorem ez2 (n:Nat):aj1 jd (dj1 n):=by
 have hΓ:=g1 (fwc n) (@g0 (aj1 jd));refine aj5 (Tryz.f162.body.getD .skip) h00 Tryz.func162 rfl Tryz.call162 (by decide) (fun _ r=>⟨rfl,m1 ⟨5,_,_,rfl,ty5,rfl⟩ m0⟩) ?_;rintro ⟨s,n_⟩ r H
 try dsimp only at H
 unfold bzt at H;simp only [Tryz.f162,jr];refine rA ?_;refine sX fun K2 hK2=>?_;obtain ⟨hg3,H⟩:=aj3 H;refine oX ?_;refine oY ?_;refine oX ?_;refine hK2 _ ?_;refine jU (fun (x:(List Int))=>cqp x) (fun x=>bz9 n x=some r) ?_ ?_
 ·refine rA ?_;refine js ?_;obtain ⟨y6,hy6,Ho6⟩:=bind_some H;refine jO _ (fun x=>cw3 s (((Int.toNat n_):Nat):Int) x.1 x.2) hy6 (wb [some 176]) ?_;rintro ⟨out_1,v14⟩ z6 H
  try dsimp only at H
  unfold awr at H;refine Sm.st (cw3.eq_1 ..) ?_;refine rA ?_;refine jn fun K8 hK8=>?_;refine cnd H (fun h9 H=>?_) (fun h9 H=>?_)
  ·refine jp (hK8 _ ?_);refine jU (fun (x:(List Int))=>cw5 s x (((Int.toNat n_):Nat):Int) v14) (fun x=>awt n s x (((Int.toNat n_):Nat):Int) v14=some z6) ?_ ?_
   ·refine js ?_;refine rA ?_;obtain ⟨⟨hg23,hg24⟩,H⟩:=aj3 H;refine rA ?_;refine jn fun K12 hK12=>?_;refine rA ?_;refine cnd H (fun h14 H=>?_) (fun h14 H=>?_)
    ·refine jT (lf ?_);exact ⟨_,H,wb [some 9002]⟩
    refine jp (hK12 _ ?_);obtain ⟨hg22,H⟩:=aj3 H;obtain ⟨r1,hr1,H⟩:=bind_some H;have q:=aI @dkq.eq_1 hr1;refine rAq ?_;refine jn fun K16 hK16=>?_;refine rA ?_;refine cnd H (fun h18 H=>?_) (fun h18 H=>?_)
    ·refine rA ?_;refine jv (lf ?_);refine lx H fun hyy=>?_;subst hyy;have H:=Ho6
     try dsimp only at H
     refine lf ?_;obtain rfl:=sI H;exact rto [none]
    refine jp (hK16 _ ?_);obtain ⟨⟨hg20,hg21⟩,H⟩:=aj3 H;refine eA ?_;refine lf ?_;exact ⟨_,H,wb [some 9002]⟩
   rintro out_2 H
   try dsimp only at H
   unfold awt at H;refine Sm.st (cw5.eq_1 ..) ?_;refine eA ?_;refine lf ?_;exact nx H (wb [some 9003])
  refine jT (lf ?_);refine lx H fun hyy=>?_;subst hyy;have H:=Ho6
  try dsimp only at H
  refine lf ?_;exact ⟨_,H,wb [some 9002]⟩
 rintro out H
 try dsimp only at H
 unfold bz9 at H;refine Sm.st (cqp.eq_1 ..) ?_;refine rA ?_;refine jv (lf ?_);obtain rfl:=sI H;exact rto [some 9000]
def ckp (n:Nat) (s:List UInt8) (n_:Int):Option ((List Int)×Int) :=
 bif (if (decide (n_ < 0))=true then true else (decide (n_ > 65536))) then
  some ([],1)
 else
  bif (decide ((s.length:Int) > n_)) then
   some ([],2)
  else
   (bzt n s n_).bind fun r1 =>
   some (r1.1,r1.2)
def ejp (n:Nat):Go.AE.Fn:=mkFn (A:=(List UInt8)×Int) (R:=(List Int)×Int) 121 [(false,[.str]),(false,[.int .i64])] false (fun xs=>((cg (xs.getD 0 []) 0).toStr,(cg (xs.getD 1 []) 0).toInt)) (fun a=>[[.str a.1],[.int a.2]]) (fun a=>ckp n a.1 a.2) (fun r=>[.own 0 [.int .u8] 0 r.1.length,.c (.int .i64) (.int r.2)]) (fun r=>[.row 5 (List.map ajj r.1)])
theorem fkq (n:Nat):aj1 jd (ejp n):=by
 have hΓ:=g1 (ez2 n) (@g0 (aj1 jd));refine aj5 (Tryz.f121.body.getD .skip) h00 Tryz.func121 rfl Tryz.call121 (by decide) (fun _ r=>⟨rfl,m1 ⟨5,_,_,rfl,ty5,rfl⟩ m0⟩) ?_;rintro ⟨s,n_⟩ r H
 try dsimp only at H
 unfold ckp at H;simp only [Tryz.f121,jr];refine rA ?_;refine jn fun K2 hK2=>js ?_;refine rA ?_;refine cnd H (fun h4 H=>?_) (fun h4 H=>?_)
 ·refine rA ?_;refine jv (lf ?_);obtain rfl:=sI H;exact rto [none]
 refine rA ?_;refine cnd H (fun h7 H=>?_) (fun h7 H=>?_)
 ·refine rA ?_;refine jv (lf ?_);obtain rfl:=sI H;exact rto [none]
 refine jp (hK2 _ ?_);obtain ⟨r1,hr1,H⟩:=bind_some H;have q:=aI @dj1.eq_1 hr1;refine rAq ?_;refine jv (lf ?_);obtain rfl:=sI H;exact rto [some 320]
def bqd (n:Nat) (s:List UInt8) (n_:Int):Option (List Int) :=
 (ckp n s n_).bind fun r1 =>
 some r1.1
def cjj (n:Nat):Go.AE.Fn:=mkFn (A:=(List UInt8)×Int) (R:=(List Int)) 61 [(false,[.str]),(false,[.int .i64])] false (fun xs=>((cg (xs.getD 0 []) 0).toStr,(cg (xs.getD 1 []) 0).toInt)) (fun a=>[[.str a.1],[.int a.2]]) (fun a=>bqd n a.1 a.2) (fun r=>[.own 0 [.int .u8] 0 r.length]) (fun r=>[.row 5 (List.map ajj r)])
theorem ezg (n:Nat):aj1 jd (cjj n):=by
 have hΓ:=g1 (fkq n) (@g0 (aj1 jd));refine aj5 (Tryz.f61.body.getD .skip) h00 Tryz.func61 rfl Tryz.call61 (by decide) (fun _ r=>⟨rfl,m1 ⟨5,_,_,rfl,ty5,rfl⟩ m0⟩) ?_;rintro ⟨s,n_⟩ r H
 try dsimp only at H
 unfold bqd at H;simp only [Tryz.f61,jr];refine rA ?_;obtain ⟨r1,hr1,H⟩:=bind_some H;have q:=aI @ejp.eq_1 hr1;refine rAq ?_;refine rA ?_;refine jv (lf ?_);obtain rfl:=sI H;exact rto [some 160]
def ayw (n:Nat) (n_:Int):Option (List Int) :=
 some [(ja .u8 ((Int.fdiv n_ (2 ^ min 8 (jj .i64))))),(ja .u8 (n_))]
def cj3 (n:Nat):Go.AE.Fn:=mkFn (A:=Int) (R:=(List Int)) 62 [(false,[.int .i64])] false (fun xs=>(cg (xs.getD 0 []) 0).toInt) (fun a=>[[.int a]]) (fun a=>ayw n a) (fun r=>[.own 0 [.int .u8] 0 r.length]) (fun r=>[.row 5 (List.map ajj r)])
theorem ezx (n:Nat):aj1 jd (cj3 n):=by
 have hΓ:=@g0 (aj1 jd);refine aj5 (Tryz.f62.body.getD .skip) h00 Tryz.func62 rfl Tryz.call62 (by decide) (fun _ r=>⟨rfl,m1 ⟨5,_,_,rfl,ty5,rfl⟩ m0⟩) ?_;rintro n_ r H
 try dsimp only at H
 unfold ayw at H;simp only [Tryz.f62,jr];refine rA ?_;refine sX fun K2 hK2=>?_;refine oX ?_;refine oE awz ?_
 iterate 5 refine oX ?_
 refine hK2 _ (jv (lf ?_));obtain rfl:=sI H;exact rto [some 128]
end Go.Proofs.YtijnkhcfondehaaGreatDoor
