/- Text. -/
import Derived.Test.YtijnkhcfondehaaGreatDoorF1
set_option maxHeartbeats 8000000
set_option linter.unusedVariables false
set_option linter.unusedSimpArgs false
set_option maxRecDepth 100000
open Go.IntKind renaming wrap→jc
open _root_.Option renaming getD→jt
open Go.AE.Sm renaming seqK→jp,ret→jx,skip→js,cut→j1,block→jw,loopB→jW,exit→jZ
open Go.Proofs.Tryz renaming prog→jd
namespace Go.Proofs.YtijnkhcfondehaaGreatDoor
open Go.AE
def byz (n:Nat) (d:List ajc) (d_i:Nat) (p1:Int) (p1_:Int) (p1__:Bool) (p1___:Bool) (p1____:Int) (p1_____:Int) (p1______:Int) (p1_______:Int) (p2:Int):Option (Int×(List ajc)) :=
 (aq5 n (⟨p1,p1_,p1__,p1___,p1____,p1_____,p1______,p1_______⟩:TDcb)).bind fun r1 =>
 bif (!r1) then
  some (1,d)
 else
  gd (d_i < d.length) <|
  (ayt n ((gt d d_i).Extents)).bind fun r2 =>
  (ajx n p2 0 r2).bind fun r3 =>
  bif (!r3) then
   some (6,d)
  else
   gd (d_i < d.length∧d_i < d.length) <|
   some (0,(List.set (List.set d d_i (⟨(gt d d_i).Name,(⟨p1,p1_,p1__,p1___,p1____,p1_____,p1______,p1_______⟩:TDcb),(gt d d_i).Extents,(gt d d_i).Used⟩:ajc)) d_i (⟨(gt (List.set d d_i (⟨(gt d d_i).Name,(⟨p1,p1_,p1__,p1___,p1____,p1_____,p1______,p1_______⟩:TDcb),(gt d d_i).Extents,(gt d d_i).Used⟩:ajc)) d_i).Name,((gt (List.set d d_i (⟨(gt d d_i).Name,(⟨p1,p1_,p1__,p1___,p1____,p1_____,p1______,p1_______⟩:TDcb),(gt d d_i).Extents,(gt d d_i).Used⟩:ajc)) d_i).Dcb),(gt (List.set d d_i (⟨(gt d d_i).Name,(⟨p1,p1_,p1__,p1___,p1____,p1_____,p1______,p1_______⟩:TDcb),(gt d d_i).Extents,(gt d d_i).Used⟩:ajc)) d_i).Extents,p2⟩:ajc)))
theorem fwb (n:Nat) (d:List ajc) (d_i:Nat) (p1:Int) (p1_:Int) (p1__:Bool) (p1___:Bool) (p1____:Int) (p1_____:Int) (p1______:Int) (p1_______:Int) (p2:Int) (r:Int×(List ajc)) (H:byz n d d_i p1 p1_ p1__ p1___ p1____ p1_____ p1______ p1_______ p2=some r):bjz jd 98 [.ref (.elt 0 11 [.str,.int .i64,.int .i64,.bool,.bool,.int .i64,.int .i64,.int .i64,.int .i64,.slice 80,.int .i64] d_i 0),.ref (.box 1 0),.ref (.box 2 0)] [.row 41 (List.map aj5 d),.box [.c (.int .i64) (.int p1),.c (.int .i64) (.int p1_),.c .bool (.bool p1__),.c .bool (.bool p1___),.c (.int .i64) (.int p1____),.c (.int .i64) (.int p1_____),.c (.int .i64) (.int p1______),.c (.int .i64) (.int p1_______)],.box [.c (.int .i64) (.int p2)]] [.c (.int .i64) (.int r.1)] [.row 41 (List.map aj5 r.2),.box [.c (.int .i64) (.int p1),.c (.int .i64) (.int p1_),.c .bool (.bool p1__),.c .bool (.bool p1___),.c (.int .i64) (.int p1____),.c (.int .i64) (.int p1_____),.c (.int .i64) (.int p1______),.c (.int .i64) (.int p1_______)],.box [.c (.int .i64) (.int p2)]]:=by
 have hΓ:=g1 (bz7 n) (g1 (cyn n) (g1 (dz0 n) (@g0 (aj1 jd))))
 have qe:=aI @bjj.eq_1 (aI @byh.eq_1 @ckr.eq_1)
 refine dj6 (Tryz.f98.body.getD .skip) h00 Tryz.func98 rfl Tryz.call98 (Nat.le_of_ble_eq_true rfl) (Nat.le_of_ble_eq_true rfl) ?_
 unfold byz at H
 simp only [Tryz.f98,jt]
 refine rA ?_
 refine jp fun K2 hK2=>?_
 obtain ⟨r1,hr1,H⟩:=bind_some H
 have q:=aI qe hr1
 refine rAq ?_
 refine cnd H (fun h4 H=>?_) (fun h4 H=>?_)
 ·refine rA ?_
  refine jx ?_
  refine lf ?_
  obtain rfl:=Option.some.inj H
  exact rtM [some 0,some 1,some 2]
 refine js ?_
 refine hK2 _ ?_
 refine jp fun K6 hK6=>?_
 obtain ⟨hg8,H⟩:=aj4 H
 obtain ⟨r2,hr2,H⟩:=bind_some H
 obtain ⟨r3,hr3,H⟩:=bind_some H
 refine sQ [0,1,2,3,4,5,6,7] [(none,[2],[]),(none,[],[]),(none,[1000001,0],[]),(none,[0],[]),(none,[0],[]),(none,[],[223,222,221,220,219,218,217,216,215,214,213,212,211,210,209,208]),(none,[],[239,238,237,236,235,234,233,232,231,230,229,228,227,226,225,224]),(none,[],[])] fun K7 hK7=>?_
 have q:=aI qe (aI hr2 hr3)
 iterate 2 refine oQq ?_
 refine oQVq ?_
 iterate 5 refine oQq ?_
 refine ck2 ?_
 refine hK7 _ ?_
 refine cnd H (fun h9 H=>?_) (fun h9 H=>?_)
 ·refine rA ?_
  refine jx ?_
  refine lf ?_
  obtain rfl:=Option.some.inj H
  exact rtM [some 0,some 1,some 2]
 refine js ?_
 refine hK6 _ ?_
 obtain ⟨⟨hg12,hg13⟩,H⟩:=aj4 H
 refine sQ [0,1,2,3,4,5,6,7,8,9] [(none,[],[]),(none,[],[]),(none,[1],[]),(none,[2],[]),(none,[1000001,0],[]),(none,[0],[]),(none,[0],[0]),(none,[1000001,0],[]),(none,[0],[]),(none,[0],[0])] fun K11 hK11=>?_
 iterate 4 refine oQ ?_
 refine oQV ?_
 iterate 2 refine oQ ?_
 refine oQV ?_
 iterate 2 refine oQ ?_
 refine ck2 ?_
 refine hK11 _ ?_
 refine rA ?_
 refine jx ?_
 refine lf ?_
 obtain rfl:=Option.some.inj H
 exact rtM [some 0,some 1,some 2]
abbrev cwi (kept:List aj0) (rest:List aj0):S:=stB [(4,.own 9000 [.int .i64,.int .i64] 0 kept.length),(5,.own 9001 [.int .i64,.int .i64] 0 rest.length)] [(9000,.row 80 (List.map aj2 kept)),(9001,.row 80 (List.map aj2 rest))]
def bk8 (n:Nat) (kept:List aj0) (rest:List aj0):Option ((List aj0)×(List aj0)) :=
 some (kept,rest)
abbrev cws (n__2:Int) (kept_2:List aj0) (rest_2:List aj0) (l:List aj0) (v15:Int) (v16:Int):S:=stB [(1,.c (.int .i64) (.int n__2)),(4,.own 9006 [.int .i64,.int .i64] 0 kept_2.length),(5,.own 9007 [.int .i64,.int .i64] 0 rest_2.length),(14,.c (.slice 80) (.slice (List.map aj2 l))),(15,.c (.int .i64) (.int v15)),(16,.c (.int .i64) (.int v16))] [(9006,.row 80 (List.map aj2 kept_2)),(9007,.row 80 (List.map aj2 rest_2))]
def bzu (n:Nat) (n__2:Int) (kept_2:List aj0) (rest_2:List aj0) (l:List aj0) (v15:Int) (v16:Int):Option ((Int×(List aj0)×(List aj0)×Int) ⊕ (((List aj0)×(List aj0)))) :=
 some (.inl (n__2,kept_2,rest_2,(jc .i64 (v16+1))))
abbrev czd (n__1:Int) (kept_3:List aj0) (rest_3:List aj0) (k:Int) (l:List aj0) (v15:Int) (v16:Int):S:=stB [(1,.c (.int .i64) (.int n__1)),(4,.own 9011 [.int .i64,.int .i64] 0 kept_3.length),(5,.own 9012 [.int .i64,.int .i64] 0 rest_3.length),(8,.c (.int .i64) (.int k)),(14,.c (.slice 80) (.slice (List.map aj2 l))),(15,.c (.int .i64) (.int v15)),(16,.c (.int .i64) (.int v16))] [(9011,.row 80 (List.map aj2 kept_3)),(9012,.row 80 (List.map aj2 rest_3))]
def bql (n:Nat) (n__1:Int) (kept_3:List aj0) (rest_3:List aj0) (k:Int) (l:List aj0) (v15:Int) (v16:Int):Option ((Int×(List aj0)×(List aj0)×Int) ⊕ (((List aj0)×(List aj0)))) :=
 bzu n (jc .i64 (n__1 - k)) kept_3 rest_3 l v15 v16
abbrev cwq (n__1:Int) (kept_3:List aj0) (rest_1:List aj0) (x_:Int) (x__1:Int) (k:Int) (l:List aj0) (v15:Int) (v16:Int):S:=stB [(1,.c (.int .i64) (.int n__1)),(4,.own 9008 [.int .i64,.int .i64] 0 kept_3.length),(5,.own 9009 [.int .i64,.int .i64] 0 rest_1.length),(7,.box 9010 0),(8,.c (.int .i64) (.int k)),(14,.c (.slice 80) (.slice (List.map aj2 l))),(15,.c (.int .i64) (.int v15)),(16,.c (.int .i64) (.int v16))] [(9008,.row 80 (List.map aj2 kept_3)),(9009,.row 80 (List.map aj2 rest_1)),(9010,.box [.c (.int .i64) (.int x_),.c (.int .i64) (.int x__1)])]
def bqi (n:Nat) (n__1:Int) (kept_3:List aj0) (rest_1:List aj0) (x_:Int) (x__1:Int) (k:Int) (l:List aj0) (v15:Int) (v16:Int):Option ((Int×(List aj0)×(List aj0)×Int) ⊕ (((List aj0)×(List aj0)))) :=
 bif (decide (k < x__1)) then
  gd ((rest_1.length+1)≤2147483648) <|
  bql n n__1 kept_3 (rest_1 ++ [(⟨(jc .i64 (x_+k)),(jc .i64 (x__1 - k))⟩:aj0)]) k l v15 v16
 else
  bql n n__1 kept_3 rest_1 k l v15 v16
abbrev cz4 (l:List aj0) (v15:Int) (n__1:Int) (kept_1:List aj0) (rest_1:List aj0) (v16:Int):S:=stB [(1,.c (.int .i64) (.int n__1)),(4,.own 9004 [.int .i64,.int .i64] 0 kept_1.length),(5,.own 9005 [.int .i64,.int .i64] 0 rest_1.length),(14,.c (.slice 80) (.slice (List.map aj2 l))),(15,.c (.int .i64) (.int v15)),(16,.c (.int .i64) (.int v16))] [(9004,.row 80 (List.map aj2 kept_1)),(9005,.row 80 (List.map aj2 rest_1))]
def czj (n:Nat) (l:List aj0) (v15:Int) (n__1:Int) (kept_1:List aj0) (rest_1:List aj0) (v16:Int):Option ((Int×(List aj0)×(List aj0)×Int) ⊕ (((List aj0)×(List aj0)))) :=
 bif (decide (v16 < v15)) then
  gd ((0≤v16∧v16 < (l.length:Int))) <|
  bif (decide ((if ((gt l (Int.toNat v16)).Len) < n__1 then ((gt l (Int.toNat v16)).Len) else n__1) > 0)) then
   gd ((kept_1.length+1)≤2147483648) <|
   bqi n n__1 (kept_1 ++ [(⟨(gt l (Int.toNat v16)).At,(if ((gt l (Int.toNat v16)).Len) < n__1 then ((gt l (Int.toNat v16)).Len) else n__1)⟩:aj0)]) rest_1 ((gt l (Int.toNat v16)).At) ((gt l (Int.toNat v16)).Len) (if ((gt l (Int.toNat v16)).Len) < n__1 then ((gt l (Int.toNat v16)).Len) else n__1) l v15 v16
  else
   bqi n n__1 kept_1 rest_1 ((gt l (Int.toNat v16)).At) ((gt l (Int.toNat v16)).Len) (if ((gt l (Int.toNat v16)).Len) < n__1 then ((gt l (Int.toNat v16)).Len) else n__1) l v15 v16
 else
  some (.inr (kept_1,rest_1))
def dze (n:Nat) (l:List aj0) (n_:Int):Option ((List aj0)×(List aj0)) :=
 (aqk n l).bind fun r1 =>
 bif (!r1) then
  some ([],[])
 else
  (aji (fun (x:Int×(List aj0)×(List aj0)×Int)=>czj n l (l.length:Int) x.1 x.2.1 x.2.2.1 x.2.2.2) n ((if 0 > n_ then 0 else n_),[],[],0)).bind fun y9 =>
  bk8 n y9.1 y9.2
def ekj (n:Nat):Go.AE.Fn:=mkFn (A:=(List aj0)×Int) (R:=(List aj0)×(List aj0)) 97 [(false,[.slice 80]),(false,[.int .i64])] false (fun xs=>(((cg (xs.getD 0 []) 0).toSl.map ajl),(cg (xs.getD 1 []) 0).toInt)) (fun a=>[[.slice (List.map aj2 a.1)],[.int a.2]]) (fun a=>dze n a.1 a.2) (fun r=>[.own 0 [.int .i64,.int .i64] 0 r.1.length,.own 1 [.int .i64,.int .i64] 0 r.2.length]) (fun r=>[.row 80 (List.map aj2 r.1),.row 80 (List.map aj2 r.2)])
theorem gkm (n:Nat):aj1 jd (ekj n):=by
 have hΓ:=g1 (bji n) (@g0 (aj1 jd))
 refine aj7 (Tryz.f97.body.getD .skip) h00 Tryz.func97 rfl Tryz.call97 (by decide) (fun _ r=>⟨rfl,m1 ⟨80,_,_,rfl,ty80,rfl⟩ (m1 ⟨80,_,_,rfl,ty80,rfl⟩ m0)⟩) ?_
 rintro ⟨l,n_⟩ r H
 try dsimp only at H
 unfold dze at H
 simp only [Tryz.f97,jt]
 refine rA ?_
 refine jp fun K2 hK2=>?_
 obtain ⟨r1,hr1,H⟩:=bind_some H
 have q:=aI @akh.eq_1 hr1
 refine rAq ?_
 refine cnd H (fun h4 H=>?_) (fun h4 H=>?_)
 ·refine rA ?_
  refine jx ?_
  refine lf ?_
  obtain rfl:=Option.some.inj H
  exact rto [none,none]
 refine js ?_
 refine hK2 _ ?_
 refine rA ?_
 refine j1 (fun (x:(List aj0)×(List aj0))=>cwi x.1 x.2) (fun x=>bk8 n x.1 x.2=some r) ?_ ?_
 ·refine rA ?_
  refine jw ?_
  obtain ⟨y9,hy9,Ho9⟩:=bind_some H
  refine jW _ (fun x=>cz4 l (l.length:Int) x.1 x.2.1 x.2.2.1 x.2.2.2) hy9 (wb [none,none]) ?_
  rintro ⟨n__1,kept_1,rest_1,v16⟩ z9 H
  try dsimp only at H
  unfold czj at H
  refine Sm.st (cz4.eq_1 ..) ?_
  refine rA ?_
  refine jp fun K11 hK11=>?_
  refine cnd H (fun h12 H=>?_) (fun h12 H=>?_)
  ·refine js ?_
   refine hK11 _ ?_
   refine j1 (fun (x:Int×(List aj0)×(List aj0))=>cws x.1 x.2.1 x.2.2 l (l.length:Int) v16) (fun x=>bzu n x.1 x.2.1 x.2.2 l (l.length:Int) v16=some z9) ?_ ?_
   ·refine jw ?_
    obtain ⟨hg21,H⟩:=aj4 H
    refine rA ?_
    refine rA ?_
    refine j1 (fun (x:(List aj0))=>cwq n__1 x rest_1 ((gt l (Int.toNat v16)).At) ((gt l (Int.toNat v16)).Len) (if ((gt l (Int.toNat v16)).Len) < n__1 then ((gt l (Int.toNat v16)).Len) else n__1) l (l.length:Int) v16) (fun x=>bqi n n__1 x rest_1 ((gt l (Int.toNat v16)).At) ((gt l (Int.toNat v16)).Len) (if ((gt l (Int.toNat v16)).Len) < n__1 then ((gt l (Int.toNat v16)).Len) else n__1) l (l.length:Int) v16=some z9) ?_ ?_
    ·refine rA ?_
     refine cnd H (fun h19 H=>?_) (fun h19 H=>?_)
     ·obtain ⟨hg20,H⟩:=aj4 H
      refine eA ?_
      refine lf ?_
      exact ⟨_,H,wb [some 512,some 9005,some 112]⟩
     refine js ?_
     refine lf ?_
     exact ⟨_,H,wb [some 9004,some 9005,some 112]⟩
    rintro kept_3 H
    try dsimp only at H
    unfold bqi at H
    refine Sm.st (cwq.eq_1 ..) ?_
    refine j1 (fun (x:(List aj0))=>czd n__1 kept_3 x (if ((gt l (Int.toNat v16)).Len) < n__1 then ((gt l (Int.toNat v16)).Len) else n__1) l (l.length:Int) v16) (fun x=>bql n n__1 kept_3 x (if ((gt l (Int.toNat v16)).Len) < n__1 then ((gt l (Int.toNat v16)).Len) else n__1) l (l.length:Int) v16=some z9) ?_ ?_
    ·refine rA ?_
     refine cnd H (fun h16 H=>?_) (fun h16 H=>?_)
     ·obtain ⟨hg17,H⟩:=aj4 H
      refine eA ?_
      refine lf ?_
      exact ⟨_,H,wb [some 9008,some 768]⟩
     refine js ?_
     refine lf ?_
     exact ⟨_,H,wb [some 9008,some 9009]⟩
    rintro rest_3 H
    try dsimp only at H
    unfold bql at H
    refine Sm.st (czd.eq_1 ..) ?_
    refine eA ?_
    refine lf ?_
    exact ⟨((jc .i64 (n__1 - (if ((gt l (Int.toNat v16)).Len) < n__1 then ((gt l (Int.toNat v16)).Len) else n__1))),kept_3,rest_3),H,wb [some 9011,some 9012]⟩
   rintro ⟨n__2,kept_2,rest_2⟩ H
   try dsimp only at H
   unfold bzu at H
   refine Sm.st (cws.eq_1 ..) ?_
   refine eA ?_
   refine lf ?_
   exact nx H (wb [some 9006,some 9007])
  refine jZ ?_
  refine lf ?_
  refine lx H fun hyy=>?_
  subst hyy
  have H:=Ho9
  try dsimp only at H
  refine lf ?_
  exact ⟨(kept_1,rest_1),H,wb [some 9004,some 9005]⟩
 rintro ⟨kept,rest⟩ H
 try dsimp only at H
 unfold bk8 at H
 refine Sm.st (cwi.eq_1 ..) ?_
 refine rA ?_
 refine jx ?_
 refine lf ?_
 obtain rfl:=Option.some.inj H
 exact rto [some 9000,some 9001]
def bq2 (n:Nat) (c:Int):Option (Int×Bool) :=
 bif (if (decide (c < 32))=true then true else (decide (c > 126))) then
  some (0,false)
 else
  gd ((0≤(jc .u8 (c - 32))∧(jc .u8 (c - 32)) < ([64,90,127,123,91,108,80,125,77,93,92,78,107,96,75,97,240,241,242,243,244,245,246,247,248,249,122,94,76,126,110,111,124,193,194,195,196,197,198,199,200,201,209,210,211,212,213,214,215,216,217,226,227,228,229,230,231,232,233,186,224,187,176,109,121,129,130,131,132,133,134,135,136,137,145,146,147,148,149,150,151,152,153,162,163,164,165,166,167,168,169,192,79,208,161].length:Int))) <|
  some ((((([64,90,127,123,91,108,80,125,77,93,92,78,107,96,75,97,240,241,242,243,244,245,246,247,248,249,122,94,76,126,110,111,124,193,194,195,196,197,198,199,200,201,209,210,211,212,213,214,215,216,217,226,227,228,229,230,231,232,233,186,224,187,176,109,121,129,130,131,132,133,134,135,136,137,145,146,147,148,149,150,151,152,153,162,163,164,165,166,167,168,169,192,79,208,161]:List UInt8).getD (Int.toNat (jc .u8 (c - 32))) 0).toNat:Nat):Int),true)
def dqf (n:Nat):Go.AE.Fn:=mkFn (A:=Int) (R:=Int×Bool) 194 [(false,[.int .u8])] false (fun xs=>(cg (xs.getD 0 []) 0).toInt) (fun a=>[[.int a]]) (fun a=>bq2 n a) (fun r=>[.c (.int .u8) (.int r.1),.c .bool (.bool r.2)]) (fun r=>[])
theorem ek2 (n:Nat):aj1 jd (dqf n):=by
 have hΓ:=@g0 (aj1 jd)
 refine aj7 (Tryz.f194.body.getD .skip) h00 Tryz.func194 rfl Tryz.call194 (by decide) (by intro _ r;exact ⟨rfl,by simp⟩) ?_
 rintro c r H
 try dsimp only at H
 unfold bq2 at H
 simp only [Tryz.f194,jt]
 refine rA ?_
 refine jp fun K2 hK2=>?_
 refine rA ?_
 refine cnd H (fun h4 H=>?_) (fun h4 H=>?_)
 ·refine rA ?_
  refine jx ?_
  refine lf ?_
  obtain rfl:=Option.some.inj H
  exact rt []
 refine js ?_
 refine hK2 _ ?_
 obtain ⟨hg7,H⟩:=aj4 H
 refine rA ?_
 refine jx ?_
 refine lf ?_
 obtain rfl:=Option.some.inj H
 exact rt []
abbrev byt (out:List Int):S:=stB [(6,.own 9000 [.int .u8] 0 out.length)] [(9000,.row 5 (List.map ajz out))]
def bw2 (n:Nat) (out:List Int):Option ((List Int)×Int) :=
 some (out,0)
abbrev cj5 (s:List UInt8) (out_2:List Int) (v13:Int) (v14:Int):S:=stB [(0,.c .str (.str s)),(6,.own 9003 [.int .u8] 0 out_2.length),(13,.c (.int .i64) (.int v13)),(14,.c (.int .i64) (.int v14))] [(9003,.row 5 (List.map ajz out_2))]
def awb (n:Nat) (s:List UInt8) (out_2:List Int) (v13:Int) (v14:Int):Option (((List Int)×Int) ⊕ ((((List Int)×Int) ⊕ ((List Int))))) :=
 some (.inl (out_2,(jc .i64 (v14+1))))
abbrev cj3 (s:List UInt8) (v13:Int) (out_1:List Int) (v14:Int):S:=stB [(0,.c .str (.str s)),(6,.own 9002 [.int .u8] 0 out_1.length),(13,.c (.int .i64) (.int v13)),(14,.c (.int .i64) (.int v14))] [(9002,.row 5 (List.map ajz out_1))]
def aw9 (n:Nat) (s:List UInt8) (v13:Int) (out_1:List Int) (v14:Int):Option (((List Int)×Int) ⊕ ((((List Int)×Int) ⊕ ((List Int))))) :=
 bif (decide (v14 < v13)) then
  gd ((0≤v14∧v14 < (out_1.length:Int))∧(Int.toNat v14) < out_1.length) <|
  bif (decide (v14 ≥ (s.length:Int))) then
   awb n s (List.set out_1 (Int.toNat v14) 64) v13 v14
  else
   gd ((0≤v14∧v14 < (s.length:Int))) <|
   (bq2 n (((s.getD (Int.toNat v14) 0).toNat:Nat):Int)).bind fun r1 =>
   bif (!r1.2) then
    some (.inr (.inl ([],20)))
   else
    gd ((0≤v14∧v14 < (out_1.length:Int))∧(Int.toNat v14) < out_1.length) <|
    awb n s (List.set (List.set out_1 (Int.toNat v14) 64) (Int.toNat v14) r1.1) v13 v14
 else
  some (.inr (.inr out_1))
def bwf (n:Nat) (s:List UInt8) (n_:Int):Option ((List Int)×Int) :=
 gd ((0≤n_∧n_≤n_∧n_≤2147483648)) <|
 (aji (fun (x:(List Int)×Int)=>aw9 n s (((Int.toNat n_):Nat):Int) x.1 x.2) n ((aqo (Int.toNat n_) 0),0)).bind fun y6 =>
 match y6 with
 | .inl vv =>
  some (vv.1,vv.2)
 | .inr vv =>
  bw2 n vv
def czg (n:Nat):Go.AE.Fn:=mkFn (A:=(List UInt8)×Int) (R:=(List Int)×Int) 162 [(false,[.str]),(false,[.int .i64])] false (fun xs=>((cg (xs.getD 0 []) 0).toStr,(cg (xs.getD 1 []) 0).toInt)) (fun a=>[[.str a.1],[.int a.2]]) (fun a=>bwf n a.1 a.2) (fun r=>[.own 0 [.int .u8] 0 r.1.length,.c (.int .i64) (.int r.2)]) (fun r=>[.row 5 (List.map ajz r.1)])
theorem dyc (n:Nat):aj1 jd (czg n):=by
 have hΓ:=g1 (ek2 n) (@g0 (aj1 jd))
 refine aj7 (Tryz.f162.body.getD .skip) h00 Tryz.func162 rfl Tryz.call162 (by decide) (fun _ r=>⟨rfl,m1 ⟨5,_,_,rfl,ty5,rfl⟩ m0⟩) ?_
 rintro ⟨s,n_⟩ r H
 try dsimp only at H
 unfold bwf at H
 simp only [Tryz.f162,jt]
 refine rA ?_
 refine sX fun K2 hK2=>?_
 obtain ⟨hg3,H⟩:=aj4 H
 refine oX ?_
 refine oY ?_
 refine oX ?_
 refine hK2 _ ?_
 refine j1 (fun (x:(List Int))=>byt x) (fun x=>bw2 n x=some r) ?_ ?_
 ·refine rA ?_
  refine jw ?_
  obtain ⟨y6,hy6,Ho6⟩:=bind_some H
  refine jW _ (fun x=>cj3 s (((Int.toNat n_):Nat):Int) x.1 x.2) hy6 (wb [some 176]) ?_
  rintro ⟨out_1,v14⟩ z6 H
  try dsimp only at H
  unfold aw9 at H
  refine Sm.st (cj3.eq_1 ..) ?_
  refine rA ?_
  refine jp fun K8 hK8=>?_
  refine cnd H (fun h9 H=>?_) (fun h9 H=>?_)
  ·refine js ?_
   refine hK8 _ ?_
   refine j1 (fun (x:(List Int))=>cj5 s x (((Int.toNat n_):Nat):Int) v14) (fun x=>awb n s x (((Int.toNat n_):Nat):Int) v14=some z6) ?_ ?_
   ·refine jw ?_
    refine rA ?_
    obtain ⟨⟨hg23,hg24⟩,H⟩:=aj4 H
    refine rA ?_
    refine jp fun K12 hK12=>?_
    refine rA ?_
    refine cnd H (fun h14 H=>?_) (fun h14 H=>?_)
    ·refine jZ ?_
     refine lf ?_
     exact ⟨_,H,wb [some 9002]⟩
    refine js ?_
    refine hK12 _ ?_
    obtain ⟨hg22,H⟩:=aj4 H
    obtain ⟨r1,hr1,H⟩:=bind_some H
    have q:=aI @dqf.eq_1 hr1
    refine rAq ?_
    refine jp fun K16 hK16=>?_
    refine rA ?_
    refine cnd H (fun h18 H=>?_) (fun h18 H=>?_)
    ·refine rA ?_
     refine jx ?_
     refine lf ?_
     refine lx H fun hyy=>?_
     subst hyy
     have H:=Ho6
     try dsimp only at H
     refine lf ?_
     obtain rfl:=Option.some.inj H
     exact rto [none]
    refine js ?_
    refine hK16 _ ?_
    obtain ⟨⟨hg20,hg21⟩,H⟩:=aj4 H
    refine eA ?_
    refine lf ?_
    exact ⟨_,H,wb [some 9002]⟩
   rintro out_2 H
   try dsimp only at H
   unfold awb at H
   refine Sm.st (cj5.eq_1 ..) ?_
   refine eA ?_
   refine lf ?_
   exact nx H (wb [some 9003])
  refine jZ ?_
  refine lf ?_
  refine lx H fun hyy=>?_
  subst hyy
  have H:=Ho6
  try dsimp only at H
  refine lf ?_
  exact ⟨_,H,wb [some 9002]⟩
 rintro out H
 try dsimp only at H
 unfold bw2 at H
 refine Sm.st (byt.eq_1 ..) ?_
 refine rA ?_
 refine jx ?_
 refine lf ?_
 obtain rfl:=Option.some.inj H
 exact rto [some 9000]
def cw7 (n:Nat) (s:List UInt8) (n_:Int):Option ((List Int)×Int) :=
 bif (if (decide (n_ < 0))=true then true else (decide (n_ > 65536))) then
  some ([],1)
 else
  bif (decide ((s.length:Int) > n_)) then
   some ([],2)
  else
   (bwf n s n_).bind fun r1 =>
   some (r1.1,r1.2)
def dz5 (n:Nat):Go.AE.Fn:=mkFn (A:=(List UInt8)×Int) (R:=(List Int)×Int) 121 [(false,[.str]),(false,[.int .i64])] false (fun xs=>((cg (xs.getD 0 []) 0).toStr,(cg (xs.getD 1 []) 0).toInt)) (fun a=>[[.str a.1],[.int a.2]]) (fun a=>cw7 n a.1 a.2) (fun r=>[.own 0 [.int .u8] 0 r.1.length,.c (.int .i64) (.int r.2)]) (fun r=>[.row 5 (List.map ajz r.1)])
theorem fjc (n:Nat):aj1 jd (dz5 n):=by
 have hΓ:=g1 (dyc n) (@g0 (aj1 jd))
 refine aj7 (Tryz.f121.body.getD .skip) h00 Tryz.func121 rfl Tryz.call121 (by decide) (fun _ r=>⟨rfl,m1 ⟨5,_,_,rfl,ty5,rfl⟩ m0⟩) ?_
 rintro ⟨s,n_⟩ r H
 try dsimp only at H
 unfold cw7 at H
 simp only [Tryz.f121,jt]
 refine rA ?_
 refine jp fun K2 hK2=>?_
 refine jw ?_
 refine rA ?_
 refine cnd H (fun h4 H=>?_) (fun h4 H=>?_)
 ·refine rA ?_
  refine jx ?_
  refine lf ?_
  obtain rfl:=Option.some.inj H
  exact rto [none]
 refine rA ?_
 refine cnd H (fun h7 H=>?_) (fun h7 H=>?_)
 ·refine rA ?_
  refine jx ?_
  refine lf ?_
  obtain rfl:=Option.some.inj H
  exact rto [none]
 refine js ?_
 refine hK2 _ ?_
 obtain ⟨r1,hr1,H⟩:=bind_some H
 have q:=aI @czg.eq_1 hr1
 refine rAq ?_
 refine jx ?_
 refine lf ?_
 obtain rfl:=Option.some.inj H
 exact rto [some 320]
def bjk (n:Nat) (s:List UInt8) (n_:Int):Option (List Int) :=
 (cw7 n s n_).bind fun r1 =>
 some r1.1
def bkr (n:Nat):Go.AE.Fn:=mkFn (A:=(List UInt8)×Int) (R:=(List Int)) 61 [(false,[.str]),(false,[.int .i64])] false (fun xs=>((cg (xs.getD 0 []) 0).toStr,(cg (xs.getD 1 []) 0).toInt)) (fun a=>[[.str a.1],[.int a.2]]) (fun a=>bjk n a.1 a.2) (fun r=>[.own 0 [.int .u8] 0 r.length]) (fun r=>[.row 5 (List.map ajz r)])
theorem dyp (n:Nat):aj1 jd (bkr n):=by
 have hΓ:=g1 (fjc n) (@g0 (aj1 jd))
 refine aj7 (Tryz.f61.body.getD .skip) h00 Tryz.func61 rfl Tryz.call61 (by decide) (fun _ r=>⟨rfl,m1 ⟨5,_,_,rfl,ty5,rfl⟩ m0⟩) ?_
 rintro ⟨s,n_⟩ r H
 try dsimp only at H
 unfold bjk at H
 simp only [Tryz.f61,jt]
 refine rA ?_
 obtain ⟨r1,hr1,H⟩:=bind_some H
 have q:=aI @dz5.eq_1 hr1
 refine rAq ?_
 refine rA ?_
 refine jx ?_
 refine lf ?_
 obtain rfl:=Option.some.inj H
 exact rto [some 160]
def akw (n:Nat) (n_:Int):Option (List Int) :=
 some [(jc .u8 ((Int.fdiv n_ (2 ^ min 8 (IntKind.bits .i64))))),(jc .u8 (n_))]
def bka (n:Nat):Go.AE.Fn:=mkFn (A:=Int) (R:=(List Int)) 62 [(false,[.int .i64])] false (fun xs=>(cg (xs.getD 0 []) 0).toInt) (fun a=>[[.int a]]) (fun a=>akw n a) (fun r=>[.own 0 [.int .u8] 0 r.length]) (fun r=>[.row 5 (List.map ajz r)])
theorem ej4 (n:Nat):aj1 jd (bka n):=by
 have hΓ:=@g0 (aj1 jd)
 refine aj7 (Tryz.f62.body.getD .skip) h00 Tryz.func62 rfl Tryz.call62 (by decide) (fun _ r=>⟨rfl,m1 ⟨5,_,_,rfl,ty5,rfl⟩ m0⟩) ?_
 rintro n_ r H
 try dsimp only at H
 unfold akw at H
 simp only [Tryz.f62,jt]
 refine rA ?_
 refine sX fun K2 hK2=>?_
 refine oX ?_
 refine oE ay5 ?_
 iterate 5 refine oX ?_
 refine hK2 _ ?_
 refine jx ?_
 refine lf ?_
 obtain rfl:=Option.some.inj H
 exact rto [some 128]
end Go.Proofs.YtijnkhcfondehaaGreatDoor
