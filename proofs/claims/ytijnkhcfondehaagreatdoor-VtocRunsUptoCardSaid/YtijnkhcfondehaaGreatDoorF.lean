/- Text. -/
import Derived.Test.YtijnkhcfondehaaGreatDoorF1
set_option maxHeartbeats 8000000
set_option linter.unusedVariables false
set_option linter.unusedSimpArgs false
set_option maxRecDepth 100000
namespace Go.Proofs.YtijnkhcfondehaaGreatDoor
open Go.AE
abbrev dwd:S:=stB [] []
def cw9 (n:Nat):Option ((List aj0)×(List aj0)×Int) :=
 some ([],[],200)
abbrev dqp (want_1:Int) (pieces:Int) (rest:List aj0) (got:List aj0) (first:Int) (longest:Int):S:=stB [(1,.c (.int .i64) (.int want_1)),(2,.c (.int .i64) (.int pieces)),(9,.own 9005 [.int .i64,.int .i64] 0 rest.length),(10,.own 9006 [.int .i64,.int .i64] 0 got.length),(11,.c (.int .i64) (.int first)),(12,.c (.int .i64) (.int longest))] [(9005,.row 80 (List.map aj1 rest)),(9006,.row 80 (List.map aj1 got))]
def ayx (n:Nat) (want_1:Int) (pieces:Int) (rest:List aj0) (got:List aj0) (first:Int) (longest:Int):Option ((Int×(List aj0)×(List aj0)) ⊕ ((((List aj0)×(List aj0)×Int) ⊕ (Unit)))) :=
 bif (decide (first ≥ 0)) then
  gd ((0≤first∧first < (rest.length:Int))∧(Int.toNat first) < rest.length∧(got.length+1)≤2147483648) <|
  gd ((0≤first∧first < (rest.length:Int))∧(Int.toNat first) < rest.length∧(0≤first∧first < (rest.length:Int))∧(Int.toNat first) < rest.length∧(0≤first∧first < (rest.length:Int))∧(Int.toNat first) < rest.length) <|
  (bq7 n (List.set rest (Int.toNat first) (⟨(IntKind.wrap .i64 (((gt rest (Int.toNat first)).At)+want_1)),(IntKind.wrap .i64 (((gt rest (Int.toNat first)).Len) - want_1))⟩:aj0))).bind fun r2 =>
  some (.inr (.inl ((got ++ [(⟨(gt rest (Int.toNat first)).At,want_1⟩:aj0)]),r2,0)))
 else
  gd ((0≤longest∧longest < (rest.length:Int))∧(Int.toNat longest) < rest.length∧(got.length+1)≤2147483648) <|
  gd ((0≤longest∧longest < (rest.length:Int))∧(Int.toNat longest) < rest.length) <|
  gd ((0≤longest∧longest < (rest.length:Int))∧(Int.toNat longest) < rest.length) <|
  (bq7 n (List.set rest (Int.toNat longest) (⟨(gt rest (Int.toNat longest)).At,0⟩:aj0))).bind fun r3 =>
  some (.inl ((IntKind.wrap .i64 (want_1 - ((gt rest (Int.toNat longest)).Len))),r3,(got ++ [(gt rest (Int.toNat longest))])))
abbrev djo (want_1:Int) (pieces:Int) (rest:List aj0) (got:List aj0) (first_2:Int) (longest_2:Int) (i:Int):S:=stB [(1,.c (.int .i64) (.int want_1)),(2,.c (.int .i64) (.int pieces)),(9,.own 9011 [.int .i64,.int .i64] 0 rest.length),(10,.own 9012 [.int .i64,.int .i64] 0 got.length),(11,.c (.int .i64) (.int first_2)),(12,.c (.int .i64) (.int longest_2)),(13,.c (.int .i64) (.int i))] [(9011,.row 80 (List.map aj1 rest)),(9012,.row 80 (List.map aj1 got))]
def bw6 (n:Nat) (want_1:Int) (pieces:Int) (rest:List aj0) (got:List aj0) (first_2:Int) (longest_2:Int) (i:Int):Option ((Int×Int×Int) ⊕ ((Int×Int))) :=
 some (.inl (first_2,longest_2,(IntKind.wrap .i64 (i - 1))))
abbrev dwa (want_1:Int) (pieces:Int) (rest:List aj0) (got:List aj0) (first_3:Int) (longest_1:Int) (i:Int):S:=stB [(1,.c (.int .i64) (.int want_1)),(2,.c (.int .i64) (.int pieces)),(9,.own 9013 [.int .i64,.int .i64] 0 rest.length),(10,.own 9014 [.int .i64,.int .i64] 0 got.length),(11,.c (.int .i64) (.int first_3)),(12,.c (.int .i64) (.int longest_1)),(13,.c (.int .i64) (.int i))] [(9013,.row 80 (List.map aj1 rest)),(9014,.row 80 (List.map aj1 got))]
def bwp (n:Nat) (want_1:Int) (pieces:Int) (rest:List aj0) (got:List aj0) (first_3:Int) (longest_1:Int) (i:Int):Option ((Int×Int×Int) ⊕ ((Int×Int))) :=
 gd ((0≤i∧i < (rest.length:Int))∧(Int.toNat i) < rest.length∧(0≤longest_1∧longest_1 < (rest.length:Int))∧(Int.toNat longest_1) < rest.length) <|
 bif (decide (((gt rest (Int.toNat i)).Len) ≥ ((gt rest (Int.toNat longest_1)).Len))) then
  bw6 n want_1 pieces rest got first_3 i i
 else
  bw6 n want_1 pieces rest got first_3 longest_1 i
abbrev dw1 (want_1:Int) (pieces:Int) (rest:List aj0) (got:List aj0) (first_1:Int) (longest_1:Int) (i:Int):S:=stB [(1,.c (.int .i64) (.int want_1)),(2,.c (.int .i64) (.int pieces)),(9,.own 9009 [.int .i64,.int .i64] 0 rest.length),(10,.own 9010 [.int .i64,.int .i64] 0 got.length),(11,.c (.int .i64) (.int first_1)),(12,.c (.int .i64) (.int longest_1)),(13,.c (.int .i64) (.int i))] [(9009,.row 80 (List.map aj1 rest)),(9010,.row 80 (List.map aj1 got))]
def ayt (n:Nat) (want_1:Int) (pieces:Int) (rest:List aj0) (got:List aj0) (first_1:Int) (longest_1:Int) (i:Int):Option ((Int×Int×Int) ⊕ ((Int×Int))) :=
 bif (decide (i ≥ 0)) then
  gd ((0≤i∧i < (rest.length:Int))∧(Int.toNat i) < rest.length) <|
  bif (decide (((gt rest (Int.toNat i)).Len) ≥ want_1)) then
   bwp n want_1 pieces rest got i longest_1 i
  else
   bwp n want_1 pieces rest got first_1 longest_1 i
 else
  some (.inr (first_1,longest_1))
abbrev dqf (pieces:Int) (want_1:Int) (rest:List aj0) (got:List aj0):S:=stB [(1,.c (.int .i64) (.int want_1)),(2,.c (.int .i64) (.int pieces)),(9,.own 9003 [.int .i64,.int .i64] 0 rest.length),(10,.own 9004 [.int .i64,.int .i64] 0 got.length)] [(9003,.row 80 (List.map aj1 rest)),(9004,.row 80 (List.map aj1 got))]
def akr (n:Nat) (pieces:Int) (want_1:Int) (rest:List aj0) (got:List aj0):Option ((Int×(List aj0)×(List aj0)) ⊕ ((((List aj0)×(List aj0)×Int) ⊕ (Unit)))) :=
 bif (if (decide (((got.length:Nat):Int) < pieces))=true then (decide (((rest.length:Nat):Int) > 0)) else false) then
  (ajj (fun (x:Int×Int×Int)=>ayt n want_1 pieces rest got x.1 x.2.1 x.2.2) n ((-1),0,(IntKind.wrap .i64 (((rest.length:Nat):Int) - 1)))).bind fun y41 =>
  ayx n want_1 pieces rest got y41.1 y41.2
 else
  some (.inr (.inr ()))
def bww (n:Nat) (free:List aj0) (want:Int) (pieces:Int):Option ((List aj0)×(List aj0)×Int) :=
 (byn n free 512).bind fun r1 =>
 bif (if (if (!r1)=true then true else (decide (want < 1)))=true then true else (decide (pieces < 1))) then
  some ([],[],1)
 else
  gd (free.length≤2147483648) <|
  (ajj (fun (x:Int×(List aj0)×(List aj0))=>akr n pieces x.1 x.2.1 x.2.2) n (want,free,[])).bind fun y10 =>
  match y10 with
  | .inl vv =>
   some (vv.1,vv.2.1,vv.2.2)
  | .inr vv =>
   cw9 n
def bz1 (n:Nat):Go.AE.Fn:=mkFn (A:=(List aj0)×Int×Int) (R:=(List aj0)×(List aj0)×Int) 132 [(false,[.slice 80]),(false,[.int .i64]),(false,[.int .i64])] false (fun xs=>(((cg (xs.getD 0 []) 0).toSl.map ajm),(cg (xs.getD 1 []) 0).toInt,(cg (xs.getD 2 []) 0).toInt)) (fun a=>[[.slice (List.map aj1 a.1)],[.int a.2.1],[.int a.2.2]]) (fun a=>bww n a.1 a.2.1 a.2.2) (fun r=>[.own 0 [.int .i64,.int .i64] 0 r.1.length,.own 1 [.int .i64,.int .i64] 0 r.2.1.length,.c (.int .i64) (.int r.2.2)]) (fun r=>[.row 80 (List.map aj1 r.1),.row 80 (List.map aj1 r.2.1)])
theorem eje (n:Nat):aj2 Tryz.prog (bz1 n):=by
 have hΓ:=g1 (fjl n) (g1 (dye n) (@g0 (aj2 Tryz.prog)))
 refine aj8 (Tryz.f132.body.getD .skip) h00 Tryz.func132 rfl Tryz.call132 (by decide) (fun _ r=>⟨rfl,m1 ⟨80,_,_,rfl,ty80,rfl⟩ (m1 ⟨80,_,_,rfl,ty80,rfl⟩ m0)⟩) ?_
 rintro ⟨free,want,pieces⟩ r H
 try dsimp only at H
 unfold bww at H
 simp only [Tryz.f132,Option.getD]
 refine rA ?_
 refine Sm.seqK fun K2 hK2=>?_
 obtain ⟨r1,hr1,H⟩:=bind_some H
 have q:=And.intro @cj6.eq_1 hr1
 refine rAq ?_
 refine cnd H (fun h4 H=>?_) (fun h4 H=>?_)
 ·refine rA ?_
  refine Sm.ret ?_
  refine lf ?_
  obtain rfl:=Option.some.inj H
  exact rto [none,none]
 refine Sm.skip ?_
 refine hK2 _ ?_
 refine rA ?_
 obtain ⟨hg55,H⟩:=aj7 H
 refine rA ?_
 refine rA ?_
 refine Sm.cut (fun (x:Unit)=>dwd) (fun x=>cw9 n=some r) ?_ ?_
 ·refine Sm.block ?_
  obtain ⟨y10,hy10,Ho10⟩:=bind_some H
  refine Sm.loopB _ (fun x=>dqf pieces x.1 x.2.1 x.2.2) hy10 (wb [some 432,none]) ?_
  rintro ⟨want_1,rest,got⟩ z10 H
  try dsimp only at H
  unfold akr at H
  refine Sm.st (dqf.eq_1 ..) ?_
  refine Sm.seqK fun K11 hK11=>?_
  refine rA ?_
  refine cnd H (fun h13 H=>?_) (fun h13 H=>?_)
  ·refine Sm.skip ?_
   refine hK11 _ ?_
   refine Sm.block ?_
   refine rA ?_
   refine Sm.cut (fun (x:Int×Int)=>dqp want_1 pieces rest got x.1 x.2) (fun x=>ayx n want_1 pieces rest got x.1 x.2=some z10) ?_ ?_
   ·refine rA ?_
    refine Sm.block ?_
    obtain ⟨y41,hy41,Ho41⟩:=bind_some H
    refine Sm.loopB _ (fun x=>dw1 want_1 pieces rest got x.1 x.2.1 x.2.2) hy41 (wb [some 9003,some 9004]) ?_
    rintro ⟨first_1,longest_1,i⟩ z41 H
    try dsimp only at H
    unfold ayt at H
    refine Sm.st (dw1.eq_1 ..) ?_
    refine Sm.seqK fun K42 hK42=>?_
    refine rA ?_
    refine cnd H (fun h44 H=>?_) (fun h44 H=>?_)
    ·refine Sm.skip ?_
     refine hK42 _ ?_
     refine Sm.cut (fun (x:Int×Int)=>djo want_1 pieces rest got x.1 x.2 i) (fun x=>bw6 n want_1 pieces rest got x.1 x.2 i=some z41) ?_ ?_
     ·refine Sm.block ?_
      refine Sm.cut (fun (x:Int)=>dwa want_1 pieces rest got x longest_1 i) (fun x=>bwp n want_1 pieces rest got x longest_1 i=some z41) ?_ ?_
      ·obtain ⟨⟨hg53,hg54⟩,H⟩:=aj7 H
       refine rA ?_
       refine cnd H (fun h52 H=>?_) (fun h52 H=>?_)
       ·refine eA ?_
        refine lf ?_
        exact ⟨_,H,wb [some 9009,some 9010]⟩
       refine Sm.skip ?_
       refine lf ?_
       exact ⟨_,H,wb [some 9009,some 9010]⟩
      rintro first_3 H
      try dsimp only at H
      unfold bwp at H
      refine Sm.st (dwa.eq_1 ..) ?_
      obtain ⟨⟨hg47,hg48,hg49,hg50⟩,H⟩:=aj7 H
      refine rD ?_
      refine cnd H (fun h46 H=>?_) (fun h46 H=>?_)
      ·refine eA ?_
       refine lf ?_
       exact ⟨(first_3,i),H,wb [some 9013,some 9014]⟩
      refine Sm.skip ?_
      refine lf ?_
      exact ⟨(first_3,longest_1),H,wb [some 9013,some 9014]⟩
     rintro ⟨first_2,longest_2⟩ H
     try dsimp only at H
     unfold bw6 at H
     refine Sm.st (djo.eq_1 ..) ?_
     refine eA ?_
     refine lf ?_
     exact nx H (wb [some 9011,some 9012])
    refine Sm.exit ?_
    refine lf ?_
    refine lx H fun hyy=>?_
    subst hyy
    have H:=Ho41
    try dsimp only at H
    refine lf ?_
    exact ⟨(first_1,longest_1),H,wb [some 9009,some 9010]⟩
   rintro ⟨first,longest⟩ H
   try dsimp only at H
   unfold ayx at H
   refine Sm.st (dqp.eq_1 ..) ?_
   refine Sm.seqK fun K15 hK15=>?_
   refine rA ?_
   refine cnd H (fun h17 H=>?_) (fun h17 H=>?_)
   ·obtain ⟨⟨hg27,hg28,hg29⟩,H⟩:=aj7 H
    refine rA ?_
    obtain ⟨⟨hg21,hg22,hg23,hg24,hg25,hg26⟩,H⟩:=aj7 H
    refine rD ?_
    obtain ⟨r2,hr2,H⟩:=bind_some H
    have q:=And.intro @cj6.eq_1 (And.intro @cw8.eq_1 hr2)
    refine rAq ?_
    refine Sm.ret ?_
    refine lf ?_
    refine lx H fun hyy=>?_
    subst hyy
    have H:=Ho10
    try dsimp only at H
    refine lf ?_
    obtain rfl:=Option.some.inj H
    exact rto [some 1200,some 1536]
   refine Sm.skip ?_
   refine hK15 _ ?_
   obtain ⟨⟨hg37,hg38,hg39⟩,H⟩:=aj7 H
   refine rA ?_
   obtain ⟨⟨hg35,hg36⟩,H⟩:=aj7 H
   refine rA ?_
   obtain ⟨⟨hg33,hg34⟩,H⟩:=aj7 H
   refine rA ?_
   obtain ⟨r3,hr3,H⟩:=bind_some H
   have q:=And.intro @cj6.eq_1 (And.intro @cw8.eq_1 hr3)
   refine eAq ?_
   refine lf ?_
   exact nx H (wb [some 1856,some 1648])
  refine Sm.exit ?_
  refine lf ?_
  refine lx H fun hyy=>?_
  subst hyy
  have H:=Ho10
  try dsimp only at H
  refine lf ?_
  exact ⟨(),H,wb []⟩
 rintro ⟨⟩ H
 try dsimp only at H
 unfold cw9 at H
 refine Sm.st (dwd.eq_1 ..) ?_
 refine rA ?_
 refine Sm.ret ?_
 refine lf ?_
 obtain rfl:=Option.some.inj H
 exact rto [none,none]
abbrev cwo (v:aj5) (l:List aj4):S:=stB [(2,.box 9000 0),(4,.box 9001 0),(5,.own 9002 [.str,.int .i64,.int .i64,.bool,.bool,.int .i64,.int .i64,.int .i64,.int .i64,.slice 80,.int .i64] 0 l.length)] [(9000,.box [.c .str (.str v.Serial),.c (.int .i64) (.int v.Cyls),.c (.int .i64) (.int v.Heads),.c (.int .i64) (.int v.Size),.c (.slice 41) (.slice (List.map aj3 v.Sets))]),(9001,.box [.c .str (.str []),.c (.int .i64) (.int 0),.c (.int .i64) (.int 0),.c (.int .i64) (.int 0),.nilsl]),(9002,.row 41 (List.map aj3 l))]
def bjt (n:Nat) (v:aj5) (l:List aj4):Option aj5 :=
 some (⟨v.Serial,v.Cyls,v.Heads,v.Size,l⟩:aj5)
abbrev cwq (name:List UInt8) (v:aj5) (l_2:List aj4) (k:Int):S:=stB [(1,.c .str (.str name)),(2,.box 9011 0),(4,.box 9012 0),(5,.own 9013 [.str,.int .i64,.int .i64,.bool,.bool,.int .i64,.int .i64,.int .i64,.int .i64,.slice 80,.int .i64] 0 l_2.length),(6,.c (.int .i64) (.int k))] [(9011,.box [.c .str (.str v.Serial),.c (.int .i64) (.int v.Cyls),.c (.int .i64) (.int v.Heads),.c (.int .i64) (.int v.Size),.c (.slice 41) (.slice (List.map aj3 v.Sets))]),(9012,.box [.c .str (.str []),.c (.int .i64) (.int 0),.c (.int .i64) (.int 0),.c (.int .i64) (.int 0),.nilsl]),(9013,.row 41 (List.map aj3 l_2))]
def aky (n:Nat) (name:List UInt8) (v:aj5) (l_2:List aj4) (k:Int):Option (((List aj4)×Int) ⊕ (((List aj4)))) :=
 some (.inl (l_2,(IntKind.wrap .i64 (k+1))))
abbrev cwl (name:List UInt8) (v:aj5) (l_1:List aj4) (k:Int):S:=stB [(1,.c .str (.str name)),(2,.box 9008 0),(4,.box 9009 0),(5,.own 9010 [.str,.int .i64,.int .i64,.bool,.bool,.int .i64,.int .i64,.int .i64,.int .i64,.slice 80,.int .i64] 0 l_1.length),(6,.c (.int .i64) (.int k))] [(9008,.box [.c .str (.str v.Serial),.c (.int .i64) (.int v.Cyls),.c (.int .i64) (.int v.Heads),.c (.int .i64) (.int v.Size),.c (.slice 41) (.slice (List.map aj3 v.Sets))]),(9009,.box [.c .str (.str []),.c (.int .i64) (.int 0),.c (.int .i64) (.int 0),.c (.int .i64) (.int 0),.nilsl]),(9010,.row 41 (List.map aj3 l_1))]
def aza (n:Nat) (name:List UInt8) (v:aj5) (l_1:List aj4) (k:Int):Option (((List aj4)×Int) ⊕ (((List aj4)))) :=
 bif (decide (k < (v.Sets.length:Int))) then
  gd ((0≤k∧k < (v.Sets.length:Int))) <|
  bif (((gt v.Sets (Int.toNat k)).Name) != name) then
   gd ((0≤k∧k < (v.Sets.length:Int))∧(l_1.length+1)≤2147483648) <|
   aky n name v (l_1 ++ [(gt v.Sets (Int.toNat k))]) k
  else
   aky n name v l_1 k
 else
  some (.inr l_1)
def ayz (n:Nat) (v:aj5) (name:List UInt8):Option aj5 :=
 (ajj (fun (x:(List aj4)×Int)=>aza n name v x.1 x.2) n ([],0)).bind fun y6 =>
 bjt n v y6
def cjm (n:Nat):Go.AE.Fn:=mkFn (A:=aj5×(List UInt8)) (R:=aj5) 136 [(true,[.str,.int .i64,.int .i64,.int .i64,.slice 41]),(false,[.str])] true (fun xs=>((⟨(cg (xs.getD 0 []) 0).toStr,(cg (xs.getD 0 []) 1).toInt,(cg (xs.getD 0 []) 2).toInt,(cg (xs.getD 0 []) 3).toInt,((cg (xs.getD 0 []) 4).toSl.map aqd)⟩:aj5),(cg (xs.getD 1 []) 0).toStr)) (fun a=>[[.str a.1.Serial,.int a.1.Cyls,.int a.1.Heads,.int a.1.Size,.slice (List.map aj3 a.1.Sets)],[.str a.2]]) (fun a=>ayz n a.1 a.2) (fun r=>[.agg [.c .str (.str r.Serial),.c (.int .i64) (.int r.Cyls),.c (.int .i64) (.int r.Heads),.c (.int .i64) (.int r.Size),.own 0 [.str,.int .i64,.int .i64,.bool,.bool,.int .i64,.int .i64,.int .i64,.int .i64,.slice 80,.int .i64] 0 r.Sets.length]]) (fun r=>[.row 41 (List.map aj3 r.Sets)])
theorem cyr (n:Nat):aj2 Tryz.prog (cjm n):=by
 have hΓ:=@g0 (aj2 Tryz.prog)
 refine aj8 (Tryz.f136.body.getD .skip) h00 Tryz.func136 rfl Tryz.call136 (by decide) (by intro h;cases h) ?_
 rintro ⟨v,name⟩ r H
 try dsimp only at H
 unfold ayz at H
 simp only [Tryz.f136,Option.getD]
 refine rA ?_
 refine rA ?_
 refine Sm.cut (fun (x:(List aj4))=>cwo v x) (fun x=>bjt n v x=some r) ?_ ?_
 ·refine rA ?_
  refine Sm.block ?_
  obtain ⟨y6,hy6,Ho6⟩:=bind_some H
  refine Sm.loopB _ (fun x=>cwl name v x.1 x.2) hy6 (wb [some 32,some 64,none]) ?_
  rintro ⟨l_1,k⟩ z6 H
  try dsimp only at H
  unfold aza at H
  refine Sm.st (cwl.eq_1 ..) ?_
  refine Sm.seqK fun K7 hK7=>?_
  refine rA ?_
  refine cnd H (fun h9 H=>?_) (fun h9 H=>?_)
  ·refine Sm.skip ?_
   refine hK7 _ ?_
   refine Sm.cut (fun (x:(List aj4))=>cwq name v x k) (fun x=>aky n name v x k=some z6) ?_ ?_
   ·refine Sm.block ?_
    obtain ⟨hg14,H⟩:=aj7 H
    refine rA ?_
    refine cnd H (fun h11 H=>?_) (fun h11 H=>?_)
    ·obtain ⟨⟨hg12,hg13⟩,H⟩:=aj7 H
     refine eA ?_
     refine lf ?_
     exact ⟨_,H,wb [some 9008,some 9009,some 464]⟩
    refine Sm.skip ?_
    refine lf ?_
    exact ⟨_,H,wb [some 9008,some 9009,some 9010]⟩
   rintro l_2 H
   try dsimp only at H
   unfold aky at H
   refine Sm.st (cwq.eq_1 ..) ?_
   refine eA ?_
   refine lf ?_
   exact nx H (wb [some 9011,some 9012,some 9013])
  refine Sm.exit ?_
  refine lf ?_
  refine lx H fun hyy=>?_
  subst hyy
  have H:=Ho6
  try dsimp only at H
  refine lf ?_
  exact ⟨_,H,wb [some 9008,some 9009,some 9010]⟩
 rintro l H
 try dsimp only at H
 unfold bjt at H
 refine Sm.st (cwo.eq_1 ..) ?_
 refine rA ?_
 refine rA ?_
 refine Sm.ret ?_
 refine lf ?_
 obtain rfl:=Option.some.inj H
 exact rto [some 9002]
abbrev dwb (w:List UInt8) (w_1:Int) (w_2:Int) (w_3:Int) (w_4:List aj4) (l_1:List aj4):S:=stB [(6,.box 9005 0),(7,.box 9006 0),(8,.own 9008 [.str,.int .i64,.int .i64,.bool,.bool,.int .i64,.int .i64,.int .i64,.int .i64,.slice 80,.int .i64] 0 l_1.length)] [(9005,.box [.c .str (.str []),.c (.int .i64) (.int 0),.c (.int .i64) (.int 0),.c (.int .i64) (.int 0),.nilsl]),(9006,.box [.c .str (.str w),.c (.int .i64) (.int w_1),.c (.int .i64) (.int w_2),.c (.int .i64) (.int w_3),.own 9007 [.str,.int .i64,.int .i64,.bool,.bool,.int .i64,.int .i64,.int .i64,.int .i64,.slice 80,.int .i64] 0 w_4.length]),(9007,.row 41 (List.map aj3 w_4)),(9008,.row 41 (List.map aj3 l_1))]
def bke (n:Nat) (w:List UInt8) (w_1:Int) (w_2:Int) (w_3:Int) (w_4:List aj4) (l_1:List aj4):Option aj5 :=
 some (⟨w,w_1,w_2,w_3,l_1⟩:aj5)
abbrev dw7 (d:aj4) (w:List UInt8) (w_1:Int) (w_2:Int) (w_3:Int) (w_4:List aj4) (l:List aj4) (done:Bool):S:=stB [(5,.box 9000 0),(6,.box 9001 0),(7,.box 9002 0),(8,.own 9004 [.str,.int .i64,.int .i64,.bool,.bool,.int .i64,.int .i64,.int .i64,.int .i64,.slice 80,.int .i64] 0 l.length),(9,.c .bool (.bool done))] [(9000,.box [.c .str (.str d.Name),.c (.int .i64) (.int d.Dcb.Org),.c (.int .i64) (.int d.Dcb.Format),.c .bool (.bool d.Dcb.Blocked),.c .bool (.bool d.Dcb.Asa),.c (.int .i64) (.int d.Dcb.Lrecl),.c (.int .i64) (.int d.Dcb.Blksize),.c (.int .i64) (.int d.Dcb.KeyLen),.c (.int .i64) (.int d.Dcb.KeyPos),.c (.slice 80) (.slice (List.map aj1 d.Extents)),.c (.int .i64) (.int d.Used)]),(9001,.box [.c .str (.str []),.c (.int .i64) (.int 0),.c (.int .i64) (.int 0),.c (.int .i64) (.int 0),.nilsl]),(9002,.box [.c .str (.str w),.c (.int .i64) (.int w_1),.c (.int .i64) (.int w_2),.c (.int .i64) (.int w_3),.own 9003 [.str,.int .i64,.int .i64,.bool,.bool,.int .i64,.int .i64,.int .i64,.int .i64,.slice 80,.int .i64] 0 w_4.length]),(9003,.row 41 (List.map aj3 w_4)),(9004,.row 41 (List.map aj3 l))]
def bkf (n:Nat) (d:aj4) (w:List UInt8) (w_1:Int) (w_2:Int) (w_3:Int) (w_4:List aj4) (l:List aj4) (done:Bool):Option aj5 :=
 bif (!done) then
  gd ((l.length+1)≤2147483648) <|
  bke n w w_1 w_2 w_3 w_4 (l ++ [d])
 else
  bke n w w_1 w_2 w_3 w_4 l
abbrev dqy (d:aj4) (w_5:List UInt8) (w_6:Int) (w_7:Int) (w_8:Int) (w_9:List aj4) (l_3:List aj4) (done_2:Bool) (k:Int):S:=stB [(5,.box 9023 0),(6,.box 9024 0),(7,.box 9025 0),(8,.own 9027 [.str,.int .i64,.int .i64,.bool,.bool,.int .i64,.int .i64,.int .i64,.int .i64,.slice 80,.int .i64] 0 l_3.length),(9,.c .bool (.bool done_2)),(10,.c (.int .i64) (.int k))] [(9023,.box [.c .str (.str d.Name),.c (.int .i64) (.int d.Dcb.Org),.c (.int .i64) (.int d.Dcb.Format),.c .bool (.bool d.Dcb.Blocked),.c .bool (.bool d.Dcb.Asa),.c (.int .i64) (.int d.Dcb.Lrecl),.c (.int .i64) (.int d.Dcb.Blksize),.c (.int .i64) (.int d.Dcb.KeyLen),.c (.int .i64) (.int d.Dcb.KeyPos),.c (.slice 80) (.slice (List.map aj1 d.Extents)),.c (.int .i64) (.int d.Used)]),(9024,.box [.c .str (.str []),.c (.int .i64) (.int 0),.c (.int .i64) (.int 0),.c (.int .i64) (.int 0),.nilsl]),(9025,.box [.c .str (.str w_5),.c (.int .i64) (.int w_6),.c (.int .i64) (.int w_7),.c (.int .i64) (.int w_8),.own 9026 [.str,.int .i64,.int .i64,.bool,.bool,.int .i64,.int .i64,.int .i64,.int .i64,.slice 80,.int .i64] 0 w_9.length]),(9026,.row 41 (List.map aj3 w_9)),(9027,.row 41 (List.map aj3 l_3))]
def ayu (n:Nat) (d:aj4) (w_5:List UInt8) (w_6:Int) (w_7:Int) (w_8:Int) (w_9:List aj4) (l_3:List aj4) (done_2:Bool) (k:Int):Option (((List aj4)×Bool×Int) ⊕ (((List aj4)×Bool))) :=
 some (.inl (l_3,done_2,(IntKind.wrap .i64 (k+1))))
abbrev dqg (d:aj4) (w_5:List UInt8) (w_6:Int) (w_7:Int) (w_8:Int) (w_9:List aj4) (l_4:List aj4) (done_3:Bool) (k:Int):S:=stB [(5,.box 9028 0),(6,.box 9029 0),(7,.box 9030 0),(8,.own 9032 [.str,.int .i64,.int .i64,.bool,.bool,.int .i64,.int .i64,.int .i64,.int .i64,.slice 80,.int .i64] 0 l_4.length),(9,.c .bool (.bool done_3)),(10,.c (.int .i64) (.int k))] [(9028,.box [.c .str (.str d.Name),.c (.int .i64) (.int d.Dcb.Org),.c (.int .i64) (.int d.Dcb.Format),.c .bool (.bool d.Dcb.Blocked),.c .bool (.bool d.Dcb.Asa),.c (.int .i64) (.int d.Dcb.Lrecl),.c (.int .i64) (.int d.Dcb.Blksize),.c (.int .i64) (.int d.Dcb.KeyLen),.c (.int .i64) (.int d.Dcb.KeyPos),.c (.slice 80) (.slice (List.map aj1 d.Extents)),.c (.int .i64) (.int d.Used)]),(9029,.box [.c .str (.str []),.c (.int .i64) (.int 0),.c (.int .i64) (.int 0),.c (.int .i64) (.int 0),.nilsl]),(9030,.box [.c .str (.str w_5),.c (.int .i64) (.int w_6),.c (.int .i64) (.int w_7),.c (.int .i64) (.int w_8),.own 9031 [.str,.int .i64,.int .i64,.bool,.bool,.int .i64,.int .i64,.int .i64,.int .i64,.slice 80,.int .i64] 0 w_9.length]),(9031,.row 41 (List.map aj3 w_9)),(9032,.row 41 (List.map aj3 l_4))]
def akt (n:Nat) (d:aj4) (w_5:List UInt8) (w_6:Int) (w_7:Int) (w_8:Int) (w_9:List aj4) (l_4:List aj4) (done_3:Bool) (k:Int):Option (((List aj4)×Bool×Int) ⊕ (((List aj4)×Bool))) :=
 gd ((0≤k∧k < (w_9.length:Int))∧(Int.toNat k) < w_9.length∧(l_4.length+1)≤2147483648) <|
 ayu n d w_5 w_6 w_7 w_8 w_9 (l_4 ++ [(gt w_9 (Int.toNat k))]) done_3 k
abbrev djy (d:aj4) (w_5:List UInt8) (w_6:Int) (w_7:Int) (w_8:Int) (w_9:List aj4) (l_2:List aj4) (done_1:Bool) (k:Int):S:=stB [(5,.box 9018 0),(6,.box 9019 0),(7,.box 9020 0),(8,.own 9022 [.str,.int .i64,.int .i64,.bool,.bool,.int .i64,.int .i64,.int .i64,.int .i64,.slice 80,.int .i64] 0 l_2.length),(9,.c .bool (.bool done_1)),(10,.c (.int .i64) (.int k))] [(9018,.box [.c .str (.str d.Name),.c (.int .i64) (.int d.Dcb.Org),.c (.int .i64) (.int d.Dcb.Format),.c .bool (.bool d.Dcb.Blocked),.c .bool (.bool d.Dcb.Asa),.c (.int .i64) (.int d.Dcb.Lrecl),.c (.int .i64) (.int d.Dcb.Blksize),.c (.int .i64) (.int d.Dcb.KeyLen),.c (.int .i64) (.int d.Dcb.KeyPos),.c (.slice 80) (.slice (List.map aj1 d.Extents)),.c (.int .i64) (.int d.Used)]),(9019,.box [.c .str (.str []),.c (.int .i64) (.int 0),.c (.int .i64) (.int 0),.c (.int .i64) (.int 0),.nilsl]),(9020,.box [.c .str (.str w_5),.c (.int .i64) (.int w_6),.c (.int .i64) (.int w_7),.c (.int .i64) (.int w_8),.own 9021 [.str,.int .i64,.int .i64,.bool,.bool,.int .i64,.int .i64,.int .i64,.int .i64,.slice 80,.int .i64] 0 w_9.length]),(9021,.row 41 (List.map aj3 w_9)),(9022,.row 41 (List.map aj3 l_2))]
def awf (n:Nat) (d:aj4) (w_5:List UInt8) (w_6:Int) (w_7:Int) (w_8:Int) (w_9:List aj4) (l_2:List aj4) (done_1:Bool) (k:Int):Option (((List aj4)×Bool×Int) ⊕ (((List aj4)×Bool))) :=
 bif (decide (k < ((w_9.length:Nat):Int))) then
  gd (((!done_1)=true→(0≤k∧k < (w_9.length:Int)))∧((!done_1)=true→(Int.toNat k) < w_9.length)) <|
  bif (if (!done_1)=true then (Op.bytesLess d.Name ((gt w_9 (Int.toNat k)).Name)) else false) then
   gd ((l_2.length+1)≤2147483648) <|
   akt n d w_5 w_6 w_7 w_8 w_9 (l_2 ++ [d]) true k
  else
   akt n d w_5 w_6 w_7 w_8 w_9 l_2 done_1 k
 else
  some (.inr (l_2,done_1))
def ay4 (n:Nat) (v:aj5) (name:List UInt8) (d:aj4):Option aj5 :=
 (ayz n v name).bind fun r1 =>
 (ajj (fun (x:(List aj4)×Bool×Int)=>awf n d r1.Serial r1.Cyls r1.Heads r1.Size r1.Sets x.1 x.2.1 x.2.2) n ([],false,0)).bind fun y11 =>
 bkf n d r1.Serial r1.Cyls r1.Heads r1.Size r1.Sets y11.1 y11.2
def azv (n:Nat):Go.AE.Fn:=mkFn (A:=aj5×(List UInt8)×aj4) (R:=aj5) 133 [(true,[.str,.int .i64,.int .i64,.int .i64,.slice 41]),(false,[.str]),(true,[.str,.int .i64,.int .i64,.bool,.bool,.int .i64,.int .i64,.int .i64,.int .i64,.slice 80,.int .i64])] true (fun xs=>((⟨(cg (xs.getD 0 []) 0).toStr,(cg (xs.getD 0 []) 1).toInt,(cg (xs.getD 0 []) 2).toInt,(cg (xs.getD 0 []) 3).toInt,((cg (xs.getD 0 []) 4).toSl.map aqd)⟩:aj5),(cg (xs.getD 1 []) 0).toStr,(⟨(cg (xs.getD 2 []) 0).toStr,(⟨(cg (xs.getD 2 []) 1).toInt,(cg (xs.getD 2 []) 2).toInt,(cg (xs.getD 2 []) 3).toBool,(cg (xs.getD 2 []) 4).toBool,(cg (xs.getD 2 []) 5).toInt,(cg (xs.getD 2 []) 6).toInt,(cg (xs.getD 2 []) 7).toInt,(cg (xs.getD 2 []) 8).toInt⟩:TDcb),((cg (xs.getD 2 []) 9).toSl.map ajm),(cg (xs.getD 2 []) 10).toInt⟩:aj4))) (fun a=>[[.str a.1.Serial,.int a.1.Cyls,.int a.1.Heads,.int a.1.Size,.slice (List.map aj3 a.1.Sets)],[.str a.2.1],[.str a.2.2.Name,.int a.2.2.Dcb.Org,.int a.2.2.Dcb.Format,.bool a.2.2.Dcb.Blocked,.bool a.2.2.Dcb.Asa,.int a.2.2.Dcb.Lrecl,.int a.2.2.Dcb.Blksize,.int a.2.2.Dcb.KeyLen,.int a.2.2.Dcb.KeyPos,.slice (List.map aj1 a.2.2.Extents),.int a.2.2.Used]]) (fun a=>ay4 n a.1 a.2.1 a.2.2) (fun r=>[.agg [.c .str (.str r.Serial),.c (.int .i64) (.int r.Cyls),.c (.int .i64) (.int r.Heads),.c (.int .i64) (.int r.Size),.own 0 [.str,.int .i64,.int .i64,.bool,.bool,.int .i64,.int .i64,.int .i64,.int .i64,.slice 80,.int .i64] 0 r.Sets.length]]) (fun r=>[.row 41 (List.map aj3 r.Sets)])
theorem by8 (n:Nat):aj2 Tryz.prog (azv n):=by
 have hΓ:=g1 (cyr n) (@g0 (aj2 Tryz.prog))
 refine aj8 (Tryz.f133.body.getD .skip) h00 Tryz.func133 rfl Tryz.call133 (by decide) (by intro h;cases h) ?_
 rintro ⟨v,name,d⟩ r H
 try dsimp only at H
 unfold ay4 at H
 simp only [Tryz.f133,Option.getD]
 refine rA ?_
 obtain ⟨r1,hr1,H⟩:=bind_some H
 have q:=And.intro @cjm.eq_1 hr1
 refine rAq ?_
 refine rA ?_
 refine rA ?_
 refine Sm.cut (fun (x:(List UInt8)×Int×Int×Int×(List aj4)×(List aj4)×Bool)=>dw7 d x.1 x.2.1 x.2.2.1 x.2.2.2.1 x.2.2.2.2.1 x.2.2.2.2.2.1 x.2.2.2.2.2.2) (fun x=>bkf n d x.1 x.2.1 x.2.2.1 x.2.2.2.1 x.2.2.2.2.1 x.2.2.2.2.2.1 x.2.2.2.2.2.2=some r) ?_ ?_
 ·refine rA ?_
  refine Sm.block ?_
  obtain ⟨y11,hy11,Ho11⟩:=bind_some H
  refine Sm.loopB _ (fun x=>djy d r1.Serial r1.Cyls r1.Heads r1.Size r1.Sets x.1 x.2.1 x.2.2) hy11 (wb [some 80,some 96,some 112,some 208,none]) ?_
  rintro ⟨l_2,done_1,k⟩ z11 H
  try dsimp only at H
  unfold awf at H
  refine Sm.st (djy.eq_1 ..) ?_
  refine Sm.seqK fun K12 hK12=>?_
  refine rA ?_
  refine cnd H (fun h14 H=>?_) (fun h14 H=>?_)
  ·refine Sm.skip ?_
   refine hK12 _ ?_
   refine Sm.cut (fun (x:(List aj4)×Bool)=>dqy d r1.Serial r1.Cyls r1.Heads r1.Size r1.Sets x.1 x.2 k) (fun x=>ayu n d r1.Serial r1.Cyls r1.Heads r1.Size r1.Sets x.1 x.2 k=some z11) ?_ ?_
   ·refine Sm.block ?_
    refine Sm.cut (fun (x:(List aj4)×Bool)=>dqg d r1.Serial r1.Cyls r1.Heads r1.Size r1.Sets x.1 x.2 k) (fun x=>akt n d r1.Serial r1.Cyls r1.Heads r1.Size r1.Sets x.1 x.2 k=some z11) ?_ ?_
    ·obtain ⟨⟨hg22,hg23⟩,H⟩:=aj7 H
     refine rD ?_
     refine cnd H (fun h19 H=>?_) (fun h19 H=>?_)
     ·obtain ⟨hg21,H⟩:=aj7 H
      refine rA ?_
      refine eA ?_
      refine lf ?_
      exact ⟨((l_2 ++ [d]),true),H,wb [some 9018,some 9019,some 9020,some 9021,some 592]⟩
     refine Sm.skip ?_
     refine lf ?_
     exact ⟨(l_2,done_1),H,wb [some 9018,some 9019,some 9020,some 9021,some 9022]⟩
    rintro ⟨l_4,done_3⟩ H
    try dsimp only at H
    unfold akt at H
    refine Sm.st (dqg.eq_1 ..) ?_
    obtain ⟨⟨hg15,hg16,hg17⟩,H⟩:=aj7 H
    refine eA ?_
    refine lf ?_
    exact ⟨((l_4 ++ [(gt r1.Sets (Int.toNat k))]),done_3),H,wb [some 9028,some 9029,some 9030,some 9031,some 720]⟩
   rintro ⟨l_3,done_2⟩ H
   try dsimp only at H
   unfold ayu at H
   refine Sm.st (dqy.eq_1 ..) ?_
   refine eA ?_
   refine lf ?_
   exact nx H (wb [some 9023,some 9024,some 9025,some 9026,some 9027])
  refine Sm.exit ?_
  refine lf ?_
  refine lx H fun hyy=>?_
  subst hyy
  have H:=Ho11
  try dsimp only at H
  refine lf ?_
  exact ⟨(r1.Serial,r1.Cyls,r1.Heads,r1.Size,r1.Sets,l_2,done_1),H,wb [some 9018,some 9019,some 9020,some 9021,some 9022]⟩
 rintro ⟨w,w_1,w_2,w_3,w_4,l,done⟩ H
 try dsimp only at H
 unfold bkf at H
 refine Sm.st (dw7.eq_1 ..) ?_
 refine Sm.cut (fun (x:(List aj4))=>dwb w w_1 w_2 w_3 w_4 x) (fun x=>bke n w w_1 w_2 w_3 w_4 x=some r) ?_ ?_
 ·refine rA ?_
  refine cnd H (fun h8 H=>?_) (fun h8 H=>?_)
  ·obtain ⟨hg9,H⟩:=aj7 H
   refine eA ?_
   refine lf ?_
   exact ⟨_,H,wb [some 9001,some 9002,some 9003,some 816]⟩
  refine Sm.skip ?_
  refine lf ?_
  exact ⟨_,H,wb [some 9001,some 9002,some 9003,some 9004]⟩
 rintro l_1 H
 try dsimp only at H
 unfold bke at H
 refine Sm.st (dwb.eq_1 ..) ?_
 refine rA ?_
 refine rA ?_
 refine Sm.ret ?_
 refine lf ?_
 obtain rfl:=Option.some.inj H
 exact rto [some 9008]
def bzr (n:Nat) (v:aj5) (d:aj4) (tracks:Int):Option (aj5×Int) :=
 (bq0 n v).bind fun r1 =>
 bif (!r1) then
  some ((⟨[],0,0,0,[]⟩:aj5),5)
 else
  (bwy n d.Name).bind fun r2 =>
  gd (((!(!r2))=true→(aq0 n d.Dcb).isSome=true)) <|
  bif (if (if (!r2)=true then true else (!((aq0 n d.Dcb).getD default)))=true then true else (decide (tracks < 1))) then
   some ((⟨[],0,0,0,[]⟩:aj5),1)
  else
   (aws n v d.Name).bind fun r3 =>
   bif (decide (r3 ≥ 0)) then
    some ((⟨[],0,0,0,[]⟩:aj5),4)
   else
    bif (if (decide ((v.Sets.length:Int) ≥ 64))=true then true else (decide ((v.Sets.length:Int) ≥ (IntKind.wrap .i64 (14 * v.Size))))) then
     some ((⟨[],0,0,0,[]⟩:aj5),7)
    else
     (bqm n v).bind fun r4 =>
     (bww n r4 tracks 8).bind fun r5 =>
     bif (r5.2.2 != 0) then
      some ((⟨[],0,0,0,[]⟩:aj5),r5.2.2)
     else
      (ay4 n v [] (⟨d.Name,d.Dcb,r5.1,0⟩:aj4)).bind fun r6 =>
      some (r6,0)
def aku (n:Nat):Go.AE.Fn:=mkFn (A:=aj5×aj4×Int) (R:=aj5×Int) 78 [(true,[.str,.int .i64,.int .i64,.int .i64,.slice 41]),(true,[.str,.int .i64,.int .i64,.bool,.bool,.int .i64,.int .i64,.int .i64,.int .i64,.slice 80,.int .i64]),(false,[.int .i64])] true (fun xs=>((⟨(cg (xs.getD 0 []) 0).toStr,(cg (xs.getD 0 []) 1).toInt,(cg (xs.getD 0 []) 2).toInt,(cg (xs.getD 0 []) 3).toInt,((cg (xs.getD 0 []) 4).toSl.map aqd)⟩:aj5),(⟨(cg (xs.getD 1 []) 0).toStr,(⟨(cg (xs.getD 1 []) 1).toInt,(cg (xs.getD 1 []) 2).toInt,(cg (xs.getD 1 []) 3).toBool,(cg (xs.getD 1 []) 4).toBool,(cg (xs.getD 1 []) 5).toInt,(cg (xs.getD 1 []) 6).toInt,(cg (xs.getD 1 []) 7).toInt,(cg (xs.getD 1 []) 8).toInt⟩:TDcb),((cg (xs.getD 1 []) 9).toSl.map ajm),(cg (xs.getD 1 []) 10).toInt⟩:aj4),(cg (xs.getD 2 []) 0).toInt)) (fun a=>[[.str a.1.Serial,.int a.1.Cyls,.int a.1.Heads,.int a.1.Size,.slice (List.map aj3 a.1.Sets)],[.str a.2.1.Name,.int a.2.1.Dcb.Org,.int a.2.1.Dcb.Format,.bool a.2.1.Dcb.Blocked,.bool a.2.1.Dcb.Asa,.int a.2.1.Dcb.Lrecl,.int a.2.1.Dcb.Blksize,.int a.2.1.Dcb.KeyLen,.int a.2.1.Dcb.KeyPos,.slice (List.map aj1 a.2.1.Extents),.int a.2.1.Used],[.int a.2.2]]) (fun a=>bzr n a.1 a.2.1 a.2.2) (fun r=>[.agg [.c .str (.str r.1.Serial),.c (.int .i64) (.int r.1.Cyls),.c (.int .i64) (.int r.1.Heads),.c (.int .i64) (.int r.1.Size),.own 0 [.str,.int .i64,.int .i64,.bool,.bool,.int .i64,.int .i64,.int .i64,.int .i64,.slice 80,.int .i64] 0 r.1.Sets.length],.c (.int .i64) (.int r.2)]) (fun r=>[.row 41 (List.map aj3 r.1.Sets)])
theorem ezs (n:Nat):aj2 Tryz.prog (aku n):=by
 have hΓ:=g1 (cz2 n) (g1 (dj6 n) (g1 (bka n) (g1 (bqp n) (g1 (djf n) (g1 (eje n) (g1 (by8 n) (@g0 (aj2 Tryz.prog))))))))
 refine aj8 (Tryz.f78.body.getD .skip) h00 Tryz.func78 rfl Tryz.call78 (by decide) (by intro h;cases h) ?_
 rintro ⟨v,d,tracks⟩ r H
 try dsimp only at H
 unfold bzr at H
 simp only [Tryz.f78,Option.getD]
 refine rA ?_
 refine Sm.seqK fun K2 hK2=>?_
 obtain ⟨r1,hr1,H⟩:=bind_some H
 have q:=And.intro @awz.eq_1 hr1
 refine rAq ?_
 refine cnd H (fun h4 H=>?_) (fun h4 H=>?_)
 ·refine rA ?_
  refine Sm.ret ?_
  refine lf ?_
  obtain rfl:=Option.some.inj H
  exact rto [none]
 refine Sm.skip ?_
 refine hK2 _ ?_
 refine Sm.seqK fun K6 hK6=>?_
 obtain ⟨r2,hr2,H⟩:=bind_some H
 obtain ⟨hg24,H⟩:=aj7 H
 have q:=And.intro @awz.eq_1 (And.intro @azr.eq_1 (And.intro @aqf.eq_1 hr2))
 refine rAq ?_
 refine cnd H (fun h8 H=>?_) (fun h8 H=>?_)
 ·refine rA ?_
  refine Sm.ret ?_
  refine lf ?_
  obtain rfl:=Option.some.inj H
  exact rto [none]
 refine Sm.skip ?_
 refine hK6 _ ?_
 refine Sm.seqK fun K10 hK10=>?_
 obtain ⟨r3,hr3,H⟩:=bind_some H
 have q:=And.intro @awz.eq_1 (And.intro @azr.eq_1 (And.intro @aqf.eq_1 (And.intro @ajx.eq_1 hr3)))
 refine rAq ?_
 refine cnd H (fun h12 H=>?_) (fun h12 H=>?_)
 ·refine rA ?_
  refine Sm.ret ?_
  refine lf ?_
  obtain rfl:=Option.some.inj H
  exact rto [none]
 refine Sm.skip ?_
 refine hK10 _ ?_
 refine Sm.seqK fun K14 hK14=>?_
 refine rA ?_
 refine cnd H (fun h16 H=>?_) (fun h16 H=>?_)
 ·refine rA ?_
  refine Sm.ret ?_
  refine lf ?_
  obtain rfl:=Option.some.inj H
  exact rto [none]
 refine Sm.skip ?_
 refine hK14 _ ?_
 obtain ⟨r4,hr4,H⟩:=bind_some H
 obtain ⟨r5,hr5,H⟩:=bind_some H
 have q:=And.intro @awz.eq_1 (And.intro @azr.eq_1 (And.intro @aqf.eq_1 (And.intro @ajx.eq_1 (And.intro @bjy.eq_1 (And.intro @bz1.eq_1 (And.intro hr4 hr5))))))
 refine rAq ?_
 refine Sm.seqK fun K19 hK19=>?_
 refine rA ?_
 refine cnd H (fun h21 H=>?_) (fun h21 H=>?_)
 ·refine rA ?_
  refine Sm.ret ?_
  refine lf ?_
  obtain rfl:=Option.some.inj H
  exact rto [none]
 refine Sm.skip ?_
 refine hK19 _ ?_
 obtain ⟨r6,hr6,H⟩:=bind_some H
 have q:=And.intro @awz.eq_1 (And.intro @azr.eq_1 (And.intro @aqf.eq_1 (And.intro @ajx.eq_1 (And.intro @bjy.eq_1 (And.intro @bz1.eq_1 (And.intro @azv.eq_1 hr6))))))
 refine rAq ?_
 refine Sm.ret ?_
 refine lf ?_
 obtain rfl:=Option.some.inj H
 exact rto [some 1104]
def aks (n:Nat) (v:aj5) (name:List UInt8):Option Int :=
 (bq0 n v).bind fun r1 =>
 bif (!r1) then
  some 5
 else
  (aws n v name).bind fun r2 =>
  bif (decide (r2 < 0)) then
   some 3
  else
   some 0
def ajp (n:Nat):Go.AE.Fn:=mkFn (A:=aj5×(List UInt8)) (R:=Int) 134 [(true,[.str,.int .i64,.int .i64,.int .i64,.slice 41]),(false,[.str])] false (fun xs=>((⟨(cg (xs.getD 0 []) 0).toStr,(cg (xs.getD 0 []) 1).toInt,(cg (xs.getD 0 []) 2).toInt,(cg (xs.getD 0 []) 3).toInt,((cg (xs.getD 0 []) 4).toSl.map aqd)⟩:aj5),(cg (xs.getD 1 []) 0).toStr)) (fun a=>[[.str a.1.Serial,.int a.1.Cyls,.int a.1.Heads,.int a.1.Size,.slice (List.map aj3 a.1.Sets)],[.str a.2]]) (fun a=>aks n a.1 a.2) (fun r=>[.c (.int .i64) (.int r)]) (fun r=>[])
theorem bzk (n:Nat):aj2 Tryz.prog (ajp n):=by
 have hΓ:=g1 (cz2 n) (g1 (bqp n) (@g0 (aj2 Tryz.prog)))
 refine aj8 (Tryz.f134.body.getD .skip) h00 Tryz.func134 rfl Tryz.call134 (by decide) (by intro _ r;exact ⟨rfl,by simp⟩) ?_
 rintro ⟨v,name⟩ r H
 try dsimp only at H
 unfold aks at H
 simp only [Tryz.f134,Option.getD]
 refine rA ?_
 refine Sm.seqK fun K2 hK2=>?_
 obtain ⟨r1,hr1,H⟩:=bind_some H
 have q:=And.intro @awz.eq_1 hr1
 refine rAq ?_
 refine cnd H (fun h4 H=>?_) (fun h4 H=>?_)
 ·refine rA ?_
  refine Sm.ret ?_
  refine lf ?_
  obtain rfl:=Option.some.inj H
  exact rt []
 refine Sm.skip ?_
 refine hK2 _ ?_
 refine Sm.seqK fun K6 hK6=>?_
 obtain ⟨r2,hr2,H⟩:=bind_some H
 have q:=And.intro @awz.eq_1 (And.intro @ajx.eq_1 hr2)
 refine rAq ?_
 refine cnd H (fun h8 H=>?_) (fun h8 H=>?_)
 ·refine rA ?_
  refine Sm.ret ?_
  refine lf ?_
  obtain rfl:=Option.some.inj H
  exact rt []
 refine Sm.skip ?_
 refine hK6 _ ?_
 refine rA ?_
 refine Sm.ret ?_
 refine lf ?_
 obtain rfl:=Option.some.inj H
 exact rt []
def bzp (n:Nat) (v:aj5) (name:List UInt8) (tracks:Int):Option (aj5×Int) :=
 (aks n v name).bind fun r1 =>
 bif (r1 != 0) then
  some ((⟨[],0,0,0,[]⟩:aj5),r1)
 else
  (aws n v name).bind fun r2 =>
  gd ((0≤r2∧r2 < (v.Sets.length:Int))) <|
  bif (decide (tracks < 1)) then
   some ((⟨[],0,0,0,[]⟩:aj5),1)
  else
   bif ((((gt v.Sets (Int.toNat r2)).Extents).length:Int) == 8) then
    some ((⟨[],0,0,0,[]⟩:aj5),200)
   else
    (bqm n v).bind fun r3 =>
    (bww n r3 tracks (IntKind.wrap .i64 (8 - (((gt v.Sets (Int.toNat r2)).Extents).length:Int)))).bind fun r4 =>
    bif (r4.2.2 != 0) then
     some ((⟨[],0,0,0,[]⟩:aj5),r4.2.2)
    else
     gd (((gt v.Sets (Int.toNat r2)).Extents).length≤2147483648∧(((gt v.Sets (Int.toNat r2)).Extents).length+r4.1.length)≤2147483648) <|
     (ay4 n v name (⟨(gt v.Sets (Int.toNat r2)).Name,((gt v.Sets (Int.toNat r2)).Dcb),((gt v.Sets (Int.toNat r2)).Extents ++ r4.1),(gt v.Sets (Int.toNat r2)).Used⟩:aj4)).bind fun r5 =>
     some (r5,0)
def bj5 (n:Nat):Go.AE.Fn:=mkFn (A:=aj5×(List UInt8)×Int) (R:=aj5×Int) 79 [(true,[.str,.int .i64,.int .i64,.int .i64,.slice 41]),(false,[.str]),(false,[.int .i64])] true (fun xs=>((⟨(cg (xs.getD 0 []) 0).toStr,(cg (xs.getD 0 []) 1).toInt,(cg (xs.getD 0 []) 2).toInt,(cg (xs.getD 0 []) 3).toInt,((cg (xs.getD 0 []) 4).toSl.map aqd)⟩:aj5),(cg (xs.getD 1 []) 0).toStr,(cg (xs.getD 2 []) 0).toInt)) (fun a=>[[.str a.1.Serial,.int a.1.Cyls,.int a.1.Heads,.int a.1.Size,.slice (List.map aj3 a.1.Sets)],[.str a.2.1],[.int a.2.2]]) (fun a=>bzp n a.1 a.2.1 a.2.2) (fun r=>[.agg [.c .str (.str r.1.Serial),.c (.int .i64) (.int r.1.Cyls),.c (.int .i64) (.int r.1.Heads),.c (.int .i64) (.int r.1.Size),.own 0 [.str,.int .i64,.int .i64,.bool,.bool,.int .i64,.int .i64,.int .i64,.int .i64,.slice 80,.int .i64] 0 r.1.Sets.length],.c (.int .i64) (.int r.2)]) (fun r=>[.row 41 (List.map aj3 r.1.Sets)])
theorem ek7 (n:Nat):aj2 Tryz.prog (bj5 n):=by
 have hΓ:=g1 (bzk n) (g1 (bqp n) (g1 (djf n) (g1 (eje n) (g1 (by8 n) (@g0 (aj2 Tryz.prog))))))
 refine aj8 (Tryz.f79.body.getD .skip) h00 Tryz.func79 rfl Tryz.call79 (by decide) (by intro h;cases h) ?_
 rintro ⟨v,name,tracks⟩ r H
 try dsimp only at H
 unfold bzp at H
 simp only [Tryz.f79,Option.getD]
 refine rA ?_
 obtain ⟨r1,hr1,H⟩:=bind_some H
 have q:=And.intro @ajp.eq_1 hr1
 refine rAq ?_
 refine Sm.seqK fun K3 hK3=>?_
 refine rA ?_
 refine cnd H (fun h5 H=>?_) (fun h5 H=>?_)
 ·refine rA ?_
  refine Sm.ret ?_
  refine lf ?_
  obtain rfl:=Option.some.inj H
  exact rto [none]
 refine Sm.skip ?_
 refine hK3 _ ?_
 obtain ⟨r2,hr2,H⟩:=bind_some H
 obtain ⟨hg8,H⟩:=aj7 H
 refine sQ [0,1,2,3,4,5,6,7,8] [(none,[48],[]),(none,[48],[]),(none,[48],[]),(none,[],[]),(none,[],[399,398,397,396,395,394,393,392,391,390,389,388,387,386,385,384]),(none,[],[]),(none,[],[]),(none,[],[144]),(none,[144],[144])] fun K7 hK7=>?_
 have q:=And.intro @ajp.eq_1 (And.intro @ajx.eq_1 (And.intro @bjy.eq_1 (And.intro @bz1.eq_1 (And.intro @azv.eq_1 hr2))))
 iterate 9 refine oQq ?_
 refine cw0 ?_
 refine hK7 _ ?_
 refine Sm.seqK fun K9 hK9=>?_
 refine rA ?_
 refine cnd H (fun h11 H=>?_) (fun h11 H=>?_)
 ·refine rA ?_
  refine Sm.ret ?_
  refine lf ?_
  obtain rfl:=Option.some.inj H
  exact rto [none]
 refine Sm.skip ?_
 refine hK9 _ ?_
 refine Sm.seqK fun K13 hK13=>?_
 refine rA ?_
 refine cnd H (fun h15 H=>?_) (fun h15 H=>?_)
 ·refine rA ?_
  refine Sm.ret ?_
  refine lf ?_
  obtain rfl:=Option.some.inj H
  exact rto [none]
 refine Sm.skip ?_
 refine hK13 _ ?_
 obtain ⟨r3,hr3,H⟩:=bind_some H
 obtain ⟨r4,hr4,H⟩:=bind_some H
 refine sQ [0,1,2,3,4,5,6,7,8,9,10,11,12,13,14] [(none,[48],[]),(none,[],[607,606,605,604,603,602,601,600,599,598,597,596,595,594,593,592]),(none,[],[]),(none,[144],[]),(none,[144],[]),(none,[],[]),(none,[],[]),(none,[592],[703,702,701,700,699,698,697,696,695,694,693,692,691,690,689,688,592]),(none,[],[]),(none,[],[]),(none,[],[]),(none,[],[]),(none,[],[]),(none,[],[]),(none,[],[])] fun K17 hK17=>?_
 have q:=And.intro @ajp.eq_1 (And.intro @ajx.eq_1 (And.intro @bjy.eq_1 (And.intro @bz1.eq_1 (And.intro @azv.eq_1 (And.intro hr3 hr4)))))
 iterate 15 refine oQq ?_
 refine cw0 ?_
 refine hK17 _ ?_
 refine Sm.seqK fun K18 hK18=>?_
 refine rA ?_
 refine cnd H (fun h20 H=>?_) (fun h20 H=>?_)
 ·refine rA ?_
  refine Sm.ret ?_
  refine lf ?_
  obtain rfl:=Option.some.inj H
  exact rto [none]
 refine Sm.skip ?_
 refine hK18 _ ?_
 obtain ⟨⟨hg24,hg25⟩,H⟩:=aj7 H
 refine rA ?_
 obtain ⟨r5,hr5,H⟩:=bind_some H
 have q:=And.intro @ajp.eq_1 (And.intro @ajx.eq_1 (And.intro @bjy.eq_1 (And.intro @bz1.eq_1 (And.intro @azv.eq_1 hr5))))
 refine rAq ?_
 refine Sm.ret ?_
 refine lf ?_
 obtain rfl:=Option.some.inj H
 exact rto [some 976]
abbrev dju (kept:List aj0) (rest:List aj0):S:=stB [(6,.own 9000 [.int .i64,.int .i64] 0 kept.length),(7,.own 9001 [.int .i64,.int .i64] 0 rest.length)] [(9000,.row 80 (List.map aj1 kept)),(9001,.row 80 (List.map aj1 rest))]
def bkg (n:Nat) (kept:List aj0) (rest:List aj0):Option ((List aj0)×(List aj0)) :=
 (bq7 n kept).bind fun r2 =>
 (bq7 n rest).bind fun r3 =>
 some (r2,r3)
abbrev dqu (l:List aj0) (n__1:Int) (kept_1:List aj0) (rest_1:List aj0) (i:Int):S:=stB [(0,.c (.slice 80) (.slice (List.map aj1 l))),(1,.c (.int .i64) (.int n__1)),(6,.own 9004 [.int .i64,.int .i64] 0 kept_1.length),(7,.own 9005 [.int .i64,.int .i64] 0 rest_1.length),(8,.c (.int .i64) (.int i))] [(9004,.row 80 (List.map aj1 kept_1)),(9005,.row 80 (List.map aj1 rest_1))]
def ayy (n:Nat) (l:List aj0) (n__1:Int) (kept_1:List aj0) (rest_1:List aj0) (i:Int):Option ((Int×(List aj0)×(List aj0)×Int) ⊕ (((List aj0)×(List aj0)))) :=
 bif (decide (i < (l.length:Int))) then
  gd ((0≤i∧i < (l.length:Int))) <|
  gd ((0≤i∧i < (l.length:Int))∧(kept_1.length+1)≤2147483648) <|
  gd ((0≤i∧i < (l.length:Int))∧(0≤i∧i < (l.length:Int))∧(rest_1.length+1)≤2147483648) <|
  some (.inl ((IntKind.wrap .i64 ((if n__1 > 0 then n__1 else 0) - (if (if ((gt l (Int.toNat i)).Len) < n__1 then ((gt l (Int.toNat i)).Len) else n__1) > 0 then (if ((gt l (Int.toNat i)).Len) < n__1 then ((gt l (Int.toNat i)).Len) else n__1) else 0))),(kept_1 ++ [(⟨(gt l (Int.toNat i)).At,(if (if ((gt l (Int.toNat i)).Len) < n__1 then ((gt l (Int.toNat i)).Len) else n__1) > 0 then (if ((gt l (Int.toNat i)).Len) < n__1 then ((gt l (Int.toNat i)).Len) else n__1) else 0)⟩:aj0)]),(rest_1 ++ [(⟨(IntKind.wrap .i64 (((gt l (Int.toNat i)).At)+(if (if ((gt l (Int.toNat i)).Len) < n__1 then ((gt l (Int.toNat i)).Len) else n__1) > 0 then (if ((gt l (Int.toNat i)).Len) < n__1 then ((gt l (Int.toNat i)).Len) else n__1) else 0))),(IntKind.wrap .i64 (((gt l (Int.toNat i)).Len) - (if (if ((gt l (Int.toNat i)).Len) < n__1 then ((gt l (Int.toNat i)).Len) else n__1) > 0 then (if ((gt l (Int.toNat i)).Len) < n__1 then ((gt l (Int.toNat i)).Len) else n__1) else 0)))⟩:aj0)]),(IntKind.wrap .i64 (i+1))))
 else
  some (.inr (kept_1,rest_1))
def cql (n:Nat) (l:List aj0) (n_:Int):Option ((List aj0)×(List aj0)) :=
 (az3 n l).bind fun r1 =>
 bif (!r1) then
  some ([],[])
 else
  (ajj (fun (x:Int×(List aj0)×(List aj0)×Int)=>ayy n l x.1 x.2.1 x.2.2.1 x.2.2.2) n (n_,[],[],0)).bind fun y9 =>
  bkg n y9.1 y9.2
def djd (n:Nat):Go.AE.Fn:=mkFn (A:=(List aj0)×Int) (R:=(List aj0)×(List aj0)) 135 [(false,[.slice 80]),(false,[.int .i64])] false (fun xs=>(((cg (xs.getD 0 []) 0).toSl.map ajm),(cg (xs.getD 1 []) 0).toInt)) (fun a=>[[.slice (List.map aj1 a.1)],[.int a.2]]) (fun a=>cql n a.1 a.2) (fun r=>[.own 0 [.int .i64,.int .i64] 0 r.1.length,.own 1 [.int .i64,.int .i64] 0 r.2.length]) (fun r=>[.row 80 (List.map aj1 r.1),.row 80 (List.map aj1 r.2)])
theorem fz7 (n:Nat):aj2 Tryz.prog (djd n):=by
 have hΓ:=g1 (cj9 n) (g1 (dye n) (@g0 (aj2 Tryz.prog)))
 refine aj8 (Tryz.f135.body.getD .skip) h00 Tryz.func135 rfl Tryz.call135 (by decide) (fun _ r=>⟨rfl,m1 ⟨80,_,_,rfl,ty80,rfl⟩ (m1 ⟨80,_,_,rfl,ty80,rfl⟩ m0)⟩) ?_
 rintro ⟨l,n_⟩ r H
 try dsimp only at H
 unfold cql at H
 simp only [Tryz.f135,Option.getD]
 refine rA ?_
 refine Sm.seqK fun K2 hK2=>?_
 obtain ⟨r1,hr1,H⟩:=bind_some H
 have q:=And.intro @akl.eq_1 hr1
 refine rAq ?_
 refine cnd H (fun h4 H=>?_) (fun h4 H=>?_)
 ·refine rA ?_
  refine Sm.ret ?_
  refine lf ?_
  obtain rfl:=Option.some.inj H
  exact rto [none,none]
 refine Sm.skip ?_
 refine hK2 _ ?_
 refine rA ?_
 refine Sm.cut (fun (x:(List aj0)×(List aj0))=>dju x.1 x.2) (fun x=>bkg n x.1 x.2=some r) ?_ ?_
 ·refine rA ?_
  refine Sm.block ?_
  obtain ⟨y9,hy9,Ho9⟩:=bind_some H
  refine Sm.loopB _ (fun x=>dqu l x.1 x.2.1 x.2.2.1 x.2.2.2) hy9 (wb [none,none]) ?_
  rintro ⟨n__1,kept_1,rest_1,i⟩ z9 H
  try dsimp only at H
  unfold ayy at H
  refine Sm.st (dqu.eq_1 ..) ?_
  refine Sm.seqK fun K10 hK10=>?_
  refine rA ?_
  refine cnd H (fun h12 H=>?_) (fun h12 H=>?_)
  ·refine Sm.skip ?_
   refine hK10 _ ?_
   refine Sm.seqK fun K13 hK13=>?_
   refine Sm.block ?_
   obtain ⟨hg22,H⟩:=aj7 H
   refine rA ?_
   obtain ⟨⟨hg20,hg21⟩,H⟩:=aj7 H
   refine rA ?_
   obtain ⟨⟨hg17,hg18,hg19⟩,H⟩:=aj7 H
   refine rD ?_
   refine eA ?_
   refine hK13 _ ?_
   refine eA ?_
   refine lf ?_
   exact nx H (wb [some 576,some 864])
  refine Sm.exit ?_
  refine lf ?_
  refine lx H fun hyy=>?_
  subst hyy
  have H:=Ho9
  try dsimp only at H
  refine lf ?_
  exact ⟨(kept_1,rest_1),H,wb [some 9004,some 9005]⟩
 rintro ⟨kept,rest⟩ H
 try dsimp only at H
 unfold bkg at H
 refine Sm.st (dju.eq_1 ..) ?_
 obtain ⟨r2,hr2,H⟩:=bind_some H
 obtain ⟨r3,hr3,H⟩:=bind_some H
 have q:=And.intro @akl.eq_1 (And.intro @cw8.eq_1 (And.intro hr2 hr3))
 refine rAq ?_
 refine Sm.ret ?_
 refine lf ?_
 obtain rfl:=Option.some.inj H
 exact rto [some 960,some 992]
abbrev cwg (name:List UInt8) (v:aj5) (d:List UInt8) (d_1:Int) (d_2:Int) (d_3:Bool) (d_4:Bool) (d_5:Int) (d_6:Int) (d_7:Int) (d_8:Int) (d_9:List aj0) (d_10:Int) (n__1:Int):S:=stB [(1,.c .str (.str name)),(3,.box 9003 0),(6,.box 9004 0),(9,.box 9005 0),(10,.c (.int .i64) (.int n__1))] [(9003,.box [.c .str (.str v.Serial),.c (.int .i64) (.int v.Cyls),.c (.int .i64) (.int v.Heads),.c (.int .i64) (.int v.Size),.c (.slice 41) (.slice (List.map aj3 v.Sets))]),(9004,.box [.c .str (.str []),.c (.int .i64) (.int 0),.c (.int .i64) (.int 0),.c (.int .i64) (.int 0),.nilsl]),(9005,.box [.c .str (.str d),.c (.int .i64) (.int d_1),.c (.int .i64) (.int d_2),.c .bool (.bool d_3),.c .bool (.bool d_4),.c (.int .i64) (.int d_5),.c (.int .i64) (.int d_6),.c (.int .i64) (.int d_7),.c (.int .i64) (.int d_8),.c (.slice 80) (.slice (List.map aj1 d_9)),.c (.int .i64) (.int d_10)])]
def azc (n:Nat) (name:List UInt8) (v:aj5) (d:List UInt8) (d_1:Int) (d_2:Int) (d_3:Bool) (d_4:Bool) (d_5:Int) (d_6:Int) (d_7:Int) (d_8:Int) (d_9:List aj0) (d_10:Int) (n__1:Int):Option (aj5×Int) :=
 (cql n d_9 n__1).bind fun r3 =>
 (ay4 n v name (⟨d,(⟨d_1,d_2,d_3,d_4,d_5,d_6,d_7,d_8⟩:TDcb),r3.1,d_10⟩:aj4)).bind fun r4 =>
 some (r4,0)
abbrev cwr (name:List UInt8) (v:aj5) (d:List UInt8) (d_1:Int) (d_2:Int) (d_3:Bool) (d_4:Bool) (d_5:Int) (d_6:Int) (d_7:Int) (d_8:Int) (d_9:List aj0) (d_10:Int) (n_:Int):S:=stB [(1,.c .str (.str name)),(3,.box 9000 0),(6,.box 9001 0),(9,.box 9002 0),(10,.c (.int .i64) (.int n_))] [(9000,.box [.c .str (.str v.Serial),.c (.int .i64) (.int v.Cyls),.c (.int .i64) (.int v.Heads),.c (.int .i64) (.int v.Size),.c (.slice 41) (.slice (List.map aj3 v.Sets))]),(9001,.box [.c .str (.str []),.c (.int .i64) (.int 0),.c (.int .i64) (.int 0),.c (.int .i64) (.int 0),.nilsl]),(9002,.box [.c .str (.str d),.c (.int .i64) (.int d_1),.c (.int .i64) (.int d_2),.c .bool (.bool d_3),.c .bool (.bool d_4),.c (.int .i64) (.int d_5),.c (.int .i64) (.int d_6),.c (.int .i64) (.int d_7),.c (.int .i64) (.int d_8),.c (.slice 80) (.slice (List.map aj1 d_9)),.c (.int .i64) (.int d_10)])]
def azd (n:Nat) (name:List UInt8) (v:aj5) (d:List UInt8) (d_1:Int) (d_2:Int) (d_3:Bool) (d_4:Bool) (d_5:Int) (d_6:Int) (d_7:Int) (d_8:Int) (d_9:List aj0) (d_10:Int) (n_:Int):Option (aj5×Int) :=
 bif (decide (d_10 > n_)) then
  azc n name v d d_1 d_2 d_3 d_4 d_5 d_6 d_7 d_8 d_9 d_10 d_10
 else
  azc n name v d d_1 d_2 d_3 d_4 d_5 d_6 d_7 d_8 d_9 d_10 n_
def bqy (n:Nat) (v:aj5) (name:List UInt8) (keep:Int):Option (aj5×Int) :=
 (aks n v name).bind fun r1 =>
 bif (r1 != 0) then
  some ((⟨[],0,0,0,[]⟩:aj5),r1)
 else
  (aws n v name).bind fun r2 =>
  gd ((0≤r2∧r2 < (v.Sets.length:Int))) <|
  bif (decide (keep > 1)) then
   azd n name v ((gt v.Sets (Int.toNat r2)).Name) (((gt v.Sets (Int.toNat r2)).Dcb).Org) (((gt v.Sets (Int.toNat r2)).Dcb).Format) (((gt v.Sets (Int.toNat r2)).Dcb).Blocked) (((gt v.Sets (Int.toNat r2)).Dcb).Asa) (((gt v.Sets (Int.toNat r2)).Dcb).Lrecl) (((gt v.Sets (Int.toNat r2)).Dcb).Blksize) (((gt v.Sets (Int.toNat r2)).Dcb).KeyLen) (((gt v.Sets (Int.toNat r2)).Dcb).KeyPos) ((gt v.Sets (Int.toNat r2)).Extents) ((gt v.Sets (Int.toNat r2)).Used) keep
  else
   azd n name v ((gt v.Sets (Int.toNat r2)).Name) (((gt v.Sets (Int.toNat r2)).Dcb).Org) (((gt v.Sets (Int.toNat r2)).Dcb).Format) (((gt v.Sets (Int.toNat r2)).Dcb).Blocked) (((gt v.Sets (Int.toNat r2)).Dcb).Asa) (((gt v.Sets (Int.toNat r2)).Dcb).Lrecl) (((gt v.Sets (Int.toNat r2)).Dcb).Blksize) (((gt v.Sets (Int.toNat r2)).Dcb).KeyLen) (((gt v.Sets (Int.toNat r2)).Dcb).KeyPos) ((gt v.Sets (Int.toNat r2)).Extents) ((gt v.Sets (Int.toNat r2)).Used) 1
def bjp (n:Nat):Go.AE.Fn:=mkFn (A:=aj5×(List UInt8)×Int) (R:=aj5×Int) 80 [(true,[.str,.int .i64,.int .i64,.int .i64,.slice 41]),(false,[.str]),(false,[.int .i64])] true (fun xs=>((⟨(cg (xs.getD 0 []) 0).toStr,(cg (xs.getD 0 []) 1).toInt,(cg (xs.getD 0 []) 2).toInt,(cg (xs.getD 0 []) 3).toInt,((cg (xs.getD 0 []) 4).toSl.map aqd)⟩:aj5),(cg (xs.getD 1 []) 0).toStr,(cg (xs.getD 2 []) 0).toInt)) (fun a=>[[.str a.1.Serial,.int a.1.Cyls,.int a.1.Heads,.int a.1.Size,.slice (List.map aj3 a.1.Sets)],[.str a.2.1],[.int a.2.2]]) (fun a=>bqy n a.1 a.2.1 a.2.2) (fun r=>[.agg [.c .str (.str r.1.Serial),.c (.int .i64) (.int r.1.Cyls),.c (.int .i64) (.int r.1.Heads),.c (.int .i64) (.int r.1.Size),.own 0 [.str,.int .i64,.int .i64,.bool,.bool,.int .i64,.int .i64,.int .i64,.int .i64,.slice 80,.int .i64] 0 r.1.Sets.length],.c (.int .i64) (.int r.2)]) (fun r=>[.row 41 (List.map aj3 r.1.Sets)])
theorem eqg (n:Nat):aj2 Tryz.prog (bjp n):=by
 have hΓ:=g1 (bzk n) (g1 (bqp n) (g1 (fz7 n) (g1 (by8 n) (@g0 (aj2 Tryz.prog)))))
 refine aj8 (Tryz.f80.body.getD .skip) h00 Tryz.func80 rfl Tryz.call80 (by decide) (by intro h;cases h) ?_
 rintro ⟨v,name,keep⟩ r H
 try dsimp only at H
 unfold bqy at H
 simp only [Tryz.f80,Option.getD]
 refine rA ?_
 obtain ⟨r1,hr1,H⟩:=bind_some H
 have q:=And.intro @ajp.eq_1 hr1
 refine rAq ?_
 refine Sm.seqK fun K3 hK3=>?_
 refine rA ?_
 refine cnd H (fun h5 H=>?_) (fun h5 H=>?_)
 ·refine rA ?_
  refine Sm.ret ?_
  refine lf ?_
  obtain rfl:=Option.some.inj H
  exact rto [none]
 refine Sm.skip ?_
 refine hK3 _ ?_
 obtain ⟨r2,hr2,H⟩:=bind_some H
 obtain ⟨hg8,H⟩:=aj7 H
 refine sQ [0,1,2,3,4,5,6,7,8] [(none,[48],[]),(none,[48],[]),(none,[48],[]),(none,[],[]),(none,[],[367,366,365,364,363,362,361,360,359,358,357,356,355,354,353,352]),(none,[],[]),(none,[],[]),(none,[],[144]),(none,[144],[144])] fun K7 hK7=>?_
 have q:=And.intro @ajp.eq_1 (And.intro @ajx.eq_1 hr2)
 iterate 9 refine oQq ?_
 refine cw0 ?_
 refine hK7 _ ?_
 refine rA ?_
 refine Sm.cut (fun (x:Int)=>cwr name v ((gt v.Sets (Int.toNat r2)).Name) (((gt v.Sets (Int.toNat r2)).Dcb).Org) (((gt v.Sets (Int.toNat r2)).Dcb).Format) (((gt v.Sets (Int.toNat r2)).Dcb).Blocked) (((gt v.Sets (Int.toNat r2)).Dcb).Asa) (((gt v.Sets (Int.toNat r2)).Dcb).Lrecl) (((gt v.Sets (Int.toNat r2)).Dcb).Blksize) (((gt v.Sets (Int.toNat r2)).Dcb).KeyLen) (((gt v.Sets (Int.toNat r2)).Dcb).KeyPos) ((gt v.Sets (Int.toNat r2)).Extents) ((gt v.Sets (Int.toNat r2)).Used) x) (fun x=>azd n name v ((gt v.Sets (Int.toNat r2)).Name) (((gt v.Sets (Int.toNat r2)).Dcb).Org) (((gt v.Sets (Int.toNat r2)).Dcb).Format) (((gt v.Sets (Int.toNat r2)).Dcb).Blocked) (((gt v.Sets (Int.toNat r2)).Dcb).Asa) (((gt v.Sets (Int.toNat r2)).Dcb).Lrecl) (((gt v.Sets (Int.toNat r2)).Dcb).Blksize) (((gt v.Sets (Int.toNat r2)).Dcb).KeyLen) (((gt v.Sets (Int.toNat r2)).Dcb).KeyPos) ((gt v.Sets (Int.toNat r2)).Extents) ((gt v.Sets (Int.toNat r2)).Used) x=some r) ?_ ?_
 ·refine rA ?_
  refine cnd H (fun h15 H=>?_) (fun h15 H=>?_)
  ·refine eA ?_
   refine lf ?_
   exact ⟨_,H,wb [some 48,some 96,some 144]⟩
  refine Sm.skip ?_
  refine lf ?_
  exact ⟨_,H,wb [some 48,some 96,some 144]⟩
 rintro n_ H
 try dsimp only at H
 unfold azd at H
 refine Sm.st (cwr.eq_1 ..) ?_
 refine Sm.cut (fun (x:Int)=>cwg name v ((gt v.Sets (Int.toNat r2)).Name) (((gt v.Sets (Int.toNat r2)).Dcb).Org) (((gt v.Sets (Int.toNat r2)).Dcb).Format) (((gt v.Sets (Int.toNat r2)).Dcb).Blocked) (((gt v.Sets (Int.toNat r2)).Dcb).Asa) (((gt v.Sets (Int.toNat r2)).Dcb).Lrecl) (((gt v.Sets (Int.toNat r2)).Dcb).Blksize) (((gt v.Sets (Int.toNat r2)).Dcb).KeyLen) (((gt v.Sets (Int.toNat r2)).Dcb).KeyPos) ((gt v.Sets (Int.toNat r2)).Extents) ((gt v.Sets (Int.toNat r2)).Used) x) (fun x=>azc n name v ((gt v.Sets (Int.toNat r2)).Name) (((gt v.Sets (Int.toNat r2)).Dcb).Org) (((gt v.Sets (Int.toNat r2)).Dcb).Format) (((gt v.Sets (Int.toNat r2)).Dcb).Blocked) (((gt v.Sets (Int.toNat r2)).Dcb).Asa) (((gt v.Sets (Int.toNat r2)).Dcb).Lrecl) (((gt v.Sets (Int.toNat r2)).Dcb).Blksize) (((gt v.Sets (Int.toNat r2)).Dcb).KeyLen) (((gt v.Sets (Int.toNat r2)).Dcb).KeyPos) ((gt v.Sets (Int.toNat r2)).Extents) ((gt v.Sets (Int.toNat r2)).Used) x=some r) ?_ ?_
 ·refine rA ?_
  refine cnd H (fun h13 H=>?_) (fun h13 H=>?_)
  ·refine eA ?_
   refine lf ?_
   exact ⟨_,H,wb [some 9000,some 9001,some 9002]⟩
  refine Sm.skip ?_
  refine lf ?_
  exact ⟨_,H,wb [some 9000,some 9001,some 9002]⟩
 rintro n__1 H
 try dsimp only at H
 unfold azc at H
 refine Sm.st (cwg.eq_1 ..) ?_
 obtain ⟨r3,hr3,H⟩:=bind_some H
 have q:=And.intro @ajp.eq_1 (And.intro @ajx.eq_1 (And.intro @djd.eq_1 hr3))
 refine rAq ?_
 obtain ⟨r4,hr4,H⟩:=bind_some H
 have q:=And.intro @ajp.eq_1 (And.intro @ajx.eq_1 (And.intro @djd.eq_1 (And.intro @azv.eq_1 hr4)))
 refine rAq ?_
 refine Sm.ret ?_
 refine lf ?_
 obtain rfl:=Option.some.inj H
 exact rto [some 736]
def bzo (n:Nat) (v:aj5) (name:List UInt8) (c:TDcb) (used:Int):Option (aj5×Int) :=
 (aks n v name).bind fun r1 =>
 bif (r1 != 0) then
  some ((⟨[],0,0,0,[]⟩:aj5),r1)
 else
  (aws n v name).bind fun r2 =>
  gd ((0≤r2∧r2 < (v.Sets.length:Int))) <|
  (aq0 n c).bind fun r3 =>
  bif (!r3) then
   some ((⟨[],0,0,0,[]⟩:aj5),1)
  else
   (ayi n ((gt v.Sets (Int.toNat r2)).Extents)).bind fun r4 =>
   (ajl n used 0 r4).bind fun r5 =>
   bif (!r5) then
    some ((⟨[],0,0,0,[]⟩:aj5),6)
   else
    (ay4 n v name (⟨(gt v.Sets (Int.toNat r2)).Name,c,(gt v.Sets (Int.toNat r2)).Extents,used⟩:aj4)).bind fun r6 =>
    some (r6,0)
def bkt (n:Nat):Go.AE.Fn:=mkFn (A:=aj5×(List UInt8)×TDcb×Int) (R:=aj5×Int) 81 [(true,[.str,.int .i64,.int .i64,.int .i64,.slice 41]),(false,[.str]),(true,[.int .i64,.int .i64,.bool,.bool,.int .i64,.int .i64,.int .i64,.int .i64]),(false,[.int .i64])] true (fun xs=>((⟨(cg (xs.getD 0 []) 0).toStr,(cg (xs.getD 0 []) 1).toInt,(cg (xs.getD 0 []) 2).toInt,(cg (xs.getD 0 []) 3).toInt,((cg (xs.getD 0 []) 4).toSl.map aqd)⟩:aj5),(cg (xs.getD 1 []) 0).toStr,(⟨(cg (xs.getD 2 []) 0).toInt,(cg (xs.getD 2 []) 1).toInt,(cg (xs.getD 2 []) 2).toBool,(cg (xs.getD 2 []) 3).toBool,(cg (xs.getD 2 []) 4).toInt,(cg (xs.getD 2 []) 5).toInt,(cg (xs.getD 2 []) 6).toInt,(cg (xs.getD 2 []) 7).toInt⟩:TDcb),(cg (xs.getD 3 []) 0).toInt)) (fun a=>[[.str a.1.Serial,.int a.1.Cyls,.int a.1.Heads,.int a.1.Size,.slice (List.map aj3 a.1.Sets)],[.str a.2.1],[.int a.2.2.1.Org,.int a.2.2.1.Format,.bool a.2.2.1.Blocked,.bool a.2.2.1.Asa,.int a.2.2.1.Lrecl,.int a.2.2.1.Blksize,.int a.2.2.1.KeyLen,.int a.2.2.1.KeyPos],[.int a.2.2.2]]) (fun a=>bzo n a.1 a.2.1 a.2.2.1 a.2.2.2) (fun r=>[.agg [.c .str (.str r.1.Serial),.c (.int .i64) (.int r.1.Cyls),.c (.int .i64) (.int r.1.Heads),.c (.int .i64) (.int r.1.Size),.own 0 [.str,.int .i64,.int .i64,.bool,.bool,.int .i64,.int .i64,.int .i64,.int .i64,.slice 80,.int .i64] 0 r.1.Sets.length],.c (.int .i64) (.int r.2)]) (fun r=>[.row 41 (List.map aj3 r.1.Sets)])
theorem ekt (n:Nat):aj2 Tryz.prog (bkt n):=by
 have hΓ:=g1 (bzk n) (g1 (bqp n) (g1 (bka n) (g1 (dk2 n) (g1 (ck4 n) (g1 (by8 n) (@g0 (aj2 Tryz.prog)))))))
 refine aj8 (Tryz.f81.body.getD .skip) h00 Tryz.func81 rfl Tryz.call81 (by decide) (by intro h;cases h) ?_
 rintro ⟨v,name,c,used⟩ r H
 try dsimp only at H
 unfold bzo at H
 simp only [Tryz.f81,Option.getD]
 refine rA ?_
 obtain ⟨r1,hr1,H⟩:=bind_some H
 have q:=And.intro @ajp.eq_1 hr1
 refine rAq ?_
 refine Sm.seqK fun K3 hK3=>?_
 refine rA ?_
 refine cnd H (fun h5 H=>?_) (fun h5 H=>?_)
 ·refine rA ?_
  refine Sm.ret ?_
  refine lf ?_
  obtain rfl:=Option.some.inj H
  exact rto [none]
 refine Sm.skip ?_
 refine hK3 _ ?_
 obtain ⟨r2,hr2,H⟩:=bind_some H
 obtain ⟨hg8,H⟩:=aj7 H
 refine sQ [0,1,2,3,4,5,6,7,8] [(none,[64],[]),(none,[64],[]),(none,[64],[]),(none,[],[]),(none,[],[383,382,381,380,379,378,377,376,375,374,373,372,371,370,369,368]),(none,[],[]),(none,[],[]),(none,[],[176]),(none,[176],[176])] fun K7 hK7=>?_
 have q:=And.intro @ajp.eq_1 (And.intro @ajx.eq_1 (And.intro @aqf.eq_1 (And.intro @bk5.eq_1 (And.intro @bjq.eq_1 (And.intro @azv.eq_1 hr2)))))
 iterate 9 refine oQq ?_
 refine cw0 ?_
 refine hK7 _ ?_
 refine Sm.seqK fun K9 hK9=>?_
 obtain ⟨r3,hr3,H⟩:=bind_some H
 have q:=And.intro @ajp.eq_1 (And.intro @ajx.eq_1 (And.intro @aqf.eq_1 hr3))
 refine rAq ?_
 refine cnd H (fun h11 H=>?_) (fun h11 H=>?_)
 ·refine rA ?_
  refine Sm.ret ?_
  refine lf ?_
  obtain rfl:=Option.some.inj H
  exact rto [none]
 refine Sm.skip ?_
 refine hK9 _ ?_
 refine Sm.seqK fun K13 hK13=>?_
 obtain ⟨r4,hr4,H⟩:=bind_some H
 obtain ⟨r5,hr5,H⟩:=bind_some H
 have q:=And.intro @ajp.eq_1 (And.intro @ajx.eq_1 (And.intro @aqf.eq_1 (And.intro @bk5.eq_1 (And.intro @bjq.eq_1 (And.intro hr4 hr5)))))
 refine rAq ?_
 refine cnd H (fun h15 H=>?_) (fun h15 H=>?_)
 ·refine rA ?_
  refine Sm.ret ?_
  refine lf ?_
  obtain rfl:=Option.some.inj H
  exact rto [none]
 refine Sm.skip ?_
 refine hK13 _ ?_
 refine rA ?_
 obtain ⟨r6,hr6,H⟩:=bind_some H
 have q:=And.intro @ajp.eq_1 (And.intro @ajx.eq_1 (And.intro @aqf.eq_1 (And.intro @bk5.eq_1 (And.intro @bjq.eq_1 (And.intro @azv.eq_1 hr6)))))
 refine rAq ?_
 refine Sm.ret ?_
 refine lf ?_
 obtain rfl:=Option.some.inj H
 exact rto [some 704]
def bqu (n:Nat) (v:aj5) (name:List UInt8):Option (aj5×Int) :=
 (aks n v name).bind fun r1 =>
 bif (r1 != 0) then
  some ((⟨[],0,0,0,[]⟩:aj5),r1)
 else
  (ayz n v name).bind fun r2 =>
  some (r2,0)
def cjz (n:Nat):Go.AE.Fn:=mkFn (A:=aj5×(List UInt8)) (R:=aj5×Int) 82 [(true,[.str,.int .i64,.int .i64,.int .i64,.slice 41]),(false,[.str])] true (fun xs=>((⟨(cg (xs.getD 0 []) 0).toStr,(cg (xs.getD 0 []) 1).toInt,(cg (xs.getD 0 []) 2).toInt,(cg (xs.getD 0 []) 3).toInt,((cg (xs.getD 0 []) 4).toSl.map aqd)⟩:aj5),(cg (xs.getD 1 []) 0).toStr)) (fun a=>[[.str a.1.Serial,.int a.1.Cyls,.int a.1.Heads,.int a.1.Size,.slice (List.map aj3 a.1.Sets)],[.str a.2]]) (fun a=>bqu n a.1 a.2) (fun r=>[.agg [.c .str (.str r.1.Serial),.c (.int .i64) (.int r.1.Cyls),.c (.int .i64) (.int r.1.Heads),.c (.int .i64) (.int r.1.Size),.own 0 [.str,.int .i64,.int .i64,.bool,.bool,.int .i64,.int .i64,.int .i64,.int .i64,.slice 80,.int .i64] 0 r.1.Sets.length],.c (.int .i64) (.int r.2)]) (fun r=>[.row 41 (List.map aj3 r.1.Sets)])
theorem eqk (n:Nat):aj2 Tryz.prog (cjz n):=by
 have hΓ:=g1 (bzk n) (g1 (cyr n) (@g0 (aj2 Tryz.prog)))
 refine aj8 (Tryz.f82.body.getD .skip) h00 Tryz.func82 rfl Tryz.call82 (by decide) (by intro h;cases h) ?_
 rintro ⟨v,name⟩ r H
 try dsimp only at H
 unfold bqu at H
 simp only [Tryz.f82,Option.getD]
 refine rA ?_
 obtain ⟨r1,hr1,H⟩:=bind_some H
 have q:=And.intro @ajp.eq_1 hr1
 refine rAq ?_
 refine Sm.seqK fun K3 hK3=>?_
 refine rA ?_
 refine cnd H (fun h5 H=>?_) (fun h5 H=>?_)
 ·refine rA ?_
  refine Sm.ret ?_
  refine lf ?_
  obtain rfl:=Option.some.inj H
  exact rto [none]
 refine Sm.skip ?_
 refine hK3 _ ?_
 obtain ⟨r2,hr2,H⟩:=bind_some H
 have q:=And.intro @ajp.eq_1 (And.intro @cjm.eq_1 hr2)
 refine rAq ?_
 refine Sm.ret ?_
 refine lf ?_
 obtain rfl:=Option.some.inj H
 exact rto [some 256]
def bk4 (n:Nat) (v:aj5) (old:List UInt8) (name:List UInt8):Option (aj5×Int) :=
 (aks n v old).bind fun r1 =>
 bif (r1 != 0) then
  some ((⟨[],0,0,0,[]⟩:aj5),r1)
 else
  (bwy n name).bind fun r2 =>
  bif (!r2) then
   some ((⟨[],0,0,0,[]⟩:aj5),1)
  else
   (aws n v name).bind fun r3 =>
   bif (decide (r3 ≥ 0)) then
    some ((⟨[],0,0,0,[]⟩:aj5),4)
   else
    (aws n v old).bind fun r4 =>
    gd ((0≤r4∧r4 < (v.Sets.length:Int))) <|
    (ay4 n v old (⟨name,((gt v.Sets (Int.toNat r4)).Dcb),(gt v.Sets (Int.toNat r4)).Extents,(gt v.Sets (Int.toNat r4)).Used⟩:aj4)).bind fun r5 =>
    some (r5,0)
def dq7 (n:Nat):Go.AE.Fn:=mkFn (A:=aj5×(List UInt8)×(List UInt8)) (R:=aj5×Int) 83 [(true,[.str,.int .i64,.int .i64,.int .i64,.slice 41]),(false,[.str]),(false,[.str])] true (fun xs=>((⟨(cg (xs.getD 0 []) 0).toStr,(cg (xs.getD 0 []) 1).toInt,(cg (xs.getD 0 []) 2).toInt,(cg (xs.getD 0 []) 3).toInt,((cg (xs.getD 0 []) 4).toSl.map aqd)⟩:aj5),(cg (xs.getD 1 []) 0).toStr,(cg (xs.getD 2 []) 0).toStr)) (fun a=>[[.str a.1.Serial,.int a.1.Cyls,.int a.1.Heads,.int a.1.Size,.slice (List.map aj3 a.1.Sets)],[.str a.2.1],[.str a.2.2]]) (fun a=>bk4 n a.1 a.2.1 a.2.2) (fun r=>[.agg [.c .str (.str r.1.Serial),.c (.int .i64) (.int r.1.Cyls),.c (.int .i64) (.int r.1.Heads),.c (.int .i64) (.int r.1.Size),.own 0 [.str,.int .i64,.int .i64,.bool,.bool,.int .i64,.int .i64,.int .i64,.int .i64,.slice 80,.int .i64] 0 r.1.Sets.length],.c (.int .i64) (.int r.2)]) (fun r=>[.row 41 (List.map aj3 r.1.Sets)])
theorem ezp (n:Nat):aj2 Tryz.prog (dq7 n):=by
 have hΓ:=g1 (bzk n) (g1 (dj6 n) (g1 (bqp n) (g1 (by8 n) (@g0 (aj2 Tryz.prog)))))
 refine aj8 (Tryz.f83.body.getD .skip) h00 Tryz.func83 rfl Tryz.call83 (by decide) (by intro h;cases h) ?_
 rintro ⟨v,old,name⟩ r H
 try dsimp only at H
 unfold bk4 at H
 simp only [Tryz.f83,Option.getD]
 refine rA ?_
 obtain ⟨r1,hr1,H⟩:=bind_some H
 have q:=And.intro @ajp.eq_1 hr1
 refine rAq ?_
 refine Sm.seqK fun K3 hK3=>?_
 refine rA ?_
 refine cnd H (fun h5 H=>?_) (fun h5 H=>?_)
 ·refine rA ?_
  refine Sm.ret ?_
  refine lf ?_
  obtain rfl:=Option.some.inj H
  exact rto [none]
 refine Sm.skip ?_
 refine hK3 _ ?_
 refine Sm.seqK fun K7 hK7=>?_
 obtain ⟨r2,hr2,H⟩:=bind_some H
 have q:=And.intro @ajp.eq_1 (And.intro @azr.eq_1 hr2)
 refine rAq ?_
 refine cnd H (fun h9 H=>?_) (fun h9 H=>?_)
 ·refine rA ?_
  refine Sm.ret ?_
  refine lf ?_
  obtain rfl:=Option.some.inj H
  exact rto [none]
 refine Sm.skip ?_
 refine hK7 _ ?_
 refine Sm.seqK fun K11 hK11=>?_
 obtain ⟨r3,hr3,H⟩:=bind_some H
 have q:=And.intro @ajp.eq_1 (And.intro @azr.eq_1 (And.intro @ajx.eq_1 hr3))
 refine rAq ?_
 refine cnd H (fun h13 H=>?_) (fun h13 H=>?_)
 ·refine rA ?_
  refine Sm.ret ?_
  refine lf ?_
  obtain rfl:=Option.some.inj H
  exact rto [none]
 refine Sm.skip ?_
 refine hK11 _ ?_
 obtain ⟨r4,hr4,H⟩:=bind_some H
 obtain ⟨hg16,H⟩:=aj7 H
 refine sQ [0,1,2,3,4,5,6,7,8] [(none,[48],[]),(none,[48],[]),(none,[48],[]),(none,[],[]),(none,[],[495,494,493,492,491,490,489,488,487,486,485,484,483,482,481,480]),(none,[],[]),(none,[],[]),(none,[],[144]),(none,[144],[144])] fun K15 hK15=>?_
 have q:=And.intro @ajp.eq_1 (And.intro @azr.eq_1 (And.intro @ajx.eq_1 (And.intro @azv.eq_1 hr4)))
 iterate 9 refine oQq ?_
 refine cw0 ?_
 refine hK15 _ ?_
 refine rA ?_
 obtain ⟨r5,hr5,H⟩:=bind_some H
 have q:=And.intro @ajp.eq_1 (And.intro @azr.eq_1 (And.intro @ajx.eq_1 (And.intro @azv.eq_1 hr5)))
 refine rAq ?_
 refine Sm.ret ?_
 refine lf ?_
 obtain rfl:=Option.some.inj H
 exact rto [some 608]
def bky (n:Nat) (v:aj5) (a:TAct):Option (aj5×Int) :=
 bif ((Int.tmod a.Kind 6) == 0) then
  (bzr n v (⟨a.Name,a.Dcb,[],0⟩:aj4) a.N).bind fun r1 =>
  some (r1.1,r1.2)
 else
  bif ((Int.tmod a.Kind 6) == 1) then
   (bzp n v a.Name a.N).bind fun r2 =>
   some (r2.1,r2.2)
  else
   bif ((Int.tmod a.Kind 6) == 2) then
    (bqy n v a.Name a.N).bind fun r3 =>
    some (r3.1,r3.2)
   else
    bif ((Int.tmod a.Kind 6) == 3) then
     (bzo n v a.Name a.Dcb a.N).bind fun r4 =>
     some (r4.1,r4.2)
    else
     bif ((Int.tmod a.Kind 6) == 4) then
      (bqu n v a.Name).bind fun r5 =>
      some (r5.1,r5.2)
     else
      (bk4 n v a.Name a.To).bind fun r6 =>
      some (r6.1,r6.2)
def cj1 (n:Nat):Go.AE.Fn:=mkFn (A:=aj5×TAct) (R:=aj5×Int) 37 [(true,[.str,.int .i64,.int .i64,.int .i64,.slice 41]),(true,[.int .u8,.str,.str,.int .i64,.int .i64,.bool,.bool,.int .i64,.int .i64,.int .i64,.int .i64,.int .i64])] true (fun xs=>((⟨(cg (xs.getD 0 []) 0).toStr,(cg (xs.getD 0 []) 1).toInt,(cg (xs.getD 0 []) 2).toInt,(cg (xs.getD 0 []) 3).toInt,((cg (xs.getD 0 []) 4).toSl.map aqd)⟩:aj5),(⟨(cg (xs.getD 1 []) 0).toInt,(cg (xs.getD 1 []) 1).toStr,(cg (xs.getD 1 []) 2).toStr,(⟨(cg (xs.getD 1 []) 3).toInt,(cg (xs.getD 1 []) 4).toInt,(cg (xs.getD 1 []) 5).toBool,(cg (xs.getD 1 []) 6).toBool,(cg (xs.getD 1 []) 7).toInt,(cg (xs.getD 1 []) 8).toInt,(cg (xs.getD 1 []) 9).toInt,(cg (xs.getD 1 []) 10).toInt⟩:TDcb),(cg (xs.getD 1 []) 11).toInt⟩:TAct))) (fun a=>[[.str a.1.Serial,.int a.1.Cyls,.int a.1.Heads,.int a.1.Size,.slice (List.map aj3 a.1.Sets)],[.int a.2.Kind,.str a.2.Name,.str a.2.To,.int a.2.Dcb.Org,.int a.2.Dcb.Format,.bool a.2.Dcb.Blocked,.bool a.2.Dcb.Asa,.int a.2.Dcb.Lrecl,.int a.2.Dcb.Blksize,.int a.2.Dcb.KeyLen,.int a.2.Dcb.KeyPos,.int a.2.N]]) (fun a=>bky n a.1 a.2) (fun r=>[.agg [.c .str (.str r.1.Serial),.c (.int .i64) (.int r.1.Cyls),.c (.int .i64) (.int r.1.Heads),.c (.int .i64) (.int r.1.Size),.own 0 [.str,.int .i64,.int .i64,.bool,.bool,.int .i64,.int .i64,.int .i64,.int .i64,.slice 80,.int .i64] 0 r.1.Sets.length],.c (.int .i64) (.int r.2)]) (fun r=>[.row 41 (List.map aj3 r.1.Sets)])
theorem fwp (n:Nat):aj2 Tryz.prog (cj1 n):=by
 have hΓ:=g1 (ezs n) (g1 (ek7 n) (g1 (eqg n) (g1 (ekt n) (g1 (eqk n) (g1 (ezp n) (@g0 (aj2 Tryz.prog)))))))
 refine aj8 (Tryz.f37.body.getD .skip) h00 Tryz.func37 rfl Tryz.call37 (by decide) (by intro h;cases h) ?_
 rintro ⟨v,a⟩ r H
 try dsimp only at H
 unfold bky at H
 simp only [Tryz.f37,Option.getD]
 refine rA ?_
 refine Sm.seqK fun K2 hK2=>?_
 refine rA ?_
 refine Sm.block ?_
 refine rA ?_
 refine cnd H (fun h5 H=>?_) (fun h5 H=>?_)
 ·obtain ⟨r1,hr1,H⟩:=bind_some H
  have q:=And.intro @aku.eq_1 hr1
  refine rAq ?_
  refine Sm.ret ?_
  refine lf ?_
  obtain rfl:=Option.some.inj H
  exact rto [some 304]
 refine rA ?_
 refine cnd H (fun h8 H=>?_) (fun h8 H=>?_)
 ·obtain ⟨r2,hr2,H⟩:=bind_some H
  have q:=And.intro @aku.eq_1 (And.intro @bj5.eq_1 hr2)
  refine rAq ?_
  refine Sm.ret ?_
  refine lf ?_
  obtain rfl:=Option.some.inj H
  exact rto [some 464]
 refine rA ?_
 refine cnd H (fun h11 H=>?_) (fun h11 H=>?_)
 ·obtain ⟨r3,hr3,H⟩:=bind_some H
  have q:=And.intro @aku.eq_1 (And.intro @bj5.eq_1 (And.intro @bjp.eq_1 hr3))
  refine rAq ?_
  refine Sm.ret ?_
  refine lf ?_
  obtain rfl:=Option.some.inj H
  exact rto [some 624]
 refine rA ?_
 refine cnd H (fun h14 H=>?_) (fun h14 H=>?_)
 ·obtain ⟨r4,hr4,H⟩:=bind_some H
  have q:=And.intro @aku.eq_1 (And.intro @bj5.eq_1 (And.intro @bjp.eq_1 (And.intro @bkt.eq_1 hr4)))
  refine rAq ?_
  refine Sm.ret ?_
  refine lf ?_
  obtain rfl:=Option.some.inj H
  exact rto [some 816]
 refine rA ?_
 refine cnd H (fun h17 H=>?_) (fun h17 H=>?_)
 ·obtain ⟨r5,hr5,H⟩:=bind_some H
  have q:=And.intro @aku.eq_1 (And.intro @bj5.eq_1 (And.intro @bjp.eq_1 (And.intro @bkt.eq_1 (And.intro @cjz.eq_1 hr5))))
  refine rAq ?_
  refine Sm.ret ?_
  refine lf ?_
  obtain rfl:=Option.some.inj H
  exact rto [some 944]
 refine Sm.skip ?_
 refine hK2 _ ?_
 obtain ⟨r6,hr6,H⟩:=bind_some H
 have q:=And.intro @aku.eq_1 (And.intro @bj5.eq_1 (And.intro @bjp.eq_1 (And.intro @bkt.eq_1 (And.intro @cjz.eq_1 (And.intro @dq7.eq_1 hr6)))))
 refine rAq ?_
 refine Sm.ret ?_
 refine lf ?_
 obtain rfl:=Option.some.inj H
 exact rto [some 1072]
abbrev cwk:S:=stB [] []
def bju (n:Nat):Option Bool :=
 some true
abbrev cwu (a:aj4) (b:aj4) (k:Int):S:=stB [(2,.box 9002 0),(3,.box 9003 0),(5,.c (.int .i64) (.int k))] [(9002,.box [.c .str (.str a.Name),.c (.int .i64) (.int a.Dcb.Org),.c (.int .i64) (.int a.Dcb.Format),.c .bool (.bool a.Dcb.Blocked),.c .bool (.bool a.Dcb.Asa),.c (.int .i64) (.int a.Dcb.Lrecl),.c (.int .i64) (.int a.Dcb.Blksize),.c (.int .i64) (.int a.Dcb.KeyLen),.c (.int .i64) (.int a.Dcb.KeyPos),.c (.slice 80) (.slice (List.map aj1 a.Extents)),.c (.int .i64) (.int a.Used)]),(9003,.box [.c .str (.str b.Name),.c (.int .i64) (.int b.Dcb.Org),.c (.int .i64) (.int b.Dcb.Format),.c .bool (.bool b.Dcb.Blocked),.c .bool (.bool b.Dcb.Asa),.c (.int .i64) (.int b.Dcb.Lrecl),.c (.int .i64) (.int b.Dcb.Blksize),.c (.int .i64) (.int b.Dcb.KeyLen),.c (.int .i64) (.int b.Dcb.KeyPos),.c (.slice 80) (.slice (List.map aj1 b.Extents)),.c (.int .i64) (.int b.Used)])]
def akx (n:Nat) (a:aj4) (b:aj4) (k:Int):Option ((Int) ⊕ (((Bool) ⊕ (Unit)))) :=
 bif (decide (k < (a.Extents.length:Int))) then
  gd ((0≤k∧k < (a.Extents.length:Int))∧(0≤k∧k < (b.Extents.length:Int))) <|
  bif (!((((gt a.Extents (Int.toNat k)).At) == ((gt b.Extents (Int.toNat k)).At)) && (((gt a.Extents (Int.toNat k)).Len) == ((gt b.Extents (Int.toNat k)).Len)))) then
   some (.inr (.inl false))
  else
   some (.inl (IntKind.wrap .i64 (k+1)))
 else
  some (.inr (.inr ()))
def bwm (n:Nat) (a:aj4) (b:aj4):Option Bool :=
 bif (if (if (if (a.Name != b.Name)=true then true else (!((a.Dcb.Org == b.Dcb.Org) && ((a.Dcb.Format == b.Dcb.Format) && ((a.Dcb.Blocked == b.Dcb.Blocked) && ((a.Dcb.Asa == b.Dcb.Asa) && ((a.Dcb.Lrecl == b.Dcb.Lrecl) && ((a.Dcb.Blksize == b.Dcb.Blksize) && ((a.Dcb.KeyLen == b.Dcb.KeyLen) && (a.Dcb.KeyPos == b.Dcb.KeyPos))))))))))=true then true else (a.Used != b.Used))=true then true else ((a.Extents.length:Int) != (b.Extents.length:Int))) then
  some false
 else
  (ajj (fun (x:Int)=>akx n a b x) n 0).bind fun y8 =>
  match y8 with
  | .inl vv =>
   some vv
  | .inr vv =>
   bju n
def cyq (n:Nat):Go.AE.Fn:=mkFn (A:=aj4×aj4) (R:=Bool) 26 [(true,[.str,.int .i64,.int .i64,.bool,.bool,.int .i64,.int .i64,.int .i64,.int .i64,.slice 80,.int .i64]),(true,[.str,.int .i64,.int .i64,.bool,.bool,.int .i64,.int .i64,.int .i64,.int .i64,.slice 80,.int .i64])] false (fun xs=>((⟨(cg (xs.getD 0 []) 0).toStr,(⟨(cg (xs.getD 0 []) 1).toInt,(cg (xs.getD 0 []) 2).toInt,(cg (xs.getD 0 []) 3).toBool,(cg (xs.getD 0 []) 4).toBool,(cg (xs.getD 0 []) 5).toInt,(cg (xs.getD 0 []) 6).toInt,(cg (xs.getD 0 []) 7).toInt,(cg (xs.getD 0 []) 8).toInt⟩:TDcb),((cg (xs.getD 0 []) 9).toSl.map ajm),(cg (xs.getD 0 []) 10).toInt⟩:aj4),(⟨(cg (xs.getD 1 []) 0).toStr,(⟨(cg (xs.getD 1 []) 1).toInt,(cg (xs.getD 1 []) 2).toInt,(cg (xs.getD 1 []) 3).toBool,(cg (xs.getD 1 []) 4).toBool,(cg (xs.getD 1 []) 5).toInt,(cg (xs.getD 1 []) 6).toInt,(cg (xs.getD 1 []) 7).toInt,(cg (xs.getD 1 []) 8).toInt⟩:TDcb),((cg (xs.getD 1 []) 9).toSl.map ajm),(cg (xs.getD 1 []) 10).toInt⟩:aj4))) (fun a=>[[.str a.1.Name,.int a.1.Dcb.Org,.int a.1.Dcb.Format,.bool a.1.Dcb.Blocked,.bool a.1.Dcb.Asa,.int a.1.Dcb.Lrecl,.int a.1.Dcb.Blksize,.int a.1.Dcb.KeyLen,.int a.1.Dcb.KeyPos,.slice (List.map aj1 a.1.Extents),.int a.1.Used],[.str a.2.Name,.int a.2.Dcb.Org,.int a.2.Dcb.Format,.bool a.2.Dcb.Blocked,.bool a.2.Dcb.Asa,.int a.2.Dcb.Lrecl,.int a.2.Dcb.Blksize,.int a.2.Dcb.KeyLen,.int a.2.Dcb.KeyPos,.slice (List.map aj1 a.2.Extents),.int a.2.Used]]) (fun a=>bwm n a.1 a.2) (fun r=>[.c .bool (.bool r)]) (fun r=>[])
theorem equ (n:Nat):aj2 Tryz.prog (cyq n):=by
 have hΓ:=@g0 (aj2 Tryz.prog)
 refine aj8 (Tryz.f26.body.getD .skip) h00 Tryz.func26 rfl Tryz.call26 (by decide) (by intro _ r;exact ⟨rfl,by simp⟩) ?_
 rintro ⟨a,b⟩ r H
 try dsimp only at H
 unfold bwm at H
 simp only [Tryz.f26,Option.getD]
 refine rA ?_
 refine Sm.seqK fun K2 hK2=>?_
 refine rA ?_
 refine cnd H (fun h4 H=>?_) (fun h4 H=>?_)
 ·refine rA ?_
  refine Sm.ret ?_
  refine lf ?_
  obtain rfl:=Option.some.inj H
  exact rt []
 refine Sm.skip ?_
 refine hK2 _ ?_
 refine Sm.cut (fun (x:Unit)=>cwk) (fun x=>bju n=some r) ?_ ?_
 ·refine rA ?_
  refine Sm.block ?_
  obtain ⟨y8,hy8,Ho8⟩:=bind_some H
  refine Sm.loopB _ (fun x=>cwu a b x) hy8 (wb [some 32,some 48]) ?_
  rintro k z8 H
  try dsimp only at H
  unfold akx at H
  refine Sm.st (cwu.eq_1 ..) ?_
  refine Sm.seqK fun K9 hK9=>?_
  refine rA ?_
  refine cnd H (fun h11 H=>?_) (fun h11 H=>?_)
  ·refine Sm.skip ?_
   refine hK9 _ ?_
   refine Sm.seqK fun K12 hK12=>?_
   refine Sm.block ?_
   obtain ⟨⟨hg16,hg17⟩,H⟩:=aj7 H
   refine rD ?_
   refine cnd H (fun h14 H=>?_) (fun h14 H=>?_)
   ·refine rA ?_
    refine Sm.ret ?_
    refine lf ?_
    refine lx H fun hyy=>?_
    subst hyy
    have H:=Ho8
    try dsimp only at H
    refine lf ?_
    obtain rfl:=Option.some.inj H
    exact rt []
   refine Sm.skip ?_
   refine hK12 _ ?_
   refine eA ?_
   refine lf ?_
   exact nx H (wb [some 9002,some 9003])
  refine Sm.exit ?_
  refine lf ?_
  refine lx H fun hyy=>?_
  subst hyy
  have H:=Ho8
  try dsimp only at H
  refine lf ?_
  exact ⟨(),H,wb []⟩
 rintro ⟨⟩ H
 try dsimp only at H
 unfold bju at H
 refine Sm.st (cwk.eq_1 ..) ?_
 refine rA ?_
 refine Sm.ret ?_
 refine lf ?_
 obtain rfl:=Option.some.inj H
 exact rt []
abbrev dqm:S:=stB [] []
def bki (n:Nat):Option Bool :=
 some true
abbrev djz (a:aj5) (b:aj5) (k:Int):S:=stB [(2,.box 9002 0),(3,.box 9003 0),(5,.c (.int .i64) (.int k))] [(9002,.box [.c .str (.str a.Serial),.c (.int .i64) (.int a.Cyls),.c (.int .i64) (.int a.Heads),.c (.int .i64) (.int a.Size),.c (.slice 41) (.slice (List.map aj3 a.Sets))]),(9003,.box [.c .str (.str b.Serial),.c (.int .i64) (.int b.Cyls),.c (.int .i64) (.int b.Heads),.c (.int .i64) (.int b.Size),.c (.slice 41) (.slice (List.map aj3 b.Sets))])]
def bqt (n:Nat) (a:aj5) (b:aj5) (k:Int):Option ((Int) ⊕ (((Bool) ⊕ (Unit)))) :=
 bif (decide (k < (a.Sets.length:Int))) then
  gd ((0≤k∧k < (a.Sets.length:Int))∧(0≤k∧k < (b.Sets.length:Int))) <|
  (bwm n (gt a.Sets (Int.toNat k)) (gt b.Sets (Int.toNat k))).bind fun r1 =>
  bif (!r1) then
   some (.inr (.inl false))
  else
   some (.inl (IntKind.wrap .i64 (k+1)))
 else
  some (.inr (.inr ()))
def cqa (n:Nat) (a:aj5) (b:aj5):Option Bool :=
 bif (if (if (if (if (a.Serial != b.Serial)=true then true else (a.Cyls != b.Cyls))=true then true else (a.Heads != b.Heads))=true then true else (a.Size != b.Size))=true then true else ((a.Sets.length:Int) != (b.Sets.length:Int))) then
  some false
 else
  (ajj (fun (x:Int)=>bqt n a b x) n 0).bind fun y8 =>
  match y8 with
  | .inl vv =>
   some vv
  | .inr vv =>
   bki n
def cqw (n:Nat):Go.AE.Fn:=mkFn (A:=aj5×aj5) (R:=Bool) 19 [(true,[.str,.int .i64,.int .i64,.int .i64,.slice 41]),(true,[.str,.int .i64,.int .i64,.int .i64,.slice 41])] false (fun xs=>((⟨(cg (xs.getD 0 []) 0).toStr,(cg (xs.getD 0 []) 1).toInt,(cg (xs.getD 0 []) 2).toInt,(cg (xs.getD 0 []) 3).toInt,((cg (xs.getD 0 []) 4).toSl.map aqd)⟩:aj5),(⟨(cg (xs.getD 1 []) 0).toStr,(cg (xs.getD 1 []) 1).toInt,(cg (xs.getD 1 []) 2).toInt,(cg (xs.getD 1 []) 3).toInt,((cg (xs.getD 1 []) 4).toSl.map aqd)⟩:aj5))) (fun a=>[[.str a.1.Serial,.int a.1.Cyls,.int a.1.Heads,.int a.1.Size,.slice (List.map aj3 a.1.Sets)],[.str a.2.Serial,.int a.2.Cyls,.int a.2.Heads,.int a.2.Size,.slice (List.map aj3 a.2.Sets)]]) (fun a=>cqa n a.1 a.2) (fun r=>[.c .bool (.bool r)]) (fun r=>[])
theorem fqx (n:Nat):aj2 Tryz.prog (cqw n):=by
 have hΓ:=g1 (equ n) (@g0 (aj2 Tryz.prog))
 refine aj8 (Tryz.f19.body.getD .skip) h00 Tryz.func19 rfl Tryz.call19 (by decide) (by intro _ r;exact ⟨rfl,by simp⟩) ?_
 rintro ⟨a,b⟩ r H
 try dsimp only at H
 unfold cqa at H
 simp only [Tryz.f19,Option.getD]
 refine rA ?_
 refine Sm.seqK fun K2 hK2=>?_
 refine rA ?_
 refine cnd H (fun h4 H=>?_) (fun h4 H=>?_)
 ·refine rA ?_
  refine Sm.ret ?_
  refine lf ?_
  obtain rfl:=Option.some.inj H
  exact rt []
 refine Sm.skip ?_
 refine hK2 _ ?_
 refine Sm.cut (fun (x:Unit)=>dqm) (fun x=>bki n=some r) ?_ ?_
 ·refine rA ?_
  refine Sm.block ?_
  obtain ⟨y8,hy8,Ho8⟩:=bind_some H
  refine Sm.loopB _ (fun x=>djz a b x) hy8 (wb [some 32,some 48]) ?_
  rintro k z8 H
  try dsimp only at H
  unfold bqt at H
  refine Sm.st (djz.eq_1 ..) ?_
  refine Sm.seqK fun K9 hK9=>?_
  refine rA ?_
  refine cnd H (fun h11 H=>?_) (fun h11 H=>?_)
  ·refine Sm.skip ?_
   refine hK9 _ ?_
   refine Sm.seqK fun K12 hK12=>?_
   refine Sm.block ?_
   obtain ⟨⟨hg16,hg17⟩,H⟩:=aj7 H
   obtain ⟨r1,hr1,H⟩:=bind_some H
   have q:=And.intro @cyq.eq_1 hr1
   refine rDq ?_
   refine cnd H (fun h14 H=>?_) (fun h14 H=>?_)
   ·refine rA ?_
    refine Sm.ret ?_
    refine lf ?_
    refine lx H fun hyy=>?_
    subst hyy
    have H:=Ho8
    try dsimp only at H
    refine lf ?_
    obtain rfl:=Option.some.inj H
    exact rt []
   refine Sm.skip ?_
   refine hK12 _ ?_
   refine eA ?_
   refine lf ?_
   exact nx H (wb [some 9002,some 9003])
  refine Sm.exit ?_
  refine lf ?_
  refine lx H fun hyy=>?_
  subst hyy
  have H:=Ho8
  try dsimp only at H
  refine lf ?_
  exact ⟨(),H,wb []⟩
 rintro ⟨⟩ H
 try dsimp only at H
 unfold bki at H
 refine Sm.st (dqm.eq_1 ..) ?_
 refine rA ?_
 refine Sm.ret ?_
 refine lf ?_
 obtain rfl:=Option.some.inj H
 exact rt []
end Go.Proofs.YtijnkhcfondehaaGreatDoor
