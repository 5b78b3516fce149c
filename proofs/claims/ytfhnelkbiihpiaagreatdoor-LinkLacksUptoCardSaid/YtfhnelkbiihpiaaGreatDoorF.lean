/- Text. -/
import Derived.Test.YtfhnelkbiihpiaaGreatDoorT
import Derived.Test.YtfhnelkbiihpiaaGreatDoorN
set_option maxHeartbeats 8000000
set_option linter.unusedVariables false
set_option linter.unusedSimpArgs false
set_option maxRecDepth 100000
open Go.IntKind renaming wrap→jU
open _root_.Nat renaming le_of_ble_eq_true→j9
open Go.AE.Sm renaming block→Jd,skip→Jk
open Go.Proofs.Tryz renaming prog→ji
namespace Go.Proofs.YtfhnelkbiihpiaaGreatDoor
open Go.AE
abbrev azv (k:List aj1) (k_:List aj5) (k__:List ajb) (k___:List Int) (k____:List Int) (k_____:List (List UInt8)) (k______:List Int) (k_______:List (List Int)) (k________:List UInt8) (k_________:Bool):S:=stB [] [(0,.box [.c (.slice 49) (.slice (List.map aj2 k)),.own 1 [.int .i64,.int .i64,.str,.int .i64,.int .i64,.int .i64,.int .i64] 0 k_.length,.own 2 [.str,.int .i64,.int .i64] 0 k__.length,.own 3 [.int .i64] 0 k___.length,.own 4 [.int .i64] 0 k____.length,.own 5 [.str] 0 k_____.length,.own 6 [.int .i64] 0 k______.length,.own 7 [.slice 3] 0 k_______.length,.c .str (.str k________),.c .bool (.bool k_________)]),(1,.row 156 (List.map aj8 k_)),(2,.row 158 (List.map ajf k__)),(3,.row 3 (List.map ajd k___)),(4,.row 3 (List.map ajd k____)),(5,.row 9 (List.map aq8 k_____)),(6,.row 3 (List.map ajd k______)),(7,.row 63 (List.map aqd k_______))]
def awd (n:Nat) (k:List aj1) (k_:List aj5) (k__:List ajb) (k___:List Int) (k____:List Int) (k_____:List (List UInt8)) (k______:List Int) (k_______:List (List Int)) (k________:List UInt8) (k_________:Bool):Option Int :=
 some (-1)
abbrev azw (k:List aj1) (k_:List aj5) (k__:List ajb) (k___:List Int) (k____:List Int) (k_____:List (List UInt8)) (k______:List Int) (k_______:List (List Int)) (k________:List UInt8) (k_________:Bool) (name:List UInt8) (i:Int):S:=stB [(0,.box 0 0),(1,.c .str (.str name)),(5,.c (.int .i64) (.int i))] [(0,.box [.c (.slice 49) (.slice (List.map aj2 k)),.own 1 [.int .i64,.int .i64,.str,.int .i64,.int .i64,.int .i64,.int .i64] 0 k_.length,.own 2 [.str,.int .i64,.int .i64] 0 k__.length,.own 3 [.int .i64] 0 k___.length,.own 4 [.int .i64] 0 k____.length,.own 5 [.str] 0 k_____.length,.own 6 [.int .i64] 0 k______.length,.own 7 [.slice 3] 0 k_______.length,.c .str (.str k________),.c .bool (.bool k_________)]),(1,.row 156 (List.map aj8 k_)),(2,.row 158 (List.map ajf k__)),(3,.row 3 (List.map ajd k___)),(4,.row 3 (List.map ajd k____)),(5,.row 9 (List.map aq8 k_____)),(6,.row 3 (List.map ajd k______)),(7,.row 63 (List.map aqd k_______))]
def ajl (n:Nat) (k:List aj1) (k_:List aj5) (k__:List ajb) (k___:List Int) (k____:List Int) (k_____:List (List UInt8)) (k______:List Int) (k_______:List (List Int)) (k________:List UInt8) (k_________:Bool) (name:List UInt8) (i:Int):Option ((Int) ⊕ (((Int) ⊕ (Unit)))) :=
 bif (decide (i < ((k_.length:Nat):Int))) then
  gd ((0≤i∧i < (k_.length:Int))∧(Int.toNat i) < k_.length) <|
  bif (if (((gt k_ (Int.toNat i)).Name) == name)=true then (name != []) else false) then
   some (.inr (.inl i))
  else
   some (.inl (jU .i64 (i+1)))
 else
  some (.inr (.inr ()))
def aq3 (n:Nat) (k:List aj1) (k_:List aj5) (k__:List ajb) (k___:List Int) (k____:List Int) (k_____:List (List UInt8)) (k______:List Int) (k_______:List (List Int)) (k________:List UInt8) (k_________:Bool) (name:List UInt8):Option Int :=
 (azk (fun (x:Int)=>ajl n k k_ k__ k___ k____ k_____ k______ k_______ k________ k_________ name x) n 0).bind fun y4 =>
 match y4 with
 | .inl vv =>
  some vv
 | .inr vv =>
  awd n k k_ k__ k___ k____ k_____ k______ k_______ k________ k_________
theorem ako (n:Nat) (k:List aj1) (k_:List aj5) (k__:List ajb) (k___:List Int) (k____:List Int) (k_____:List (List UInt8)) (k______:List Int) (k_______:List (List Int)) (k________:List UInt8) (k_________:Bool) (name:List UInt8) (r:Int) (H:aq3 n k k_ k__ k___ k____ k_____ k______ k_______ k________ k_________ name=some r):bjw ji 71 [.ref (.box 0 0),.dat (false,[.str]) [.str name]] [.box [.c (.slice 49) (.slice (List.map aj2 k)),.own 1 [.int .i64,.int .i64,.str,.int .i64,.int .i64,.int .i64,.int .i64] 0 k_.length,.own 2 [.str,.int .i64,.int .i64] 0 k__.length,.own 3 [.int .i64] 0 k___.length,.own 4 [.int .i64] 0 k____.length,.own 5 [.str] 0 k_____.length,.own 6 [.int .i64] 0 k______.length,.own 7 [.slice 3] 0 k_______.length,.c .str (.str k________),.c .bool (.bool k_________)],.row 156 (List.map aj8 k_),.row 158 (List.map ajf k__),.row 3 (List.map ajd k___),.row 3 (List.map ajd k____),.row 9 (List.map aq8 k_____),.row 3 (List.map ajd k______),.row 63 (List.map aqd k_______)] [.c (.int .i64) (.int r)] [.box [.c (.slice 49) (.slice (List.map aj2 k)),.own 1 [.int .i64,.int .i64,.str,.int .i64,.int .i64,.int .i64,.int .i64] 0 k_.length,.own 2 [.str,.int .i64,.int .i64] 0 k__.length,.own 3 [.int .i64] 0 k___.length,.own 4 [.int .i64] 0 k____.length,.own 5 [.str] 0 k_____.length,.own 6 [.int .i64] 0 k______.length,.own 7 [.slice 3] 0 k_______.length,.c .str (.str k________),.c .bool (.bool k_________)],.row 156 (List.map aj8 k_),.row 158 (List.map ajf k__),.row 3 (List.map ajd k___),.row 3 (List.map ajd k____),.row 9 (List.map aq8 k_____),.row 3 (List.map ajd k______),.row 63 (List.map aqd k_______)]:=by
 have hΓ:=@g0 (aj9 ji)
 refine bku (Tryz.f71.body.getD .skip) h00 Tryz.func71 rfl Tryz.call71 (j9 rfl) (j9 rfl) ?_
 unfold aq3 at H
 simp only [Tryz.f71,Option.getD]
 refine rA ?_
 refine Sm.cut (fun (x:Unit)=>azv k k_ k__ k___ k____ k_____ k______ k_______ k________ k_________) (fun x=>awd n k k_ k__ k___ k____ k_____ k______ k_______ k________ k_________=some r) ?_ ?_
 ·refine rA ?_
  refine Jd ?_
  obtain ⟨y4,hy4,Ho4⟩:=bind_some H
  refine Sm.loopB _ (fun x=>azw k k_ k__ k___ k____ k_____ k______ k_______ k________ k_________ name x) hy4 (wb [some 0,some 1,some 2,some 3,some 4,some 5,some 6,some 7]) ?_
  rintro i z4 H
  try dsimp only at H
  unfold ajl at H
  refine Sm.st (azw.eq_1 ..) ?_
  refine Sm.seqK fun K5 hK5=>?_
  refine sX fun K6 hK6=>?_
  iterate 2 refine oX ?_
  refine oE bjg ?_
  iterate 4 refine oX ?_
  refine hK6 _ ?_
  refine cnd H (fun h7 H=>?_) (fun h7 H=>?_)
  ·refine Jk ?_
   refine hK5 _ ?_
   refine Sm.seqK fun K8 hK8=>?_
   refine Jd ?_
   refine sX fun K9 hK9=>?_
   obtain ⟨⟨hg10,hg11⟩,H⟩:=aqu H
   refine oX ?_
   refine oE bjg ?_
   iterate 12 refine oX ?_
   refine hK9 _ ?_
   refine cnd H (fun h12 H=>?_) (fun h12 H=>?_)
   ·refine rA ?_
    refine Sm.ret ?_
    refine lf ?_
    refine lx H fun hyy=>?_
    subst hyy
    have H:=Ho4
    try dsimp only at H
    refine lf ?_
    obtain rfl:=Option.some.inj H
    exact rtM [some 0,some 1,some 2,some 3,some 4,some 5,some 6,some 7]
   refine Jk ?_
   refine hK8 _ ?_
   refine eA ?_
   refine lf ?_
   exact nx H (wb [some 0,some 1,some 2,some 3,some 4,some 5,some 6,some 7])
  refine Sm.exit ?_
  refine lf ?_
  refine lx H fun hyy=>?_
  subst hyy
  have H:=Ho4
  try dsimp only at H
  refine lf ?_
  exact ⟨(),H,wb [some 0,some 1,some 2,some 3,some 4,some 5,some 6,some 7]⟩
 rintro ⟨⟩ H
 try dsimp only at H
 unfold awd at H
 refine Sm.st (azv.eq_1 ..) ?_
 refine rA ?_
 refine Sm.ret ?_
 refine lf ?_
 obtain rfl:=Option.some.inj H
 exact rtM [some 0,some 1,some 2,some 3,some 4,some 5,some 6,some 7]
abbrev aka (k:List aj1) (k_:List aj5) (k__:List ajb) (k___:List Int) (k____:List Int) (k_____:List (List UInt8)) (k______:List Int) (k_______:List (List Int)) (k________:List UInt8) (k_________:Bool):S:=stB [] [(0,.box [.c (.slice 49) (.slice (List.map aj2 k)),.own 1 [.int .i64,.int .i64,.str,.int .i64,.int .i64,.int .i64,.int .i64] 0 k_.length,.own 2 [.str,.int .i64,.int .i64] 0 k__.length,.own 3 [.int .i64] 0 k___.length,.own 4 [.int .i64] 0 k____.length,.own 5 [.str] 0 k_____.length,.own 6 [.int .i64] 0 k______.length,.own 7 [.slice 3] 0 k_______.length,.c .str (.str k________),.c .bool (.bool k_________)]),(1,.row 156 (List.map aj8 k_)),(2,.row 158 (List.map ajf k__)),(3,.row 3 (List.map ajd k___)),(4,.row 3 (List.map ajd k____)),(5,.row 9 (List.map aq8 k_____)),(6,.row 3 (List.map ajd k______)),(7,.row 63 (List.map aqd k_______))]
def awf (n:Nat) (k:List aj1) (k_:List aj5) (k__:List ajb) (k___:List Int) (k____:List Int) (k_____:List (List UInt8)) (k______:List Int) (k_______:List (List Int)) (k________:List UInt8) (k_________:Bool):Option Int :=
 some (-1)
abbrev ak8 (k:List aj1) (k_:List aj5) (k__:List ajb) (k___:List Int) (k____:List Int) (k_____:List (List UInt8)) (k______:List Int) (k_______:List (List Int)) (k________:List UInt8) (k_________:Bool) (module:Int) (id:Int) (i:Int):S:=stB [(0,.box 0 0),(1,.c (.int .i64) (.int module)),(2,.c (.int .i64) (.int id)),(7,.c (.int .i64) (.int i))] [(0,.box [.c (.slice 49) (.slice (List.map aj2 k)),.own 1 [.int .i64,.int .i64,.str,.int .i64,.int .i64,.int .i64,.int .i64] 0 k_.length,.own 2 [.str,.int .i64,.int .i64] 0 k__.length,.own 3 [.int .i64] 0 k___.length,.own 4 [.int .i64] 0 k____.length,.own 5 [.str] 0 k_____.length,.own 6 [.int .i64] 0 k______.length,.own 7 [.slice 3] 0 k_______.length,.c .str (.str k________),.c .bool (.bool k_________)]),(1,.row 156 (List.map aj8 k_)),(2,.row 158 (List.map ajf k__)),(3,.row 3 (List.map ajd k___)),(4,.row 3 (List.map ajd k____)),(5,.row 9 (List.map aq8 k_____)),(6,.row 3 (List.map ajd k______)),(7,.row 63 (List.map aqd k_______))]
def ajp (n:Nat) (k:List aj1) (k_:List aj5) (k__:List ajb) (k___:List Int) (k____:List Int) (k_____:List (List UInt8)) (k______:List Int) (k_______:List (List Int)) (k________:List UInt8) (k_________:Bool) (module:Int) (id:Int) (i:Int):Option ((Int) ⊕ (((Int) ⊕ (Unit)))) :=
 bif (decide (i < ((k_.length:Nat):Int))) then
  gd ((0≤i∧i < (k_.length:Int))∧(Int.toNat i) < k_.length) <|
  bif (((gt k_ (Int.toNat i)).Module) == module) then
   gd ((((gt k_ (Int.toNat i)).Module) == module)=true∧(0≤i∧i < (k_.length:Int))∧(Int.toNat i) < k_.length) <|
   bif (((gt k_ (Int.toNat i)).ID) == id) then
    some (.inr (.inl i))
   else
    some (.inl (jU .i64 (i+1)))
  else
   some (.inl (jU .i64 (i+1)))
 else
  some (.inr (.inr ()))
def aql (n:Nat) (k:List aj1) (k_:List aj5) (k__:List ajb) (k___:List Int) (k____:List Int) (k_____:List (List UInt8)) (k______:List Int) (k_______:List (List Int)) (k________:List UInt8) (k_________:Bool) (module:Int) (id:Int):Option Int :=
 (azk (fun (x:Int)=>ajp n k k_ k__ k___ k____ k_____ k______ k_______ k________ k_________ module id x) n 0).bind fun y4 =>
 match y4 with
 | .inl vv =>
  some vv
 | .inr vv =>
  awf n k k_ k__ k___ k____ k_____ k______ k_______ k________ k_________
theorem bqm (n:Nat) (k:List aj1) (k_:List aj5) (k__:List ajb) (k___:List Int) (k____:List Int) (k_____:List (List UInt8)) (k______:List Int) (k_______:List (List Int)) (k________:List UInt8) (k_________:Bool) (module:Int) (id:Int) (r:Int) (H:aql n k k_ k__ k___ k____ k_____ k______ k_______ k________ k_________ module id=some r):bjw ji 72 [.ref (.box 0 0),.dat (false,[.int .i64]) [.int module],.dat (false,[.int .i64]) [.int id]] [.box [.c (.slice 49) (.slice (List.map aj2 k)),.own 1 [.int .i64,.int .i64,.str,.int .i64,.int .i64,.int .i64,.int .i64] 0 k_.length,.own 2 [.str,.int .i64,.int .i64] 0 k__.length,.own 3 [.int .i64] 0 k___.length,.own 4 [.int .i64] 0 k____.length,.own 5 [.str] 0 k_____.length,.own 6 [.int .i64] 0 k______.length,.own 7 [.slice 3] 0 k_______.length,.c .str (.str k________),.c .bool (.bool k_________)],.row 156 (List.map aj8 k_),.row 158 (List.map ajf k__),.row 3 (List.map ajd k___),.row 3 (List.map ajd k____),.row 9 (List.map aq8 k_____),.row 3 (List.map ajd k______),.row 63 (List.map aqd k_______)] [.c (.int .i64) (.int r)] [.box [.c (.slice 49) (.slice (List.map aj2 k)),.own 1 [.int .i64,.int .i64,.str,.int .i64,.int .i64,.int .i64,.int .i64] 0 k_.length,.own 2 [.str,.int .i64,.int .i64] 0 k__.length,.own 3 [.int .i64] 0 k___.length,.own 4 [.int .i64] 0 k____.length,.own 5 [.str] 0 k_____.length,.own 6 [.int .i64] 0 k______.length,.own 7 [.slice 3] 0 k_______.length,.c .str (.str k________),.c .bool (.bool k_________)],.row 156 (List.map aj8 k_),.row 158 (List.map ajf k__),.row 3 (List.map ajd k___),.row 3 (List.map ajd k____),.row 9 (List.map aq8 k_____),.row 3 (List.map ajd k______),.row 63 (List.map aqd k_______)]:=by
 have hΓ:=@g0 (aj9 ji)
 refine bku (Tryz.f72.body.getD .skip) h00 Tryz.func72 rfl Tryz.call72 (j9 rfl) (j9 rfl) ?_
 unfold aql at H
 simp only [Tryz.f72,Option.getD]
 refine rA ?_
 refine Sm.cut (fun (x:Unit)=>aka k k_ k__ k___ k____ k_____ k______ k_______ k________ k_________) (fun x=>awf n k k_ k__ k___ k____ k_____ k______ k_______ k________ k_________=some r) ?_ ?_
 ·refine rA ?_
  refine Jd ?_
  obtain ⟨y4,hy4,Ho4⟩:=bind_some H
  refine Sm.loopB _ (fun x=>ak8 k k_ k__ k___ k____ k_____ k______ k_______ k________ k_________ module id x) hy4 (wb [some 0,some 1,some 2,some 3,some 4,some 5,some 6,some 7]) ?_
  rintro i z4 H
  try dsimp only at H
  unfold ajp at H
  refine Sm.st (ak8.eq_1 ..) ?_
  refine Sm.seqK fun K5 hK5=>?_
  refine sX fun K6 hK6=>?_
  iterate 2 refine oX ?_
  refine oE bjg ?_
  iterate 4 refine oX ?_
  refine hK6 _ ?_
  refine cnd H (fun h7 H=>?_) (fun h7 H=>?_)
  ·refine Jk ?_
   refine hK5 _ ?_
   refine Sm.seqK fun K8 hK8=>?_
   refine Jd ?_
   refine sX fun K9 hK9=>?_
   obtain ⟨⟨hg10,hg11⟩,H⟩:=aqu H
   refine oX ?_
   refine oE bjg ?_
   iterate 10 refine oX ?_
   refine cq9 H (fun hs12 H=>?_) (fun hs12 H=>?_)
   ·obtain ⟨⟨hg13,hg14,hg15⟩,H⟩:=aqu H
    have q:=hs12
    refine oTE bjg ?_
    refine oTG ?_
    refine oTG ?_
    refine oTG ?_
    refine oTG ?_
    refine oTG ?_
    refine oTG ?_
    refine oTG ?_
    refine oTG ?_
    refine oPl ?_
    refine hK9 _ ?_
    refine cnd H (fun h16 H=>?_) (fun h16 H=>?_)
    ·refine rA ?_
     refine Sm.ret ?_
     refine lf ?_
     refine lx H fun hyy=>?_
     subst hyy
     have H:=Ho4
     try dsimp only at H
     refine lf ?_
     obtain rfl:=Option.some.inj H
     exact rtM [some 0,some 1,some 2,some 3,some 4,some 5,some 6,some 7]
    refine Jk ?_
    refine hK8 _ ?_
    refine eA ?_
    refine lf ?_
    exact nx H (wb [some 0,some 1,some 2,some 3,some 4,some 5,some 6,some 7])
   have q:=hs12
   refine oFq ?_
   refine oFq ?_
   refine oFq ?_
   refine oFq ?_
   refine oFq ?_
   refine oFq ?_
   refine oFq ?_
   refine oFq ?_
   refine oFq ?_
   refine oPr ?_
   refine hK9 _ ?_
   refine cndF ?_
   refine Jk ?_
   refine hK8 _ ?_
   refine eA ?_
   refine lf ?_
   exact nx H (wb [some 0,some 1,some 2,some 3,some 4,some 5,some 6,some 7])
  refine Sm.exit ?_
  refine lf ?_
  refine lx H fun hyy=>?_
  subst hyy
  have H:=Ho4
  try dsimp only at H
  refine lf ?_
  exact ⟨(),H,wb [some 0,some 1,some 2,some 3,some 4,some 5,some 6,some 7]⟩
 rintro ⟨⟩ H
 try dsimp only at H
 unfold awf at H
 refine Sm.st (aka.eq_1 ..) ?_
 refine rA ?_
 refine Sm.ret ?_
 refine lf ?_
 obtain rfl:=Option.some.inj H
 exact rtM [some 0,some 1,some 2,some 3,some 4,some 5,some 6,some 7]
abbrev bj4 (l:List aj1) (k:List aj5) (k_2:List ajb) (k_1:List Int):S:=stB [(3,.box 9008 0)] [(9008,.box [.c (.slice 49) (.slice (List.map aj2 l)),.own 9009 [.int .i64,.int .i64,.str,.int .i64,.int .i64,.int .i64,.int .i64] 0 k.length,.own 9010 [.str,.int .i64,.int .i64] 0 k_2.length,.own 9011 [.int .i64] 0 0,.own 9012 [.int .i64] 0 k_1.length,.own 9013 [.str] 0 0,.own 9014 [.int .i64] 0 0,.own 9015 [.slice 3] 0 0,.c .str (.str []),.c .bool (.bool false)]),(9009,.row 156 (List.map aj8 k)),(9010,.row 158 (List.map ajf k_2)),(9011,.row 3 (List.map ajd [])),(9012,.row 3 (List.map ajd k_1)),(9013,.row 9 (List.map aq8 [])),(9014,.row 3 (List.map ajd [])),(9015,.row 63 (List.map aqd []))]
def awx (n:Nat) (l:List aj1) (k:List aj5) (k_2:List ajb) (k_1:List Int):Option ((List aj1)×(List aj5)×(List ajb)×(List Int)×(List Int)×(List (List UInt8))×(List Int)×(List (List Int))×(List UInt8)×Bool) :=
 some (l,k,k_2,[],k_1,[],[],[],[],false)
abbrev ayt (l:List aj1) (k:List aj5) (k_4:List ajb) (k_1:List Int) (m:Int):S:=stB [(0,.c (.slice 49) (.slice (List.map aj2 l))),(3,.box 9032 0),(7,.c (.int .i64) (.int m))] [(9032,.box [.c (.slice 49) (.slice (List.map aj2 l)),.own 9033 [.int .i64,.int .i64,.str,.int .i64,.int .i64,.int .i64,.int .i64] 0 k.length,.own 9034 [.str,.int .i64,.int .i64] 0 k_4.length,.own 9035 [.int .i64] 0 0,.own 9036 [.int .i64] 0 k_1.length,.own 9037 [.str] 0 0,.own 9038 [.int .i64] 0 0,.own 9039 [.slice 3] 0 0,.c .str (.str []),.c .bool (.bool false)]),(9033,.row 156 (List.map aj8 k)),(9034,.row 158 (List.map ajf k_4)),(9035,.row 3 (List.map ajd [])),(9036,.row 3 (List.map ajd k_1)),(9037,.row 9 (List.map aq8 [])),(9038,.row 3 (List.map ajd [])),(9039,.row 63 (List.map aqd []))]
def aws (n:Nat) (l:List aj1) (k:List aj5) (k_4:List ajb) (k_1:List Int) (m:Int):Option (((List ajb)×Int) ⊕ (((List ajb)))) :=
 some (.inl (k_4,(jU .i64 (m+1))))
abbrev bj6 (l:List aj1) (k:List aj5) (k_6:List ajb) (k_1:List Int) (m:Int) (i:Int):S:=stB [(0,.c (.slice 49) (.slice (List.map aj2 l))),(3,.box 9056 0),(7,.c (.int .i64) (.int m)),(8,.c (.int .i64) (.int i))] [(9056,.box [.c (.slice 49) (.slice (List.map aj2 l)),.own 9057 [.int .i64,.int .i64,.str,.int .i64,.int .i64,.int .i64,.int .i64] 0 k.length,.own 9058 [.str,.int .i64,.int .i64] 0 k_6.length,.own 9059 [.int .i64] 0 0,.own 9060 [.int .i64] 0 k_1.length,.own 9061 [.str] 0 0,.own 9062 [.int .i64] 0 0,.own 9063 [.slice 3] 0 0,.c .str (.str []),.c .bool (.bool false)]),(9057,.row 156 (List.map aj8 k)),(9058,.row 158 (List.map ajf k_6)),(9059,.row 3 (List.map ajd [])),(9060,.row 3 (List.map ajd k_1)),(9061,.row 9 (List.map aq8 [])),(9062,.row 3 (List.map ajd [])),(9063,.row 63 (List.map aqd []))]
def aqf (n:Nat) (l:List aj1) (k:List aj5) (k_6:List ajb) (k_1:List Int) (m:Int) (i:Int):Option (((List ajb)×Int) ⊕ (((List ajb)))) :=
 some (.inl (k_6,(jU .i64 (i+1))))
abbrev ayx (l:List aj1) (k:List aj5) (k_1:List Int) (m:Int) (k_5:List ajb) (i:Int):S:=stB [(0,.c (.slice 49) (.slice (List.map aj2 l))),(3,.box 9048 0),(7,.c (.int .i64) (.int m)),(8,.c (.int .i64) (.int i))] [(9048,.box [.c (.slice 49) (.slice (List.map aj2 l)),.own 9049 [.int .i64,.int .i64,.str,.int .i64,.int .i64,.int .i64,.int .i64] 0 k.length,.own 9050 [.str,.int .i64,.int .i64] 0 k_5.length,.own 9051 [.int .i64] 0 0,.own 9052 [.int .i64] 0 k_1.length,.own 9053 [.str] 0 0,.own 9054 [.int .i64] 0 0,.own 9055 [.slice 3] 0 0,.c .str (.str []),.c .bool (.bool false)]),(9049,.row 156 (List.map aj8 k)),(9050,.row 158 (List.map ajf k_5)),(9051,.row 3 (List.map ajd [])),(9052,.row 3 (List.map ajd k_1)),(9053,.row 9 (List.map aq8 [])),(9054,.row 3 (List.map ajd [])),(9055,.row 63 (List.map aqd []))]
def ajy (n:Nat) (l:List aj1) (k:List aj5) (k_1:List Int) (m:Int) (k_5:List ajb) (i:Int):Option (((List ajb)×Int) ⊕ (((List ajb)))) :=
 gd ((0≤m∧m < (l.length:Int))) <|
 bif (decide (i < (((gt l (Int.toNat m)).Esds).length:Int))) then
  gd ((0≤m∧m < (l.length:Int))∧(0≤i∧i < (((gt l (Int.toNat m)).Esds).length:Int))) <|
  (aql n l k k_5 [] k_1 [] [] [] [] false m ((gt ((gt l (Int.toNat m)).Esds) (Int.toNat i)).ID)).bind fun r1 =>
  bif (if (((gt ((gt l (Int.toNat m)).Esds) (Int.toNat i)).Kind) == 2)=true then (decide (r1 ≥ 0)) else false) then
   gd ((k_5.length+1)≤2147483648) <|
   aqf n l k (k_5 ++ [(⟨(gt ((gt l (Int.toNat m)).Esds) (Int.toNat i)).Name,r1,(gt ((gt l (Int.toNat m)).Esds) (Int.toNat i)).Addr⟩:ajb)]) k_1 m i
  else
   aqf n l k k_5 k_1 m i
 else
  some (.inr k_5)
abbrev bj2 (l:List aj1) (k:List aj5) (k_1:List Int) (k_3:List ajb) (m:Int):S:=stB [(0,.c (.slice 49) (.slice (List.map aj2 l))),(3,.box 9024 0),(7,.c (.int .i64) (.int m))] [(9024,.box [.c (.slice 49) (.slice (List.map aj2 l)),.own 9025 [.int .i64,.int .i64,.str,.int .i64,.int .i64,.int .i64,.int .i64] 0 k.length,.own 9026 [.str,.int .i64,.int .i64] 0 k_3.length,.own 9027 [.int .i64] 0 0,.own 9028 [.int .i64] 0 k_1.length,.own 9029 [.str] 0 0,.own 9030 [.int .i64] 0 0,.own 9031 [.slice 3] 0 0,.c .str (.str []),.c .bool (.bool false)]),(9025,.row 156 (List.map aj8 k)),(9026,.row 158 (List.map ajf k_3)),(9027,.row 3 (List.map ajd [])),(9028,.row 3 (List.map ajd k_1)),(9029,.row 9 (List.map aq8 [])),(9030,.row 3 (List.map ajd [])),(9031,.row 63 (List.map aqd []))]
def ajv (n:Nat) (l:List aj1) (k:List aj5) (k_1:List Int) (k_3:List ajb) (m:Int):Option (((List ajb)×Int) ⊕ (((List ajb)))) :=
 bif (decide (m < (l.length:Int))) then
  (azk (fun (x:(List ajb)×Int)=>ajy n l k k_1 m x.1 x.2) n (k_3,0)).bind fun y10 =>
  aws n l k y10 k_1 m
 else
  some (.inr k_3)
abbrev aym (l:List aj1) (k:List aj5) (k_1:List Int):S:=stB [(0,.c (.slice 49) (.slice (List.map aj2 l))),(3,.box 9000 0)] [(9000,.box [.c (.slice 49) (.slice (List.map aj2 l)),.own 9001 [.int .i64,.int .i64,.str,.int .i64,.int .i64,.int .i64,.int .i64] 0 k.length,.own 9002 [.str,.int .i64,.int .i64] 0 0,.own 9003 [.int .i64] 0 0,.own 9004 [.int .i64] 0 k_1.length,.own 9005 [.str] 0 0,.own 9006 [.int .i64] 0 0,.own 9007 [.slice 3] 0 0,.c .str (.str []),.c .bool (.bool false)]),(9001,.row 156 (List.map aj8 k)),(9002,.row 158 (List.map ajf [])),(9003,.row 3 (List.map ajd [])),(9004,.row 3 (List.map ajd k_1)),(9005,.row 9 (List.map aq8 [])),(9006,.row 3 (List.map ajd [])),(9007,.row 63 (List.map aqd []))]
def awv (n:Nat) (l:List aj1) (k:List aj5) (k_1:List Int):Option ((List aj1)×(List aj5)×(List ajb)×(List Int)×(List Int)×(List (List UInt8))×(List Int)×(List (List Int))×(List UInt8)×Bool) :=
 (azk (fun (x:(List ajb)×Int)=>ajv n l k k_1 x.1 x.2) n ([],0)).bind fun y5 =>
 awx n l k y5 k_1
abbrev ayl (l:List aj1) (k_9:List aj5) (k_8:List Int) (m_1:Int):S:=stB [(0,.c (.slice 49) (.slice (List.map aj2 l))),(3,.box 9082 0),(4,.c (.int .i64) (.int m_1))] [(9082,.box [.c (.slice 49) (.slice (List.map aj2 l)),.own 9083 [.int .i64,.int .i64,.str,.int .i64,.int .i64,.int .i64,.int .i64] 0 k_9.length,.own 9084 [.str,.int .i64,.int .i64] 0 0,.own 9085 [.int .i64] 0 0,.own 9086 [.int .i64] 0 k_8.length,.own 9087 [.str] 0 0,.own 9088 [.int .i64] 0 0,.own 9089 [.slice 3] 0 0,.c .str (.str []),.c .bool (.bool false)]),(9083,.row 156 (List.map aj8 k_9)),(9084,.row 158 (List.map ajf [])),(9085,.row 3 (List.map ajd [])),(9086,.row 3 (List.map ajd k_8)),(9087,.row 9 (List.map aq8 [])),(9088,.row 3 (List.map ajd [])),(9089,.row 63 (List.map aqd []))]
def aww (n:Nat) (l:List aj1) (k_9:List aj5) (k_8:List Int) (m_1:Int):Option (((List aj5)×Int) ⊕ (((List aj5)))) :=
 some (.inl (k_9,(jU .i64 (m_1+1))))
abbrev aye (l:List aj1) (k_11:List aj5) (k_8:List Int) (m_1:Int) (i_1:Int):S:=stB [(0,.c (.slice 49) (.slice (List.map aj2 l))),(3,.box 9106 0),(4,.c (.int .i64) (.int m_1)),(5,.c (.int .i64) (.int i_1))] [(9106,.box [.c (.slice 49) (.slice (List.map aj2 l)),.own 9107 [.int .i64,.int .i64,.str,.int .i64,.int .i64,.int .i64,.int .i64] 0 k_11.length,.own 9108 [.str,.int .i64,.int .i64] 0 0,.own 9109 [.int .i64] 0 0,.own 9110 [.int .i64] 0 k_8.length,.own 9111 [.str] 0 0,.own 9112 [.int .i64] 0 0,.own 9113 [.slice 3] 0 0,.c .str (.str []),.c .bool (.bool false)]),(9107,.row 156 (List.map aj8 k_11)),(9108,.row 158 (List.map ajf [])),(9109,.row 3 (List.map ajd [])),(9110,.row 3 (List.map ajd k_8)),(9111,.row 9 (List.map aq8 [])),(9112,.row 3 (List.map ajd [])),(9113,.row 63 (List.map aqd []))]
def ajm (n:Nat) (l:List aj1) (k_11:List aj5) (k_8:List Int) (m_1:Int) (i_1:Int):Option (((List aj5)×Int) ⊕ (((List aj5)))) :=
 some (.inl (k_11,(jU .i64 (i_1+1))))
abbrev ayq (l:List aj1) (k_8:List Int) (m_1:Int) (k_10:List aj5) (i_1:Int):S:=stB [(0,.c (.slice 49) (.slice (List.map aj2 l))),(3,.box 9098 0),(4,.c (.int .i64) (.int m_1)),(5,.c (.int .i64) (.int i_1))] [(9098,.box [.c (.slice 49) (.slice (List.map aj2 l)),.own 9099 [.int .i64,.int .i64,.str,.int .i64,.int .i64,.int .i64,.int .i64] 0 k_10.length,.own 9100 [.str,.int .i64,.int .i64] 0 0,.own 9101 [.int .i64] 0 0,.own 9102 [.int .i64] 0 k_8.length,.own 9103 [.str] 0 0,.own 9104 [.int .i64] 0 0,.own 9105 [.slice 3] 0 0,.c .str (.str []),.c .bool (.bool false)]),(9099,.row 156 (List.map aj8 k_10)),(9100,.row 158 (List.map ajf [])),(9101,.row 3 (List.map ajd [])),(9102,.row 3 (List.map ajd k_8)),(9103,.row 9 (List.map aq8 [])),(9104,.row 3 (List.map ajd [])),(9105,.row 63 (List.map aqd []))]
def ajr (n:Nat) (l:List aj1) (k_8:List Int) (m_1:Int) (k_10:List aj5) (i_1:Int):Option (((List aj5)×Int) ⊕ (((List aj5)))) :=
 gd ((0≤m_1∧m_1 < (l.length:Int))) <|
 bif (decide (i_1 < (((gt l (Int.toNat m_1)).Esds).length:Int))) then
  gd ((0≤m_1∧m_1 < (l.length:Int))∧(0≤i_1∧i_1 < (((gt l (Int.toNat m_1)).Esds).length:Int))) <|
  bif (((gt ((gt l (Int.toNat m_1)).Esds) (Int.toNat i_1)).Kind) == 1) then
   bif (((gt ((gt l (Int.toNat m_1)).Esds) (Int.toNat i_1)).Name) == []) then
    gd ((k_10.length+1)≤2147483648) <|
    ajm n l (k_10 ++ [(⟨m_1,(gt ((gt l (Int.toNat m_1)).Esds) (Int.toNat i_1)).ID,(gt ((gt l (Int.toNat m_1)).Esds) (Int.toNat i_1)).Name,(gt ((gt l (Int.toNat m_1)).Esds) (Int.toNat i_1)).Addr,(gt ((gt l (Int.toNat m_1)).Esds) (Int.toNat i_1)).Len,0,0⟩:aj5)]) k_8 m_1 i_1
   else
    gd (((((gt ((gt l (Int.toNat m_1)).Esds) (Int.toNat i_1)).Kind) == 1) && (!(((gt ((gt l (Int.toNat m_1)).Esds) (Int.toNat i_1)).Name) == [])))=true) <|
    (aq3 n l k_10 [] [] k_8 [] [] [] [] false ((gt ((gt l (Int.toNat m_1)).Esds) (Int.toNat i_1)).Name)).bind fun r2 =>
    bif (decide (r2 < 0)) then
     gd ((k_10.length+1)≤2147483648) <|
     ajm n l (k_10 ++ [(⟨m_1,(gt ((gt l (Int.toNat m_1)).Esds) (Int.toNat i_1)).ID,(gt ((gt l (Int.toNat m_1)).Esds) (Int.toNat i_1)).Name,(gt ((gt l (Int.toNat m_1)).Esds) (Int.toNat i_1)).Addr,(gt ((gt l (Int.toNat m_1)).Esds) (Int.toNat i_1)).Len,0,0⟩:aj5)]) k_8 m_1 i_1
    else
     ajm n l k_10 k_8 m_1 i_1
  else
   ajm n l k_10 k_8 m_1 i_1
 else
  some (.inr k_10)
abbrev ayr (l:List aj1) (k_8:List Int) (k_7:List aj5) (m_1:Int):S:=stB [(0,.c (.slice 49) (.slice (List.map aj2 l))),(3,.box 9074 0),(4,.c (.int .i64) (.int m_1))] [(9074,.box [.c (.slice 49) (.slice (List.map aj2 l)),.own 9075 [.int .i64,.int .i64,.str,.int .i64,.int .i64,.int .i64,.int .i64] 0 k_7.length,.own 9076 [.str,.int .i64,.int .i64] 0 0,.own 9077 [.int .i64] 0 0,.own 9078 [.int .i64] 0 k_8.length,.own 9079 [.str] 0 0,.own 9080 [.int .i64] 0 0,.own 9081 [.slice 3] 0 0,.c .str (.str []),.c .bool (.bool false)]),(9075,.row 156 (List.map aj8 k_7)),(9076,.row 158 (List.map ajf [])),(9077,.row 3 (List.map ajd [])),(9078,.row 3 (List.map ajd k_8)),(9079,.row 9 (List.map aq8 [])),(9080,.row 3 (List.map ajd [])),(9081,.row 63 (List.map aqd []))]
def ajx (n:Nat) (l:List aj1) (k_8:List Int) (k_7:List aj5) (m_1:Int):Option (((List aj5)×Int) ⊕ (((List aj5)))) :=
 bif (decide (m_1 < (l.length:Int))) then
  (azk (fun (x:(List aj5)×Int)=>ajr n l k_8 m_1 x.1 x.2) n (k_7,0)).bind fun y28 =>
  aww n l y28 k_8 m_1
 else
  some (.inr k_7)
def awy (n:Nat) (l:List aj1):Option ((List aj1)×(List aj5)×(List ajb)×(List Int)×(List Int)×(List (List UInt8))×(List Int)×(List (List Int))×(List UInt8)×Bool) :=
 (azk (fun (x:(List aj5)×Int)=>ajx n l [(-1)] x.1 x.2) n ([],0)).bind fun y23 =>
 awv n l y23 [(-1)]
theorem by1 (n:Nat) (l:List aj1) (r:(List aj1)×(List aj5)×(List ajb)×(List Int)×(List Int)×(List (List UInt8))×(List Int)×(List (List Int))×(List UInt8)×Bool) (H:awy n l=some r):bjw ji 34 [.dat (false,[.slice 49]) [.slice (List.map aj2 l)]] [] [.box 0 0] [.box [.c (.slice 49) (.slice (List.map aj2 r.1)),.own 1 [.int .i64,.int .i64,.str,.int .i64,.int .i64,.int .i64,.int .i64] 0 r.2.1.length,.own 2 [.str,.int .i64,.int .i64] 0 r.2.2.1.length,.own 3 [.int .i64] 0 r.2.2.2.1.length,.own 4 [.int .i64] 0 r.2.2.2.2.1.length,.own 5 [.str] 0 r.2.2.2.2.2.1.length,.own 6 [.int .i64] 0 r.2.2.2.2.2.2.1.length,.own 7 [.slice 3] 0 r.2.2.2.2.2.2.2.1.length,.c .str (.str r.2.2.2.2.2.2.2.2.1),.c .bool (.bool r.2.2.2.2.2.2.2.2.2)],.row 156 (List.map aj8 r.2.1),.row 158 (List.map ajf r.2.2.1),.row 3 (List.map ajd r.2.2.2.1),.row 3 (List.map ajd r.2.2.2.2.1),.row 9 (List.map aq8 r.2.2.2.2.2.1),.row 3 (List.map ajd r.2.2.2.2.2.2.1),.row 63 (List.map aqd r.2.2.2.2.2.2.2.1)]:=by
 have hΓ:=@g0 (aj9 ji)
 refine bku (Tryz.f34.body.getD .skip) h00 Tryz.func34 rfl Tryz.call34 (j9 rfl) (j9 rfl) ?_
 unfold awy at H
 simp only [Tryz.f34,Option.getD]
 refine rA ?_
 refine rA ?_
 refine Sm.cut (fun (x:(List aj5)×(List Int))=>aym l x.1 x.2) (fun x=>awv n l x.1 x.2=some r) ?_ ?_
 ·refine rA ?_
  refine Jd ?_
  obtain ⟨y23,hy23,Ho23⟩:=bind_some H
  refine Sm.loopB _ (fun x=>ayr l [(-1)] x.1 x.2) hy23 (wb [some 224,none,none,none,some 192,none,none,none]) ?_
  rintro ⟨k_7,m_1⟩ z23 H
  try dsimp only at H
  unfold ajx at H
  refine Sm.st (ayr.eq_1 ..) ?_
  refine Sm.seqK fun K24 hK24=>?_
  refine rA ?_
  refine cnd H (fun h26 H=>?_) (fun h26 H=>?_)
  ·refine Jk ?_
   refine hK24 _ ?_
   refine Sm.cut (fun (x:(List aj5))=>ayl l x [(-1)] m_1) (fun x=>aww n l x [(-1)] m_1=some z23) ?_ ?_
   ·refine Jd ?_
    refine rA ?_
    refine Jd ?_
    obtain ⟨y28,hy28,Ho28⟩:=bind_some H
    refine Sm.loopB _ (fun x=>ayq l [(-1)] m_1 x.1 x.2) hy28 (wb [some 9074,some 9075,some 9076,some 9077,some 9078,some 9079,some 9080,some 9081]) ?_
    rintro ⟨k_10,i_1⟩ z28 H
    try dsimp only at H
    unfold ajr at H
    refine Sm.st (ayq.eq_1 ..) ?_
    refine Sm.seqK fun K29 hK29=>?_
    obtain ⟨hg44,H⟩:=aqu H
    refine rA ?_
    refine cnd H (fun h31 H=>?_) (fun h31 H=>?_)
    ·refine Jk ?_
     refine hK29 _ ?_
     refine Sm.cut (fun (x:(List aj5))=>aye l x [(-1)] m_1 i_1) (fun x=>ajm n l x [(-1)] m_1 i_1=some z28) ?_ ?_
     ·refine Jd ?_
      obtain ⟨⟨hg42,hg43⟩,H⟩:=aqu H
      refine rA ?_
      refine sX fun K33 hK33=>?_
      iterate 8 refine oX ?_
      refine cq9 H (fun hs34 H=>?_) (fun hs34 H=>?_)
      ·have q:=hs34
       iterate 3 refine oXq ?_
       refine cq9 H (fun hs35 H=>?_) (fun hs35 H=>?_)
       ·try simp only [z,seval,hs34] at hs35
        have q:=aI hs34 hs35
        refine oFq ?_
        refine oFq ?_
        refine oTPl ?_
        refine oPl ?_
        refine hK33 _ ?_
        refine cndT ?_
        obtain ⟨hg37,H⟩:=aqu H
        refine eQ [0,1,2,3,4,5,6,7,8,9,10,11,12,13,14,15,16,17,18,19] [(none,[],[]),(none,[],[]),(none,[1000001,9098],[]),(none,[9098],[]),(none,[9098],[]),(none,[],[]),(none,[96],[]),(none,[96],[]),(none,[96],[]),(none,[96],[]),(none,[96],[]),(none,[96],[]),(none,[96],[]),(none,[96],[]),(none,[],[]),(none,[],[1104]),(none,[1104,9099],[1120,9099]),(none,[1000001,9098],[]),(none,[9098],[]),(none,[1120,9098],[9098])] ?_
        iterate 2 refine oQ ?_
        refine oQV ?_
        iterate 14 refine oQ ?_
        refine oQV ?_
        iterate 2 refine oQ ?_
        refine ew6 ?_
        refine lf ?_
        exact ⟨_,H,wb [some 9098,some 1120,some 9100,some 9101,some 9102,some 9103,some 9104,some 9105]⟩
       try simp only [z,seval,hs34] at hs35
       obtain ⟨hg38,H⟩:=aqu H
       obtain ⟨r2,hr2,H⟩:=bind_some H
       have q:=aI hs34 (aI hs35 hr2)
       refine oTM (ako n _ _ _ _ _ _ _ _ _ _ _ r2 hr2) [9098,9099,9100,9101,9102,9103,9104,9105] [] ?_
       refine oTG ?_
       refine oTPr ?_
       refine oPl ?_
       refine hK33 _ ?_
       refine cnd H (fun h39 H=>?_) (fun h39 H=>?_)
       ·obtain ⟨hg40,H⟩:=aqu H
        refine eQ [0,1,2,3,4,5,6,7,8,9,10,11,12,13,14,15,16,17,18,19] [(none,[],[]),(none,[],[]),(none,[1000001,9098],[]),(none,[9098],[]),(none,[9098],[]),(none,[],[]),(none,[96],[]),(none,[96],[]),(none,[96],[]),(none,[96],[]),(none,[96],[]),(none,[96],[]),(none,[96],[]),(none,[96],[]),(none,[],[]),(none,[],[1104]),(none,[1104,9099],[1120,9099]),(none,[1000001,9098],[]),(none,[9098],[]),(none,[1120,9098],[9098])] ?_
        iterate 2 refine oQ ?_
        refine oQV ?_
        iterate 14 refine oQ ?_
        refine oQV ?_
        iterate 2 refine oQ ?_
        refine ew6 ?_
        refine lf ?_
        exact ⟨_,H,wb [some 9098,some 1120,some 9100,some 9101,some 9102,some 9103,some 9104,some 9105]⟩
       refine Jk ?_
       refine lf ?_
       exact ⟨_,H,wb [some 9098,some 9099,some 9100,some 9101,some 9102,some 9103,some 9104,some 9105]⟩
      have q:=hs34
      refine oFq ?_
      refine oFq ?_
      refine oFq ?_
      refine oFq ?_
      refine oFq ?_
      refine oFq ?_
      refine oPr ?_
      refine hK33 _ ?_
      refine cndF ?_
      refine Jk ?_
      refine lf ?_
      exact ⟨_,H,wb [some 9098,some 9099,some 9100,some 9101,some 9102,some 9103,some 9104,some 9105]⟩
     rintro k_11 H
     try dsimp only at H
     unfold ajm at H
     refine Sm.st (aye.eq_1 ..) ?_
     refine eA ?_
     refine lf ?_
     exact nx H (wb [some 9106,some 9107,some 9108,some 9109,some 9110,some 9111,some 9112,some 9113])
    refine Sm.exit ?_
    refine lf ?_
    refine lx H fun hyy=>?_
    subst hyy
    have H:=Ho28
    try dsimp only at H
    refine lf ?_
    exact ⟨_,H,wb [some 9098,some 9099,some 9100,some 9101,some 9102,some 9103,some 9104,some 9105]⟩
   rintro k_9 H
   try dsimp only at H
   unfold aww at H
   refine Sm.st (ayl.eq_1 ..) ?_
   refine eA ?_
   refine lf ?_
   exact nx H (wb [some 9082,some 9083,some 9084,some 9085,some 9086,some 9087,some 9088,some 9089])
  refine Sm.exit ?_
  refine lf ?_
  refine lx H fun hyy=>?_
  subst hyy
  have H:=Ho23
  try dsimp only at H
  refine lf ?_
  exact ⟨(k_7,[(-1)]),H,wb [some 9074,some 9075,some 9076,some 9077,some 9078,some 9079,some 9080,some 9081]⟩
 rintro ⟨k,k_1⟩ H
 try dsimp only at H
 unfold awv at H
 refine Sm.st (aym.eq_1 ..) ?_
 refine Sm.cut (fun (x:(List ajb))=>bj4 l k x k_1) (fun x=>awx n l k x k_1=some r) ?_ ?_
 ·refine rA ?_
  refine Jd ?_
  obtain ⟨y5,hy5,Ho5⟩:=bind_some H
  refine Sm.loopB _ (fun x=>bj2 l k k_1 x.1 x.2) hy5 (wb [some 9000,some 9001,some 9002,some 9003,some 9004,some 9005,some 9006,some 9007]) ?_
  rintro ⟨k_3,m⟩ z5 H
  try dsimp only at H
  unfold ajv at H
  refine Sm.st (bj2.eq_1 ..) ?_
  refine Sm.seqK fun K6 hK6=>?_
  refine rA ?_
  refine cnd H (fun h8 H=>?_) (fun h8 H=>?_)
  ·refine Jk ?_
   refine hK6 _ ?_
   refine Sm.cut (fun (x:(List ajb))=>ayt l k x k_1 m) (fun x=>aws n l k x k_1 m=some z5) ?_ ?_
   ·refine Jd ?_
    refine rA ?_
    refine Jd ?_
    obtain ⟨y10,hy10,Ho10⟩:=bind_some H
    refine Sm.loopB _ (fun x=>ayx l k k_1 m x.1 x.2) hy10 (wb [some 9024,some 9025,some 9026,some 9027,some 9028,some 9029,some 9030,some 9031]) ?_
    rintro ⟨k_5,i⟩ z10 H
    try dsimp only at H
    unfold ajy at H
    refine Sm.st (ayx.eq_1 ..) ?_
    refine Sm.seqK fun K11 hK11=>?_
    obtain ⟨hg21,H⟩:=aqu H
    refine rA ?_
    refine cnd H (fun h13 H=>?_) (fun h13 H=>?_)
    ·refine Jk ?_
     refine hK11 _ ?_
     refine Sm.cut (fun (x:(List ajb))=>bj6 l k x k_1 m i) (fun x=>aqf n l k x k_1 m i=some z10) ?_ ?_
     ·refine Jd ?_
      obtain ⟨⟨hg19,hg20⟩,H⟩:=aqu H
      refine rA ?_
      refine sX fun K15 hK15=>?_
      obtain ⟨r1,hr1,H⟩:=bind_some H
      have q:=hr1
      iterate 4 refine oX ?_
      refine oMq (bqm n _ _ _ _ _ _ _ _ _ _ _ _ r1 hr1) [9048,9049,9050,9051,9052,9053,9054,9055] [] ?_
      refine oXq ?_
      refine hK15 _ ?_
      refine rA ?_
      refine cnd H (fun h17 H=>?_) (fun h17 H=>?_)
      ·obtain ⟨hg18,H⟩:=aqu H
       refine eQ [0,1,2,3,4,5,6,7,8,9,10,11,12,13,14,15] [(none,[],[]),(none,[],[]),(none,[1000001,9048],[]),(none,[9048],[]),(none,[9048],[]),(none,[144],[]),(none,[144],[]),(none,[],[]),(none,[144],[]),(none,[144],[]),(none,[],[]),(none,[],[1920]),(none,[1920,9050],[1936,9050]),(none,[1000001,9048],[]),(none,[9048],[]),(none,[1936,9048],[9048])] ?_
       iterate 2 refine oQ ?_
       refine oQV ?_
       iterate 10 refine oQ ?_
       refine oQV ?_
       iterate 2 refine oQ ?_
       refine ew6 ?_
       refine lf ?_
       exact ⟨_,H,wb [some 9048,some 9049,some 1936,some 9051,some 9052,some 9053,some 9054,some 9055]⟩
      refine Jk ?_
      refine lf ?_
      exact ⟨_,H,wb [some 9048,some 9049,some 9050,some 9051,some 9052,some 9053,some 9054,some 9055]⟩
     rintro k_6 H
     try dsimp only at H
     unfold aqf at H
     refine Sm.st (bj6.eq_1 ..) ?_
     refine eA ?_
     refine lf ?_
     exact nx H (wb [some 9056,some 9057,some 9058,some 9059,some 9060,some 9061,some 9062,some 9063])
    refine Sm.exit ?_
    refine lf ?_
    refine lx H fun hyy=>?_
    subst hyy
    have H:=Ho10
    try dsimp only at H
    refine lf ?_
    exact ⟨_,H,wb [some 9048,some 9049,some 9050,some 9051,some 9052,some 9053,some 9054,some 9055]⟩
   rintro k_4 H
   try dsimp only at H
   unfold aws at H
   refine Sm.st (ayt.eq_1 ..) ?_
   refine eA ?_
   refine lf ?_
   exact nx H (wb [some 9032,some 9033,some 9034,some 9035,some 9036,some 9037,some 9038,some 9039])
  refine Sm.exit ?_
  refine lf ?_
  refine lx H fun hyy=>?_
  subst hyy
  have H:=Ho5
  try dsimp only at H
  refine lf ?_
  exact ⟨_,H,wb [some 9024,some 9025,some 9026,some 9027,some 9028,some 9029,some 9030,some 9031]⟩
 rintro k_2 H
 try dsimp only at H
 unfold awx at H
 refine Sm.st (bj4.eq_1 ..) ?_
 refine rA ?_
 refine Sm.ret ?_
 refine lf ?_
 obtain rfl:=Option.some.inj H
 exact rtM [some 9008,some 9009,some 9010,some 9011,some 9012,some 9013,some 9014,some 9015]
abbrev azh (k:List aj1) (k_:List aj5) (k__:List ajb) (k___:List Int) (k____:List Int) (k_____:List (List UInt8)) (k______:List Int) (k_______:List (List Int)) (k________:List UInt8) (k_________:Bool):S:=stB [] [(0,.box [.c (.slice 49) (.slice (List.map aj2 k)),.own 1 [.int .i64,.int .i64,.str,.int .i64,.int .i64,.int .i64,.int .i64] 0 k_.length,.own 2 [.str,.int .i64,.int .i64] 0 k__.length,.own 3 [.int .i64] 0 k___.length,.own 4 [.int .i64] 0 k____.length,.own 5 [.str] 0 k_____.length,.own 6 [.int .i64] 0 k______.length,.own 7 [.slice 3] 0 k_______.length,.c .str (.str k________),.c .bool (.bool k_________)]),(1,.row 156 (List.map aj8 k_)),(2,.row 158 (List.map ajf k__)),(3,.row 3 (List.map ajd k___)),(4,.row 3 (List.map ajd k____)),(5,.row 9 (List.map aq8 k_____)),(6,.row 3 (List.map ajd k______)),(7,.row 63 (List.map aqd k_______))]
def aw1 (n:Nat) (k:List aj1) (k_:List aj5) (k__:List ajb) (k___:List Int) (k____:List Int) (k_____:List (List UInt8)) (k______:List Int) (k_______:List (List Int)) (k________:List UInt8) (k_________:Bool):Option (Int×Int) :=
 some ((-1),0)
abbrev azg (k:List aj1) (k_:List aj5) (k__:List ajb) (k___:List Int) (k____:List Int) (k_____:List (List UInt8)) (k______:List Int) (k_______:List (List Int)) (k________:List UInt8) (k_________:Bool) (name:List UInt8) (i:Int):S:=stB [(0,.box 0 0),(1,.c .str (.str name)),(7,.c (.int .i64) (.int i))] [(0,.box [.c (.slice 49) (.slice (List.map aj2 k)),.own 1 [.int .i64,.int .i64,.str,.int .i64,.int .i64,.int .i64,.int .i64] 0 k_.length,.own 2 [.str,.int .i64,.int .i64] 0 k__.length,.own 3 [.int .i64] 0 k___.length,.own 4 [.int .i64] 0 k____.length,.own 5 [.str] 0 k_____.length,.own 6 [.int .i64] 0 k______.length,.own 7 [.slice 3] 0 k_______.length,.c .str (.str k________),.c .bool (.bool k_________)]),(1,.row 156 (List.map aj8 k_)),(2,.row 158 (List.map ajf k__)),(3,.row 3 (List.map ajd k___)),(4,.row 3 (List.map ajd k____)),(5,.row 9 (List.map aq8 k_____)),(6,.row 3 (List.map ajd k______)),(7,.row 63 (List.map aqd k_______))]
def ajj (n:Nat) (k:List aj1) (k_:List aj5) (k__:List ajb) (k___:List Int) (k____:List Int) (k_____:List (List UInt8)) (k______:List Int) (k_______:List (List Int)) (k________:List UInt8) (k_________:Bool) (name:List UInt8) (i:Int):Option ((Int) ⊕ (((Int×Int) ⊕ (Unit)))) :=
 bif (decide (i < ((k__.length:Nat):Int))) then
  gd ((0≤i∧i < (k__.length:Int))∧(Int.toNat i) < k__.length) <|
  bif (((gt k__ (Int.toNat i)).Name) == name) then
   gd ((0≤i∧i < (k__.length:Int))∧(Int.toNat i) < k__.length) <|
   gd ((0≤((gt k__ (Int.toNat i)).Section)∧((gt k__ (Int.toNat i)).Section) < (k_.length:Int))∧(Int.toNat ((gt k__ (Int.toNat i)).Section)) < k_.length) <|
   some (.inr (.inl ((gt k__ (Int.toNat i)).Section,(jU .i64 (((gt k__ (Int.toNat i)).Old) - ((gt k_ (Int.toNat ((gt k__ (Int.toNat i)).Section))).Old))))))
  else
   some (.inl (jU .i64 (i+1)))
 else
  some (.inr (.inr ()))
def aq5 (n:Nat) (k:List aj1) (k_:List aj5) (k__:List ajb) (k___:List Int) (k____:List Int) (k_____:List (List UInt8)) (k______:List Int) (k_______:List (List Int)) (k________:List UInt8) (k_________:Bool) (name:List UInt8):Option (Int×Int) :=
 (aq3 n k k_ k__ k___ k____ k_____ k______ k_______ k________ k_________ name).bind fun r1 =>
 bif (decide (r1 ≥ 0)) then
  some (r1,0)
 else
  (azk (fun (x:Int)=>ajj n k k_ k__ k___ k____ k_____ k______ k_______ k________ k_________ name x) n 0).bind fun y9 =>
  match y9 with
  | .inl vv =>
   some (vv.1,vv.2)
  | .inr vv =>
   aw1 n k k_ k__ k___ k____ k_____ k______ k_______ k________ k_________
theorem bjm (n:Nat) (k:List aj1) (k_:List aj5) (k__:List ajb) (k___:List Int) (k____:List Int) (k_____:List (List UInt8)) (k______:List Int) (k_______:List (List Int)) (k________:List UInt8) (k_________:Bool) (name:List UInt8) (r:Int×Int) (H:aq5 n k k_ k__ k___ k____ k_____ k______ k_______ k________ k_________ name=some r):bjw ji 45 [.ref (.box 0 0),.dat (false,[.str]) [.str name]] [.box [.c (.slice 49) (.slice (List.map aj2 k)),.own 1 [.int .i64,.int .i64,.str,.int .i64,.int .i64,.int .i64,.int .i64] 0 k_.length,.own 2 [.str,.int .i64,.int .i64] 0 k__.length,.own 3 [.int .i64] 0 k___.length,.own 4 [.int .i64] 0 k____.length,.own 5 [.str] 0 k_____.length,.own 6 [.int .i64] 0 k______.length,.own 7 [.slice 3] 0 k_______.length,.c .str (.str k________),.c .bool (.bool k_________)],.row 156 (List.map aj8 k_),.row 158 (List.map ajf k__),.row 3 (List.map ajd k___),.row 3 (List.map ajd k____),.row 9 (List.map aq8 k_____),.row 3 (List.map ajd k______),.row 63 (List.map aqd k_______)] [.c (.int .i64) (.int r.1),.c (.int .i64) (.int r.2)] [.box [.c (.slice 49) (.slice (List.map aj2 k)),.own 1 [.int .i64,.int .i64,.str,.int .i64,.int .i64,.int .i64,.int .i64] 0 k_.length,.own 2 [.str,.int .i64,.int .i64] 0 k__.length,.own 3 [.int .i64] 0 k___.length,.own 4 [.int .i64] 0 k____.length,.own 5 [.str] 0 k_____.length,.own 6 [.int .i64] 0 k______.length,.own 7 [.slice 3] 0 k_______.length,.c .str (.str k________),.c .bool (.bool k_________)],.row 156 (List.map aj8 k_),.row 158 (List.map ajf k__),.row 3 (List.map ajd k___),.row 3 (List.map ajd k____),.row 9 (List.map aq8 k_____),.row 3 (List.map ajd k______),.row 63 (List.map aqd k_______)]:=by
 have hΓ:=@g0 (aj9 ji)
 refine bku (Tryz.f45.body.getD .skip) h00 Tryz.func45 rfl Tryz.call45 (j9 rfl) (j9 rfl) ?_
 unfold aq5 at H
 simp only [Tryz.f45,Option.getD]
 refine rA ?_
 refine sX fun K2 hK2=>?_
 obtain ⟨r1,hr1,H⟩:=bind_some H
 have q:=hr1
 iterate 2 refine oX ?_
 refine oMq (ako n _ _ _ _ _ _ _ _ _ _ _ r1 hr1) [0,1,2,3,4,5,6,7] [] ?_
 refine oXq ?_
 refine hK2 _ ?_
 refine Sm.seqK fun K3 hK3=>?_
 refine rA ?_
 refine cnd H (fun h5 H=>?_) (fun h5 H=>?_)
 ·refine rA ?_
  refine Sm.ret ?_
  refine lf ?_
  obtain rfl:=Option.some.inj H
  exact rtM [some 0,some 1,some 2,some 3,some 4,some 5,some 6,some 7]
 refine Jk ?_
 refine hK3 _ ?_
 refine Sm.cut (fun (x:Unit)=>azh k k_ k__ k___ k____ k_____ k______ k_______ k________ k_________) (fun x=>aw1 n k k_ k__ k___ k____ k_____ k______ k_______ k________ k_________=some r) ?_ ?_
 ·refine rA ?_
  refine Jd ?_
  obtain ⟨y9,hy9,Ho9⟩:=bind_some H
  refine Sm.loopB _ (fun x=>azg k k_ k__ k___ k____ k_____ k______ k_______ k________ k_________ name x) hy9 (wb [some 0,some 1,some 2,some 3,some 4,some 5,some 6,some 7]) ?_
  rintro i z9 H
  try dsimp only at H
  unfold ajj at H
  refine Sm.st (azg.eq_1 ..) ?_
  refine Sm.seqK fun K10 hK10=>?_
  refine sX fun K11 hK11=>?_
  iterate 2 refine oX ?_
  refine oE bjg ?_
  iterate 4 refine oX ?_
  refine hK11 _ ?_
  refine cnd H (fun h12 H=>?_) (fun h12 H=>?_)
  ·refine Jk ?_
   refine hK10 _ ?_
   refine Sm.seqK fun K13 hK13=>?_
   refine Jd ?_
   refine sX fun K14 hK14=>?_
   obtain ⟨⟨hg15,hg16⟩,H⟩:=aqu H
   refine oX ?_
   refine oE bjg ?_
   iterate 8 refine oX ?_
   refine hK14 _ ?_
   refine cnd H (fun h17 H=>?_) (fun h17 H=>?_)
   ·refine sX fun K18 hK18=>?_
    obtain ⟨⟨hg19,hg20⟩,H⟩:=aqu H
    refine oX ?_
    refine oE bjg ?_
    iterate 7 refine oX ?_
    refine hK18 _ ?_
    obtain ⟨⟨hg22,hg23⟩,H⟩:=aqu H
    refine sQ [0,1,2,3,4,5,6,7,8,9,10,11,12,13,14,15] [(none,[128],[]),(none,[128],[]),(none,[128],[]),(none,[128],[]),(none,[],[]),(none,[1000001,0],[]),(none,[0],[]),(none,[0],[]),(none,[128],[]),(none,[128],[]),(none,[1],[]),(none,[1],[]),(none,[1],[]),(none,[],[]),(none,[],[]),(none,[],[])] fun K21 hK21=>?_
    iterate 5 refine oQ ?_
    refine oQV ?_
    iterate 10 refine oQ ?_
    refine ew6 ?_
    refine hK21 _ ?_
    refine Sm.ret ?_
    refine lf ?_
    refine lx H fun hyy=>?_
    subst hyy
    have H:=Ho9
    try dsimp only at H
    refine lf ?_
    obtain rfl:=Option.some.inj H
    exact rtM [some 0,some 1,some 2,some 3,some 4,some 5,some 6,some 7]
   refine Jk ?_
   refine hK13 _ ?_
   refine eA ?_
   refine lf ?_
   exact nx H (wb [some 0,some 1,some 2,some 3,some 4,some 5,some 6,some 7])
  refine Sm.exit ?_
  refine lf ?_
  refine lx H fun hyy=>?_
  subst hyy
  have H:=Ho9
  try dsimp only at H
  refine lf ?_
  exact ⟨(),H,wb [some 0,some 1,some 2,some 3,some 4,some 5,some 6,some 7]⟩
 rintro ⟨⟩ H
 try dsimp only at H
 unfold aw1 at H
 refine Sm.st (azh.eq_1 ..) ?_
 refine rA ?_
 refine Sm.ret ?_
 refine lf ?_
 obtain rfl:=Option.some.inj H
 exact rtM [some 0,some 1,some 2,some 3,some 4,some 5,some 6,some 7]
abbrev bw7 (out_1:List (List UInt8)):S:=stB [(5,.own 9001 [.str] 0 out_1.length)] [(9001,.row 9 (List.map aq8 out_1))]
def aks (n:Nat) (out_1:List (List UInt8)):Option (List (List UInt8)) :=
 some out_1
abbrev bwc (name:List UInt8) (out:List (List UInt8)) (done:Bool):S:=stB [(1,.c .str (.str name)),(5,.own 9000 [.str] 0 out.length),(6,.c .bool (.bool done))] [(9000,.row 9 (List.map aq8 out))]
def akr (n:Nat) (name:List UInt8) (out:List (List UInt8)) (done:Bool):Option (List (List UInt8)) :=
 bif (!done) then
  gd ((out.length+1)≤2147483648) <|
  aks n (out ++ [name])
 else
  aks n out
abbrev bwa (l:List (List UInt8)) (name:List UInt8) (out_3:List (List UInt8)) (done_2:Bool) (i:Int):S:=stB [(0,.c (.slice 9) (.slice (List.map aq8 l))),(1,.c .str (.str name)),(5,.own 9004 [.str] 0 out_3.length),(6,.c .bool (.bool done_2)),(7,.c (.int .i64) (.int i))] [(9004,.row 9 (List.map aq8 out_3))]
def awh (n:Nat) (l:List (List UInt8)) (name:List UInt8) (out_3:List (List UInt8)) (done_2:Bool) (i:Int):Option (((List (List UInt8))×Bool×Int) ⊕ (((List (List UInt8))×Bool))) :=
 some (.inl (out_3,done_2,(jU .i64 (i+1))))
abbrev bw3 (l:List (List UInt8)) (name:List UInt8) (out_4:List (List UInt8)) (done_3:Bool) (i:Int):S:=stB [(0,.c (.slice 9) (.slice (List.map aq8 l))),(1,.c .str (.str name)),(5,.own 9005 [.str] 0 out_4.length),(6,.c .bool (.bool done_3)),(7,.c (.int .i64) (.int i))] [(9005,.row 9 (List.map aq8 out_4))]
def awk (n:Nat) (l:List (List UInt8)) (name:List UInt8) (out_4:List (List UInt8)) (done_3:Bool) (i:Int):Option (((List (List UInt8))×Bool×Int) ⊕ (((List (List UInt8))×Bool))) :=
 gd ((0≤i∧i < (l.length:Int))) <|
 bif ((gt l (Int.toNat i)) != name) then
  gd ((0≤i∧i < (l.length:Int))∧(out_4.length+1)≤2147483648) <|
  awh n l name (out_4 ++ [(gt l (Int.toNat i))]) done_3 i
 else
  awh n l name out_4 done_3 i
abbrev bqt (l:List (List UInt8)) (name:List UInt8) (out_2:List (List UInt8)) (done_1:Bool) (i:Int):S:=stB [(0,.c (.slice 9) (.slice (List.map aq8 l))),(1,.c .str (.str name)),(5,.own 9003 [.str] 0 out_2.length),(6,.c .bool (.bool done_1)),(7,.c (.int .i64) (.int i))] [(9003,.row 9 (List.map aq8 out_2))]
def aqk (n:Nat) (l:List (List UInt8)) (name:List UInt8) (out_2:List (List UInt8)) (done_1:Bool) (i:Int):Option (((List (List UInt8))×Bool×Int) ⊕ (((List (List UInt8))×Bool))) :=
 bif (decide (i < (l.length:Int))) then
  gd (((!done_1)=true→(0≤i∧i < (l.length:Int)))) <|
  bif (if (!done_1)=true then (!Op.bytesLess (gt l (Int.toNat i)) name) else false) then
   gd ((out_2.length+1)≤2147483648) <|
   awk n l name (out_2 ++ [name]) true i
  else
   awk n l name out_2 done_1 i
 else
  some (.inr (out_2,done_1))
def ay8 (n:Nat) (l:List (List UInt8)) (name:List UInt8):Option (List (List UInt8)) :=
 (azk (fun (x:(List (List UInt8))×Bool×Int)=>aqk n l name x.1 x.2.1 x.2.2) n ([],false,0)).bind fun y9 =>
 akr n name y9.1 y9.2
def bk4 (n:Nat):Go.AE.Fn:=mkFn (A:=(List (List UInt8))×(List UInt8)) (R:=(List (List UInt8))) 46 [(false,[.slice 9]),(false,[.str])] false (fun xs=>(((cg (xs.getD 0 []) 0).toSl.map dqm),(cg (xs.getD 1 []) 0).toStr)) (fun a=>[[.slice (List.map aq8 a.1)],[.str a.2]]) (fun a=>ay8 n a.1 a.2) (fun r=>[.own 0 [.str] 0 r.length]) (fun r=>[.row 9 (List.map aq8 r)])
theorem ckt (n:Nat):aj9 ji (bk4 n):=by
 have hΓ:=@g0 (aj9 ji)
 refine bwr (Tryz.f46.body.getD .skip) h00 Tryz.func46 rfl Tryz.call46 (by decide) (fun _ r=>⟨rfl,m1 ⟨9,_,_,rfl,ty9,rfl⟩ m0⟩) ?_
 rintro ⟨l,name⟩ r H
 try dsimp only at H
 unfold ay8 at H
 simp only [Tryz.f46,Option.getD]
 refine rA ?_
 refine rA ?_
 refine rA ?_
 refine Sm.cut (fun (x:(List (List UInt8))×Bool)=>bwc name x.1 x.2) (fun x=>akr n name x.1 x.2=some r) ?_ ?_
 ·refine rA ?_
  refine Jd ?_
  obtain ⟨y9,hy9,Ho9⟩:=bind_some H
  refine Sm.loopB _ (fun x=>bqt l name x.1 x.2.1 x.2.2) hy9 (wb [none]) ?_
  rintro ⟨out_2,done_1,i⟩ z9 H
  try dsimp only at H
  unfold aqk at H
  refine Sm.st (bqt.eq_1 ..) ?_
  refine Sm.seqK fun K10 hK10=>?_
  refine rA ?_
  refine cnd H (fun h12 H=>?_) (fun h12 H=>?_)
  ·refine Jk ?_
   refine hK10 _ ?_
   refine Sm.cut (fun (x:(List (List UInt8))×Bool)=>bwa l name x.1 x.2 i) (fun x=>awh n l name x.1 x.2 i=some z9) ?_ ?_
   ·refine Jd ?_
    refine Sm.cut (fun (x:(List (List UInt8))×Bool)=>bw3 l name x.1 x.2 i) (fun x=>awk n l name x.1 x.2 i=some z9) ?_ ?_
    ·obtain ⟨hg22,H⟩:=aqu H
     refine rA ?_
     refine cnd H (fun h19 H=>?_) (fun h19 H=>?_)
     ·obtain ⟨hg21,H⟩:=aqu H
      refine rA ?_
      refine eA ?_
      refine lf ?_
      exact ⟨((out_2 ++ [name]),true),H,wb [some 432]⟩
     refine Jk ?_
     refine lf ?_
     exact ⟨(out_2,done_1),H,wb [some 9003]⟩
    rintro ⟨out_4,done_3⟩ H
    try dsimp only at H
    unfold awk at H
    refine Sm.st (bw3.eq_1 ..) ?_
    obtain ⟨hg17,H⟩:=aqu H
    refine rA ?_
    refine cnd H (fun h14 H=>?_) (fun h14 H=>?_)
    ·obtain ⟨⟨hg15,hg16⟩,H⟩:=aqu H
     refine eA ?_
     refine lf ?_
     exact ⟨((out_4 ++ [(gt l (Int.toNat i))]),done_3),H,wb [some 640]⟩
    refine Jk ?_
    refine lf ?_
    exact ⟨(out_4,done_3),H,wb [some 9005]⟩
   rintro ⟨out_3,done_2⟩ H
   try dsimp only at H
   unfold awh at H
   refine Sm.st (bwa.eq_1 ..) ?_
   refine eA ?_
   refine lf ?_
   exact nx H (wb [some 9004])
  refine Sm.exit ?_
  refine lf ?_
  refine lx H fun hyy=>?_
  subst hyy
  have H:=Ho9
  try dsimp only at H
  refine lf ?_
  exact ⟨(out_2,done_1),H,wb [some 9003]⟩
 rintro ⟨out,done⟩ H
 try dsimp only at H
 unfold akr at H
 refine Sm.st (bwc.eq_1 ..) ?_
 refine Sm.cut (fun (x:(List (List UInt8)))=>bw7 x) (fun x=>aks n x=some r) ?_ ?_
 ·refine rA ?_
  refine cnd H (fun h6 H=>?_) (fun h6 H=>?_)
  ·obtain ⟨hg7,H⟩:=aqu H
   refine eA ?_
   refine lf ?_
   exact ⟨_,H,wb [some 736]⟩
  refine Jk ?_
  refine lf ?_
  exact ⟨_,H,wb [some 9000]⟩
 rintro out_1 H
 try dsimp only at H
 unfold aks at H
 refine Sm.st (bw7.eq_1 ..) ?_
 refine rA ?_
 refine Sm.ret ?_
 refine lf ?_
 obtain rfl:=Option.some.inj H
 exact rto [some 9001]
abbrev ays (out:List (List UInt8)):S:=stB [(4,.own 9000 [.str] 0 out.length)] [(9000,.row 9 (List.map aq8 out))]
def awt (n:Nat) (out:List (List UInt8)):Option (List (List UInt8)) :=
 some out
abbrev bj0 (l:List aj1) (k:List aj1) (k_1:List aj5) (k_2:List ajb) (k_3:List Int) (k_4:List Int) (k_5:List (List UInt8)) (k_6:List Int) (k_7:List (List Int)) (k_8:List UInt8) (k_9:Bool) (out_2:List (List UInt8)) (m:Int):S:=stB [(0,.c (.slice 49) (.slice (List.map aj2 l))),(3,.box 9027 0),(4,.own 9035 [.str] 0 out_2.length),(5,.c (.int .i64) (.int m))] [(9027,.box [.c (.slice 49) (.slice (List.map aj2 k)),.own 9028 [.int .i64,.int .i64,.str,.int .i64,.int .i64,.int .i64,.int .i64] 0 k_1.length,.own 9029 [.str,.int .i64,.int .i64] 0 k_2.length,.own 9030 [.int .i64] 0 k_3.length,.own 9031 [.int .i64] 0 k_4.length,.own 9032 [.str] 0 k_5.length,.own 9033 [.int .i64] 0 k_6.length,.own 9034 [.slice 3] 0 k_7.length,.c .str (.str k_8),.c .bool (.bool k_9)]),(9028,.row 156 (List.map aj8 k_1)),(9029,.row 158 (List.map ajf k_2)),(9030,.row 3 (List.map ajd k_3)),(9031,.row 3 (List.map ajd k_4)),(9032,.row 9 (List.map aq8 k_5)),(9033,.row 3 (List.map ajd k_6)),(9034,.row 63 (List.map aqd k_7)),(9035,.row 9 (List.map aq8 out_2))]
def awu (n:Nat) (l:List aj1) (k:List aj1) (k_1:List aj5) (k_2:List ajb) (k_3:List Int) (k_4:List Int) (k_5:List (List UInt8)) (k_6:List Int) (k_7:List (List Int)) (k_8:List UInt8) (k_9:Bool) (out_2:List (List UInt8)) (m:Int):Option (((List (List UInt8))×Int) ⊕ (((List (List UInt8))))) :=
 some (.inl (out_2,(jU .i64 (m+1))))
abbrev bj3 (l:List aj1) (k:List aj1) (k_1:List aj5) (k_2:List ajb) (k_3:List Int) (k_4:List Int) (k_5:List (List UInt8)) (k_6:List Int) (k_7:List (List Int)) (k_8:List UInt8) (k_9:Bool) (out_4:List (List UInt8)) (m:Int) (i:Int):S:=stB [(0,.c (.slice 49) (.slice (List.map aj2 l))),(3,.box 9054 0),(4,.own 9062 [.str] 0 out_4.length),(5,.c (.int .i64) (.int m)),(6,.c (.int .i64) (.int i))] [(9054,.box [.c (.slice 49) (.slice (List.map aj2 k)),.own 9055 [.int .i64,.int .i64,.str,.int .i64,.int .i64,.int .i64,.int .i64] 0 k_1.length,.own 9056 [.str,.int .i64,.int .i64] 0 k_2.length,.own 9057 [.int .i64] 0 k_3.length,.own 9058 [.int .i64] 0 k_4.length,.own 9059 [.str] 0 k_5.length,.own 9060 [.int .i64] 0 k_6.length,.own 9061 [.slice 3] 0 k_7.length,.c .str (.str k_8),.c .bool (.bool k_9)]),(9055,.row 156 (List.map aj8 k_1)),(9056,.row 158 (List.map ajf k_2)),(9057,.row 3 (List.map ajd k_3)),(9058,.row 3 (List.map ajd k_4)),(9059,.row 9 (List.map aq8 k_5)),(9060,.row 3 (List.map ajd k_6)),(9061,.row 63 (List.map aqd k_7)),(9062,.row 9 (List.map aq8 out_4))]
def aqg (n:Nat) (l:List aj1) (k:List aj1) (k_1:List aj5) (k_2:List ajb) (k_3:List Int) (k_4:List Int) (k_5:List (List UInt8)) (k_6:List Int) (k_7:List (List Int)) (k_8:List UInt8) (k_9:Bool) (out_4:List (List UInt8)) (m:Int) (i:Int):Option (((List (List UInt8))×Int) ⊕ (((List (List UInt8))))) :=
 some (.inl (out_4,(jU .i64 (i+1))))
abbrev ayo (l:List aj1) (k:List aj1) (k_1:List aj5) (k_2:List ajb) (k_3:List Int) (k_4:List Int) (k_5:List (List UInt8)) (k_6:List Int) (k_7:List (List Int)) (k_8:List UInt8) (k_9:Bool) (m:Int) (out_3:List (List UInt8)) (i:Int):S:=stB [(0,.c (.slice 49) (.slice (List.map aj2 l))),(3,.box 9045 0),(4,.own 9053 [.str] 0 out_3.length),(5,.c (.int .i64) (.int m)),(6,.c (.int .i64) (.int i))] [(9045,.box [.c (.slice 49) (.slice (List.map aj2 k)),.own 9046 [.int .i64,.int .i64,.str,.int .i64,.int .i64,.int .i64,.int .i64] 0 k_1.length,.own 9047 [.str,.int .i64,.int .i64] 0 k_2.length,.own 9048 [.int .i64] 0 k_3.length,.own 9049 [.int .i64] 0 k_4.length,.own 9050 [.str] 0 k_5.length,.own 9051 [.int .i64] 0 k_6.length,.own 9052 [.slice 3] 0 k_7.length,.c .str (.str k_8),.c .bool (.bool k_9)]),(9046,.row 156 (List.map aj8 k_1)),(9047,.row 158 (List.map ajf k_2)),(9048,.row 3 (List.map ajd k_3)),(9049,.row 3 (List.map ajd k_4)),(9050,.row 9 (List.map aq8 k_5)),(9051,.row 3 (List.map ajd k_6)),(9052,.row 63 (List.map aqd k_7)),(9053,.row 9 (List.map aq8 out_3))]
def ajs (n:Nat) (l:List aj1) (k:List aj1) (k_1:List aj5) (k_2:List ajb) (k_3:List Int) (k_4:List Int) (k_5:List (List UInt8)) (k_6:List Int) (k_7:List (List Int)) (k_8:List UInt8) (k_9:Bool) (m:Int) (out_3:List (List UInt8)) (i:Int):Option (((List (List UInt8))×Int) ⊕ (((List (List UInt8))))) :=
 gd ((0≤m∧m < (l.length:Int))) <|
 bif (decide (i < (((gt l (Int.toNat m)).Esds).length:Int))) then
  gd ((0≤m∧m < (l.length:Int))∧(0≤i∧i < (((gt l (Int.toNat m)).Esds).length:Int))) <|
  (aq5 n k k_1 k_2 k_3 k_4 k_5 k_6 k_7 k_8 k_9 ((gt ((gt l (Int.toNat m)).Esds) (Int.toNat i)).Name)).bind fun r2 =>
  bif (if (((gt ((gt l (Int.toNat m)).Esds) (Int.toNat i)).Kind) == 3)=true then (decide (r2.1 < 0)) else false) then
   (ay8 n out_3 ((gt ((gt l (Int.toNat m)).Esds) (Int.toNat i)).Name)).bind fun r3 =>
   aqg n l k k_1 k_2 k_3 k_4 k_5 k_6 k_7 k_8 k_9 r3 m i
  else
   aqg n l k k_1 k_2 k_3 k_4 k_5 k_6 k_7 k_8 k_9 out_3 m i
 else
  some (.inr out_3)
abbrev bj5 (l:List aj1) (k:List aj1) (k_1:List aj5) (k_2:List ajb) (k_3:List Int) (k_4:List Int) (k_5:List (List UInt8)) (k_6:List Int) (k_7:List (List Int)) (k_8:List UInt8) (k_9:Bool) (out_1:List (List UInt8)) (m:Int):S:=stB [(0,.c (.slice 49) (.slice (List.map aj2 l))),(3,.box 9018 0),(4,.own 9026 [.str] 0 out_1.length),(5,.c (.int .i64) (.int m))] [(9018,.box [.c (.slice 49) (.slice (List.map aj2 k)),.own 9019 [.int .i64,.int .i64,.str,.int .i64,.int .i64,.int .i64,.int .i64] 0 k_1.length,.own 9020 [.str,.int .i64,.int .i64] 0 k_2.length,.own 9021 [.int .i64] 0 k_3.length,.own 9022 [.int .i64] 0 k_4.length,.own 9023 [.str] 0 k_5.length,.own 9024 [.int .i64] 0 k_6.length,.own 9025 [.slice 3] 0 k_7.length,.c .str (.str k_8),.c .bool (.bool k_9)]),(9019,.row 156 (List.map aj8 k_1)),(9020,.row 158 (List.map ajf k_2)),(9021,.row 3 (List.map ajd k_3)),(9022,.row 3 (List.map ajd k_4)),(9023,.row 9 (List.map aq8 k_5)),(9024,.row 3 (List.map ajd k_6)),(9025,.row 63 (List.map aqd k_7)),(9026,.row 9 (List.map aq8 out_1))]
def ajt (n:Nat) (l:List aj1) (k:List aj1) (k_1:List aj5) (k_2:List ajb) (k_3:List Int) (k_4:List Int) (k_5:List (List UInt8)) (k_6:List Int) (k_7:List (List Int)) (k_8:List UInt8) (k_9:Bool) (out_1:List (List UInt8)) (m:Int):Option (((List (List UInt8))×Int) ⊕ (((List (List UInt8))))) :=
 bif (decide (m < (l.length:Int))) then
  (azk (fun (x:(List (List UInt8))×Int)=>ajs n l k k_1 k_2 k_3 k_4 k_5 k_6 k_7 k_8 k_9 m x.1 x.2) n (out_1,0)).bind fun y11 =>
  awu n l k k_1 k_2 k_3 k_4 k_5 k_6 k_7 k_8 k_9 y11 m
 else
  some (.inr out_1)
def awz (n:Nat) (l:List aj1):Option (List (List UInt8)) :=
 (awy n l).bind fun r1 =>
 (azk (fun (x:(List (List UInt8))×Int)=>ajt n l r1.1 r1.2.1 r1.2.2.1 r1.2.2.2.1 r1.2.2.2.2.1 r1.2.2.2.2.2.1 r1.2.2.2.2.2.2.1 r1.2.2.2.2.2.2.2.1 r1.2.2.2.2.2.2.2.2.1 r1.2.2.2.2.2.2.2.2.2 x.1 x.2) n ([],0)).bind fun y6 =>
 awt n y6
def bju (n:Nat):Go.AE.Fn:=mkFn (A:=(List aj1)) (R:=(List (List UInt8))) 21 [(false,[.slice 49])] false (fun xs=>((cg (xs.getD 0 []) 0).toSl.map awa)) (fun a=>[[.slice (List.map aj2 a)]]) (fun a=>awz n a) (fun r=>[.own 0 [.str] 0 r.length]) (fun r=>[.row 9 (List.map aq8 r)])
theorem bkv (n:Nat):aj9 ji (bju n):=by
 have hΓ:=g1 (ckt n) (@g0 (aj9 ji))
 refine bwr (Tryz.f21.body.getD .skip) h00 Tryz.func21 rfl Tryz.call21 (by decide) (fun _ r=>⟨rfl,m1 ⟨9,_,_,rfl,ty9,rfl⟩ m0⟩) ?_
 rintro l r H
 try dsimp only at H
 unfold awz at H
 simp only [Tryz.f21,Option.getD]
 refine rA ?_
 refine sX fun K2 hK2=>?_
 obtain ⟨r1,hr1,H⟩:=bind_some H
 have q:=hr1
 refine oX ?_
 refine oMq (by1 n _ r1 hr1) [] [176,177,178,179,180,181,182,183] ?_
 refine oXq ?_
 refine hK2 _ ?_
 refine rA ?_
 refine Sm.cut (fun (x:(List (List UInt8)))=>ays x) (fun x=>awt n x=some r) ?_ ?_
 ·refine rA ?_
  refine Jd ?_
  obtain ⟨y6,hy6,Ho6⟩:=bind_some H
  refine Sm.loopB _ (fun x=>bj5 l r1.1 r1.2.1 r1.2.2.1 r1.2.2.2.1 r1.2.2.2.2.1 r1.2.2.2.2.2.1 r1.2.2.2.2.2.2.1 r1.2.2.2.2.2.2.2.1 r1.2.2.2.2.2.2.2.2.1 r1.2.2.2.2.2.2.2.2.2 x.1 x.2) hy6 (wb [some 176,some 177,some 178,some 179,some 180,some 181,some 182,some 183,none]) ?_
  rintro ⟨out_1,m⟩ z6 H
  try dsimp only at H
  unfold ajt at H
  refine Sm.st (bj5.eq_1 ..) ?_
  refine Sm.seqK fun K7 hK7=>?_
  refine rA ?_
  refine cnd H (fun h9 H=>?_) (fun h9 H=>?_)
  ·refine Jk ?_
   refine hK7 _ ?_
   refine Sm.cut (fun (x:(List (List UInt8)))=>bj0 l r1.1 r1.2.1 r1.2.2.1 r1.2.2.2.1 r1.2.2.2.2.1 r1.2.2.2.2.2.1 r1.2.2.2.2.2.2.1 r1.2.2.2.2.2.2.2.1 r1.2.2.2.2.2.2.2.2.1 r1.2.2.2.2.2.2.2.2.2 x m) (fun x=>awu n l r1.1 r1.2.1 r1.2.2.1 r1.2.2.2.1 r1.2.2.2.2.1 r1.2.2.2.2.2.1 r1.2.2.2.2.2.2.1 r1.2.2.2.2.2.2.2.1 r1.2.2.2.2.2.2.2.2.1 r1.2.2.2.2.2.2.2.2.2 x m=some z6) ?_ ?_
   ·refine Jd ?_
    refine rA ?_
    refine Jd ?_
    obtain ⟨y11,hy11,Ho11⟩:=bind_some H
    refine Sm.loopB _ (fun x=>ayo l r1.1 r1.2.1 r1.2.2.1 r1.2.2.2.1 r1.2.2.2.2.1 r1.2.2.2.2.2.1 r1.2.2.2.2.2.2.1 r1.2.2.2.2.2.2.2.1 r1.2.2.2.2.2.2.2.2.1 r1.2.2.2.2.2.2.2.2.2 m x.1 x.2) hy11 (wb [some 9018,some 9019,some 9020,some 9021,some 9022,some 9023,some 9024,some 9025,some 9026]) ?_
    rintro ⟨out_3,i⟩ z11 H
    try dsimp only at H
    unfold ajs at H
    refine Sm.st (ayo.eq_1 ..) ?_
    refine Sm.seqK fun K12 hK12=>?_
    obtain ⟨hg21,H⟩:=aqu H
    refine rA ?_
    refine cnd H (fun h14 H=>?_) (fun h14 H=>?_)
    ·refine Jk ?_
     refine hK12 _ ?_
     refine Sm.cut (fun (x:(List (List UInt8)))=>bj3 l r1.1 r1.2.1 r1.2.2.1 r1.2.2.2.1 r1.2.2.2.2.1 r1.2.2.2.2.2.1 r1.2.2.2.2.2.2.1 r1.2.2.2.2.2.2.2.1 r1.2.2.2.2.2.2.2.2.1 r1.2.2.2.2.2.2.2.2.2 x m i) (fun x=>aqg n l r1.1 r1.2.1 r1.2.2.1 r1.2.2.2.1 r1.2.2.2.2.1 r1.2.2.2.2.2.1 r1.2.2.2.2.2.2.1 r1.2.2.2.2.2.2.2.1 r1.2.2.2.2.2.2.2.2.1 r1.2.2.2.2.2.2.2.2.2 x m i=some z11) ?_ ?_
     ·refine Jd ?_
      obtain ⟨⟨hg19,hg20⟩,H⟩:=aqu H
      refine rA ?_
      refine sX fun K16 hK16=>?_
      obtain ⟨r2,hr2,H⟩:=bind_some H
      have q:=hr2
      iterate 3 refine oX ?_
      refine oMq (bjm n _ _ _ _ _ _ _ _ _ _ _ r2 hr2) [9045,9046,9047,9048,9049,9050,9051,9052] [] ?_
      iterate 5 refine oXq ?_
      refine hK16 _ ?_
      refine rA ?_
      refine cnd H (fun h18 H=>?_) (fun h18 H=>?_)
      ·obtain ⟨r3,hr3,H⟩:=bind_some H
       have q:=aI @bk4.eq_1 hr3
       refine eAq ?_
       refine lf ?_
       exact ⟨_,H,wb [some 9045,some 9046,some 9047,some 9048,some 9049,some 9050,some 9051,some 9052,some 848]⟩
      refine Jk ?_
      refine lf ?_
      exact ⟨_,H,wb [some 9045,some 9046,some 9047,some 9048,some 9049,some 9050,some 9051,some 9052,some 9053]⟩
     rintro out_4 H
     try dsimp only at H
     unfold aqg at H
     refine Sm.st (bj3.eq_1 ..) ?_
     refine eA ?_
     refine lf ?_
     exact nx H (wb [some 9054,some 9055,some 9056,some 9057,some 9058,some 9059,some 9060,some 9061,some 9062])
    refine Sm.exit ?_
    refine lf ?_
    refine lx H fun hyy=>?_
    subst hyy
    have H:=Ho11
    try dsimp only at H
    refine lf ?_
    exact ⟨_,H,wb [some 9045,some 9046,some 9047,some 9048,some 9049,some 9050,some 9051,some 9052,some 9053]⟩
   rintro out_2 H
   try dsimp only at H
   unfold awu at H
   refine Sm.st (bj0.eq_1 ..) ?_
   refine eA ?_
   refine lf ?_
   exact nx H (wb [some 9027,some 9028,some 9029,some 9030,some 9031,some 9032,some 9033,some 9034,some 9035])
  refine Sm.exit ?_
  refine lf ?_
  refine lx H fun hyy=>?_
  subst hyy
  have H:=Ho6
  try dsimp only at H
  refine lf ?_
  exact ⟨_,H,wb [some 9026]⟩
 rintro out H
 try dsimp only at H
 unfold awt at H
 refine Sm.st (ays.eq_1 ..) ?_
 refine rA ?_
 refine Sm.ret ?_
 refine lf ?_
 obtain rfl:=Option.some.inj H
 exact rto [some 9000]
abbrev bjd:S:=stB [] []
def akm (n:Nat):Option Bool :=
 some true
abbrev bjc (a:List (List UInt8)) (b:List (List UInt8)) (i:Int):S:=stB [(0,.c (.slice 9) (.slice (List.map aq8 a))),(1,.c (.slice 9) (.slice (List.map aq8 b))),(5,.c (.int .i64) (.int i))] []
def aqn (n:Nat) (a:List (List UInt8)) (b:List (List UInt8)) (i:Int):Option ((Int) ⊕ (((Bool) ⊕ (Unit)))) :=
 bif (decide (i < (a.length:Int))) then
  gd ((0≤i∧i < (a.length:Int))∧(0≤i∧i < (b.length:Int))) <|
  bif ((gt a (Int.toNat i)) != (gt b (Int.toNat i))) then
   some (.inr (.inl false))
  else
   some (.inl (jU .i64 (i+1)))
 else
  some (.inr (.inr ()))
def azi (n:Nat) (a:List (List UInt8)) (b:List (List UInt8)):Option Bool :=
 bif ((a.length:Int) != (b.length:Int)) then
  some false
 else
  (azk (fun (x:Int)=>aqn n a b x) n 0).bind fun y8 =>
  match y8 with
  | .inl vv =>
   some vv
  | .inr vv =>
   akm n
def bqk (n:Nat):Go.AE.Fn:=mkFn (A:=(List (List UInt8))×(List (List UInt8))) (R:=Bool) 19 [(false,[.slice 9]),(false,[.slice 9])] false (fun xs=>(((cg (xs.getD 0 []) 0).toSl.map dqm),((cg (xs.getD 1 []) 0).toSl.map dqm))) (fun a=>[[.slice (List.map aq8 a.1)],[.slice (List.map aq8 a.2)]]) (fun a=>azi n a.1 a.2) (fun r=>[.c .bool (.bool r)]) (fun r=>[])
theorem cji (n:Nat):aj9 ji (bqk n):=by
 have hΓ:=@g0 (aj9 ji)
 refine bwr (Tryz.f19.body.getD .skip) h00 Tryz.func19 rfl Tryz.call19 (by decide) (by intro _ r;exact ⟨rfl,by simp⟩) ?_
 rintro ⟨a,b⟩ r H
 try dsimp only at H
 unfold azi at H
 simp only [Tryz.f19,Option.getD]
 refine rA ?_
 refine Sm.seqK fun K2 hK2=>?_
 refine rA ?_
 refine cnd H (fun h4 H=>?_) (fun h4 H=>?_)
 ·refine rA ?_
  refine Sm.ret ?_
  refine lf ?_
  obtain rfl:=Option.some.inj H
  exact rt []
 refine Jk ?_
 refine hK2 _ ?_
 refine Sm.cut (fun (x:Unit)=>bjd) (fun x=>akm n=some r) ?_ ?_
 ·refine rA ?_
  refine Jd ?_
  obtain ⟨y8,hy8,Ho8⟩:=bind_some H
  refine Sm.loopB _ (fun x=>bjc a b x) hy8 (wb []) ?_
  rintro i z8 H
  try dsimp only at H
  unfold aqn at H
  refine Sm.st (bjc.eq_1 ..) ?_
  refine Sm.seqK fun K9 hK9=>?_
  refine rA ?_
  refine cnd H (fun h11 H=>?_) (fun h11 H=>?_)
  ·refine Jk ?_
   refine hK9 _ ?_
   refine Sm.seqK fun K12 hK12=>?_
   refine Jd ?_
   obtain ⟨⟨hg16,hg17⟩,H⟩:=aqu H
   refine rD ?_
   refine cnd H (fun h14 H=>?_) (fun h14 H=>?_)
   ·refine rA ?_
    refine Sm.ret ?_
    refine lf ?_
    refine lx H fun hyy=>?_
    subst hyy
    have H:=Ho8
    try dsimp only at H
    refine lf ?_
    obtain rfl:=Option.some.inj H
    exact rt []
   refine Jk ?_
   refine hK12 _ ?_
   refine eA ?_
   refine lf ?_
   exact nx H (wb [])
  refine Sm.exit ?_
  refine lf ?_
  refine lx H fun hyy=>?_
  subst hyy
  have H:=Ho8
  try dsimp only at H
  refine lf ?_
  exact ⟨(),H,wb []⟩
 rintro ⟨⟩ H
 try dsimp only at H
 unfold akm at H
 refine Sm.st (bjd.eq_1 ..) ?_
 refine rA ?_
 refine Sm.ret ?_
 refine lf ?_
 obtain rfl:=Option.some.inj H
 exact rt []
end Go.Proofs.YtfhnelkbiihpiaaGreatDoor
