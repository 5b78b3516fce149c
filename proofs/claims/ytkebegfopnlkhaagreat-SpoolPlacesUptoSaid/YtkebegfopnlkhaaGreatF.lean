/- Text. -/
import Derived.Test.YtkebegfopnlkhaaGreatF1
set_option maxHeartbeats 8000000
set_option linter.unusedVariables false
set_option linter.unusedSimpArgs false
set_option maxRecDepth 100000
namespace Go.Proofs.YtkebegfopnlkhaaGreat
open Go.AE
abbrev ref15_Copy_s1 (out:List TRec):S:=stB [(3,.own 9000 [.int .i64,.slice 5,.slice 5,.bool] 0 out.length)] [(9000,.row 74 (List.map e_TRec out))]
def ref15_Copy_k1 (n:Nat) (out:List TRec):Option (List TRec) :=
  some out
abbrev ref15_Copy_t2 (t:List TRec) (out_1:List TRec) (i:Int):S:=stB [(0,.c (.slice 74) (.slice (List.map e_TRec t))),(3,.own 9002 [.int .i64,.slice 5,.slice 5,.bool] 0 out_1.length),(4,.c (.int .i64) (.int i))] [(9002,.row 74 (List.map e_TRec out_1))]
def ref15_Copy_b2 (n:Nat) (t:List TRec) (out_1:List TRec) (i:Int):Option (((List TRec)×Int) ⊕ (((List TRec)))) :=
  bif (decide (i < (t.length:Int))) then
    gd ((0≤i∧i < (t.length:Int))) <|
    (ref15_One n (gt t (Int.toNat i))).bind fun r1 =>
    gd ((out_1.length+1)≤2147483648) <|
    some (.inl ((out_1 ++ [r1]),(IntKind.wrap .i64 (i+1))))
  else
    some (.inr out_1)
def ref15_Copy (n:Nat) (t:List TRec):Option (List TRec) :=
  (loopF (fun (x:(List TRec)×Int)=>ref15_Copy_b2 n t x.1 x.2) n ([],0)).bind fun y5 =>
  ref15_Copy_k1 n y5
def xref15_Copy (n:Nat):Go.AE.Fn:=mkFn (A:=(List TRec)) (R:=(List TRec)) 94 [(false,[.slice 74])] true (fun xs=>((cg (xs.getD 0 []) 0).toSl.map d_TRec)) (fun a=>[[.slice (List.map e_TRec a)]]) (fun a=>ref15_Copy n a) (fun r=>[.own 0 [.int .i64,.slice 5,.slice 5,.bool] 0 r.length]) (fun r=>[.row 74 (List.map e_TRec r)])
theorem cref15_Copy (n:Nat):Contract Tryz.prog (xref15_Copy n):=by
  have hΓ:=g1 (cref15_One n) (@g0 (Contract Tryz.prog))
  refine contract_f (Tryz.f94.body.getD .skip) h00 Tryz.func94 rfl Tryz.call94 (by decide) (by intro h;cases h) ?_
  rintro t r H
  try dsimp only at H
  unfold ref15_Copy at H
  simp only [Tryz.f94,Option.getD]
  refine rA ?_
  refine rA ?_
  refine Sm.cut (fun (x:(List TRec))=>ref15_Copy_s1 x) (fun x=>ref15_Copy_k1 n x=some r) ?_ ?_
  · refine rA ?_
    refine Sm.block ?_
    obtain ⟨y5,hy5,Ho5⟩:=bind_some H
    refine Sm.loopB _ (fun x=>ref15_Copy_t2 t x.1 x.2) hy5 (wb [none]) ?_
    rintro ⟨out_1,i⟩ z5 H
    try dsimp only at H
    unfold ref15_Copy_b2 at H
    refine Sm.st (ref15_Copy_t2.eq_1 ..) ?_
    refine Sm.seqK fun K6 hK6=>?_
    refine rA ?_
    refine cnd H (fun h8 H=>?_) (fun h8 H=>?_)
    · refine Sm.skip ?_
      refine hK6 _ ?_
      refine Sm.seqK fun K9 hK9=>?_
      refine Sm.block ?_
      obtain ⟨hg10,H⟩:=gd_some H
      obtain ⟨r1,hr1,H⟩:=bind_some H
      obtain ⟨hg11,H⟩:=gd_some H
      have q:=And.intro @xref15_One.eq_1 hr1
      refine eAq ?_
      refine hK9 _ ?_
      refine eA ?_
      refine lf ?_
      exact nx H (wb [some 288])
    refine Sm.exit ?_
    refine lf ?_
    refine lx H fun hyy=>?_
    subst hyy
    have H:=Ho5
    try dsimp only at H
    refine lf ?_
    exact ⟨_,H,wb [some 9002]⟩
  rintro out H
  try dsimp only at H
  unfold ref15_Copy_k1 at H
  refine Sm.st (ref15_Copy_s1.eq_1 ..) ?_
  refine rA ?_
  refine Sm.ret ?_
  refine lf ?_
  obtain rfl:=Option.some.inj H
  exact rto [some 9000]
def ref15_record (n:Nat) (r_:TRec):Option Bool :=
  some (if (if (decide (r_.R ≥ 1))=true then (decide (r_.R≤255)) else false)=true then (decide ((r_.Key.length:Int)≤255)) else false)
def xref15_record (n:Nat):Go.AE.Fn:=mkFn (A:=TRec) (R:=Bool) 101 [(true,[.int .i64,.slice 5,.slice 5,.bool])] false (fun xs=>(⟨(cg (xs.getD 0 []) 0).toInt,((cg (xs.getD 0 []) 1).toSl.map d_Int),((cg (xs.getD 0 []) 2).toSl.map d_Int),(cg (xs.getD 0 []) 3).toBool⟩:TRec)) (fun a=>[[.int a.R,.slice (List.map e_Int a.Key),.slice (List.map e_Int a.Data),.bool a.Bad]]) (fun a=>ref15_record n a) (fun r=>[.c .bool (.bool r)]) (fun r=>[])
theorem cref15_record (n:Nat):Contract Tryz.prog (xref15_record n):=by
  have hΓ:=@g0 (Contract Tryz.prog)
  refine contract_f (Tryz.f101.body.getD .skip) h00 Tryz.func101 rfl Tryz.call101 (by decide) (by intro _ r;exact ⟨rfl,by simp⟩) ?_
  rintro r_ r H
  try dsimp only at H
  unfold ref15_record at H
  simp only [Tryz.f101,Option.getD]
  refine rA ?_
  refine rA ?_
  refine Sm.ret ?_
  refine lf ?_
  obtain rfl:=Option.some.inj H
  exact rt []
abbrev ref15_Cost_s1 (n_:Int):S:=stB [(3,.c (.int .i64) (.int n_))] []
def ref15_Cost_k1 (n:Nat) (n_:Int):Option Int :=
  some n_
def ref15_Cost (n:Nat) (r_:TRec):Option Int :=
  bif (decide ((r_.Key.length:Int) > 0)) then
    ref15_Cost_k1 n (IntKind.wrap .i64 ((IntKind.wrap .i64 ((IntKind.wrap .i64 (32+(r_.Data.length:Int)))+16))+(r_.Key.length:Int)))
  else
    ref15_Cost_k1 n (IntKind.wrap .i64 (32+(r_.Data.length:Int)))
def xref15_Cost (n:Nat):Go.AE.Fn:=mkFn (A:=TRec) (R:=Int) 105 [(true,[.int .i64,.slice 5,.slice 5,.bool])] false (fun xs=>(⟨(cg (xs.getD 0 []) 0).toInt,((cg (xs.getD 0 []) 1).toSl.map d_Int),((cg (xs.getD 0 []) 2).toSl.map d_Int),(cg (xs.getD 0 []) 3).toBool⟩:TRec)) (fun a=>[[.int a.R,.slice (List.map e_Int a.Key),.slice (List.map e_Int a.Data),.bool a.Bad]]) (fun a=>ref15_Cost n a) (fun r=>[.c (.int .i64) (.int r)]) (fun r=>[])
theorem cref15_Cost (n:Nat):Contract Tryz.prog (xref15_Cost n):=by
  have hΓ:=@g0 (Contract Tryz.prog)
  refine contract_f (Tryz.f105.body.getD .skip) h00 Tryz.func105 rfl Tryz.call105 (by decide) (by intro _ r;exact ⟨rfl,by simp⟩) ?_
  rintro r_ r H
  try dsimp only at H
  unfold ref15_Cost at H
  simp only [Tryz.f105,Option.getD]
  refine rA ?_
  refine rA ?_
  refine Sm.cut (fun (x:Int)=>ref15_Cost_s1 x) (fun x=>ref15_Cost_k1 n x=some r) ?_ ?_
  · refine rA ?_
    refine cnd H (fun h5 H=>?_) (fun h5 H=>?_)
    · refine eA ?_
      refine lf ?_
      exact ⟨_,H,wb []⟩
    refine Sm.skip ?_
    refine lf ?_
    exact ⟨_,H,wb []⟩
  rintro n_ H
  try dsimp only at H
  unfold ref15_Cost_k1 at H
  refine Sm.st (ref15_Cost_s1.eq_1 ..) ?_
  refine rA ?_
  refine Sm.ret ?_
  refine lf ?_
  obtain rfl:=Option.some.inj H
  exact rt []
abbrev ref15_Used_s1 (n_:Int):S:=stB [(3,.c (.int .i64) (.int n_))] []
def ref15_Used_k1 (n:Nat) (n_:Int):Option Int :=
  some n_
abbrev ref15_Used_t2 (t:List TRec) (n__1:Int) (i:Int):S:=stB [(0,.c (.slice 74) (.slice (List.map e_TRec t))),(3,.c (.int .i64) (.int n__1)),(4,.c (.int .i64) (.int i))] []
def ref15_Used_b2 (n:Nat) (t:List TRec) (n__1:Int) (i:Int):Option ((Int×Int) ⊕ ((Int))) :=
  bif (decide (i < (t.length:Int))) then
    gd ((0≤i∧i < (t.length:Int))) <|
    (ref15_Cost n (gt t (Int.toNat i))).bind fun r1 =>
    some (.inl ((IntKind.wrap .i64 (n__1+r1)),(IntKind.wrap .i64 (i+1))))
  else
    some (.inr n__1)
def ref15_Used (n:Nat) (t:List TRec):Option Int :=
  (loopF (fun (x:Int×Int)=>ref15_Used_b2 n t x.1 x.2) n (0,0)).bind fun y5 =>
  ref15_Used_k1 n y5
def xref15_Used (n:Nat):Go.AE.Fn:=mkFn (A:=(List TRec)) (R:=Int) 102 [(false,[.slice 74])] false (fun xs=>((cg (xs.getD 0 []) 0).toSl.map d_TRec)) (fun a=>[[.slice (List.map e_TRec a)]]) (fun a=>ref15_Used n a) (fun r=>[.c (.int .i64) (.int r)]) (fun r=>[])
theorem cref15_Used (n:Nat):Contract Tryz.prog (xref15_Used n):=by
  have hΓ:=g1 (cref15_Cost n) (@g0 (Contract Tryz.prog))
  refine contract_f (Tryz.f102.body.getD .skip) h00 Tryz.func102 rfl Tryz.call102 (by decide) (by intro _ r;exact ⟨rfl,by simp⟩) ?_
  rintro t r H
  try dsimp only at H
  unfold ref15_Used at H
  simp only [Tryz.f102,Option.getD]
  refine rA ?_
  refine rA ?_
  refine Sm.cut (fun (x:Int)=>ref15_Used_s1 x) (fun x=>ref15_Used_k1 n x=some r) ?_ ?_
  · refine rA ?_
    refine Sm.block ?_
    obtain ⟨y5,hy5,Ho5⟩:=bind_some H
    refine Sm.loopB _ (fun x=>ref15_Used_t2 t x.1 x.2) hy5 (wb []) ?_
    rintro ⟨n__1,i⟩ z5 H
    try dsimp only at H
    unfold ref15_Used_b2 at H
    refine Sm.st (ref15_Used_t2.eq_1 ..) ?_
    refine Sm.seqK fun K6 hK6=>?_
    refine rA ?_
    refine cnd H (fun h8 H=>?_) (fun h8 H=>?_)
    · refine Sm.skip ?_
      refine hK6 _ ?_
      refine Sm.seqK fun K9 hK9=>?_
      refine Sm.block ?_
      obtain ⟨hg10,H⟩:=gd_some H
      obtain ⟨r1,hr1,H⟩:=bind_some H
      have q:=And.intro @xref15_Cost.eq_1 hr1
      refine eAq ?_
      refine hK9 _ ?_
      refine eA ?_
      refine lf ?_
      exact nx H (wb [])
    refine Sm.exit ?_
    refine lf ?_
    refine lx H fun hyy=>?_
    subst hyy
    have H:=Ho5
    try dsimp only at H
    refine lf ?_
    exact ⟨_,H,wb []⟩
  rintro n_ H
  try dsimp only at H
  unfold ref15_Used_k1 at H
  refine Sm.st (ref15_Used_s1.eq_1 ..) ?_
  refine rA ?_
  refine Sm.ret ?_
  refine lf ?_
  obtain rfl:=Option.some.inj H
  exact rt []
abbrev ref15_Valid_s1 (t:List TRec):S:=stB [(0,.c (.slice 74) (.slice (List.map e_TRec t)))] []
def ref15_Valid_k1 (n:Nat) (t:List TRec):Option Bool :=
  (ref15_Used n t).bind fun r1 =>
  some (decide (r1≤2048))
abbrev ref15_Valid_t2 (t:List TRec) (i:Int):S:=stB [(0,.c (.slice 74) (.slice (List.map e_TRec t))),(3,.c (.int .i64) (.int i))] []
def ref15_Valid_b2 (n:Nat) (t:List TRec) (i:Int):Option ((Int) ⊕ (((Bool) ⊕ (Unit)))) :=
  bif (decide (i < (t.length:Int))) then
    gd ((0≤i∧i < (t.length:Int))) <|
    (ref15_record n (gt t (Int.toNat i))).bind fun r2 =>
    gd ((((!(!r2)) && (decide (i > 0)))=true→(0≤i∧i < (t.length:Int)))∧(((!(!r2)) && (decide (i > 0)))=true→(0≤(IntKind.wrap .i64 (i - 1))∧(IntKind.wrap .i64 (i - 1)) < (t.length:Int)))) <|
    bif (if (!r2)=true then true else (if (decide (i > 0))=true then (decide (((gt t (Int.toNat i)).R)≤((gt t (Int.toNat (IntKind.wrap .i64 (i - 1)))).R))) else false)) then
      some (.inr (.inl false))
    else
      some (.inl (IntKind.wrap .i64 (i+1)))
  else
    some (.inr (.inr ()))
def ref15_Valid (n:Nat) (t:List TRec):Option Bool :=
  (loopF (fun (x:Int)=>ref15_Valid_b2 n t x) n 0).bind fun y4 =>
  match y4 with
  | .inl v =>
    some v
  | .inr v =>
    ref15_Valid_k1 n t
def xref15_Valid (n:Nat):Go.AE.Fn:=mkFn (A:=(List TRec)) (R:=Bool) 93 [(false,[.slice 74])] false (fun xs=>((cg (xs.getD 0 []) 0).toSl.map d_TRec)) (fun a=>[[.slice (List.map e_TRec a)]]) (fun a=>ref15_Valid n a) (fun r=>[.c .bool (.bool r)]) (fun r=>[])
theorem cref15_Valid (n:Nat):Contract Tryz.prog (xref15_Valid n):=by
  have hΓ:=g1 (cref15_record n) (g1 (cref15_Used n) (@g0 (Contract Tryz.prog)))
  refine contract_f (Tryz.f93.body.getD .skip) h00 Tryz.func93 rfl Tryz.call93 (by decide) (by intro _ r;exact ⟨rfl,by simp⟩) ?_
  rintro t r H
  try dsimp only at H
  unfold ref15_Valid at H
  simp only [Tryz.f93,Option.getD]
  refine rA ?_
  refine Sm.cut (fun (x:Unit)=>ref15_Valid_s1 t) (fun x=>ref15_Valid_k1 n t=some r) ?_ ?_
  · refine rA ?_
    refine Sm.block ?_
    obtain ⟨y4,hy4,Ho4⟩:=bind_some H
    refine Sm.loopB _ (fun x=>ref15_Valid_t2 t x) hy4 (wb []) ?_
    rintro i z4 H
    try dsimp only at H
    unfold ref15_Valid_b2 at H
    refine Sm.st (ref15_Valid_t2.eq_1 ..) ?_
    refine Sm.seqK fun K5 hK5=>?_
    refine rA ?_
    refine cnd H (fun h7 H=>?_) (fun h7 H=>?_)
    · refine Sm.skip ?_
      refine hK5 _ ?_
      refine Sm.seqK fun K8 hK8=>?_
      refine Sm.block ?_
      obtain ⟨hg12,H⟩:=gd_some H
      obtain ⟨r2,hr2,H⟩:=bind_some H
      obtain ⟨⟨hg13,hg14⟩,H⟩:=gd_some H
      have q:=And.intro @xref15_record.eq_1 hr2
      refine rDq ?_
      refine cnd H (fun h10 H=>?_) (fun h10 H=>?_)
      · refine rA ?_
        refine Sm.ret ?_
        refine lf ?_
        refine lx H fun hyy=>?_
        subst hyy
        have H:=Ho4
        try dsimp only at H
        refine lf ?_
        obtain rfl:=Option.some.inj H
        exact rt []
      refine Sm.skip ?_
      refine hK8 _ ?_
      refine eA ?_
      refine lf ?_
      exact nx H (wb [])
    refine Sm.exit ?_
    refine lf ?_
    refine lx H fun hyy=>?_
    subst hyy
    have H:=Ho4
    try dsimp only at H
    refine lf ?_
    exact ⟨(),H,wb []⟩
  rintro ⟨⟩ H
  try dsimp only at H
  unfold ref15_Valid_k1 at H
  refine Sm.st (ref15_Valid_s1.eq_1 ..) ?_
  obtain ⟨r1,hr1,H⟩:=bind_some H
  have q:=And.intro @xref15_record.eq_1 (And.intro @xref15_Used.eq_1 hr1)
  refine rAq ?_
  refine Sm.ret ?_
  refine lf ?_
  obtain rfl:=Option.some.inj H
  exact rt []
def ref15_Fits (n:Nat) (t:List TRec) (r_:TRec):Option Bool :=
  (ref15_Copy n t).bind fun r1 =>
  gd ((r1.length+1)≤2147483648) <|
  (ref15_Valid n (r1 ++ [r_])).bind fun r2 =>
  some r2
def xref15_Fits (n:Nat):Go.AE.Fn:=mkFn (A:=(List TRec)×TRec) (R:=Bool) 80 [(false,[.slice 74]),(true,[.int .i64,.slice 5,.slice 5,.bool])] false (fun xs=>(((cg (xs.getD 0 []) 0).toSl.map d_TRec),(⟨(cg (xs.getD 1 []) 0).toInt,((cg (xs.getD 1 []) 1).toSl.map d_Int),((cg (xs.getD 1 []) 2).toSl.map d_Int),(cg (xs.getD 1 []) 3).toBool⟩:TRec))) (fun a=>[[.slice (List.map e_TRec a.1)],[.int a.2.R,.slice (List.map e_Int a.2.Key),.slice (List.map e_Int a.2.Data),.bool a.2.Bad]]) (fun a=>ref15_Fits n a.1 a.2) (fun r=>[.c .bool (.bool r)]) (fun r=>[])
theorem cref15_Fits (n:Nat):Contract Tryz.prog (xref15_Fits n):=by
  have hΓ:=g1 (cref15_Copy n) (g1 (cref15_Valid n) (@g0 (Contract Tryz.prog)))
  refine contract_f (Tryz.f80.body.getD .skip) h00 Tryz.func80 rfl Tryz.call80 (by decide) (by intro _ r;exact ⟨rfl,by simp⟩) ?_
  rintro ⟨t,r_⟩ r H
  try dsimp only at H
  unfold ref15_Fits at H
  simp only [Tryz.f80,Option.getD]
  refine rA ?_
  obtain ⟨r1,hr1,H⟩:=bind_some H
  obtain ⟨hg3,H⟩:=gd_some H
  obtain ⟨r2,hr2,H⟩:=bind_some H
  refine sQ [0,1,2,3,4,5,6] [(none,[],[]),(none,[],[111,110,109,108,107,106,105,104,103,102,101,100,99,98,97,96]),(none,[48],[]),(none,[],[128]),(none,[96,128],[144,96]),(none,[144],[175,174,173,172,171,170,169,168,167,166,165,164,163,162,161,160,144]),(none,[],[])] fun K2 hK2=>?_
  have q:=And.intro @xref15_Copy.eq_1 (And.intro @xref15_Valid.eq_1 (And.intro hr1 hr2))
  iterate 7 refine oQq ?_
  refine opsQ0 ?_
  refine hK2 _ ?_
  refine Sm.ret ?_
  refine lf ?_
  obtain rfl:=Option.some.inj H
  exact rt []
def ref39_bytes (n:Nat) (x:TLine):Option (List Int) :=
  gd ((2+x.Text.length)≤2147483648) <|
  some ([(IntKind.wrap .u8 (x.Ctl)),(IntKind.wrap .u8 ((x.Text.length:Int)))] ++ (fromStr8 x.Text))
def xref39_bytes (n:Nat):Go.AE.Fn:=mkFn (A:=TLine) (R:=(List Int)) 92 [(true,[.int .i64,.str])] false (fun xs=>(⟨(cg (xs.getD 0 []) 0).toInt,(cg (xs.getD 0 []) 1).toStr⟩:TLine)) (fun a=>[[.int a.Ctl,.str a.Text]]) (fun a=>ref39_bytes n a) (fun r=>[.own 0 [.int .u8] 0 r.length]) (fun r=>[.row 5 (List.map e_Int r)])
theorem cref39_bytes (n:Nat):Contract Tryz.prog (xref39_bytes n):=by
  have hΓ:=@g0 (Contract Tryz.prog)
  refine contract_f (Tryz.f92.body.getD .skip) h00 Tryz.func92 rfl Tryz.call92 (by decide) (fun _ r=>⟨rfl,m1 ⟨5,_,_,rfl,ty5,rfl⟩ m0⟩) ?_
  rintro x r H
  try dsimp only at H
  unfold ref39_bytes at H
  simp only [Tryz.f92,Option.getD]
  refine rA ?_
  refine rA ?_
  refine sX fun K3 hK3=>?_
  obtain ⟨hg4,H⟩:=gd_some H
  iterate 3 refine oX ?_
  refine oE stepV_ok ?_
  refine oX ?_
  refine hK3 _ ?_
  refine Sm.ret ?_
  refine lf ?_
  obtain rfl:=Option.some.inj H
  exact rto [some 240]
end Go.Proofs.YtkebegfopnlkhaaGreat
