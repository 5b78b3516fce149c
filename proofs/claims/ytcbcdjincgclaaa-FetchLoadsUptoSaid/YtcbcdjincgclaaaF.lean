/- Text. -/
import Derived.Test.YtcbcdjincgclaaaT
import Derived.Test.YtcbcdjincgclaaaN
set_option maxHeartbeats 8000000
set_option linter.unusedVariables false
set_option linter.unusedSimpArgs false
set_option maxRecDepth 100000
namespace Go.Proofs.Ytcbcdjincgclaaa
open Go.AE
def law33_Case__blocks (n:Nat) (c:TCase):Option Int :=
  some (IntKind.wrap .i64 (2048 * (if (if 32 < c.Blocks then 32 else c.Blocks) > 1 then (if 32 < c.Blocks then 32 else c.Blocks) else 1)))
def xlaw33_Case__blocks (n:Nat):Go.AE.Fn:=mkFn (A:=TCase) (R:=Int) 14 [(true,[.slice 5,.slice 58,.slice 52,.int .i64,.int .i64,.int .i64,.int .i64,.int .i64,.slice 3,.slice 3])] false (fun xs=>(⟨(⟨((cg (xs.getD 0 []) 0).toSl.map d_Int),((cg (xs.getD 0 []) 1).toSl.map d_TReloc),((cg (xs.getD 0 []) 2).toSl.map d_TSegment),(cg (xs.getD 0 []) 3).toInt⟩:TLoad),(cg (xs.getD 0 []) 4).toInt,(cg (xs.getD 0 []) 5).toInt,(cg (xs.getD 0 []) 6).toInt,(cg (xs.getD 0 []) 7).toInt,((cg (xs.getD 0 []) 8).toSl.map d_Int),((cg (xs.getD 0 []) 9).toSl.map d_Int)⟩:TCase)) (fun a=>[[.slice (List.map e_Int a.M.Text),.slice (List.map e_TReloc a.M.Relocs),.slice (List.map e_TSegment a.M.Segments),.int a.M.Entry,.int a.Blocks,.int a.At,.int a.Size,.int a.Key,.slice (List.map e_Int a.L),.slice (List.map e_Int a.Odd)]]) (fun a=>law33_Case__blocks n a) (fun r=>[.c (.int .i64) (.int r)]) (fun r=>[])
theorem claw33_Case__blocks (n:Nat):Contract Try.prog (xlaw33_Case__blocks n):=by
  have hΓ:=@g0 (Contract Try.prog)
  refine contract_f (Try.f14.body.getD .skip) h00 Try.func14 rfl Try.call14 (by decide) (by intro _ r;exact ⟨rfl,by simp⟩) ?_
  rintro c r H
  try dsimp only at H
  unfold law33_Case__blocks at H
  simp only [Try.f14,Option.getD]
  refine rA ?_
  refine rA ?_
  refine Sm.ret ?_
  refine lf ?_
  obtain rfl:=Option.some.inj H
  exact rt []
def store_New_M1 (n:Nat) (size:Int):Option ((List Int)×(List Int)×Int) :=
  bif (if (if (decide (size < 2048))=true then true else (decide (size > 65536)))=true then true else ((Int.tmod size 2048) != 0)) then
    none
  else
    gd ((0≤size∧size≤size∧size≤2147483648)∧(0≤(IntKind.wrap .i64 (Int.tdiv size 2048))∧(IntKind.wrap .i64 (Int.tdiv size 2048))≤(IntKind.wrap .i64 (Int.tdiv size 2048))∧(IntKind.wrap .i64 (Int.tdiv size 2048))≤2147483648)) <|
    some ((zreps (Int.toNat size) 0),(zreps (Int.toNat (IntKind.wrap .i64 (Int.tdiv size 2048))) 0),0)
theorem cstore_New_M1 (n:Nat) (size:Int) (r:(List Int)×(List Int)×Int) (H:store_New_M1 n size=some r):CallsM Try.prog 24 [.dat (false,[.int .i64]) [.int size]] [] [.box 0 0,.c (.int .i64) (.int r.2.2)] [.box [.own 1 [.int .u8] 0 r.1.length,.own 2 [.int .i64] 0 r.2.1.length],.row 5 (List.map e_Int r.1),.row 3 (List.map e_Int r.2.1)]:=by
  have hΓ:=@g0 (Contract Try.prog)
  refine callsM_of (Try.f24.body.getD .skip) h00 Try.func24 rfl Try.call24 (Nat.le_of_ble_eq_true rfl) (Nat.le_of_ble_eq_true rfl) ?_
  unfold store_New_M1 at H
  simp only [Try.f24,Option.getD]
  refine rA ?_
  refine Sm.seqK fun K2 hK2=>?_
  refine rA ?_
  refine cnd H (fun h4 H=>?_) (fun h4 H=>?_)
  · refine rA ?_
    refine Sm.ret ?_
    cases H
  refine Sm.skip ?_
  refine hK2 _ ?_
  obtain ⟨⟨hg7,hg8⟩,H⟩:=gd_some H
  refine Sm.seqT h00 mixed hΓ (by kernel_rfl) fun K6 hK6=>?_
  refine wpT_node 0 [2] (by kernel_rfl) ?_
  simp only [rs]
  refine ⟨?_,?_,trivial⟩
  · refine opsX fun K hK=>?_;simp only [z,seval];(repeat (first | refine gcI ?_ | refine fun (_:_≤_)=>?_));refine hK _ ?_;clear hK K
    refine opsX0 ?_
    refine wpT_node 1 [2] (by kernel_rfl) ?_
    simp only [rs]
    refine ⟨?_,?_,trivial⟩
    · refine opsY fun K hK=>?_;simp only [z,seval];(repeat (first | refine gcI ?_ | refine fun (_:_≤_)=>?_));refine hK _ ?_;clear hK K
      refine opsX0 ?_
      refine wpT_node 2 [] (by kernel_rfl) ?_
      simp only [rs]
      refine ⟨?_,trivial⟩
      refine opsX fun K hK=>?_;simp only [z,seval];(repeat (first | refine gcI ?_ | refine fun (_:_≤_)=>?_));refine hK _ ?_;clear hK K
      refine opsX0 ?_
      refine wpT_node 3 [] (by kernel_rfl) ?_
      simp only [rs]
      refine ⟨?_,trivial⟩
      refine opsX fun K hK=>?_;simp only [z,seval];(repeat (first | refine gcI ?_ | refine fun (_:_≤_)=>?_));refine hK _ ?_;clear hK K
      refine opsX0 ?_
      refine wpT_node 4 [] (by kernel_rfl) ?_
      simp only [rs]
      refine ⟨?_,trivial⟩
      refine opsY fun K hK=>?_;simp only [z,seval];(repeat (first | refine gcI ?_ | refine fun (_:_≤_)=>?_));refine hK _ ?_;clear hK K
      refine opsX0 ?_
      refine wpT_node 5 [] (by kernel_rfl) ?_
      simp only [rs]
      refine ⟨?_,trivial⟩
      refine opsX fun K hK=>?_;simp only [z,seval];(repeat (first | refine gcI ?_ | refine fun (_:_≤_)=>?_));refine hK _ ?_;clear hK K
      refine opsX0 ?_
      refine wpT_node 6 [] (by kernel_rfl) ?_
      simp only [rs]
      refine ⟨?_,trivial⟩
      refine opsX fun K hK=>?_;simp only [z,seval];(repeat (first | refine gcI ?_ | refine fun (_:_≤_)=>?_));refine hK _ ?_;clear hK K
      refine opsX0 ?_
      refine wpT_node 7 [] (by kernel_rfl) ?_
      simp only [rs]
      refine ⟨?_,trivial⟩
      refine opsX fun K hK=>?_;simp only [z,seval];(repeat (first | refine gcI ?_ | refine fun (_:_≤_)=>?_));refine hK _ ?_;clear hK K
      refine opsX0 ?_
      refine wpT_node 8 [] (by kernel_rfl) ?_
      simp only [rs]
      refine ⟨?_,trivial⟩
      refine opsX fun K hK=>?_;simp only [z,seval];(repeat (first | refine gcI ?_ | refine fun (_:_≤_)=>?_));refine hK _ ?_;clear hK K
      refine opsX0 ?_
      refine ⟨by kernel_rfl,?_⟩
      refine hK6 _ ?_
      refine Sm.ret ?_
      refine lf ?_
      obtain rfl:=Option.some.inj H
      exact rtM [some 336,some 256,some 304]
    · refine opsX fun K hK=>?_;simp only [z,seval];(repeat (first | refine gcI ?_ | refine fun (_:_≤_)=>?_));refine hK _ ?_;clear hK K
      refine opsX0 ?_
      refine wpT_node 1 [3] (by kernel_rfl) ?_
      simp only [rs]
      refine ⟨?_,?_,trivial⟩
      · refine opsY fun K hK=>?_;simp only [z,seval];(repeat (first | refine gcI ?_ | refine fun (_:_≤_)=>?_));refine hK _ ?_;clear hK K
        refine opsX0 ?_
        refine wpT_node 3 [] (by kernel_rfl) ?_
        simp only [rs]
        refine ⟨?_,trivial⟩
        refine opsX fun K hK=>?_;simp only [z,seval];(repeat (first | refine gcI ?_ | refine fun (_:_≤_)=>?_));refine hK _ ?_;clear hK K
        refine opsX0 ?_
        refine wpT_node 4 [] (by kernel_rfl) ?_
        simp only [rs]
        refine ⟨?_,trivial⟩
        refine opsY fun K hK=>?_;simp only [z,seval];(repeat (first | refine gcI ?_ | refine fun (_:_≤_)=>?_));refine hK _ ?_;clear hK K
        refine opsX0 ?_
        refine wpT_node 5 [] (by kernel_rfl) ?_
        simp only [rs]
        refine ⟨?_,trivial⟩
        refine opsX fun K hK=>?_;simp only [z,seval];(repeat (first | refine gcI ?_ | refine fun (_:_≤_)=>?_));refine hK _ ?_;clear hK K
        refine opsX0 ?_
        refine wpT_node 6 [] (by kernel_rfl) ?_
        simp only [rs]
        refine ⟨?_,trivial⟩
        refine opsX fun K hK=>?_;simp only [z,seval];(repeat (first | refine gcI ?_ | refine fun (_:_≤_)=>?_));refine hK _ ?_;clear hK K
        refine opsX0 ?_
        refine wpT_node 7 [] (by kernel_rfl) ?_
        simp only [rs]
        refine ⟨?_,trivial⟩
        refine opsX fun K hK=>?_;simp only [z,seval];(repeat (first | refine gcI ?_ | refine fun (_:_≤_)=>?_));refine hK _ ?_;clear hK K
        refine opsX0 ?_
        refine wpT_node 8 [] (by kernel_rfl) ?_
        simp only [rs]
        refine ⟨?_,trivial⟩
        refine opsX fun K hK=>?_;simp only [z,seval];(repeat (first | refine gcI ?_ | refine fun (_:_≤_)=>?_));refine hK _ ?_;clear hK K
        refine opsX0 ?_
        refine ⟨by kernel_rfl,?_⟩
        refine hK6 _ ?_
        refine Sm.ret ?_
        refine lf ?_
        obtain rfl:=Option.some.inj H
        exact rtM [some 336,some 256,some 304]
      · refine opsX fun K hK=>?_;simp only [z,seval];(repeat (first | refine gcI ?_ | refine fun (_:_≤_)=>?_));refine hK _ ?_;clear hK K
        refine opsX0 ?_
        refine wpT_node 1 [4] (by kernel_rfl) ?_
        simp only [rs]
        refine ⟨?_,?_,trivial⟩
        · refine opsY fun K hK=>?_;simp only [z,seval];(repeat (first | refine gcI ?_ | refine fun (_:_≤_)=>?_));refine hK _ ?_;clear hK K
          refine opsX0 ?_
          refine wpT_node 4 [] (by kernel_rfl) ?_
          simp only [rs]
          refine ⟨?_,trivial⟩
          refine opsY fun K hK=>?_;simp only [z,seval];(repeat (first | refine gcI ?_ | refine fun (_:_≤_)=>?_));refine hK _ ?_;clear hK K
          refine opsX0 ?_
          refine wpT_node 5 [] (by kernel_rfl) ?_
          simp only [rs]
          refine ⟨?_,trivial⟩
          refine opsX fun K hK=>?_;simp only [z,seval];(repeat (first | refine gcI ?_ | refine fun (_:_≤_)=>?_));refine hK _ ?_;clear hK K
          refine opsX0 ?_
          refine wpT_node 6 [] (by kernel_rfl) ?_
          simp only [rs]
          refine ⟨?_,trivial⟩
          refine opsX fun K hK=>?_;simp only [z,seval];(repeat (first | refine gcI ?_ | refine fun (_:_≤_)=>?_));refine hK _ ?_;clear hK K
          refine opsX0 ?_
          refine wpT_node 7 [] (by kernel_rfl) ?_
          simp only [rs]
          refine ⟨?_,trivial⟩
          refine opsX fun K hK=>?_;simp only [z,seval];(repeat (first | refine gcI ?_ | refine fun (_:_≤_)=>?_));refine hK _ ?_;clear hK K
          refine opsX0 ?_
          refine wpT_node 8 [] (by kernel_rfl) ?_
          simp only [rs]
          refine ⟨?_,trivial⟩
          refine opsX fun K hK=>?_;simp only [z,seval];(repeat (first | refine gcI ?_ | refine fun (_:_≤_)=>?_));refine hK _ ?_;clear hK K
          refine opsX0 ?_
          refine ⟨by kernel_rfl,?_⟩
          refine hK6 _ ?_
          refine Sm.ret ?_
          refine lf ?_
          obtain rfl:=Option.some.inj H
          exact rtM [some 336,some 256,some 304]
        · refine opsY fun K hK=>?_;simp only [z,seval];(repeat (first | refine gcI ?_ | refine fun (_:_≤_)=>?_));refine hK _ ?_;clear hK K
          refine opsX0 ?_
          refine wpT_node 1 [] (by kernel_rfl) ?_
          simp only [rs]
          refine ⟨?_,trivial⟩
          refine opsY fun K hK=>?_;simp only [z,seval];(repeat (first | refine gcI ?_ | refine fun (_:_≤_)=>?_));refine hK _ ?_;clear hK K
          refine opsX0 ?_
          refine wpT_node 5 [] (by kernel_rfl) ?_
          simp only [rs]
          refine ⟨?_,trivial⟩
          refine opsX fun K hK=>?_;simp only [z,seval];(repeat (first | refine gcI ?_ | refine fun (_:_≤_)=>?_));refine hK _ ?_;clear hK K
          refine opsX0 ?_
          refine wpT_node 6 [] (by kernel_rfl) ?_
          simp only [rs]
          refine ⟨?_,trivial⟩
          refine opsX fun K hK=>?_;simp only [z,seval];(repeat (first | refine gcI ?_ | refine fun (_:_≤_)=>?_));refine hK _ ?_;clear hK K
          refine opsX0 ?_
          refine wpT_node 7 [] (by kernel_rfl) ?_
          simp only [rs]
          refine ⟨?_,trivial⟩
          refine opsX fun K hK=>?_;simp only [z,seval];(repeat (first | refine gcI ?_ | refine fun (_:_≤_)=>?_));refine hK _ ?_;clear hK K
          refine opsX0 ?_
          refine wpT_node 8 [] (by kernel_rfl) ?_
          simp only [rs]
          refine ⟨?_,trivial⟩
          refine opsX fun K hK=>?_;simp only [z,seval];(repeat (first | refine gcI ?_ | refine fun (_:_≤_)=>?_));refine hK _ ?_;clear hK K
          refine opsX0 ?_
          refine ⟨by kernel_rfl,?_⟩
          refine hK6 _ ?_
          refine Sm.ret ?_
          refine lf ?_
          obtain rfl:=Option.some.inj H
          exact rtM [some 336,some 256,some 304]
  · refine opsX fun K hK=>?_;simp only [z,seval];(repeat (first | refine gcI ?_ | refine fun (_:_≤_)=>?_));refine hK _ ?_;clear hK K
    refine opsX0 ?_
    refine wpT_node 0 [3] (by kernel_rfl) ?_
    simp only [rs]
    refine ⟨?_,?_,trivial⟩
    · refine opsX fun K hK=>?_;simp only [z,seval];(repeat (first | refine gcI ?_ | refine fun (_:_≤_)=>?_));refine hK _ ?_;clear hK K
      refine opsX0 ?_
      refine wpT_node 1 [3] (by kernel_rfl) ?_
      simp only [rs]
      refine ⟨?_,?_,trivial⟩
      · refine opsY fun K hK=>?_;simp only [z,seval];(repeat (first | refine gcI ?_ | refine fun (_:_≤_)=>?_));refine hK _ ?_;clear hK K
        refine opsX0 ?_
        refine wpT_node 3 [] (by kernel_rfl) ?_
        simp only [rs]
        refine ⟨?_,trivial⟩
        refine opsX fun K hK=>?_;simp only [z,seval];(repeat (first | refine gcI ?_ | refine fun (_:_≤_)=>?_));refine hK _ ?_;clear hK K
        refine opsX0 ?_
        refine wpT_node 4 [] (by kernel_rfl) ?_
        simp only [rs]
        refine ⟨?_,trivial⟩
        refine opsY fun K hK=>?_;simp only [z,seval];(repeat (first | refine gcI ?_ | refine fun (_:_≤_)=>?_));refine hK _ ?_;clear hK K
        refine opsX0 ?_
        refine wpT_node 5 [] (by kernel_rfl) ?_
        simp only [rs]
        refine ⟨?_,trivial⟩
        refine opsX fun K hK=>?_;simp only [z,seval];(repeat (first | refine gcI ?_ | refine fun (_:_≤_)=>?_));refine hK _ ?_;clear hK K
        refine opsX0 ?_
        refine wpT_node 6 [] (by kernel_rfl) ?_
        simp only [rs]
        refine ⟨?_,trivial⟩
        refine opsX fun K hK=>?_;simp only [z,seval];(repeat (first | refine gcI ?_ | refine fun (_:_≤_)=>?_));refine hK _ ?_;clear hK K
        refine opsX0 ?_
        refine wpT_node 7 [] (by kernel_rfl) ?_
        simp only [rs]
        refine ⟨?_,trivial⟩
        refine opsX fun K hK=>?_;simp only [z,seval];(repeat (first | refine gcI ?_ | refine fun (_:_≤_)=>?_));refine hK _ ?_;clear hK K
        refine opsX0 ?_
        refine wpT_node 8 [] (by kernel_rfl) ?_
        simp only [rs]
        refine ⟨?_,trivial⟩
        refine opsX fun K hK=>?_;simp only [z,seval];(repeat (first | refine gcI ?_ | refine fun (_:_≤_)=>?_));refine hK _ ?_;clear hK K
        refine opsX0 ?_
        refine ⟨by kernel_rfl,?_⟩
        refine hK6 _ ?_
        refine Sm.ret ?_
        refine lf ?_
        obtain rfl:=Option.some.inj H
        exact rtM [some 336,some 256,some 304]
      · refine opsX fun K hK=>?_;simp only [z,seval];(repeat (first | refine gcI ?_ | refine fun (_:_≤_)=>?_));refine hK _ ?_;clear hK K
        refine opsX0 ?_
        refine wpT_node 1 [4] (by kernel_rfl) ?_
        simp only [rs]
        refine ⟨?_,?_,trivial⟩
        · refine opsY fun K hK=>?_;simp only [z,seval];(repeat (first | refine gcI ?_ | refine fun (_:_≤_)=>?_));refine hK _ ?_;clear hK K
          refine opsX0 ?_
          refine wpT_node 4 [] (by kernel_rfl) ?_
          simp only [rs]
          refine ⟨?_,trivial⟩
          refine opsY fun K hK=>?_;simp only [z,seval];(repeat (first | refine gcI ?_ | refine fun (_:_≤_)=>?_));refine hK _ ?_;clear hK K
          refine opsX0 ?_
          refine wpT_node 5 [] (by kernel_rfl) ?_
          simp only [rs]
          refine ⟨?_,trivial⟩
          refine opsX fun K hK=>?_;simp only [z,seval];(repeat (first | refine gcI ?_ | refine fun (_:_≤_)=>?_));refine hK _ ?_;clear hK K
          refine opsX0 ?_
          refine wpT_node 6 [] (by kernel_rfl) ?_
          simp only [rs]
          refine ⟨?_,trivial⟩
          refine opsX fun K hK=>?_;simp only [z,seval];(repeat (first | refine gcI ?_ | refine fun (_:_≤_)=>?_));refine hK _ ?_;clear hK K
          refine opsX0 ?_
          refine wpT_node 7 [] (by kernel_rfl) ?_
          simp only [rs]
          refine ⟨?_,trivial⟩
          refine opsX fun K hK=>?_;simp only [z,seval];(repeat (first | refine gcI ?_ | refine fun (_:_≤_)=>?_));refine hK _ ?_;clear hK K
          refine opsX0 ?_
          refine wpT_node 8 [] (by kernel_rfl) ?_
          simp only [rs]
          refine ⟨?_,trivial⟩
          refine opsX fun K hK=>?_;simp only [z,seval];(repeat (first | refine gcI ?_ | refine fun (_:_≤_)=>?_));refine hK _ ?_;clear hK K
          refine opsX0 ?_
          refine ⟨by kernel_rfl,?_⟩
          refine hK6 _ ?_
          refine Sm.ret ?_
          refine lf ?_
          obtain rfl:=Option.some.inj H
          exact rtM [some 336,some 256,some 304]
        · refine opsY fun K hK=>?_;simp only [z,seval];(repeat (first | refine gcI ?_ | refine fun (_:_≤_)=>?_));refine hK _ ?_;clear hK K
          refine opsX0 ?_
          refine wpT_node 1 [] (by kernel_rfl) ?_
          simp only [rs]
          refine ⟨?_,trivial⟩
          refine opsY fun K hK=>?_;simp only [z,seval];(repeat (first | refine gcI ?_ | refine fun (_:_≤_)=>?_));refine hK _ ?_;clear hK K
          refine opsX0 ?_
          refine wpT_node 5 [] (by kernel_rfl) ?_
          simp only [rs]
          refine ⟨?_,trivial⟩
          refine opsX fun K hK=>?_;simp only [z,seval];(repeat (first | refine gcI ?_ | refine fun (_:_≤_)=>?_));refine hK _ ?_;clear hK K
          refine opsX0 ?_
          refine wpT_node 6 [] (by kernel_rfl) ?_
          simp only [rs]
          refine ⟨?_,trivial⟩
          refine opsX fun K hK=>?_;simp only [z,seval];(repeat (first | refine gcI ?_ | refine fun (_:_≤_)=>?_));refine hK _ ?_;clear hK K
          refine opsX0 ?_
          refine wpT_node 7 [] (by kernel_rfl) ?_
          simp only [rs]
          refine ⟨?_,trivial⟩
          refine opsX fun K hK=>?_;simp only [z,seval];(repeat (first | refine gcI ?_ | refine fun (_:_≤_)=>?_));refine hK _ ?_;clear hK K
          refine opsX0 ?_
          refine wpT_node 8 [] (by kernel_rfl) ?_
          simp only [rs]
          refine ⟨?_,trivial⟩
          refine opsX fun K hK=>?_;simp only [z,seval];(repeat (first | refine gcI ?_ | refine fun (_:_≤_)=>?_));refine hK _ ?_;clear hK K
          refine opsX0 ?_
          refine ⟨by kernel_rfl,?_⟩
          refine hK6 _ ?_
          refine Sm.ret ?_
          refine lf ?_
          obtain rfl:=Option.some.inj H
          exact rtM [some 336,some 256,some 304]
    · refine opsX fun K hK=>?_;simp only [z,seval];(repeat (first | refine gcI ?_ | refine fun (_:_≤_)=>?_));refine hK _ ?_;clear hK K
      refine opsX0 ?_
      refine wpT_node 0 [4] (by kernel_rfl) ?_
      simp only [rs]
      refine ⟨?_,?_,trivial⟩
      · refine opsX fun K hK=>?_;simp only [z,seval];(repeat (first | refine gcI ?_ | refine fun (_:_≤_)=>?_));refine hK _ ?_;clear hK K
        refine opsX0 ?_
        refine wpT_node 1 [4] (by kernel_rfl) ?_
        simp only [rs]
        refine ⟨?_,?_,trivial⟩
        · refine opsY fun K hK=>?_;simp only [z,seval];(repeat (first | refine gcI ?_ | refine fun (_:_≤_)=>?_));refine hK _ ?_;clear hK K
          refine opsX0 ?_
          refine wpT_node 4 [] (by kernel_rfl) ?_
          simp only [rs]
          refine ⟨?_,trivial⟩
          refine opsY fun K hK=>?_;simp only [z,seval];(repeat (first | refine gcI ?_ | refine fun (_:_≤_)=>?_));refine hK _ ?_;clear hK K
          refine opsX0 ?_
          refine wpT_node 5 [] (by kernel_rfl) ?_
          simp only [rs]
          refine ⟨?_,trivial⟩
          refine opsX fun K hK=>?_;simp only [z,seval];(repeat (first | refine gcI ?_ | refine fun (_:_≤_)=>?_));refine hK _ ?_;clear hK K
          refine opsX0 ?_
          refine wpT_node 6 [] (by kernel_rfl) ?_
          simp only [rs]
          refine ⟨?_,trivial⟩
          refine opsX fun K hK=>?_;simp only [z,seval];(repeat (first | refine gcI ?_ | refine fun (_:_≤_)=>?_));refine hK _ ?_;clear hK K
          refine opsX0 ?_
          refine wpT_node 7 [] (by kernel_rfl) ?_
          simp only [rs]
          refine ⟨?_,trivial⟩
          refine opsX fun K hK=>?_;simp only [z,seval];(repeat (first | refine gcI ?_ | refine fun (_:_≤_)=>?_));refine hK _ ?_;clear hK K
          refine opsX0 ?_
          refine wpT_node 8 [] (by kernel_rfl) ?_
          simp only [rs]
          refine ⟨?_,trivial⟩
          refine opsX fun K hK=>?_;simp only [z,seval];(repeat (first | refine gcI ?_ | refine fun (_:_≤_)=>?_));refine hK _ ?_;clear hK K
          refine opsX0 ?_
          refine ⟨by kernel_rfl,?_⟩
          refine hK6 _ ?_
          refine Sm.ret ?_
          refine lf ?_
          obtain rfl:=Option.some.inj H
          exact rtM [some 336,some 256,some 304]
        · refine opsY fun K hK=>?_;simp only [z,seval];(repeat (first | refine gcI ?_ | refine fun (_:_≤_)=>?_));refine hK _ ?_;clear hK K
          refine opsX0 ?_
          refine wpT_node 1 [] (by kernel_rfl) ?_
          simp only [rs]
          refine ⟨?_,trivial⟩
          refine opsY fun K hK=>?_;simp only [z,seval];(repeat (first | refine gcI ?_ | refine fun (_:_≤_)=>?_));refine hK _ ?_;clear hK K
          refine opsX0 ?_
          refine wpT_node 5 [] (by kernel_rfl) ?_
          simp only [rs]
          refine ⟨?_,trivial⟩
          refine opsX fun K hK=>?_;simp only [z,seval];(repeat (first | refine gcI ?_ | refine fun (_:_≤_)=>?_));refine hK _ ?_;clear hK K
          refine opsX0 ?_
          refine wpT_node 6 [] (by kernel_rfl) ?_
          simp only [rs]
          refine ⟨?_,trivial⟩
          refine opsX fun K hK=>?_;simp only [z,seval];(repeat (first | refine gcI ?_ | refine fun (_:_≤_)=>?_));refine hK _ ?_;clear hK K
          refine opsX0 ?_
          refine wpT_node 7 [] (by kernel_rfl) ?_
          simp only [rs]
          refine ⟨?_,trivial⟩
          refine opsX fun K hK=>?_;simp only [z,seval];(repeat (first | refine gcI ?_ | refine fun (_:_≤_)=>?_));refine hK _ ?_;clear hK K
          refine opsX0 ?_
          refine wpT_node 8 [] (by kernel_rfl) ?_
          simp only [rs]
          refine ⟨?_,trivial⟩
          refine opsX fun K hK=>?_;simp only [z,seval];(repeat (first | refine gcI ?_ | refine fun (_:_≤_)=>?_));refine hK _ ?_;clear hK K
          refine opsX0 ?_
          refine ⟨by kernel_rfl,?_⟩
          refine hK6 _ ?_
          refine Sm.ret ?_
          refine lf ?_
          obtain rfl:=Option.some.inj H
          exact rtM [some 336,some 256,some 304]
      · refine opsY fun K hK=>?_;simp only [z,seval];(repeat (first | refine gcI ?_ | refine fun (_:_≤_)=>?_));refine hK _ ?_;clear hK K
        refine opsX0 ?_
        refine wpT_node 0 [] (by kernel_rfl) ?_
        simp only [rs]
        refine ⟨?_,trivial⟩
        refine opsX fun K hK=>?_;simp only [z,seval];(repeat (first | refine gcI ?_ | refine fun (_:_≤_)=>?_));refine hK _ ?_;clear hK K
        refine opsX0 ?_
        refine wpT_node 1 [] (by kernel_rfl) ?_
        simp only [rs]
        refine ⟨?_,trivial⟩
        refine opsY fun K hK=>?_;simp only [z,seval];(repeat (first | refine gcI ?_ | refine fun (_:_≤_)=>?_));refine hK _ ?_;clear hK K
        refine opsX0 ?_
        refine wpT_node 5 [] (by kernel_rfl) ?_
        simp only [rs]
        refine ⟨?_,trivial⟩
        refine opsX fun K hK=>?_;simp only [z,seval];(repeat (first | refine gcI ?_ | refine fun (_:_≤_)=>?_));refine hK _ ?_;clear hK K
        refine opsX0 ?_
        refine wpT_node 6 [] (by kernel_rfl) ?_
        simp only [rs]
        refine ⟨?_,trivial⟩
        refine opsX fun K hK=>?_;simp only [z,seval];(repeat (first | refine gcI ?_ | refine fun (_:_≤_)=>?_));refine hK _ ?_;clear hK K
        refine opsX0 ?_
        refine wpT_node 7 [] (by kernel_rfl) ?_
        simp only [rs]
        refine ⟨?_,trivial⟩
        refine opsX fun K hK=>?_;simp only [z,seval];(repeat (first | refine gcI ?_ | refine fun (_:_≤_)=>?_));refine hK _ ?_;clear hK K
        refine opsX0 ?_
        refine wpT_node 8 [] (by kernel_rfl) ?_
        simp only [rs]
        refine ⟨?_,trivial⟩
        refine opsX fun K hK=>?_;simp only [z,seval];(repeat (first | refine gcI ?_ | refine fun (_:_≤_)=>?_));refine hK _ ?_;clear hK K
        refine opsX0 ?_
        refine ⟨by kernel_rfl,?_⟩
        refine hK6 _ ?_
        refine Sm.ret ?_
        refine lf ?_
        obtain rfl:=Option.some.inj H
        exact rtM [some 336,some 256,some 304]
def ref07_New_M1 (n:Nat) (size:Int):Option ((List Int)×(List Int)) :=
  bif (if (if (decide (size < 2048))=true then true else (decide (size > 65536)))=true then true else ((Int.tmod size 2048) != 0)) then
    none
  else
    gd ((0≤size∧size≤size∧size≤2147483648)∧(0≤(IntKind.wrap .i64 (Int.tdiv size 2048))∧(IntKind.wrap .i64 (Int.tdiv size 2048))≤(IntKind.wrap .i64 (Int.tdiv size 2048))∧(IntKind.wrap .i64 (Int.tdiv size 2048))≤2147483648)) <|
    some ((zreps (Int.toNat size) 0),(zreps (Int.toNat (IntKind.wrap .i64 (Int.tdiv size 2048))) 0))
theorem cref07_New_M1 (n:Nat) (size:Int) (r:(List Int)×(List Int)) (H:ref07_New_M1 n size=some r):CallsM Try.prog 29 [.dat (false,[.int .i64]) [.int size]] [] [.box 0 0] [.box [.own 1 [.int .u8] 0 r.1.length,.own 2 [.int .i64] 0 r.2.length],.row 5 (List.map e_Int r.1),.row 3 (List.map e_Int r.2)]:=by
  have hΓ:=@g0 (Contract Try.prog)
  refine callsM_of (Try.f29.body.getD .skip) h00 Try.func29 rfl Try.call29 (Nat.le_of_ble_eq_true rfl) (Nat.le_of_ble_eq_true rfl) ?_
  unfold ref07_New_M1 at H
  simp only [Try.f29,Option.getD]
  refine rA ?_
  refine Sm.seqK fun K2 hK2=>?_
  refine rA ?_
  refine cnd H (fun h4 H=>?_) (fun h4 H=>?_)
  · refine rA ?_
    refine Sm.ret ?_
    cases H
  refine Sm.skip ?_
  refine hK2 _ ?_
  obtain ⟨⟨hg7,hg8⟩,H⟩:=gd_some H
  refine Sm.seqT h00 mixed hΓ (by kernel_rfl) fun K6 hK6=>?_
  refine wpT_node 0 [2] (by kernel_rfl) ?_
  simp only [rs]
  refine ⟨?_,?_,trivial⟩
  · refine opsX fun K hK=>?_;simp only [z,seval];(repeat (first | refine gcI ?_ | refine fun (_:_≤_)=>?_));refine hK _ ?_;clear hK K
    refine opsX0 ?_
    refine wpT_node 1 [2] (by kernel_rfl) ?_
    simp only [rs]
    refine ⟨?_,?_,trivial⟩
    · refine opsY fun K hK=>?_;simp only [z,seval];(repeat (first | refine gcI ?_ | refine fun (_:_≤_)=>?_));refine hK _ ?_;clear hK K
      refine opsX0 ?_
      refine wpT_node 2 [] (by kernel_rfl) ?_
      simp only [rs]
      refine ⟨?_,trivial⟩
      refine opsX fun K hK=>?_;simp only [z,seval];(repeat (first | refine gcI ?_ | refine fun (_:_≤_)=>?_));refine hK _ ?_;clear hK K
      refine opsX0 ?_
      refine wpT_node 3 [] (by kernel_rfl) ?_
      simp only [rs]
      refine ⟨?_,trivial⟩
      refine opsX fun K hK=>?_;simp only [z,seval];(repeat (first | refine gcI ?_ | refine fun (_:_≤_)=>?_));refine hK _ ?_;clear hK K
      refine opsX0 ?_
      refine wpT_node 4 [] (by kernel_rfl) ?_
      simp only [rs]
      refine ⟨?_,trivial⟩
      refine opsY fun K hK=>?_;simp only [z,seval];(repeat (first | refine gcI ?_ | refine fun (_:_≤_)=>?_));refine hK _ ?_;clear hK K
      refine opsX0 ?_
      refine wpT_node 5 [] (by kernel_rfl) ?_
      simp only [rs]
      refine ⟨?_,trivial⟩
      refine opsX fun K hK=>?_;simp only [z,seval];(repeat (first | refine gcI ?_ | refine fun (_:_≤_)=>?_));refine hK _ ?_;clear hK K
      refine opsX0 ?_
      refine wpT_node 6 [] (by kernel_rfl) ?_
      simp only [rs]
      refine ⟨?_,trivial⟩
      refine opsX fun K hK=>?_;simp only [z,seval];(repeat (first | refine gcI ?_ | refine fun (_:_≤_)=>?_));refine hK _ ?_;clear hK K
      refine opsX0 ?_
      refine wpT_node 7 [] (by kernel_rfl) ?_
      simp only [rs]
      refine ⟨?_,trivial⟩
      refine opsX fun K hK=>?_;simp only [z,seval];(repeat (first | refine gcI ?_ | refine fun (_:_≤_)=>?_));refine hK _ ?_;clear hK K
      refine opsX0 ?_
      refine ⟨by kernel_rfl,?_⟩
      refine hK6 _ ?_
      refine Sm.ret ?_
      refine lf ?_
      obtain rfl:=Option.some.inj H
      exact rtM [some 320,some 240,some 288]
    · refine opsX fun K hK=>?_;simp only [z,seval];(repeat (first | refine gcI ?_ | refine fun (_:_≤_)=>?_));refine hK _ ?_;clear hK K
      refine opsX0 ?_
      refine wpT_node 1 [3] (by kernel_rfl) ?_
      simp only [rs]
      refine ⟨?_,?_,trivial⟩
      · refine opsY fun K hK=>?_;simp only [z,seval];(repeat (first | refine gcI ?_ | refine fun (_:_≤_)=>?_));refine hK _ ?_;clear hK K
        refine opsX0 ?_
        refine wpT_node 3 [] (by kernel_rfl) ?_
        simp only [rs]
        refine ⟨?_,trivial⟩
        refine opsX fun K hK=>?_;simp only [z,seval];(repeat (first | refine gcI ?_ | refine fun (_:_≤_)=>?_));refine hK _ ?_;clear hK K
        refine opsX0 ?_
        refine wpT_node 4 [] (by kernel_rfl) ?_
        simp only [rs]
        refine ⟨?_,trivial⟩
        refine opsY fun K hK=>?_;simp only [z,seval];(repeat (first | refine gcI ?_ | refine fun (_:_≤_)=>?_));refine hK _ ?_;clear hK K
        refine opsX0 ?_
        refine wpT_node 5 [] (by kernel_rfl) ?_
        simp only [rs]
        refine ⟨?_,trivial⟩
        refine opsX fun K hK=>?_;simp only [z,seval];(repeat (first | refine gcI ?_ | refine fun (_:_≤_)=>?_));refine hK _ ?_;clear hK K
        refine opsX0 ?_
        refine wpT_node 6 [] (by kernel_rfl) ?_
        simp only [rs]
        refine ⟨?_,trivial⟩
        refine opsX fun K hK=>?_;simp only [z,seval];(repeat (first | refine gcI ?_ | refine fun (_:_≤_)=>?_));refine hK _ ?_;clear hK K
        refine opsX0 ?_
        refine wpT_node 7 [] (by kernel_rfl) ?_
        simp only [rs]
        refine ⟨?_,trivial⟩
        refine opsX fun K hK=>?_;simp only [z,seval];(repeat (first | refine gcI ?_ | refine fun (_:_≤_)=>?_));refine hK _ ?_;clear hK K
        refine opsX0 ?_
        refine ⟨by kernel_rfl,?_⟩
        refine hK6 _ ?_
        refine Sm.ret ?_
        refine lf ?_
        obtain rfl:=Option.some.inj H
        exact rtM [some 320,some 240,some 288]
      · refine opsX fun K hK=>?_;simp only [z,seval];(repeat (first | refine gcI ?_ | refine fun (_:_≤_)=>?_));refine hK _ ?_;clear hK K
        refine opsX0 ?_
        refine wpT_node 1 [4] (by kernel_rfl) ?_
        simp only [rs]
        refine ⟨?_,?_,trivial⟩
        · refine opsY fun K hK=>?_;simp only [z,seval];(repeat (first | refine gcI ?_ | refine fun (_:_≤_)=>?_));refine hK _ ?_;clear hK K
          refine opsX0 ?_
          refine wpT_node 4 [] (by kernel_rfl) ?_
          simp only [rs]
          refine ⟨?_,trivial⟩
          refine opsY fun K hK=>?_;simp only [z,seval];(repeat (first | refine gcI ?_ | refine fun (_:_≤_)=>?_));refine hK _ ?_;clear hK K
          refine opsX0 ?_
          refine wpT_node 5 [] (by kernel_rfl) ?_
          simp only [rs]
          refine ⟨?_,trivial⟩
          refine opsX fun K hK=>?_;simp only [z,seval];(repeat (first | refine gcI ?_ | refine fun (_:_≤_)=>?_));refine hK _ ?_;clear hK K
          refine opsX0 ?_
          refine wpT_node 6 [] (by kernel_rfl) ?_
          simp only [rs]
          refine ⟨?_,trivial⟩
          refine opsX fun K hK=>?_;simp only [z,seval];(repeat (first | refine gcI ?_ | refine fun (_:_≤_)=>?_));refine hK _ ?_;clear hK K
          refine opsX0 ?_
          refine wpT_node 7 [] (by kernel_rfl) ?_
          simp only [rs]
          refine ⟨?_,trivial⟩
          refine opsX fun K hK=>?_;simp only [z,seval];(repeat (first | refine gcI ?_ | refine fun (_:_≤_)=>?_));refine hK _ ?_;clear hK K
          refine opsX0 ?_
          refine ⟨by kernel_rfl,?_⟩
          refine hK6 _ ?_
          refine Sm.ret ?_
          refine lf ?_
          obtain rfl:=Option.some.inj H
          exact rtM [some 320,some 240,some 288]
        · refine opsY fun K hK=>?_;simp only [z,seval];(repeat (first | refine gcI ?_ | refine fun (_:_≤_)=>?_));refine hK _ ?_;clear hK K
          refine opsX0 ?_
          refine wpT_node 1 [] (by kernel_rfl) ?_
          simp only [rs]
          refine ⟨?_,trivial⟩
          refine opsY fun K hK=>?_;simp only [z,seval];(repeat (first | refine gcI ?_ | refine fun (_:_≤_)=>?_));refine hK _ ?_;clear hK K
          refine opsX0 ?_
          refine wpT_node 5 [] (by kernel_rfl) ?_
          simp only [rs]
          refine ⟨?_,trivial⟩
          refine opsX fun K hK=>?_;simp only [z,seval];(repeat (first | refine gcI ?_ | refine fun (_:_≤_)=>?_));refine hK _ ?_;clear hK K
          refine opsX0 ?_
          refine wpT_node 6 [] (by kernel_rfl) ?_
          simp only [rs]
          refine ⟨?_,trivial⟩
          refine opsX fun K hK=>?_;simp only [z,seval];(repeat (first | refine gcI ?_ | refine fun (_:_≤_)=>?_));refine hK _ ?_;clear hK K
          refine opsX0 ?_
          refine wpT_node 7 [] (by kernel_rfl) ?_
          simp only [rs]
          refine ⟨?_,trivial⟩
          refine opsX fun K hK=>?_;simp only [z,seval];(repeat (first | refine gcI ?_ | refine fun (_:_≤_)=>?_));refine hK _ ?_;clear hK K
          refine opsX0 ?_
          refine ⟨by kernel_rfl,?_⟩
          refine hK6 _ ?_
          refine Sm.ret ?_
          refine lf ?_
          obtain rfl:=Option.some.inj H
          exact rtM [some 320,some 240,some 288]
  · refine opsX fun K hK=>?_;simp only [z,seval];(repeat (first | refine gcI ?_ | refine fun (_:_≤_)=>?_));refine hK _ ?_;clear hK K
    refine opsX0 ?_
    refine wpT_node 0 [3] (by kernel_rfl) ?_
    simp only [rs]
    refine ⟨?_,?_,trivial⟩
    · refine opsX fun K hK=>?_;simp only [z,seval];(repeat (first | refine gcI ?_ | refine fun (_:_≤_)=>?_));refine hK _ ?_;clear hK K
      refine opsX0 ?_
      refine wpT_node 1 [3] (by kernel_rfl) ?_
      simp only [rs]
      refine ⟨?_,?_,trivial⟩
      · refine opsY fun K hK=>?_;simp only [z,seval];(repeat (first | refine gcI ?_ | refine fun (_:_≤_)=>?_));refine hK _ ?_;clear hK K
        refine opsX0 ?_
        refine wpT_node 3 [] (by kernel_rfl) ?_
        simp only [rs]
        refine ⟨?_,trivial⟩
        refine opsX fun K hK=>?_;simp only [z,seval];(repeat (first | refine gcI ?_ | refine fun (_:_≤_)=>?_));refine hK _ ?_;clear hK K
        refine opsX0 ?_
        refine wpT_node 4 [] (by kernel_rfl) ?_
        simp only [rs]
        refine ⟨?_,trivial⟩
        refine opsY fun K hK=>?_;simp only [z,seval];(repeat (first | refine gcI ?_ | refine fun (_:_≤_)=>?_));refine hK _ ?_;clear hK K
        refine opsX0 ?_
        refine wpT_node 5 [] (by kernel_rfl) ?_
        simp only [rs]
        refine ⟨?_,trivial⟩
        refine opsX fun K hK=>?_;simp only [z,seval];(repeat (first | refine gcI ?_ | refine fun (_:_≤_)=>?_));refine hK _ ?_;clear hK K
        refine opsX0 ?_
        refine wpT_node 6 [] (by kernel_rfl) ?_
        simp only [rs]
        refine ⟨?_,trivial⟩
        refine opsX fun K hK=>?_;simp only [z,seval];(repeat (first | refine gcI ?_ | refine fun (_:_≤_)=>?_));refine hK _ ?_;clear hK K
        refine opsX0 ?_
        refine wpT_node 7 [] (by kernel_rfl) ?_
        simp only [rs]
        refine ⟨?_,trivial⟩
        refine opsX fun K hK=>?_;simp only [z,seval];(repeat (first | refine gcI ?_ | refine fun (_:_≤_)=>?_));refine hK _ ?_;clear hK K
        refine opsX0 ?_
        refine ⟨by kernel_rfl,?_⟩
        refine hK6 _ ?_
        refine Sm.ret ?_
        refine lf ?_
        obtain rfl:=Option.some.inj H
        exact rtM [some 320,some 240,some 288]
      · refine opsX fun K hK=>?_;simp only [z,seval];(repeat (first | refine gcI ?_ | refine fun (_:_≤_)=>?_));refine hK _ ?_;clear hK K
        refine opsX0 ?_
        refine wpT_node 1 [4] (by kernel_rfl) ?_
        simp only [rs]
        refine ⟨?_,?_,trivial⟩
        · refine opsY fun K hK=>?_;simp only [z,seval];(repeat (first | refine gcI ?_ | refine fun (_:_≤_)=>?_));refine hK _ ?_;clear hK K
          refine opsX0 ?_
          refine wpT_node 4 [] (by kernel_rfl) ?_
          simp only [rs]
          refine ⟨?_,trivial⟩
          refine opsY fun K hK=>?_;simp only [z,seval];(repeat (first | refine gcI ?_ | refine fun (_:_≤_)=>?_));refine hK _ ?_;clear hK K
          refine opsX0 ?_
          refine wpT_node 5 [] (by kernel_rfl) ?_
          simp only [rs]
          refine ⟨?_,trivial⟩
          refine opsX fun K hK=>?_;simp only [z,seval];(repeat (first | refine gcI ?_ | refine fun (_:_≤_)=>?_));refine hK _ ?_;clear hK K
          refine opsX0 ?_
          refine wpT_node 6 [] (by kernel_rfl) ?_
          simp only [rs]
          refine ⟨?_,trivial⟩
          refine opsX fun K hK=>?_;simp only [z,seval];(repeat (first | refine gcI ?_ | refine fun (_:_≤_)=>?_));refine hK _ ?_;clear hK K
          refine opsX0 ?_
          refine wpT_node 7 [] (by kernel_rfl) ?_
          simp only [rs]
          refine ⟨?_,trivial⟩
          refine opsX fun K hK=>?_;simp only [z,seval];(repeat (first | refine gcI ?_ | refine fun (_:_≤_)=>?_));refine hK _ ?_;clear hK K
          refine opsX0 ?_
          refine ⟨by kernel_rfl,?_⟩
          refine hK6 _ ?_
          refine Sm.ret ?_
          refine lf ?_
          obtain rfl:=Option.some.inj H
          exact rtM [some 320,some 240,some 288]
        · refine opsY fun K hK=>?_;simp only [z,seval];(repeat (first | refine gcI ?_ | refine fun (_:_≤_)=>?_));refine hK _ ?_;clear hK K
          refine opsX0 ?_
          refine wpT_node 1 [] (by kernel_rfl) ?_
          simp only [rs]
          refine ⟨?_,trivial⟩
          refine opsY fun K hK=>?_;simp only [z,seval];(repeat (first | refine gcI ?_ | refine fun (_:_≤_)=>?_));refine hK _ ?_;clear hK K
          refine opsX0 ?_
          refine wpT_node 5 [] (by kernel_rfl) ?_
          simp only [rs]
          refine ⟨?_,trivial⟩
          refine opsX fun K hK=>?_;simp only [z,seval];(repeat (first | refine gcI ?_ | refine fun (_:_≤_)=>?_));refine hK _ ?_;clear hK K
          refine opsX0 ?_
          refine wpT_node 6 [] (by kernel_rfl) ?_
          simp only [rs]
          refine ⟨?_,trivial⟩
          refine opsX fun K hK=>?_;simp only [z,seval];(repeat (first | refine gcI ?_ | refine fun (_:_≤_)=>?_));refine hK _ ?_;clear hK K
          refine opsX0 ?_
          refine wpT_node 7 [] (by kernel_rfl) ?_
          simp only [rs]
          refine ⟨?_,trivial⟩
          refine opsX fun K hK=>?_;simp only [z,seval];(repeat (first | refine gcI ?_ | refine fun (_:_≤_)=>?_));refine hK _ ?_;clear hK K
          refine opsX0 ?_
          refine ⟨by kernel_rfl,?_⟩
          refine hK6 _ ?_
          refine Sm.ret ?_
          refine lf ?_
          obtain rfl:=Option.some.inj H
          exact rtM [some 320,some 240,some 288]
    · refine opsX fun K hK=>?_;simp only [z,seval];(repeat (first | refine gcI ?_ | refine fun (_:_≤_)=>?_));refine hK _ ?_;clear hK K
      refine opsX0 ?_
      refine wpT_node 0 [4] (by kernel_rfl) ?_
      simp only [rs]
      refine ⟨?_,?_,trivial⟩
      · refine opsX fun K hK=>?_;simp only [z,seval];(repeat (first | refine gcI ?_ | refine fun (_:_≤_)=>?_));refine hK _ ?_;clear hK K
        refine opsX0 ?_
        refine wpT_node 1 [4] (by kernel_rfl) ?_
        simp only [rs]
        refine ⟨?_,?_,trivial⟩
        · refine opsY fun K hK=>?_;simp only [z,seval];(repeat (first | refine gcI ?_ | refine fun (_:_≤_)=>?_));refine hK _ ?_;clear hK K
          refine opsX0 ?_
          refine wpT_node 4 [] (by kernel_rfl) ?_
          simp only [rs]
          refine ⟨?_,trivial⟩
          refine opsY fun K hK=>?_;simp only [z,seval];(repeat (first | refine gcI ?_ | refine fun (_:_≤_)=>?_));refine hK _ ?_;clear hK K
          refine opsX0 ?_
          refine wpT_node 5 [] (by kernel_rfl) ?_
          simp only [rs]
          refine ⟨?_,trivial⟩
          refine opsX fun K hK=>?_;simp only [z,seval];(repeat (first | refine gcI ?_ | refine fun (_:_≤_)=>?_));refine hK _ ?_;clear hK K
          refine opsX0 ?_
          refine wpT_node 6 [] (by kernel_rfl) ?_
          simp only [rs]
          refine ⟨?_,trivial⟩
          refine opsX fun K hK=>?_;simp only [z,seval];(repeat (first | refine gcI ?_ | refine fun (_:_≤_)=>?_));refine hK _ ?_;clear hK K
          refine opsX0 ?_
          refine wpT_node 7 [] (by kernel_rfl) ?_
          simp only [rs]
          refine ⟨?_,trivial⟩
          refine opsX fun K hK=>?_;simp only [z,seval];(repeat (first | refine gcI ?_ | refine fun (_:_≤_)=>?_));refine hK _ ?_;clear hK K
          refine opsX0 ?_
          refine ⟨by kernel_rfl,?_⟩
          refine hK6 _ ?_
          refine Sm.ret ?_
          refine lf ?_
          obtain rfl:=Option.some.inj H
          exact rtM [some 320,some 240,some 288]
        · refine opsY fun K hK=>?_;simp only [z,seval];(repeat (first | refine gcI ?_ | refine fun (_:_≤_)=>?_));refine hK _ ?_;clear hK K
          refine opsX0 ?_
          refine wpT_node 1 [] (by kernel_rfl) ?_
          simp only [rs]
          refine ⟨?_,trivial⟩
          refine opsY fun K hK=>?_;simp only [z,seval];(repeat (first | refine gcI ?_ | refine fun (_:_≤_)=>?_));refine hK _ ?_;clear hK K
          refine opsX0 ?_
          refine wpT_node 5 [] (by kernel_rfl) ?_
          simp only [rs]
          refine ⟨?_,trivial⟩
          refine opsX fun K hK=>?_;simp only [z,seval];(repeat (first | refine gcI ?_ | refine fun (_:_≤_)=>?_));refine hK _ ?_;clear hK K
          refine opsX0 ?_
          refine wpT_node 6 [] (by kernel_rfl) ?_
          simp only [rs]
          refine ⟨?_,trivial⟩
          refine opsX fun K hK=>?_;simp only [z,seval];(repeat (first | refine gcI ?_ | refine fun (_:_≤_)=>?_));refine hK _ ?_;clear hK K
          refine opsX0 ?_
          refine wpT_node 7 [] (by kernel_rfl) ?_
          simp only [rs]
          refine ⟨?_,trivial⟩
          refine opsX fun K hK=>?_;simp only [z,seval];(repeat (first | refine gcI ?_ | refine fun (_:_≤_)=>?_));refine hK _ ?_;clear hK K
          refine opsX0 ?_
          refine ⟨by kernel_rfl,?_⟩
          refine hK6 _ ?_
          refine Sm.ret ?_
          refine lf ?_
          obtain rfl:=Option.some.inj H
          exact rtM [some 320,some 240,some 288]
      · refine opsY fun K hK=>?_;simp only [z,seval];(repeat (first | refine gcI ?_ | refine fun (_:_≤_)=>?_));refine hK _ ?_;clear hK K
        refine opsX0 ?_
        refine wpT_node 0 [] (by kernel_rfl) ?_
        simp only [rs]
        refine ⟨?_,trivial⟩
        refine opsX fun K hK=>?_;simp only [z,seval];(repeat (first | refine gcI ?_ | refine fun (_:_≤_)=>?_));refine hK _ ?_;clear hK K
        refine opsX0 ?_
        refine wpT_node 1 [] (by kernel_rfl) ?_
        simp only [rs]
        refine ⟨?_,trivial⟩
        refine opsY fun K hK=>?_;simp only [z,seval];(repeat (first | refine gcI ?_ | refine fun (_:_≤_)=>?_));refine hK _ ?_;clear hK K
        refine opsX0 ?_
        refine wpT_node 5 [] (by kernel_rfl) ?_
        simp only [rs]
        refine ⟨?_,trivial⟩
        refine opsX fun K hK=>?_;simp only [z,seval];(repeat (first | refine gcI ?_ | refine fun (_:_≤_)=>?_));refine hK _ ?_;clear hK K
        refine opsX0 ?_
        refine wpT_node 6 [] (by kernel_rfl) ?_
        simp only [rs]
        refine ⟨?_,trivial⟩
        refine opsX fun K hK=>?_;simp only [z,seval];(repeat (first | refine gcI ?_ | refine fun (_:_≤_)=>?_));refine hK _ ?_;clear hK K
        refine opsX0 ?_
        refine wpT_node 7 [] (by kernel_rfl) ?_
        simp only [rs]
        refine ⟨?_,trivial⟩
        refine opsX fun K hK=>?_;simp only [z,seval];(repeat (first | refine gcI ?_ | refine fun (_:_≤_)=>?_));refine hK _ ?_;clear hK K
        refine opsX0 ?_
        refine ⟨by kernel_rfl,?_⟩
        refine hK6 _ ?_
        refine Sm.ret ?_
        refine lf ?_
        obtain rfl:=Option.some.inj H
        exact rtM [some 320,some 240,some 288]
abbrev store_Store__Put_M1_s1 (b0:List Int) (s_:List Int) (code:Int):S:=stB [(9,.c (.int .i64) (.int code))] [(0,.box [.own 1 [.int .u8] 0 b0.length,.own 2 [.int .i64] 0 s_.length]),(1,.row 5 (List.map e_Int b0)),(2,.row 3 (List.map e_Int s_))]
def store_Store__Put_M1_k1 (n:Nat) (b0:List Int) (s_:List Int) (code:Int):Option (Int×(List Int)) :=
  some (code,b0)
def store_Store__Put_M1 (n:Nat) (s:List Int) (s_:List Int) (addr:Int) (b:List Int) (key:Int):Option (Int×(List Int)) :=
  (store_check_M n s s_ addr (b.length:Int) key).bind fun r1 =>
  bif (r1 == 0) then
    gd ((0≤addr∧addr≤(s.length:Int)∧(s.length:Int)≤(s.length:Int))∧((Int.toNat addr)+(Int.toNat ((s.length:Int) - addr)))≤s.length) <|
    store_Store__Put_M1_k1 n (overL s (Int.toNat addr) (List.take (Int.toNat ((s.length:Int) - addr)) b)) s_ r1
  else
    store_Store__Put_M1_k1 n s s_ r1
theorem cstore_Store__Put_M1 (n:Nat) (s:List Int) (s_:List Int) (addr:Int) (b:List Int) (key:Int) (r:Int×(List Int)) (H:store_Store__Put_M1 n s s_ addr b key=some r):CallsM Try.prog 30 [.ref (.box 0 0),.dat (false,[.int .i64]) [.int addr],.dat (false,[.slice 5]) [.slice (List.map e_Int b)],.dat (false,[.int .i64]) [.int key]] [.box [.own 1 [.int .u8] 0 s.length,.own 2 [.int .i64] 0 s_.length],.row 5 (List.map e_Int s),.row 3 (List.map e_Int s_)] [.c (.int .i64) (.int r.1)] [.box [.own 1 [.int .u8] 0 r.2.length,.own 2 [.int .i64] 0 s_.length],.row 5 (List.map e_Int r.2),.row 3 (List.map e_Int s_)]:=by
  have hΓ:=@g0 (Contract Try.prog)
  refine callsM_of (Try.f30.body.getD .skip) h00 Try.func30 rfl Try.call30 (Nat.le_of_ble_eq_true rfl) (Nat.le_of_ble_eq_true rfl) ?_
  unfold store_Store__Put_M1 at H
  simp only [Try.f30,Option.getD]
  refine rA ?_
  refine Sm.seqK fun K2 hK2=>?_
  refine sX fun K3 hK3=>?_
  refine oX ?_
  refine oE stepPN_ok ?_ (hs:=by intro K hK;simp only [z,seval,stepPN,ptT];(repeat first | refine gcI ?_ | intro (_:_≤_));exact hK)
  refine hK3 _ ?_
  refine cndF ?_
  refine Sm.skip ?_
  refine hK2 _ ?_
  refine sX fun K5 hK5=>?_
  obtain ⟨r1,hr1,H⟩:=bind_some H
  have q:=hr1
  iterate 4 refine oX ?_
  refine oY ?_
  refine oMq (cstore_check_M n _ _ _ _ _ r1 hr1) [0,1,2,112] [] ?_
  refine oXq ?_
  refine hK5 _ ?_
  refine Sm.cut (fun (x:(List Int))=>store_Store__Put_M1_s1 x s_ r1) (fun x=>store_Store__Put_M1_k1 n x s_ r1=some r) ?_ ?_
  · refine rA ?_
    refine cnd H (fun h8 H=>?_) (fun h8 H=>?_)
    · refine eX ?_
      obtain ⟨⟨hg9,hg10⟩,H⟩:=gd_some H
      refine oX ?_
      refine oE stepZ_ok ?_
      iterate 5 refine oX ?_
      refine oE stepV_ok ?_
      refine opsX0 ?_
      refine lf ?_
      exact ⟨_,H,wb [some 0,some 1,some 2]⟩
    refine Sm.skip ?_
    refine lf ?_
    exact ⟨_,H,wb [some 0,some 1,some 2]⟩
  rintro b0 H
  try dsimp only at H
  unfold store_Store__Put_M1_k1 at H
  refine Sm.st (store_Store__Put_M1_s1.eq_1 ..) ?_
  refine rA ?_
  refine Sm.ret ?_
  refine lf ?_
  obtain rfl:=Option.some.inj H
  exact rtM [some 0,some 1,some 2]
def ref07_Store__In_M1 (n:Nat) (s:List Int) (s_:List Int) (addr:Int) (n_:Int):Option Bool :=
  bif (if (decide (addr ≥ 0))=true then (decide (n_ ≥ 0)) else false) then
    gd ((if (decide (addr ≥ 0))=true then (decide (n_ ≥ 0)) else false)=true∧(if (decide (addr ≥ 0))=true then (decide (n_ ≥ 0)) else false)=true) <|
    bif (decide (addr≤((s.length:Nat):Int))) then
      gd ((decide (addr≤((s.length:Nat):Int)))=true∧(decide (addr≤((s.length:Nat):Int)))=true) <|
      some (decide (n_≤(IntKind.wrap .i64 (((s.length:Nat):Int) - addr))))
    else
      some false
  else
    some false
theorem cref07_Store__In_M1 (n:Nat) (s:List Int) (s_:List Int) (addr:Int) (n_:Int) (r:Bool) (H:ref07_Store__In_M1 n s s_ addr n_=some r):CallsM Try.prog 62 [.ref (.box 0 0),.dat (false,[.int .i64]) [.int addr],.dat (false,[.int .i64]) [.int n_]] [.box [.own 1 [.int .u8] 0 s.length,.own 2 [.int .i64] 0 s_.length],.row 5 (List.map e_Int s),.row 3 (List.map e_Int s_)] [.c .bool (.bool r)] [.box [.own 1 [.int .u8] 0 s.length,.own 2 [.int .i64] 0 s_.length],.row 5 (List.map e_Int s),.row 3 (List.map e_Int s_)]:=by
  have hΓ:=@g0 (Contract Try.prog)
  refine callsM_of (Try.f62.body.getD .skip) h00 Try.func62 rfl Try.call62 (Nat.le_of_ble_eq_true rfl) (Nat.le_of_ble_eq_true rfl) ?_
  unfold ref07_Store__In_M1 at H
  simp only [Try.f62,Option.getD]
  refine rA ?_
  refine sX fun K2 hK2=>?_
  iterate 9 refine oX ?_
  refine bif_cases H (fun hs3 H=>?_) (fun hs3 H=>?_)
  · obtain ⟨⟨hg4,hg5⟩,H⟩:=gd_some H
    have q:=hs3
    refine oTE stepZ_ok ?_
    refine oTG ?_
    refine oTG ?_
    refine oTG ?_
    refine oTG ?_
    refine oPl ?_
    iterate 3 refine oXq ?_
    refine bif_cases H (fun hs6 H=>?_) (fun hs6 H=>?_)
    · try simp only [z,seval,hs3] at hs6
      obtain ⟨⟨hg7,hg8⟩,H⟩:=gd_some H
      have q:=And.intro hs3 hs6
      refine oTE stepZ_ok ?_
      refine oTG ?_
      refine oTG ?_
      refine oTG ?_
      refine oTG ?_
      refine oTG ?_
      refine oTG ?_
      refine oPl ?_
      refine oXq ?_
      refine hK2 _ ?_
      refine Sm.ret ?_
      refine lf ?_
      obtain rfl:=Option.some.inj H
      exact rtM [some 0,some 1,some 2]
    try simp only [z,seval,hs3] at hs6
    have q:=And.intro hs3 hs6
    refine oFq ?_
    refine oFq ?_
    refine oFq ?_
    refine oFq ?_
    refine oFq ?_
    refine oFq ?_
    refine oFq ?_
    refine oPr ?_
    refine oXq ?_
    refine hK2 _ ?_
    refine Sm.ret ?_
    refine lf ?_
    obtain rfl:=Option.some.inj H
    exact rtM [some 0,some 1,some 2]
  have q:=hs3
  refine oFq ?_
  refine oFq ?_
  refine oFq ?_
  refine oFq ?_
  refine oFq ?_
  refine oPr ?_
  refine oXq ?_
  refine oFq ?_
  refine oFq ?_
  refine oFq ?_
  refine oFq ?_
  refine oFq ?_
  refine oFq ?_
  refine oFq ?_
  refine oFq ?_
  refine oFq ?_
  refine oPr ?_
  refine oXq ?_
  refine hK2 _ ?_
  refine Sm.ret ?_
  refine lf ?_
  obtain rfl:=Option.some.inj H
  exact rtM [some 0,some 1,some 2]
abbrev ref07_Store__code_M1_s1 (s:List Int) (s_:List Int):S:=stB [] [(0,.box [.own 1 [.int .u8] 0 s.length,.own 2 [.int .i64] 0 s_.length]),(1,.row 5 (List.map e_Int s)),(2,.row 3 (List.map e_Int s_))]
def ref07_Store__code_M1_k1 (n:Nat) (s:List Int) (s_:List Int):Option Int :=
  some 0
abbrev ref07_Store__code_M1_t2 (s:List Int) (s_:List Int) (addr:Int) (n_:Int) (key:Int) (fetch:Bool) (i:Int):S:=stB [(0,.box 0 0),(1,.c (.int .i64) (.int addr)),(2,.c (.int .i64) (.int n_)),(3,.c (.int .i64) (.int key)),(4,.c .bool (.bool fetch)),(11,.c (.int .i64) (.int i))] [(0,.box [.own 1 [.int .u8] 0 s.length,.own 2 [.int .i64] 0 s_.length]),(1,.row 5 (List.map e_Int s)),(2,.row 3 (List.map e_Int s_))]
def ref07_Store__code_M1_b2 (n:Nat) (s:List Int) (s_:List Int) (addr:Int) (n_:Int) (key:Int) (fetch:Bool) (i:Int):Option ((Int) ⊕ (((Int) ⊕ (Unit)))) :=
  bif (decide (i < (IntKind.wrap .i64 (addr+n_)))) then
    gd ((0≤(IntKind.wrap .i64 (Int.tdiv i 2048))∧(IntKind.wrap .i64 (Int.tdiv i 2048)) < (s_.length:Int))∧(Int.toNat (IntKind.wrap .i64 (Int.tdiv i 2048))) < s_.length) <|
    gd ((((if (key != 0)=true then (key != (IntKind.wrap .i64 (Int.tdiv (gt s_ (Int.toNat (IntKind.wrap .i64 (Int.tdiv i 2048)))) 2))) else false) && !(!fetch))=true→((if (key != 0)=true then (key != (IntKind.wrap .i64 (Int.tdiv (gt s_ (Int.toNat (IntKind.wrap .i64 (Int.tdiv i 2048)))) 2))) else false) && (!(!fetch)))=true)) <|
    bif (if (if (key != 0)=true then (key != (IntKind.wrap .i64 (Int.tdiv (gt s_ (Int.toNat (IntKind.wrap .i64 (Int.tdiv i 2048)))) 2))) else false)=true then (if (!fetch)=true then true else ((Int.tmod (gt s_ (Int.toNat (IntKind.wrap .i64 (Int.tdiv i 2048)))) 2) == 1)) else false) then
      some (.inr (.inl 4))
    else
      some (.inl (IntKind.wrap .i64 (i+1)))
  else
    some (.inr (.inr ()))
def ref07_Store__code_M1 (n:Nat) (s:List Int) (s_:List Int) (addr:Int) (n_:Int) (key:Int) (fetch:Bool):Option Int :=
  (ref07_Store__In_M1 n s s_ addr n_).bind fun r1 =>
  bif (!r1) then
    some 5
  else
    (loopF (fun (x:Int)=>ref07_Store__code_M1_b2 n s s_ addr n_ key fetch x) n addr).bind fun y8 =>
    match y8 with
    | .inl vv =>
      some vv
    | .inr vv =>
      ref07_Store__code_M1_k1 n s s_
theorem cref07_Store__code_M1 (n:Nat) (s:List Int) (s_:List Int) (addr:Int) (n_:Int) (key:Int) (fetch:Bool) (r:Int) (H:ref07_Store__code_M1 n s s_ addr n_ key fetch=some r):CallsM Try.prog 59 [.ref (.box 0 0),.dat (false,[.int .i64]) [.int addr],.dat (false,[.int .i64]) [.int n_],.dat (false,[.int .i64]) [.int key],.dat (false,[.bool]) [.bool fetch]] [.box [.own 1 [.int .u8] 0 s.length,.own 2 [.int .i64] 0 s_.length],.row 5 (List.map e_Int s),.row 3 (List.map e_Int s_)] [.c (.int .i64) (.int r)] [.box [.own 1 [.int .u8] 0 s.length,.own 2 [.int .i64] 0 s_.length],.row 5 (List.map e_Int s),.row 3 (List.map e_Int s_)]:=by
  have hΓ:=@g0 (Contract Try.prog)
  refine callsM_of (Try.f59.body.getD .skip) h00 Try.func59 rfl Try.call59 (Nat.le_of_ble_eq_true rfl) (Nat.le_of_ble_eq_true rfl) ?_
  unfold ref07_Store__code_M1 at H
  simp only [Try.f59,Option.getD]
  refine rA ?_
  refine Sm.seqK fun K2 hK2=>?_
  refine sX fun K3 hK3=>?_
  obtain ⟨r1,hr1,H⟩:=bind_some H
  have q:=hr1
  iterate 3 refine oX ?_
  refine oMq (cref07_Store__In_M1 n _ _ _ _ r1 hr1) [0,1,2] [] ?_
  refine oXq ?_
  refine hK3 _ ?_
  refine cnd H (fun h4 H=>?_) (fun h4 H=>?_)
  · refine rA ?_
    refine Sm.ret ?_
    refine lf ?_
    obtain rfl:=Option.some.inj H
    exact rtM [some 0,some 1,some 2]
  refine Sm.skip ?_
  refine hK2 _ ?_
  refine Sm.cut (fun (x:Unit)=>ref07_Store__code_M1_s1 s s_) (fun x=>ref07_Store__code_M1_k1 n s s_=some r) ?_ ?_
  · refine rA ?_
    refine Sm.block ?_
    obtain ⟨y8,hy8,Ho8⟩:=bind_some H
    refine Sm.loopB _ (fun x=>ref07_Store__code_M1_t2 s s_ addr n_ key fetch x) hy8 (wb [some 0,some 1,some 2]) ?_
    rintro i z8 H
    try dsimp only at H
    unfold ref07_Store__code_M1_b2 at H
    refine Sm.st (ref07_Store__code_M1_t2.eq_1 ..) ?_
    refine Sm.seqK fun K9 hK9=>?_
    refine rA ?_
    refine cnd H (fun h11 H=>?_) (fun h11 H=>?_)
    · refine Sm.skip ?_
      refine hK9 _ ?_
      refine Sm.seqK fun K12 hK12=>?_
      refine Sm.block ?_
      refine sX fun K13 hK13=>?_
      obtain ⟨⟨hg14,hg15⟩,H⟩:=gd_some H
      refine oX ?_
      refine oE stepZ_ok ?_
      iterate 7 refine oX ?_
      refine hK13 _ ?_
      obtain ⟨hg19,H⟩:=gd_some H
      refine rA ?_
      refine cnd H (fun h17 H=>?_) (fun h17 H=>?_)
      · refine rA ?_
        refine Sm.ret ?_
        refine lf ?_
        refine lx H fun hyy=>?_
        subst hyy
        have H:=Ho8
        try dsimp only at H
        refine lf ?_
        obtain rfl:=Option.some.inj H
        exact rtM [some 0,some 1,some 2]
      refine Sm.skip ?_
      refine hK12 _ ?_
      refine eA ?_
      refine lf ?_
      exact nx H (wb [some 0,some 1,some 2])
    refine Sm.exit ?_
    refine lf ?_
    refine lx H fun hyy=>?_
    subst hyy
    have H:=Ho8
    try dsimp only at H
    refine lf ?_
    exact ⟨(),H,wb [some 0,some 1,some 2]⟩
  rintro ⟨⟩ H
  try dsimp only at H
  unfold ref07_Store__code_M1_k1 at H
  refine Sm.st (ref07_Store__code_M1_s1.eq_1 ..) ?_
  refine rA ?_
  refine Sm.ret ?_
  refine lf ?_
  obtain rfl:=Option.some.inj H
  exact rtM [some 0,some 1,some 2]
abbrev ref07_Store__Put_M1_s1 (b0:List Int) (s_:List Int) (c:Int):S:=stB [(9,.c (.int .i64) (.int c))] [(0,.box [.own 1 [.int .u8] 0 b0.length,.own 2 [.int .i64] 0 s_.length]),(1,.row 5 (List.map e_Int b0)),(2,.row 3 (List.map e_Int s_))]
def ref07_Store__Put_M1_k1 (n:Nat) (b0:List Int) (s_:List Int) (c:Int):Option (Int×(List Int)) :=
  some (c,b0)
abbrev ref07_Store__Put_M1_t2 (s_:List Int) (addr:Int) (b:List Int) (c_1:Int) (b0_1:List Int) (i:Int):S:=stB [(0,.box 0 0),(1,.c (.int .i64) (.int addr)),(2,.c (.slice 5) (.slice (List.map e_Int b))),(9,.c (.int .i64) (.int c_1)),(10,.c (.int .i64) (.int i))] [(0,.box [.own 1 [.int .u8] 0 b0_1.length,.own 2 [.int .i64] 0 s_.length]),(1,.row 5 (List.map e_Int b0_1)),(2,.row 3 (List.map e_Int s_))]
def ref07_Store__Put_M1_b2 (n:Nat) (s_:List Int) (addr:Int) (b:List Int) (c_1:Int) (b0_1:List Int) (i:Int):Option (((List Int)×Int) ⊕ (((List Int)))) :=
  bif (if (decide (i < (b.length:Int)))=true then (c_1 == 0) else false) then
    gd ((0≤i∧i < (b.length:Int))∧(0≤(IntKind.wrap .i64 (addr+i))∧(IntKind.wrap .i64 (addr+i)) < (b0_1.length:Int))∧(Int.toNat (IntKind.wrap .i64 (addr+i))) < b0_1.length) <|
    some (.inl ((List.set b0_1 (Int.toNat (IntKind.wrap .i64 (addr+i))) (gt b (Int.toNat i))),(IntKind.wrap .i64 (i+1))))
  else
    some (.inr b0_1)
def ref07_Store__Put_M1 (n:Nat) (s:List Int) (s_:List Int) (addr:Int) (b:List Int) (key:Int):Option (Int×(List Int)) :=
  (ref07_Store__code_M1 n s s_ addr (b.length:Int) key false).bind fun r1 =>
  (loopF (fun (x:(List Int)×Int)=>ref07_Store__Put_M1_b2 n s_ addr b r1 x.1 x.2) n (s,0)).bind fun y5 =>
  ref07_Store__Put_M1_k1 n y5 s_ r1
theorem cref07_Store__Put_M1 (n:Nat) (s:List Int) (s_:List Int) (addr:Int) (b:List Int) (key:Int) (r:Int×(List Int)) (H:ref07_Store__Put_M1 n s s_ addr b key=some r):CallsM Try.prog 31 [.ref (.box 0 0),.dat (false,[.int .i64]) [.int addr],.dat (false,[.slice 5]) [.slice (List.map e_Int b)],.dat (false,[.int .i64]) [.int key]] [.box [.own 1 [.int .u8] 0 s.length,.own 2 [.int .i64] 0 s_.length],.row 5 (List.map e_Int s),.row 3 (List.map e_Int s_)] [.c (.int .i64) (.int r.1)] [.box [.own 1 [.int .u8] 0 r.2.length,.own 2 [.int .i64] 0 s_.length],.row 5 (List.map e_Int r.2),.row 3 (List.map e_Int s_)]:=by
  have hΓ:=@g0 (Contract Try.prog)
  refine callsM_of (Try.f31.body.getD .skip) h00 Try.func31 rfl Try.call31 (Nat.le_of_ble_eq_true rfl) (Nat.le_of_ble_eq_true rfl) ?_
  unfold ref07_Store__Put_M1 at H
  simp only [Try.f31,Option.getD]
  refine rA ?_
  refine sX fun K2 hK2=>?_
  obtain ⟨r1,hr1,H⟩:=bind_some H
  have q:=hr1
  iterate 5 refine oX ?_
  refine oMq (cref07_Store__code_M1 n _ _ _ _ _ _ r1 hr1) [0,1,2] [] ?_
  refine oXq ?_
  refine hK2 _ ?_
  refine Sm.cut (fun (x:(List Int)×Int)=>ref07_Store__Put_M1_s1 x.1 s_ x.2) (fun x=>ref07_Store__Put_M1_k1 n x.1 s_ x.2=some r) ?_ ?_
  · refine rA ?_
    refine Sm.block ?_
    obtain ⟨y5,hy5,Ho5⟩:=bind_some H
    refine Sm.loopB _ (fun x=>ref07_Store__Put_M1_t2 s_ addr b r1 x.1 x.2) hy5 (wb [some 0,some 1,some 2]) ?_
    rintro ⟨b0_1,i⟩ z5 H
    try dsimp only at H
    unfold ref07_Store__Put_M1_b2 at H
    refine Sm.st (ref07_Store__Put_M1_t2.eq_1 ..) ?_
    refine Sm.seqK fun K6 hK6=>?_
    refine rA ?_
    refine cnd H (fun h8 H=>?_) (fun h8 H=>?_)
    · refine Sm.skip ?_
      refine hK6 _ ?_
      refine Sm.seqK fun K9 hK9=>?_
      refine Sm.block ?_
      obtain ⟨⟨hg10,hg11,hg12⟩,H⟩:=gd_some H
      refine eQ [0,1,2,3,4,5,6,7,8,9,10,11,12] [(none,[],[]),(none,[1000001,0],[]),(none,[0],[]),(none,[0],[]),(none,[],[]),(none,[],[]),(none,[],[]),(none,[],[]),(none,[],[]),(none,[],[]),(none,[],[]),(none,[1],[]),(none,[1],[1])] ?_
      refine oQ ?_
      refine oQV ?_
      iterate 11 refine oQ ?_
      refine opsQ0 ?_
      refine hK9 _ ?_
      refine eA ?_
      refine lf ?_
      exact nx H (wb [some 0,some 1,some 2])
    refine Sm.exit ?_
    refine lf ?_
    refine lx H fun hyy=>?_
    subst hyy
    have H:=Ho5
    try dsimp only at H
    refine lf ?_
    exact ⟨(b0_1,r1),H,wb [some 0,some 1,some 2]⟩
  rintro ⟨b0,c⟩ H
  try dsimp only at H
  unfold ref07_Store__Put_M1_k1 at H
  refine Sm.st (ref07_Store__Put_M1_s1.eq_1 ..) ?_
  refine rA ?_
  refine Sm.ret ?_
  refine lf ?_
  obtain rfl:=Option.some.inj H
  exact rtM [some 0,some 1,some 2]
abbrev law33_Case__filled_M1_s1 (s:List Int) (s_1:List Int) (x_:List Int) (x__1:List Int) (b:List Int):S:=stB [(5,.box 9000 0),(7,.box 9003 0),(8,.own 9006 [.int .u8] 0 b.length)] [(9000,.box [.own 9001 [.int .u8] 0 s.length,.own 9002 [.int .i64] 0 s_1.length]),(9001,.row 5 (List.map e_Int s)),(9002,.row 3 (List.map e_Int s_1)),(9003,.box [.own 9004 [.int .u8] 0 x_.length,.own 9005 [.int .i64] 0 x__1.length]),(9004,.row 5 (List.map e_Int x_)),(9005,.row 3 (List.map e_Int x__1)),(9006,.row 5 (List.map e_Int b))]
def law33_Case__filled_M1_k1 (n:Nat) (s:List Int) (s_1:List Int) (x_:List Int) (x__1:List Int) (b:List Int):Option ((List Int)×(List Int)×(List Int)×(List Int)) :=
  (store_Store__Put_M1 n s s_1 0 b 0).bind fun r4 =>
  (ref07_Store__Put_M1 n x_ x__1 0 b 0).bind fun r5 =>
  some (r4.2,s_1,r5.2,x__1)
abbrev law33_Case__filled_M1_t2 (n_:Int) (s_2:List Int) (s_3:List Int) (x__2:List Int) (x__3:List Int) (b_1:List Int) (i:Int):S:=stB [(4,.c (.int .i64) (.int n_)),(5,.box 9014 0),(7,.box 9017 0),(8,.own 9020 [.int .u8] 0 b_1.length),(9,.c (.int .i64) (.int i))] [(9014,.box [.own 9015 [.int .u8] 0 s_2.length,.own 9016 [.int .i64] 0 s_3.length]),(9015,.row 5 (List.map e_Int s_2)),(9016,.row 3 (List.map e_Int s_3)),(9017,.box [.own 9018 [.int .u8] 0 x__2.length,.own 9019 [.int .i64] 0 x__3.length]),(9018,.row 5 (List.map e_Int x__2)),(9019,.row 3 (List.map e_Int x__3)),(9020,.row 5 (List.map e_Int b_1))]
def law33_Case__filled_M1_b2 (n:Nat) (n_:Int) (s_2:List Int) (s_3:List Int) (x__2:List Int) (x__3:List Int) (b_1:List Int) (i:Int):Option (((List Int)×Int) ⊕ (((List Int)))) :=
  bif (decide (i < n_)) then
    gd ((0≤i∧i < (b_1.length:Int))∧(Int.toNat i) < b_1.length) <|
    some (.inl ((List.set b_1 (Int.toNat i) (IntKind.wrap .u8 ((IntKind.wrap .i64 (1+(Int.tmod i 7)))))),(IntKind.wrap .i64 (i+1))))
  else
    some (.inr b_1)
def law33_Case__filled_M1 (n:Nat) (c:TCase):Option ((List Int)×(List Int)×(List Int)×(List Int)) :=
  (law33_Case__blocks n c).bind fun r1 =>
  (store_New_M1 n r1).bind fun r2 =>
  (ref07_New_M1 n r1).bind fun r3 =>
  bif (r2.2.2 != 0) then
    none
  else
    gd ((!(r2.2.2 != 0))=true) <|
    gd ((0≤r1∧r1≤r1∧r1≤2147483648)) <|
    (loopF (fun (x:(List Int)×Int)=>law33_Case__filled_M1_b2 n r1 r2.1 r2.2.1 r3.1 r3.2 x.1 x.2) n ((zreps (Int.toNat r1) 0),0)).bind fun y18 =>
    law33_Case__filled_M1_k1 n r2.1 r2.2.1 r3.1 r3.2 y18
theorem claw33_Case__filled_M1 (n:Nat) (c:TCase) (r:(List Int)×(List Int)×(List Int)×(List Int)) (H:law33_Case__filled_M1 n c=some r):CallsM Try.prog 13 [.dat (true,[.slice 5,.slice 58,.slice 52,.int .i64,.int .i64,.int .i64,.int .i64,.int .i64,.slice 3,.slice 3]) [.slice (List.map e_Int c.M.Text),.slice (List.map e_TReloc c.M.Relocs),.slice (List.map e_TSegment c.M.Segments),.int c.M.Entry,.int c.Blocks,.int c.At,.int c.Size,.int c.Key,.slice (List.map e_Int c.L),.slice (List.map e_Int c.Odd)]] [] [.box 0 0,.box 3 0] [.box [.own 1 [.int .u8] 0 r.1.length,.own 2 [.int .i64] 0 r.2.1.length],.row 5 (List.map e_Int r.1),.row 3 (List.map e_Int r.2.1),.box [.own 4 [.int .u8] 0 r.2.2.1.length,.own 5 [.int .i64] 0 r.2.2.2.length],.row 5 (List.map e_Int r.2.2.1),.row 3 (List.map e_Int r.2.2.2)]:=by
  have hΓ:=g1 (claw33_Case__blocks n) (@g0 (Contract Try.prog))
  refine callsM_of (Try.f13.body.getD .skip) h00 Try.func13 rfl Try.call13 (Nat.le_of_ble_eq_true rfl) (Nat.le_of_ble_eq_true rfl) ?_
  unfold law33_Case__filled_M1 at H
  simp only [Try.f13,Option.getD]
  refine rA ?_
  obtain ⟨r1,hr1,H⟩:=bind_some H
  have q:=And.intro @xlaw33_Case__blocks.eq_1 hr1
  refine rAq ?_
  refine sX fun K3 hK3=>?_
  obtain ⟨r2,hr2,H⟩:=bind_some H
  have q:=hr2
  refine oX ?_
  refine oMq (cstore_New_M1 n _ r2 hr2) [] [224,225,226] ?_
  iterate 5 refine oXq ?_
  refine hK3 _ ?_
  refine sX fun K4 hK4=>?_
  obtain ⟨r3,hr3,H⟩:=bind_some H
  have q:=hr3
  refine oX ?_
  refine oMq (cref07_New_M1 n _ r3 hr3) [] [288,289,290] ?_
  refine oXq ?_
  refine hK4 _ ?_
  refine Sm.seqK fun K5 hK5=>?_
  refine sX fun K6 hK6=>?_
  iterate 4 refine oX ?_
  refine bif_cases H (fun hs7 H=>?_) (fun hs7 H=>?_)
  · have q:=hs7
    refine oFq ?_
    refine oPl ?_
    refine hK6 _ ?_
    refine cndT ?_
    refine rA ?_
    refine Sm.ret ?_
    cases H
  obtain ⟨hg10,H⟩:=gd_some H
  have q:=hs7
  refine oTE stepPN_ok ?_ (hs:=by intro K hK;simp only [z,seval,q,stepPN,ptT];(repeat first | refine gcI ?_ | intro (_:_≤_));exact hK)
  refine oPr ?_
  refine hK6 _ ?_
  refine cndF ?_
  refine Sm.skip ?_
  refine hK5 _ ?_
  refine sX fun K12 hK12=>?_
  obtain ⟨hg13,H⟩:=gd_some H
  refine oX ?_
  refine oY ?_
  refine oX ?_
  refine hK12 _ ?_
  refine Sm.cut (fun (x:(List Int)×(List Int)×(List Int)×(List Int)×(List Int))=>law33_Case__filled_M1_s1 x.1 x.2.1 x.2.2.1 x.2.2.2.1 x.2.2.2.2) (fun x=>law33_Case__filled_M1_k1 n x.1 x.2.1 x.2.2.1 x.2.2.2.1 x.2.2.2.2=some r) ?_ ?_
  · refine rA ?_
    refine Sm.block ?_
    obtain ⟨y18,hy18,Ho18⟩:=bind_some H
    refine Sm.loopB _ (fun x=>law33_Case__filled_M1_t2 r1 r2.1 r2.2.1 r3.1 r3.2 x.1 x.2) hy18 (wb [some 224,some 225,some 226,some 288,some 289,some 290,some 416]) ?_
    rintro ⟨b_1,i⟩ z18 H
    try dsimp only at H
    unfold law33_Case__filled_M1_b2 at H
    refine Sm.st (law33_Case__filled_M1_t2.eq_1 ..) ?_
    refine Sm.seqK fun K19 hK19=>?_
    refine rA ?_
    refine cnd H (fun h21 H=>?_) (fun h21 H=>?_)
    · refine Sm.skip ?_
      refine hK19 _ ?_
      refine Sm.seqK fun K22 hK22=>?_
      refine Sm.block ?_
      obtain ⟨⟨hg23,hg24⟩,H⟩:=gd_some H
      refine eA ?_
      refine hK22 _ ?_
      refine eA ?_
      refine lf ?_
      exact nx H (wb [some 9014,some 9015,some 9016,some 9017,some 9018,some 9019,some 9020])
    refine Sm.exit ?_
    refine lf ?_
    refine lx H fun hyy=>?_
    subst hyy
    have H:=Ho18
    try dsimp only at H
    refine lf ?_
    exact ⟨(r2.1,r2.2.1,r3.1,r3.2,b_1),H,wb [some 9014,some 9015,some 9016,some 9017,some 9018,some 9019,some 9020]⟩
  rintro ⟨s,s_1,x_,x__1,b⟩ H
  try dsimp only at H
  unfold law33_Case__filled_M1_k1 at H
  refine Sm.st (law33_Case__filled_M1_s1.eq_1 ..) ?_
  refine sX fun K14 hK14=>?_
  obtain ⟨r4,hr4,H⟩:=bind_some H
  have q:=hr4
  iterate 2 refine oX ?_
  refine oMq (cstore_Store__Put_M1 n _ _ _ _ _ r4 hr4) [9000,9001,9002] [] ?_
  refine hK14 _ ?_
  refine sX fun K15 hK15=>?_
  obtain ⟨r5,hr5,H⟩:=bind_some H
  have q:=hr5
  iterate 2 refine oX ?_
  refine oMq (cref07_Store__Put_M1 n _ _ _ _ _ r5 hr5) [9003,9004,9005] [] ?_
  refine hK15 _ ?_
  refine rA ?_
  refine Sm.ret ?_
  refine lf ?_
  obtain rfl:=Option.some.inj H
  exact rtM [some 9000,some 9001,some 9002,some 9003,some 9004,some 9005]
def store_Store__Size_M1 (n:Nat) (s:List Int) (s_:List Int):Option Int :=
  some ((s.length:Nat):Int)
theorem cstore_Store__Size_M1 (n:Nat) (s:List Int) (s_:List Int) (r:Int) (H:store_Store__Size_M1 n s s_=some r):CallsM Try.prog 32 [.ref (.box 0 0)] [.box [.own 1 [.int .u8] 0 s.length,.own 2 [.int .i64] 0 s_.length],.row 5 (List.map e_Int s),.row 3 (List.map e_Int s_)] [.c (.int .i64) (.int r)] [.box [.own 1 [.int .u8] 0 s.length,.own 2 [.int .i64] 0 s_.length],.row 5 (List.map e_Int s),.row 3 (List.map e_Int s_)]:=by
  have hΓ:=@g0 (Contract Try.prog)
  refine callsM_of (Try.f32.body.getD .skip) h00 Try.func32 rfl Try.call32 (Nat.le_of_ble_eq_true rfl) (Nat.le_of_ble_eq_true rfl) ?_
  unfold store_Store__Size_M1 at H
  simp only [Try.f32,Option.getD]
  refine rA ?_
  refine Sm.seqK fun K2 hK2=>?_
  refine sX fun K3 hK3=>?_
  refine oX ?_
  refine oE stepPN_ok ?_ (hs:=by intro K hK;simp only [z,seval,stepPN,ptT];(repeat first | refine gcI ?_ | intro (_:_≤_));exact hK)
  refine hK3 _ ?_
  refine cndF ?_
  refine Sm.skip ?_
  refine hK2 _ ?_
  refine sX fun K5 hK5=>?_
  refine oX ?_
  refine oE stepZ_ok ?_
  iterate 4 refine oX ?_
  refine hK5 _ ?_
  refine Sm.ret ?_
  refine lf ?_
  obtain rfl:=Option.some.inj H
  exact rtM [some 0,some 1,some 2]
abbrev module_validSegments_s1 (m:TLoad) (from_:Int):S:=stB [(1,.box 9000 0),(3,.c (.int .i64) (.int from_))] [(9000,.box [.c (.slice 5) (.slice (List.map e_Int m.Text)),.c (.slice 58) (.slice (List.map e_TReloc m.Relocs)),.c (.slice 52) (.slice (List.map e_TSegment m.Segments)),.c (.int .i64) (.int m.Entry)])]
def module_validSegments_k1 (n:Nat) (m:TLoad) (from_:Int):Option Bool :=
  some (if (if (decide ((m.Segments.length:Int) ≥ 1))=true then (decide ((m.Segments.length:Int)≤64)) else false)=true then (from_ == (m.Text.length:Int)) else false)
abbrev module_validSegments_s3 (m:TLoad) (from__2:Int) (v8:Int) (v9:Int):S:=stB [(1,.box 9003 0),(3,.c (.int .i64) (.int from__2)),(7,.c (.slice 52) (.slice (List.map e_TSegment m.Segments))),(8,.c (.int .i64) (.int v8)),(9,.c (.int .i64) (.int v9))] [(9003,.box [.c (.slice 5) (.slice (List.map e_Int m.Text)),.c (.slice 58) (.slice (List.map e_TReloc m.Relocs)),.c (.slice 52) (.slice (List.map e_TSegment m.Segments)),.c (.int .i64) (.int m.Entry)])]
def module_validSegments_k3 (n:Nat) (m:TLoad) (from__2:Int) (v8:Int) (v9:Int):Option ((Int×Int) ⊕ (((Bool) ⊕ (Int)))) :=
  some (.inl (from__2,(IntKind.wrap .i64 (v9+1))))
abbrev module_validSegments_s4 (m:TLoad) (from__1:Int) (s:Int) (s_1:Int) (s_2:Int) (s_3:Int) (v8:Int) (v9:Int):S:=stB [(1,.box 9004 0),(3,.c (.int .i64) (.int from__1)),(5,.box 9005 0),(7,.c (.slice 52) (.slice (List.map e_TSegment m.Segments))),(8,.c (.int .i64) (.int v8)),(9,.c (.int .i64) (.int v9))] [(9004,.box [.c (.slice 5) (.slice (List.map e_Int m.Text)),.c (.slice 58) (.slice (List.map e_TReloc m.Relocs)),.c (.slice 52) (.slice (List.map e_TSegment m.Segments)),.c (.int .i64) (.int m.Entry)]),(9005,.box [.c (.int .i64) (.int s),.c (.int .i64) (.int s_1),.c (.int .i64) (.int s_2),.c (.int .i64) (.int s_3)])]
def module_validSegments_k4 (n:Nat) (m:TLoad) (from__1:Int) (s:Int) (s_1:Int) (s_2:Int) (s_3:Int) (v8:Int) (v9:Int):Option ((Int×Int) ⊕ (((Bool) ⊕ (Int)))) :=
  module_validSegments_k3 n m (IntKind.wrap .i64 (from__1+s_3)) v8 v9
abbrev module_validSegments_t2 (m:TLoad) (v8:Int) (from__1:Int) (v9:Int):S:=stB [(1,.box 9002 0),(3,.c (.int .i64) (.int from__1)),(7,.c (.slice 52) (.slice (List.map e_TSegment m.Segments))),(8,.c (.int .i64) (.int v8)),(9,.c (.int .i64) (.int v9))] [(9002,.box [.c (.slice 5) (.slice (List.map e_Int m.Text)),.c (.slice 58) (.slice (List.map e_TReloc m.Relocs)),.c (.slice 52) (.slice (List.map e_TSegment m.Segments)),.c (.int .i64) (.int m.Entry)])]
def module_validSegments_b2 (n:Nat) (m:TLoad) (v8:Int) (from__1:Int) (v9:Int):Option ((Int×Int) ⊕ (((Bool) ⊕ (Int)))) :=
  bif (decide (v9 < v8)) then
    gd ((0≤v9∧v9 < (m.Segments.length:Int))) <|
    bif (if (if (if (if (decide (((gt m.Segments (Int.toNat v9)).Len) < 0))=true then true else (decide (((gt m.Segments (Int.toNat v9)).Origin) < 0)))=true then true else (decide (((gt m.Segments (Int.toNat v9)).Origin) > 65536)))=true then true else (decide (((gt m.Segments (Int.toNat v9)).Len) > (IntKind.wrap .i64 (65536 - ((gt m.Segments (Int.toNat v9)).Origin))))))=true then true else (((gt m.Segments (Int.toNat v9)).From) != from__1)) then
      some (.inr (.inl false))
    else
      bif (v9 == 0) then
        bif (if (if (((gt m.Segments (Int.toNat v9)).Parent) != (-1))=true then true else (((gt m.Segments (Int.toNat v9)).Origin) != 0))=true then true else (decide (((gt m.Segments (Int.toNat v9)).Len) < 1))) then
          some (.inr (.inl false))
        else
          module_validSegments_k4 n m from__1 ((gt m.Segments (Int.toNat v9)).Parent) ((gt m.Segments (Int.toNat v9)).Origin) ((gt m.Segments (Int.toNat v9)).From) ((gt m.Segments (Int.toNat v9)).Len) v8 v9
      else
        gd (((!(if (decide (((gt m.Segments (Int.toNat v9)).Parent) < 0))=true then true else (decide (((gt m.Segments (Int.toNat v9)).Parent) ≥ v9))))=true→(0≤((gt m.Segments (Int.toNat v9)).Parent)∧((gt m.Segments (Int.toNat v9)).Parent) < (m.Segments.length:Int)))∧((!(if (decide (((gt m.Segments (Int.toNat v9)).Parent) < 0))=true then true else (decide (((gt m.Segments (Int.toNat v9)).Parent) ≥ v9))))=true→(0≤((gt m.Segments (Int.toNat v9)).Parent)∧((gt m.Segments (Int.toNat v9)).Parent) < (m.Segments.length:Int)))) <|
        bif (if (if (decide (((gt m.Segments (Int.toNat v9)).Parent) < 0))=true then true else (decide (((gt m.Segments (Int.toNat v9)).Parent) ≥ v9)))=true then true else (decide (((gt m.Segments (Int.toNat v9)).Origin) < (IntKind.wrap .i64 (((gt m.Segments (Int.toNat ((gt m.Segments (Int.toNat v9)).Parent))).Origin)+((gt m.Segments (Int.toNat ((gt m.Segments (Int.toNat v9)).Parent))).Len)))))) then
          some (.inr (.inl false))
        else
          module_validSegments_k4 n m from__1 ((gt m.Segments (Int.toNat v9)).Parent) ((gt m.Segments (Int.toNat v9)).Origin) ((gt m.Segments (Int.toNat v9)).From) ((gt m.Segments (Int.toNat v9)).Len) v8 v9
  else
    some (.inr (.inr from__1))
def module_validSegments (n:Nat) (m:TLoad):Option Bool :=
  (loopF (fun (x:Int×Int)=>module_validSegments_b2 n m (m.Segments.length:Int) x.1 x.2) n (0,0)).bind fun y5 =>
  match y5 with
  | .inl vv =>
    some vv
  | .inr vv =>
    module_validSegments_k1 n m vv
def xmodule_validSegments (n:Nat):Go.AE.Fn:=mkFn (A:=TLoad) (R:=Bool) 53 [(true,[.slice 5,.slice 58,.slice 52,.int .i64])] false (fun xs=>(⟨((cg (xs.getD 0 []) 0).toSl.map d_Int),((cg (xs.getD 0 []) 1).toSl.map d_TReloc),((cg (xs.getD 0 []) 2).toSl.map d_TSegment),(cg (xs.getD 0 []) 3).toInt⟩:TLoad)) (fun a=>[[.slice (List.map e_Int a.Text),.slice (List.map e_TReloc a.Relocs),.slice (List.map e_TSegment a.Segments),.int a.Entry]]) (fun a=>module_validSegments n a) (fun r=>[.c .bool (.bool r)]) (fun r=>[])
theorem cmodule_validSegments (n:Nat):Contract Try.prog (xmodule_validSegments n):=by
  have hΓ:=@g0 (Contract Try.prog)
  refine contract_f (Try.f53.body.getD .skip) h00 Try.func53 rfl Try.call53 (by decide) (by intro _ r;exact ⟨rfl,by simp⟩) ?_
  rintro m r H
  try dsimp only at H
  unfold module_validSegments at H
  simp only [Try.f53,Option.getD]
  refine rA ?_
  refine rA ?_
  refine Sm.cut (fun (x:Int)=>module_validSegments_s1 m x) (fun x=>module_validSegments_k1 n m x=some r) ?_ ?_
  · refine rA ?_
    refine Sm.block ?_
    obtain ⟨y5,hy5,Ho5⟩:=bind_some H
    refine Sm.loopB _ (fun x=>module_validSegments_t2 m (m.Segments.length:Int) x.1 x.2) hy5 (wb [some 16]) ?_
    rintro ⟨from__1,v9⟩ z5 H
    try dsimp only at H
    unfold module_validSegments_b2 at H
    refine Sm.st (module_validSegments_t2.eq_1 ..) ?_
    refine rA ?_
    refine Sm.seqK fun K7 hK7=>?_
    refine cnd H (fun h8 H=>?_) (fun h8 H=>?_)
    · refine Sm.skip ?_
      refine hK7 _ ?_
      refine Sm.cut (fun (x:Int)=>module_validSegments_s3 m x (m.Segments.length:Int) v9) (fun x=>module_validSegments_k3 n m x (m.Segments.length:Int) v9=some z5) ?_ ?_
      · refine Sm.block ?_
        obtain ⟨hg24,H⟩:=gd_some H
        refine rA ?_
        refine Sm.seqK fun K10 hK10=>?_
        refine rA ?_
        refine cnd H (fun h12 H=>?_) (fun h12 H=>?_)
        · refine rA ?_
          refine Sm.ret ?_
          refine lf ?_
          refine lx H fun hyy=>?_
          subst hyy
          have H:=Ho5
          try dsimp only at H
          refine lf ?_
          obtain rfl:=Option.some.inj H
          exact rt []
        refine Sm.skip ?_
        refine hK10 _ ?_
        refine Sm.cut (fun (x:Unit)=>module_validSegments_s4 m from__1 ((gt m.Segments (Int.toNat v9)).Parent) ((gt m.Segments (Int.toNat v9)).Origin) ((gt m.Segments (Int.toNat v9)).From) ((gt m.Segments (Int.toNat v9)).Len) (m.Segments.length:Int) v9) (fun x=>module_validSegments_k4 n m from__1 ((gt m.Segments (Int.toNat v9)).Parent) ((gt m.Segments (Int.toNat v9)).Origin) ((gt m.Segments (Int.toNat v9)).From) ((gt m.Segments (Int.toNat v9)).Len) (m.Segments.length:Int) v9=some z5) ?_ ?_
        · refine rA ?_
          refine cnd H (fun h15 H=>?_) (fun h15 H=>?_)
          · refine rA ?_
            refine cnd H (fun h17 H=>?_) (fun h17 H=>?_)
            · refine rA ?_
              refine Sm.ret ?_
              refine lf ?_
              refine lx H fun hyy=>?_
              subst hyy
              have H:=Ho5
              try dsimp only at H
              refine lf ?_
              obtain rfl:=Option.some.inj H
              exact rt []
            refine Sm.skip ?_
            refine lf ?_
            exact ⟨(),H,wb [some 9002,some 80]⟩
          obtain ⟨⟨hg22,hg23⟩,H⟩:=gd_some H
          refine rD ?_
          refine cnd H (fun h20 H=>?_) (fun h20 H=>?_)
          · refine rA ?_
            refine Sm.ret ?_
            refine lf ?_
            refine lx H fun hyy=>?_
            subst hyy
            have H:=Ho5
            try dsimp only at H
            refine lf ?_
            obtain rfl:=Option.some.inj H
            exact rt []
          refine Sm.skip ?_
          refine lf ?_
          exact ⟨(),H,wb [some 9002,some 80]⟩
        rintro ⟨⟩ H
        try dsimp only at H
        unfold module_validSegments_k4 at H
        refine Sm.st (module_validSegments_s4.eq_1 ..) ?_
        refine eA ?_
        refine lf ?_
        exact ⟨_,H,wb [some 9004]⟩
      rintro from__2 H
      try dsimp only at H
      unfold module_validSegments_k3 at H
      refine Sm.st (module_validSegments_s3.eq_1 ..) ?_
      refine eA ?_
      refine lf ?_
      exact nx H (wb [some 9003])
    refine Sm.exit ?_
    refine lf ?_
    refine lx H fun hyy=>?_
    subst hyy
    have H:=Ho5
    try dsimp only at H
    refine lf ?_
    exact ⟨_,H,wb [some 9002]⟩
  rintro from_ H
  try dsimp only at H
  unfold module_validSegments_k1 at H
  refine Sm.st (module_validSegments_s1.eq_1 ..) ?_
  refine rA ?_
  refine Sm.ret ?_
  refine lf ?_
  obtain rfl:=Option.some.inj H
  exact rt []
def module_CheckLoad_1_M1 (n:Nat) (s:TSegment) (p1:Int) (p1_:Int) (p1__:Bool):Option Bool :=
  some (if (decide (p1 ≥ s.From))=true then (decide ((IntKind.wrap .i64 (p1+p1_))≤(IntKind.wrap .i64 (s.From+s.Len)))) else false)
theorem cmodule_CheckLoad_1_M1 (n:Nat) (s:TSegment) (p1:Int) (p1_:Int) (p1__:Bool) (r:Bool) (H:module_CheckLoad_1_M1 n s p1 p1_ p1__=some r):CallsM Try.prog 55 [.dat (true,[.int .i64,.int .i64,.int .i64,.int .i64]) [.int s.Parent,.int s.Origin,.int s.From,.int s.Len],.ref (.box 0 0)] [.box [.c (.int .i64) (.int p1),.c (.int .i64) (.int p1_),.c .bool (.bool p1__)]] [.c .bool (.bool r)] [.box [.c (.int .i64) (.int p1),.c (.int .i64) (.int p1_),.c .bool (.bool p1__)]]:=by
  have hΓ:=@g0 (Contract Try.prog)
  refine callsM_of (Try.f55.body.getD .skip) h00 Try.func55 rfl Try.call55 (Nat.le_of_ble_eq_true rfl) (Nat.le_of_ble_eq_true rfl) ?_
  unfold module_CheckLoad_1_M1 at H
  simp only [Try.f55,Option.getD]
  refine rA ?_
  refine rA ?_
  refine Sm.ret ?_
  refine lf ?_
  obtain rfl:=Option.some.inj H
  exact rtM [some 0]
abbrev slices_IndexFunc_f68_M1_s1 (f:Int) (f_:Int) (f__:Bool):S:=stB [] [(0,.box [.c (.int .i64) (.int f),.c (.int .i64) (.int f_),.c .bool (.bool f__)])]
def slices_IndexFunc_f68_M1_k1 (n:Nat) (f:Int) (f_:Int) (f__:Bool):Option Int :=
  some (-1)
abbrev slices_IndexFunc_f68_M1_t2 (f:Int) (f_:Int) (f__:Bool) (s:List TSegment) (v7:Int) (v8:Int):S:=stB [(0,.c (.slice 52) (.slice (List.map e_TSegment s))),(1,.fnv 55 [.box 0 0]),(7,.c (.int .i64) (.int v7)),(8,.c (.int .i64) (.int v8))] [(0,.box [.c (.int .i64) (.int f),.c (.int .i64) (.int f_),.c .bool (.bool f__)])]
def slices_IndexFunc_f68_M1_b2 (n:Nat) (f:Int) (f_:Int) (f__:Bool) (s:List TSegment) (v7:Int) (v8:Int):Option ((Int) ⊕ (((Int) ⊕ (Unit)))) :=
  bif (decide (v8 < v7)) then
    gd ((0≤v8∧v8 < (s.length:Int))) <|
    (module_CheckLoad_1_M1 n (gt s (Int.toNat v8)) f f_ f__).bind fun r1 =>
    bif r1 then
      some (.inr (.inl v8))
    else
      some (.inl (IntKind.wrap .i64 (v8+1)))
  else
    some (.inr (.inr ()))
def slices_IndexFunc_f68_M1 (n:Nat) (s:List TSegment) (f:Int) (f_:Int) (f__:Bool):Option Int :=
  (loopF (fun (x:Int)=>slices_IndexFunc_f68_M1_b2 n f f_ f__ s (s.length:Int) x) n 0).bind fun y4 =>
  match y4 with
  | .inl vv =>
    some vv
  | .inr vv =>
    slices_IndexFunc_f68_M1_k1 n f f_ f__
theorem cslices_IndexFunc_f68_M1 (n:Nat) (s:List TSegment) (f:Int) (f_:Int) (f__:Bool) (r:Int) (H:slices_IndexFunc_f68_M1 n s f f_ f__=some r):CallsM Try.prog 68 [.dat (false,[.slice 52]) [.slice (List.map e_TSegment s)],.ref (.fnv 55 [.box 0 0])] [.box [.c (.int .i64) (.int f),.c (.int .i64) (.int f_),.c .bool (.bool f__)]] [.c (.int .i64) (.int r)] [.box [.c (.int .i64) (.int f),.c (.int .i64) (.int f_),.c .bool (.bool f__)]]:=by
  have hΓ:=@g0 (Contract Try.prog)
  refine callsM_of (Try.f68.body.getD .skip) h00 Try.func68 rfl Try.call68 (Nat.le_of_ble_eq_true rfl) (Nat.le_of_ble_eq_true rfl) ?_
  unfold slices_IndexFunc_f68_M1 at H
  simp only [Try.f68,Option.getD]
  refine rA ?_
  refine Sm.cut (fun (x:Unit)=>slices_IndexFunc_f68_M1_s1 f f_ f__) (fun x=>slices_IndexFunc_f68_M1_k1 n f f_ f__=some r) ?_ ?_
  · refine rA ?_
    refine Sm.block ?_
    obtain ⟨y4,hy4,Ho4⟩:=bind_some H
    refine Sm.loopB _ (fun x=>slices_IndexFunc_f68_M1_t2 f f_ f__ s (s.length:Int) x) hy4 (wb [some 0]) ?_
    rintro v8 z4 H
    try dsimp only at H
    unfold slices_IndexFunc_f68_M1_b2 at H
    refine Sm.st (slices_IndexFunc_f68_M1_t2.eq_1 ..) ?_
    refine rA ?_
    refine Sm.seqK fun K6 hK6=>?_
    refine cnd H (fun h7 H=>?_) (fun h7 H=>?_)
    · refine Sm.skip ?_
      refine hK6 _ ?_
      refine Sm.seqK fun K8 hK8=>?_
      refine Sm.block ?_
      refine rA ?_
      refine sX fun K10 hK10=>?_
      obtain ⟨hg11,H⟩:=gd_some H
      obtain ⟨r1,hr1,H⟩:=bind_some H
      have q:=hr1
      iterate 5 refine oX ?_
      refine oMq (cmodule_CheckLoad_1_M1 n _ _ _ _ r1 hr1) [0] [] ?_
      refine hK10 _ ?_
      refine cnd H (fun h12 H=>?_) (fun h12 H=>?_)
      · refine rA ?_
        refine Sm.ret ?_
        refine lf ?_
        refine lx H fun hyy=>?_
        subst hyy
        have H:=Ho4
        try dsimp only at H
        refine lf ?_
        obtain rfl:=Option.some.inj H
        exact rtM [some 0]
      refine Sm.skip ?_
      refine hK8 _ ?_
      refine eA ?_
      refine lf ?_
      exact nx H (wb [some 0])
    refine Sm.exit ?_
    refine lf ?_
    refine lx H fun hyy=>?_
    subst hyy
    have H:=Ho4
    try dsimp only at H
    refine lf ?_
    exact ⟨(),H,wb [some 0]⟩
  rintro ⟨⟩ H
  try dsimp only at H
  unfold slices_IndexFunc_f68_M1_k1 at H
  refine Sm.st (slices_IndexFunc_f68_M1_s1.eq_1 ..) ?_
  refine rA ?_
  refine Sm.ret ?_
  refine lf ?_
  obtain rfl:=Option.some.inj H
  exact rtM [some 0]
def slices_ContainsFunc_f54_M1 (n:Nat) (s:List TSegment) (f:Int) (f_:Int) (f__:Bool):Option Bool :=
  (slices_IndexFunc_f68_M1 n s f f_ f__).bind fun r1 =>
  some (decide (r1 ≥ 0))
theorem cslices_ContainsFunc_f54_M1 (n:Nat) (s:List TSegment) (f:Int) (f_:Int) (f__:Bool) (r:Bool) (H:slices_ContainsFunc_f54_M1 n s f f_ f__=some r):CallsM Try.prog 54 [.dat (false,[.slice 52]) [.slice (List.map e_TSegment s)],.ref (.fnv 55 [.box 0 0])] [.box [.c (.int .i64) (.int f),.c (.int .i64) (.int f_),.c .bool (.bool f__)]] [.c .bool (.bool r)] [.box [.c (.int .i64) (.int f),.c (.int .i64) (.int f_),.c .bool (.bool f__)]]:=by
  have hΓ:=@g0 (Contract Try.prog)
  refine callsM_of (Try.f54.body.getD .skip) h00 Try.func54 rfl Try.call54 (Nat.le_of_ble_eq_true rfl) (Nat.le_of_ble_eq_true rfl) ?_
  unfold slices_ContainsFunc_f54_M1 at H
  simp only [Try.f54,Option.getD]
  refine rA ?_
  refine sX fun K2 hK2=>?_
  obtain ⟨r1,hr1,H⟩:=bind_some H
  have q:=hr1
  iterate 2 refine oX ?_
  refine oMq (cslices_IndexFunc_f68_M1 n _ _ _ _ r1 hr1) [0] [] ?_
  iterate 2 refine oXq ?_
  refine hK2 _ ?_
  refine Sm.ret ?_
  refine lf ?_
  obtain rfl:=Option.some.inj H
  exact rtM [some 0]
abbrev module_CheckLoad_s1:S:=stB [] []
def module_CheckLoad_k1 (n:Nat):Option Int :=
  some 0
abbrev module_CheckLoad_t2 (m:TLoad) (v32:Int) (free:Int) (v33:Int):S:=stB [(1,.box 9001 0),(3,.c (.int .i64) (.int free)),(31,.c (.slice 58) (.slice (List.map e_TReloc m.Relocs))),(32,.c (.int .i64) (.int v32)),(33,.c (.int .i64) (.int v33))] [(9001,.box [.c (.slice 5) (.slice (List.map e_Int m.Text)),.c (.slice 58) (.slice (List.map e_TReloc m.Relocs)),.c (.slice 52) (.slice (List.map e_TSegment m.Segments)),.c (.int .i64) (.int m.Entry)])]
def module_CheckLoad_b2 (n:Nat) (m:TLoad) (v32:Int) (free:Int) (v33:Int):Option ((Int×Int) ⊕ (((Int) ⊕ (Unit)))) :=
  bif (decide (v33 < v32)) then
    gd ((0≤v33∧v33 < (m.Relocs.length:Int))) <|
    bif (if (if (if (decide (((gt m.Relocs (Int.toNat v33)).At) < free))=true then true else (decide (((gt m.Relocs (Int.toNat v33)).At) > (m.Text.length:Int))))=true then true else (decide (((gt m.Relocs (Int.toNat v33)).Len) < 1)))=true then true else (decide (((gt m.Relocs (Int.toNat v33)).Len) > 4))) then
      some (.inr (.inl 310))
    else
      (slices_ContainsFunc_f54_M1 n m.Segments ((gt m.Relocs (Int.toNat v33)).At) ((gt m.Relocs (Int.toNat v33)).Len) ((gt m.Relocs (Int.toNat v33)).Neg)).bind fun r2 =>
      bif (!r2) then
        some (.inr (.inl 310))
      else
        some (.inl ((IntKind.wrap .i64 (((gt m.Relocs (Int.toNat v33)).At)+((gt m.Relocs (Int.toNat v33)).Len))),(IntKind.wrap .i64 (v33+1))))
  else
    some (.inr (.inr ()))
def module_CheckLoad (n:Nat) (m:TLoad):Option Int :=
  (module_validSegments n m).bind fun r1 =>
  gd (((!(if (if (!r1)=true then true else (decide ((m.Relocs.length:Int) > 8192)))=true then true else (decide (m.Entry < 0))))=true→0 < (m.Segments.length:Int))) <|
  bif (if (if (if (!r1)=true then true else (decide ((m.Relocs.length:Int) > 8192)))=true then true else (decide (m.Entry < 0)))=true then true else (decide (m.Entry ≥ ((gt m.Segments 0).Len)))) then
    some 310
  else
    (loopF (fun (x:Int×Int)=>module_CheckLoad_b2 n m (m.Relocs.length:Int) x.1 x.2) n (0,0)).bind fun y9 =>
    match y9 with
    | .inl vv =>
      some vv
    | .inr vv =>
      module_CheckLoad_k1 n
def xmodule_CheckLoad (n:Nat):Go.AE.Fn:=mkFn (A:=TLoad) (R:=Int) 25 [(true,[.slice 5,.slice 58,.slice 52,.int .i64])] false (fun xs=>(⟨((cg (xs.getD 0 []) 0).toSl.map d_Int),((cg (xs.getD 0 []) 1).toSl.map d_TReloc),((cg (xs.getD 0 []) 2).toSl.map d_TSegment),(cg (xs.getD 0 []) 3).toInt⟩:TLoad)) (fun a=>[[.slice (List.map e_Int a.Text),.slice (List.map e_TReloc a.Relocs),.slice (List.map e_TSegment a.Segments),.int a.Entry]]) (fun a=>module_CheckLoad n a) (fun r=>[.c (.int .i64) (.int r)]) (fun r=>[])
theorem cmodule_CheckLoad (n:Nat):Contract Try.prog (xmodule_CheckLoad n):=by
  have hΓ:=g1 (cmodule_validSegments n) (@g0 (Contract Try.prog))
  refine contract_f (Try.f25.body.getD .skip) h00 Try.func25 rfl Try.call25 (by decide) (by intro _ r;exact ⟨rfl,by simp⟩) ?_
  rintro m r H
  try dsimp only at H
  unfold module_CheckLoad at H
  simp only [Try.f25,Option.getD]
  refine rA ?_
  refine Sm.seqK fun K2 hK2=>?_
  obtain ⟨r1,hr1,H⟩:=bind_some H
  obtain ⟨hg24,H⟩:=gd_some H
  have q:=And.intro @xmodule_validSegments.eq_1 hr1
  refine rDq ?_
  refine cnd H (fun h4 H=>?_) (fun h4 H=>?_)
  · refine rA ?_
    refine Sm.ret ?_
    refine lf ?_
    obtain rfl:=Option.some.inj H
    exact rt []
  refine Sm.skip ?_
  refine hK2 _ ?_
  refine rA ?_
  refine Sm.cut (fun (x:Unit)=>module_CheckLoad_s1) (fun x=>module_CheckLoad_k1 n=some r) ?_ ?_
  · refine rA ?_
    refine Sm.block ?_
    obtain ⟨y9,hy9,Ho9⟩:=bind_some H
    refine Sm.loopB _ (fun x=>module_CheckLoad_t2 m (m.Relocs.length:Int) x.1 x.2) hy9 (wb [some 16]) ?_
    rintro ⟨free,v33⟩ z9 H
    try dsimp only at H
    unfold module_CheckLoad_b2 at H
    refine Sm.st (module_CheckLoad_t2.eq_1 ..) ?_
    refine rA ?_
    refine Sm.seqK fun K11 hK11=>?_
    refine cnd H (fun h12 H=>?_) (fun h12 H=>?_)
    · refine Sm.skip ?_
      refine hK11 _ ?_
      refine Sm.seqK fun K13 hK13=>?_
      refine Sm.block ?_
      obtain ⟨hg23,H⟩:=gd_some H
      refine rA ?_
      refine Sm.seqK fun K15 hK15=>?_
      refine rA ?_
      refine cnd H (fun h17 H=>?_) (fun h17 H=>?_)
      · refine rA ?_
        refine Sm.ret ?_
        refine lf ?_
        refine lx H fun hyy=>?_
        subst hyy
        have H:=Ho9
        try dsimp only at H
        refine lf ?_
        obtain rfl:=Option.some.inj H
        exact rt []
      refine Sm.skip ?_
      refine hK15 _ ?_
      refine Sm.seqK fun K19 hK19=>?_
      refine sX fun K20 hK20=>?_
      obtain ⟨r2,hr2,H⟩:=bind_some H
      have q:=hr2
      iterate 2 refine oX ?_
      refine oY ?_
      refine oMq (cslices_ContainsFunc_f54_M1 n _ _ _ _ r2 hr2) [80] [] ?_
      refine oXq ?_
      refine hK20 _ ?_
      refine cnd H (fun h21 H=>?_) (fun h21 H=>?_)
      · refine rA ?_
        refine Sm.ret ?_
        refine lf ?_
        refine lx H fun hyy=>?_
        subst hyy
        have H:=Ho9
        try dsimp only at H
        refine lf ?_
        obtain rfl:=Option.some.inj H
        exact rt []
      refine Sm.skip ?_
      refine hK19 _ ?_
      refine eA ?_
      refine hK13 _ ?_
      refine eA ?_
      refine lf ?_
      exact nx H (wb [some 9001])
    refine Sm.exit ?_
    refine lf ?_
    refine lx H fun hyy=>?_
    subst hyy
    have H:=Ho9
    try dsimp only at H
    refine lf ?_
    exact ⟨(),H,wb []⟩
  rintro ⟨⟩ H
  try dsimp only at H
  unfold module_CheckLoad_k1 at H
  refine Sm.st (module_CheckLoad_s1.eq_1 ..) ?_
  refine rA ?_
  refine Sm.ret ?_
  refine lf ?_
  obtain rfl:=Option.some.inj H
  exact rt []
abbrev fetch_Size_s1 (n_:Int):S:=stB [(3,.c (.int .i64) (.int n_))] []
def fetch_Size_k1 (n:Nat) (n_:Int):Option Int :=
  some n_
abbrev fetch_Size_t2 (m:TLoad) (v11:Int) (n__1:Int) (v12:Int):S:=stB [(3,.c (.int .i64) (.int n__1)),(10,.c (.slice 52) (.slice (List.map e_TSegment m.Segments))),(11,.c (.int .i64) (.int v11)),(12,.c (.int .i64) (.int v12))] []
def fetch_Size_b2 (n:Nat) (m:TLoad) (v11:Int) (n__1:Int) (v12:Int):Option ((Int×Int) ⊕ ((Int))) :=
  bif (decide (v12 < v11)) then
    gd ((0≤v12∧v12 < (m.Segments.length:Int))) <|
    some (.inl ((if (IntKind.wrap .i64 (((gt m.Segments (Int.toNat v12)).Origin)+((gt m.Segments (Int.toNat v12)).Len))) > n__1 then (IntKind.wrap .i64 (((gt m.Segments (Int.toNat v12)).Origin)+((gt m.Segments (Int.toNat v12)).Len))) else n__1),(IntKind.wrap .i64 (v12+1))))
  else
    some (.inr n__1)
def fetch_Size (n:Nat) (m:TLoad):Option Int :=
  (module_CheckLoad n m).bind fun r1 =>
  bif (r1 != 0) then
    some 0
  else
    (loopF (fun (x:Int×Int)=>fetch_Size_b2 n m (m.Segments.length:Int) x.1 x.2) n (0,0)).bind fun y9 =>
    fetch_Size_k1 n y9
def xfetch_Size (n:Nat):Go.AE.Fn:=mkFn (A:=TLoad) (R:=Int) 8 [(true,[.slice 5,.slice 58,.slice 52,.int .i64])] false (fun xs=>(⟨((cg (xs.getD 0 []) 0).toSl.map d_Int),((cg (xs.getD 0 []) 1).toSl.map d_TReloc),((cg (xs.getD 0 []) 2).toSl.map d_TSegment),(cg (xs.getD 0 []) 3).toInt⟩:TLoad)) (fun a=>[[.slice (List.map e_Int a.Text),.slice (List.map e_TReloc a.Relocs),.slice (List.map e_TSegment a.Segments),.int a.Entry]]) (fun a=>fetch_Size n a) (fun r=>[.c (.int .i64) (.int r)]) (fun r=>[])
theorem cfetch_Size (n:Nat):Contract Try.prog (xfetch_Size n):=by
  have hΓ:=g1 (cmodule_CheckLoad n) (@g0 (Contract Try.prog))
  refine contract_f (Try.f8.body.getD .skip) h00 Try.func8 rfl Try.call8 (by decide) (by intro _ r;exact ⟨rfl,by simp⟩) ?_
  rintro m r H
  try dsimp only at H
  unfold fetch_Size at H
  simp only [Try.f8,Option.getD]
  refine rA ?_
  refine Sm.seqK fun K2 hK2=>?_
  obtain ⟨r1,hr1,H⟩:=bind_some H
  have q:=And.intro @xmodule_CheckLoad.eq_1 hr1
  refine rAq ?_
  refine cnd H (fun h4 H=>?_) (fun h4 H=>?_)
  · refine rA ?_
    refine Sm.ret ?_
    refine lf ?_
    obtain rfl:=Option.some.inj H
    exact rt []
  refine Sm.skip ?_
  refine hK2 _ ?_
  refine rA ?_
  refine Sm.cut (fun (x:Int)=>fetch_Size_s1 x) (fun x=>fetch_Size_k1 n x=some r) ?_ ?_
  · refine rA ?_
    refine Sm.block ?_
    obtain ⟨y9,hy9,Ho9⟩:=bind_some H
    refine Sm.loopB _ (fun x=>fetch_Size_t2 m (m.Segments.length:Int) x.1 x.2) hy9 (wb []) ?_
    rintro ⟨n__1,v12⟩ z9 H
    try dsimp only at H
    unfold fetch_Size_b2 at H
    refine Sm.st (fetch_Size_t2.eq_1 ..) ?_
    refine rA ?_
    refine Sm.seqK fun K11 hK11=>?_
    refine cnd H (fun h12 H=>?_) (fun h12 H=>?_)
    · refine Sm.skip ?_
      refine hK11 _ ?_
      refine Sm.seqK fun K13 hK13=>?_
      refine Sm.block ?_
      obtain ⟨hg15,H⟩:=gd_some H
      refine rA ?_
      refine eA ?_
      refine hK13 _ ?_
      refine eA ?_
      refine lf ?_
      exact nx H (wb [])
    refine Sm.exit ?_
    refine lf ?_
    refine lx H fun hyy=>?_
    subst hyy
    have H:=Ho9
    try dsimp only at H
    refine lf ?_
    exact ⟨_,H,wb []⟩
  rintro n_ H
  try dsimp only at H
  unfold fetch_Size_k1 at H
  refine Sm.st (fetch_Size_s1.eq_1 ..) ?_
  refine rA ?_
  refine Sm.ret ?_
  refine lf ?_
  obtain rfl:=Option.some.inj H
  exact rt []
def fetch_Fit (n:Nat) (m:TLoad) (size:Int):Option Int :=
  (module_CheckLoad n m).bind fun r1 =>
  bif (r1 != 0) then
    some r1
  else
    (fetch_Size n m).bind fun r2 =>
    bif (decide (r2 > size)) then
      some 330
    else
      some 0
def xfetch_Fit (n:Nat):Go.AE.Fn:=mkFn (A:=TLoad×Int) (R:=Int) 10 [(true,[.slice 5,.slice 58,.slice 52,.int .i64]),(false,[.int .i64])] false (fun xs=>((⟨((cg (xs.getD 0 []) 0).toSl.map d_Int),((cg (xs.getD 0 []) 1).toSl.map d_TReloc),((cg (xs.getD 0 []) 2).toSl.map d_TSegment),(cg (xs.getD 0 []) 3).toInt⟩:TLoad),(cg (xs.getD 1 []) 0).toInt)) (fun a=>[[.slice (List.map e_Int a.1.Text),.slice (List.map e_TReloc a.1.Relocs),.slice (List.map e_TSegment a.1.Segments),.int a.1.Entry],[.int a.2]]) (fun a=>fetch_Fit n a.1 a.2) (fun r=>[.c (.int .i64) (.int r)]) (fun r=>[])
theorem cfetch_Fit (n:Nat):Contract Try.prog (xfetch_Fit n):=by
  have hΓ:=g1 (cmodule_CheckLoad n) (g1 (cfetch_Size n) (@g0 (Contract Try.prog)))
  refine contract_f (Try.f10.body.getD .skip) h00 Try.func10 rfl Try.call10 (by decide) (by intro _ r;exact ⟨rfl,by simp⟩) ?_
  rintro ⟨m,size⟩ r H
  try dsimp only at H
  unfold fetch_Fit at H
  simp only [Try.f10,Option.getD]
  refine rA ?_
  refine Sm.seqK fun K2 hK2=>?_
  obtain ⟨r1,hr1,H⟩:=bind_some H
  have q:=And.intro @xmodule_CheckLoad.eq_1 hr1
  refine rAq ?_
  refine rA ?_
  refine cnd H (fun h5 H=>?_) (fun h5 H=>?_)
  · refine rA ?_
    refine Sm.ret ?_
    refine lf ?_
    obtain rfl:=Option.some.inj H
    exact rt []
  refine Sm.skip ?_
  refine hK2 _ ?_
  refine Sm.seqK fun K7 hK7=>?_
  obtain ⟨r2,hr2,H⟩:=bind_some H
  have q:=And.intro @xmodule_CheckLoad.eq_1 (And.intro @xfetch_Size.eq_1 hr2)
  refine rAq ?_
  refine cnd H (fun h9 H=>?_) (fun h9 H=>?_)
  · refine rA ?_
    refine Sm.ret ?_
    refine lf ?_
    obtain rfl:=Option.some.inj H
    exact rt []
  refine Sm.skip ?_
  refine hK7 _ ?_
  refine rA ?_
  refine Sm.ret ?_
  refine lf ?_
  obtain rfl:=Option.some.inj H
  exact rt []
def store_Store__in_M1 (n:Nat) (s:List Int) (s_:List Int) (addr:Int) (n_:Int):Option Bool :=
  bif (if (decide (addr ≥ 0))=true then (decide (n_ ≥ 0)) else false) then
    gd ((if (decide (addr ≥ 0))=true then (decide (n_ ≥ 0)) else false)=true∧(if (decide (addr ≥ 0))=true then (decide (n_ ≥ 0)) else false)=true) <|
    bif (decide (addr≤((s.length:Nat):Int))) then
      gd ((decide (addr≤((s.length:Nat):Int)))=true∧(decide (addr≤((s.length:Nat):Int)))=true) <|
      some (decide (n_≤(IntKind.wrap .i64 (((s.length:Nat):Int) - addr))))
    else
      some false
  else
    some false
theorem cstore_Store__in_M1 (n:Nat) (s:List Int) (s_:List Int) (addr:Int) (n_:Int) (r:Bool) (H:store_Store__in_M1 n s s_ addr n_=some r):CallsM Try.prog 52 [.ref (.box 0 0),.dat (false,[.int .i64]) [.int addr],.dat (false,[.int .i64]) [.int n_]] [.box [.own 1 [.int .u8] 0 s.length,.own 2 [.int .i64] 0 s_.length],.row 5 (List.map e_Int s),.row 3 (List.map e_Int s_)] [.c .bool (.bool r)] [.box [.own 1 [.int .u8] 0 s.length,.own 2 [.int .i64] 0 s_.length],.row 5 (List.map e_Int s),.row 3 (List.map e_Int s_)]:=by
  have hΓ:=@g0 (Contract Try.prog)
  refine callsM_of (Try.f52.body.getD .skip) h00 Try.func52 rfl Try.call52 (Nat.le_of_ble_eq_true rfl) (Nat.le_of_ble_eq_true rfl) ?_
  unfold store_Store__in_M1 at H
  simp only [Try.f52,Option.getD]
  refine rA ?_
  refine sX fun K2 hK2=>?_
  iterate 9 refine oX ?_
  refine bif_cases H (fun hs3 H=>?_) (fun hs3 H=>?_)
  · obtain ⟨⟨hg4,hg5⟩,H⟩:=gd_some H
    have q:=hs3
    refine oTE stepZ_ok ?_
    refine oTG ?_
    refine oTG ?_
    refine oTG ?_
    refine oTG ?_
    refine oPl ?_
    iterate 3 refine oXq ?_
    refine bif_cases H (fun hs6 H=>?_) (fun hs6 H=>?_)
    · try simp only [z,seval,hs3] at hs6
      obtain ⟨⟨hg7,hg8⟩,H⟩:=gd_some H
      have q:=And.intro hs3 hs6
      refine oTE stepZ_ok ?_
      refine oTG ?_
      refine oTG ?_
      refine oTG ?_
      refine oTG ?_
      refine oTG ?_
      refine oTG ?_
      refine oPl ?_
      refine oXq ?_
      refine hK2 _ ?_
      refine Sm.ret ?_
      refine lf ?_
      obtain rfl:=Option.some.inj H
      exact rtM [some 0,some 1,some 2]
    try simp only [z,seval,hs3] at hs6
    have q:=And.intro hs3 hs6
    refine oFq ?_
    refine oFq ?_
    refine oFq ?_
    refine oFq ?_
    refine oFq ?_
    refine oFq ?_
    refine oFq ?_
    refine oPr ?_
    refine oXq ?_
    refine hK2 _ ?_
    refine Sm.ret ?_
    refine lf ?_
    obtain rfl:=Option.some.inj H
    exact rtM [some 0,some 1,some 2]
  have q:=hs3
  refine oFq ?_
  refine oFq ?_
  refine oFq ?_
  refine oFq ?_
  refine oFq ?_
  refine oPr ?_
  refine oXq ?_
  refine oFq ?_
  refine oFq ?_
  refine oFq ?_
  refine oFq ?_
  refine oFq ?_
  refine oFq ?_
  refine oFq ?_
  refine oFq ?_
  refine oFq ?_
  refine oPr ?_
  refine oXq ?_
  refine hK2 _ ?_
  refine Sm.ret ?_
  refine lf ?_
  obtain rfl:=Option.some.inj H
  exact rtM [some 0,some 1,some 2]
def store_Store__Clear_M1 (n:Nat) (s:List Int) (s_:List Int) (addr:Int) (n_:Int):Option (Bool×(List Int)) :=
  (store_Store__in_M1 n s s_ addr n_).bind fun r1 =>
  bif (!r1) then
    some (false,s)
  else
    gd ((0≤addr∧addr≤(IntKind.wrap .i64 (addr+n_))∧(IntKind.wrap .i64 (addr+n_))≤(s.length:Int))∧((Int.toNat addr)+(Int.toNat ((IntKind.wrap .i64 (addr+n_)) - addr)))≤s.length) <|
    some (true,(overL s (Int.toNat addr) (zreps (Int.toNat ((IntKind.wrap .i64 (addr+n_)) - addr)) 0)))
theorem cstore_Store__Clear_M1 (n:Nat) (s:List Int) (s_:List Int) (addr:Int) (n_:Int) (r:Bool×(List Int)) (H:store_Store__Clear_M1 n s s_ addr n_=some r):CallsM Try.prog 33 [.ref (.box 0 0),.dat (false,[.int .i64]) [.int addr],.dat (false,[.int .i64]) [.int n_]] [.box [.own 1 [.int .u8] 0 s.length,.own 2 [.int .i64] 0 s_.length],.row 5 (List.map e_Int s),.row 3 (List.map e_Int s_)] [.c .bool (.bool r.1)] [.box [.own 1 [.int .u8] 0 s.length,.own 2 [.int .i64] 0 s_.length],.row 5 (List.map e_Int r.2),.row 3 (List.map e_Int s_)]:=by
  have hΓ:=@g0 (Contract Try.prog)
  refine callsM_of (Try.f33.body.getD .skip) h00 Try.func33 rfl Try.call33 (Nat.le_of_ble_eq_true rfl) (Nat.le_of_ble_eq_true rfl) ?_
  unfold store_Store__Clear_M1 at H
  simp only [Try.f33,Option.getD]
  refine rA ?_
  refine Sm.seqK fun K2 hK2=>?_
  refine sX fun K3 hK3=>?_
  obtain ⟨r1,hr1,H⟩:=bind_some H
  have q:=hr1
  refine oX ?_
  refine oE stepPN_ok ?_ (hs:=by intro K hK;simp only [z,seval,stepPN,ptT];(repeat first | refine gcI ?_ | intro (_:_≤_));exact hK)
  refine oX ?_
  refine oTG ?_
  refine oTG ?_
  refine oTG ?_
  refine oTM (cstore_Store__in_M1 n _ _ _ _ r1 hr1) [0,1,2] [] ?_
  refine oTG ?_
  refine oPr ?_
  refine hK3 _ ?_
  refine cnd H (fun h4 H=>?_) (fun h4 H=>?_)
  · refine rA ?_
    refine Sm.ret ?_
    refine lf ?_
    obtain rfl:=Option.some.inj H
    exact rtM [some 0,some 1,some 2]
  refine Sm.skip ?_
  refine hK2 _ ?_
  refine sX fun K6 hK6=>?_
  obtain ⟨⟨hg7,hg8⟩,H⟩:=gd_some H
  refine oX ?_
  refine oE stepZ_ok ?_
  iterate 7 refine oX ?_
  refine oY ?_
  refine hK6 _ ?_
  refine rA ?_
  refine Sm.ret ?_
  refine lf ?_
  obtain rfl:=Option.some.inj H
  exact rtM [some 0,some 1,some 2]
def store_Store__SetKey_M1 (n:Nat) (s:List Int) (s_:List Int) (addr:Int) (key:Int):Option (Bool×(List Int)) :=
  bif (decide (addr < 0)) then
    some (false,s_)
  else
    gd ((!(decide (addr < 0)))=true∧(!(decide (addr < 0)))=true) <|
    bif (if (if (decide (addr ≥ ((s.length:Nat):Int)))=true then true else (decide (key < 0)))=true then true else (decide (key > 31))) then
      some (false,s_)
    else
      gd ((0≤(IntKind.wrap .i64 (Int.tdiv addr 2048))∧(IntKind.wrap .i64 (Int.tdiv addr 2048)) < (s_.length:Int))∧(Int.toNat (IntKind.wrap .i64 (Int.tdiv addr 2048))) < s_.length) <|
      some (true,(List.set s_ (Int.toNat (IntKind.wrap .i64 (Int.tdiv addr 2048))) key))
theorem cstore_Store__SetKey_M1 (n:Nat) (s:List Int) (s_:List Int) (addr:Int) (key:Int) (r:Bool×(List Int)) (H:store_Store__SetKey_M1 n s s_ addr key=some r):CallsM Try.prog 34 [.ref (.box 0 0),.dat (false,[.int .i64]) [.int addr],.dat (false,[.int .i64]) [.int key]] [.box [.own 1 [.int .u8] 0 s.length,.own 2 [.int .i64] 0 s_.length],.row 5 (List.map e_Int s),.row 3 (List.map e_Int s_)] [.c .bool (.bool r.1)] [.box [.own 1 [.int .u8] 0 s.length,.own 2 [.int .i64] 0 s_.length],.row 5 (List.map e_Int s),.row 3 (List.map e_Int r.2)]:=by
  have hΓ:=@g0 (Contract Try.prog)
  refine callsM_of (Try.f34.body.getD .skip) h00 Try.func34 rfl Try.call34 (Nat.le_of_ble_eq_true rfl) (Nat.le_of_ble_eq_true rfl) ?_
  unfold store_Store__SetKey_M1 at H
  simp only [Try.f34,Option.getD]
  refine rA ?_
  refine Sm.seqK fun K2 hK2=>?_
  refine sX fun K3 hK3=>?_
  have q:=True.intro
  refine oX ?_
  refine oE stepPN_ok ?_ (hs:=by intro K hK;simp only [z,seval,stepPN,ptT];(repeat first | refine gcI ?_ | intro (_:_≤_));exact hK)
  refine oX ?_
  refine oTG ?_
  refine oTG ?_
  refine oPr ?_
  iterate 3 refine oX ?_
  refine bif_cases H (fun hs4 H=>?_) (fun hs4 H=>?_)
  · have q:=hs4
    refine oFq ?_
    refine oFq ?_
    refine oFq ?_
    refine oFq ?_
    refine oFq ?_
    refine oPl ?_
    refine oXq ?_
    refine oFq ?_
    refine oFq ?_
    refine oPl ?_
    refine oXq ?_
    refine oFq ?_
    refine oFq ?_
    refine oPl ?_
    refine hK3 _ ?_
    refine cndT ?_
    refine rA ?_
    refine Sm.ret ?_
    refine lf ?_
    obtain rfl:=Option.some.inj H
    exact rtM [some 0,some 1,some 2]
  obtain ⟨⟨hg7,hg8⟩,H⟩:=gd_some H
  have q:=hs4
  refine oTE stepZ_ok ?_
  refine oTG ?_
  refine oTG ?_
  refine oTG ?_
  refine oTG ?_
  refine oPr ?_
  iterate 8 refine oXq ?_
  refine hK3 _ ?_
  refine cnd H (fun h9 H=>?_) (fun h9 H=>?_)
  · refine rA ?_
    refine Sm.ret ?_
    refine lf ?_
    obtain rfl:=Option.some.inj H
    exact rtM [some 0,some 1,some 2]
  refine Sm.skip ?_
  refine hK2 _ ?_
  refine sX fun K11 hK11=>?_
  obtain ⟨⟨hg12,hg13⟩,H⟩:=gd_some H
  refine oX ?_
  refine oE stepZ_ok ?_
  iterate 7 refine oX ?_
  refine hK11 _ ?_
  refine rA ?_
  refine Sm.ret ?_
  refine lf ?_
  obtain rfl:=Option.some.inj H
  exact rtM [some 0,some 1,some 2]
def slices_Clone_f70 (n:Nat) (s:List Int):Option (List Int) :=
  uniB s fun nb1 =>
  bif nb1 then
    some []
  else
    gd (s.length≤2147483648) <|
    some s
def xslices_Clone_f70 (n:Nat):Go.AE.Fn:=mkFn (A:=(List Int)) (R:=(List Int)) 70 [(false,[.slice 5])] false (fun xs=>((cg (xs.getD 0 []) 0).toSl.map d_Int)) (fun a=>[[.slice (List.map e_Int a)]]) (fun a=>slices_Clone_f70 n a) (fun r=>[.own 0 [.int .u8] 0 r.length]) (fun r=>[.row 5 (List.map e_Int r)])
theorem cslices_Clone_f70 (n:Nat):Contract Try.prog (xslices_Clone_f70 n):=by
  have hΓ:=@g0 (Contract Try.prog)
  refine contract_f (Try.f70.body.getD .skip) h00 Try.func70 rfl Try.call70 (by decide) (fun _ r=>⟨rfl,m1 ⟨5,_,_,rfl,ty5,rfl⟩ m0⟩) ?_
  rintro s r H
  try dsimp only at H
  unfold slices_Clone_f70 at H
  simp only [Try.f70,Option.getD]
  refine rA ?_
  refine Sm.seqK fun K2 hK2=>?_
  refine sX fun K3 hK3=>?_
  refine oX ?_
  refine opsN fun K hK=>?_;simp only [z,seval];(repeat (first | refine gcI ?_ | refine fun (_:_≤_)=>?_));intro nb1 hnb1;refine hK _ ?_;clear hK K
  replace H:=uniB_some H nb1 (fun hb=>by simpa using hnb1 hb)
  refine hK3 _ ?_
  refine cnd H (fun h4 H=>?_) (fun h4 H=>?_)
  · refine rA ?_
    refine Sm.ret ?_
    refine lf ?_
    obtain rfl:=Option.some.inj H
    exact rto [none]
  refine Sm.skip ?_
  refine hK2 _ ?_
  obtain ⟨hg7,H⟩:=gd_some H
  refine rA ?_
  refine Sm.ret ?_
  refine lf ?_
  obtain rfl:=Option.some.inj H
  exact rto [some 112]
abbrev link_adjust_1_M1_t1 (at_:Int) (b0:List Int) (by__1:Int) (i:Int):S:=stB [(0,.c (.int .i64) (.int at_)),(2,.c (.int .i64) (.int by__1)),(3,.box 0 0),(7,.c (.int .i64) (.int i))] [(0,.box [.own 1 [.int .u8] 0 b0.length]),(1,.row 5 (List.map e_Int b0))]
def link_adjust_1_M1_b1 (n:Nat) (at_:Int) (b0:List Int) (by__1:Int) (i:Int):Option (((List Int)×Int×Int) ⊕ (((List Int)))) :=
  bif (decide (i ≥ at_)) then
    gd ((0≤i∧i < (b0.length:Int))∧(Int.toNat i) < b0.length) <|
    gd ((0≤i∧i < (b0.length:Int))∧(Int.toNat i) < b0.length) <|
    some (.inl ((List.set b0 (Int.toNat i) (IntKind.wrap .u8 ((IntKind.wrap .i64 (by__1+(IntKind.wrap .i64 ((gt b0 (Int.toNat i))))))))),(Int.fdiv (IntKind.wrap .i64 (by__1+(IntKind.wrap .i64 ((gt b0 (Int.toNat i)))))) (2 ^ min 8 (IntKind.bits .i64))),(IntKind.wrap .i64 (i - 1))))
  else
    some (.inr b0)
def link_adjust_1_M1 (n:Nat) (at_:Int) (n_:Int) (by_:Int) (p3:List Int):Option (List Int) :=
  (loopF (fun (x:(List Int)×Int×Int)=>link_adjust_1_M1_b1 n at_ x.1 x.2.1 x.2.2) n (p3,by_,(IntKind.wrap .i64 ((IntKind.wrap .i64 (at_+n_)) - 1)))).bind fun y2 =>
  some y2
theorem clink_adjust_1_M1 (n:Nat) (at_:Int) (n_:Int) (by_:Int) (p3:List Int) (r:(List Int)) (H:link_adjust_1_M1 n at_ n_ by_ p3=some r):CallsM Try.prog 76 [.dat (false,[.int .i64]) [.int at_],.dat (false,[.int .i64]) [.int n_],.dat (false,[.int .i64]) [.int by_],.ref (.box 0 0)] [.box [.own 1 [.int .u8] 0 p3.length],.row 5 (List.map e_Int p3)] [] [.box [.own 1 [.int .u8] 0 r.length],.row 5 (List.map e_Int r)]:=by
  have hΓ:=@g0 (Contract Try.prog)
  refine callsM_of (Try.f76.body.getD .skip) h00 Try.func76 rfl Try.call76 (Nat.le_of_ble_eq_true rfl) (Nat.le_of_ble_eq_true rfl) ?_
  unfold link_adjust_1_M1 at H
  simp only [Try.f76,Option.getD]
  refine rA ?_
  refine Sm.block ?_
  obtain ⟨y2,hy2,Ho2⟩:=bind_some H
  refine Sm.loopB _ (fun x=>link_adjust_1_M1_t1 at_ x.1 x.2.1 x.2.2) hy2 (wb [some 0,some 1]) ?_
  rintro ⟨b0,by__1,i⟩ z2 H
  try dsimp only at H
  unfold link_adjust_1_M1_b1 at H
  refine Sm.st (link_adjust_1_M1_t1.eq_1 ..) ?_
  refine Sm.seqK fun K3 hK3=>?_
  refine rA ?_
  refine cnd H (fun h5 H=>?_) (fun h5 H=>?_)
  · refine Sm.skip ?_
    refine hK3 _ ?_
    refine Sm.seqK fun K6 hK6=>?_
    refine Sm.block ?_
    obtain ⟨⟨hg11,hg12⟩,H⟩:=gd_some H
    refine rA ?_
    obtain ⟨⟨hg9,hg10⟩,H⟩:=gd_some H
    refine rA ?_
    refine eX ?_
    refine oX ?_
    refine oE stepV_ok ?_
    refine oX ?_
    refine opsX0 ?_
    refine hK6 _ ?_
    refine eA ?_
    refine lf ?_
    exact nx H (wb [some 0,some 1])
  refine Sm.exit ?_
  refine lf ?_
  refine lx H fun hyy=>?_
  subst hyy
  have H:=Ho2
  try dsimp only at H
  refine lf ?_
  obtain rfl:=Option.some.inj H
  exact rtM [some 0,some 1]
abbrev link_Relocate_s1 (out:List Int) (out_1:Nat):S:=stB [(7,.own 9000 [.int .u8] 0 out_1)] [(9000,.row 5 (List.map e_Int out))]
def link_Relocate_k1 (n:Nat) (out:List Int) (out_1:Nat):Option ((List Int)×Int) :=
  some ((List.take out_1 out),0)
abbrev link_Relocate_s3 (at_:Int) (out_4:List Int) (out_5:Nat) (m:TLoad) (v29:Int) (v30:Int):S:=stB [(1,.c (.int .i64) (.int at_)),(7,.own 9005 [.int .u8] 0 out_5),(8,.fnv 76 [.box 9006 0]),(28,.c (.slice 58) (.slice (List.map e_TReloc m.Relocs))),(29,.c (.int .i64) (.int v29)),(30,.c (.int .i64) (.int v30))] [(9005,.row 5 (List.map e_Int out_4)),(9006,.box [.own 9005 [.int .u8] 0 out_4.length])]
def link_Relocate_k3 (n:Nat) (at_:Int) (out_4:List Int) (out_5:Nat) (m:TLoad) (v29:Int) (v30:Int):Option (((List Int)×Nat×Int) ⊕ (((List Int)×Nat))) :=
  some (.inl (out_4,out_5,(IntKind.wrap .i64 (v30+1))))
abbrev link_Relocate_t2 (at_:Int) (m:TLoad) (v29:Int) (out_2:List Int) (out_3:Nat) (v30:Int):S:=stB [(1,.c (.int .i64) (.int at_)),(7,.own 9003 [.int .u8] 0 out_3),(8,.fnv 76 [.box 9004 0]),(28,.c (.slice 58) (.slice (List.map e_TReloc m.Relocs))),(29,.c (.int .i64) (.int v29)),(30,.c (.int .i64) (.int v30))] [(9003,.row 5 (List.map e_Int out_2)),(9004,.box [.own 9003 [.int .u8] 0 out_2.length])]
def link_Relocate_b2 (n:Nat) (at_:Int) (m:TLoad) (v29:Int) (out_2:List Int) (out_3:Nat) (v30:Int):Option (((List Int)×Nat×Int) ⊕ (((List Int)×Nat))) :=
  bif (decide (v30 < v29)) then
    gd ((0≤v30∧v30 < (m.Relocs.length:Int))) <|
    bif (gt m.Relocs (Int.toNat v30)).Neg then
      (link_adjust_1_M1 n ((gt m.Relocs (Int.toNat v30)).At) ((gt m.Relocs (Int.toNat v30)).Len) (IntKind.wrap .i64 (0 - at_)) out_2).bind fun r3 =>
      link_Relocate_k3 n at_ r3 out_3 m v29 v30
    else
      (link_adjust_1_M1 n ((gt m.Relocs (Int.toNat v30)).At) ((gt m.Relocs (Int.toNat v30)).Len) at_ out_2).bind fun r4 =>
      link_Relocate_k3 n at_ r4 out_3 m v29 v30
  else
    some (.inr (out_2,out_3))
def link_Relocate (n:Nat) (m:TLoad) (at_:Int):Option ((List Int)×Int) :=
  (module_CheckLoad n m).bind fun r1 =>
  bif (r1 != 0) then
    some ([],r1)
  else
    bif (if (decide (at_ < 0))=true then true else (decide (at_ ≥ 16777216))) then
      some ([],6)
    else
      (slices_Clone_f70 n m.Text).bind fun r2 =>
      (loopF (fun (x:(List Int)×Nat×Int)=>link_Relocate_b2 n at_ m (m.Relocs.length:Int) x.1 x.2.1 x.2.2) n (r2,r2.length,0)).bind fun y15 =>
      link_Relocate_k1 n y15.1 y15.2
def xlink_Relocate (n:Nat):Go.AE.Fn:=mkFn (A:=TLoad×Int) (R:=(List Int)×Int) 60 [(true,[.slice 5,.slice 58,.slice 52,.int .i64]),(false,[.int .i64])] true (fun xs=>((⟨((cg (xs.getD 0 []) 0).toSl.map d_Int),((cg (xs.getD 0 []) 1).toSl.map d_TReloc),((cg (xs.getD 0 []) 2).toSl.map d_TSegment),(cg (xs.getD 0 []) 3).toInt⟩:TLoad),(cg (xs.getD 1 []) 0).toInt)) (fun a=>[[.slice (List.map e_Int a.1.Text),.slice (List.map e_TReloc a.1.Relocs),.slice (List.map e_TSegment a.1.Segments),.int a.1.Entry],[.int a.2]]) (fun a=>link_Relocate n a.1 a.2) (fun r=>[.c (.slice 5) (.slice (List.map e_Int r.1)),.c (.int .i64) (.int r.2)]) (fun r=>[])
theorem clink_Relocate (n:Nat):Contract Try.prog (xlink_Relocate n):=by
  have hΓ:=g1 (cmodule_CheckLoad n) (g1 (cslices_Clone_f70 n) (@g0 (Contract Try.prog)))
  refine contract_f (Try.f60.body.getD .skip) h00 Try.func60 rfl Try.call60 (by decide) (by intro h;cases h) ?_
  rintro ⟨m,at_⟩ r H
  try dsimp only at H
  unfold link_Relocate at H
  simp only [Try.f60,Option.getD]
  refine rA ?_
  refine Sm.seqK fun K2 hK2=>?_
  obtain ⟨r1,hr1,H⟩:=bind_some H
  have q:=And.intro @xmodule_CheckLoad.eq_1 hr1
  refine rAq ?_
  refine rA ?_
  refine cnd H (fun h5 H=>?_) (fun h5 H=>?_)
  · refine rA ?_
    refine Sm.ret ?_
    refine lf ?_
    obtain rfl:=Option.some.inj H
    exact rt []
  refine Sm.skip ?_
  refine hK2 _ ?_
  refine Sm.seqK fun K7 hK7=>?_
  refine rA ?_
  refine cnd H (fun h9 H=>?_) (fun h9 H=>?_)
  · refine rA ?_
    refine Sm.ret ?_
    refine lf ?_
    obtain rfl:=Option.some.inj H
    exact rt []
  refine Sm.skip ?_
  refine hK7 _ ?_
  obtain ⟨r2,hr2,H⟩:=bind_some H
  have q:=And.intro @xmodule_CheckLoad.eq_1 (And.intro @xslices_Clone_f70.eq_1 hr2)
  refine rAq ?_
  refine sX fun K12 hK12=>?_
  refine oX ?_
  refine opsE (stepC_ok maker71) fun K hK=>?_;simp only [z,seval];(repeat (first | refine gcI ?_ | refine fun (_:_≤_)=>?_));refine hK _ ?_;clear hK K
  refine oX ?_
  refine hK12 _ ?_
  refine Sm.cut (fun (x:(List Int)×Nat)=>link_Relocate_s1 x.1 x.2) (fun x=>link_Relocate_k1 n x.1 x.2=some r) ?_ ?_
  · refine rA ?_
    refine Sm.block ?_
    obtain ⟨y15,hy15,Ho15⟩:=bind_some H
    refine Sm.loopB _ (fun x=>link_Relocate_t2 at_ m (m.Relocs.length:Int) x.1 x.2.1 x.2.2) hy15 (wb [some 384,some 416]) ?_
    rintro ⟨out_2,out_3,v30⟩ z15 H
    try dsimp only at H
    unfold link_Relocate_b2 at H
    refine Sm.st (link_Relocate_t2.eq_1 ..) ?_
    refine rA ?_
    refine Sm.seqK fun K17 hK17=>?_
    refine cnd H (fun h18 H=>?_) (fun h18 H=>?_)
    · refine Sm.skip ?_
      refine hK17 _ ?_
      refine Sm.cut (fun (x:(List Int))=>link_Relocate_s3 at_ x out_3 m (m.Relocs.length:Int) v30) (fun x=>link_Relocate_k3 n at_ x out_3 m (m.Relocs.length:Int) v30=some z15) ?_ ?_
      · refine Sm.block ?_
        obtain ⟨hg22,H⟩:=gd_some H
        refine rA ?_
        refine rA ?_
        refine cnd H (fun h21 H=>?_) (fun h21 H=>?_)
        · refine eX ?_
          obtain ⟨r3,hr3,H⟩:=bind_some H
          have q:=hr3
          iterate 7 refine oX ?_
          refine oMq (clink_adjust_1_M1 n _ _ _ _ r3 hr3) [9004,9003] [] ?_
          refine opsX0 ?_
          refine lf ?_
          exact ⟨_,H,wb [some 9003,some 9004]⟩
        refine eX ?_
        obtain ⟨r4,hr4,H⟩:=bind_some H
        have q:=hr4
        iterate 6 refine oX ?_
        refine oMq (clink_adjust_1_M1 n _ _ _ _ r4 hr4) [9004,9003] [] ?_
        refine opsX0 ?_
        refine lf ?_
        exact ⟨_,H,wb [some 9003,some 9004]⟩
      rintro out_4 H
      try dsimp only at H
      unfold link_Relocate_k3 at H
      refine Sm.st (link_Relocate_s3.eq_1 ..) ?_
      refine eA ?_
      refine lf ?_
      exact nx H (wb [some 9005,some 9006])
    refine Sm.exit ?_
    refine lf ?_
    refine lx H fun hyy=>?_
    subst hyy
    have H:=Ho15
    try dsimp only at H
    refine lf ?_
    exact ⟨(out_2,out_3),H,wb [some 9003]⟩
  rintro ⟨out,out_1⟩ H
  try dsimp only at H
  unfold link_Relocate_k1 at H
  refine Sm.st (link_Relocate_s1.eq_1 ..) ?_
  refine rA ?_
  refine Sm.ret ?_
  refine lf ?_
  obtain rfl:=Option.some.inj H
  exact rt []
def fetch_loader_M1 (n:Nat) (s:List Int) (s_:List Int) (m:TLoad) (at_:Int):Option ((List Int)×(List TReloc)×(List TSegment)×Int×Int×(List Int)) :=
  (link_Relocate n m at_).bind fun r1 =>
  some (m.Text,m.Relocs,m.Segments,m.Entry,at_,r1.1)
theorem cfetch_loader_M1 (n:Nat) (s:List Int) (s_:List Int) (m:TLoad) (at_:Int) (r:(List Int)×(List TReloc)×(List TSegment)×Int×Int×(List Int)) (H:fetch_loader_M1 n s s_ m at_=some r):CallsM Try.prog 35 [.ref (.box 0 0),.dat (true,[.slice 5,.slice 58,.slice 52,.int .i64]) [.slice (List.map e_Int m.Text),.slice (List.map e_TReloc m.Relocs),.slice (List.map e_TSegment m.Segments),.int m.Entry],.dat (false,[.int .i64]) [.int at_]] [.box [.own 1 [.int .u8] 0 s.length,.own 2 [.int .i64] 0 s_.length],.row 5 (List.map e_Int s),.row 3 (List.map e_Int s_)] [.fnv 61 [.box 3 0,.box 4 0,.box 5 0,.box 6 0]] [.box [.own 1 [.int .u8] 0 s.length,.own 2 [.int .i64] 0 s_.length],.row 5 (List.map e_Int s),.row 3 (List.map e_Int s_),.box [.c (.slice 5) (.slice (List.map e_Int r.1)),.c (.slice 58) (.slice (List.map e_TReloc r.2.1)),.c (.slice 52) (.slice (List.map e_TSegment r.2.2.1)),.c (.int .i64) (.int r.2.2.2.1)],.box [.box 0 0],.box [.c (.int .i64) (.int r.2.2.2.2.1)],.box [.c (.slice 5) (.slice (List.map e_Int r.2.2.2.2.2))]]:=by
  have hΓ:=g1 (clink_Relocate n) (@g0 (Contract Try.prog))
  refine callsM_of (Try.f35.body.getD .skip) h00 Try.func35 rfl Try.call35 (Nat.le_of_ble_eq_true rfl) (Nat.le_of_ble_eq_true rfl) ?_
  unfold fetch_loader_M1 at H
  simp only [Try.f35,Option.getD]
  refine rA ?_
  obtain ⟨r1,hr1,H⟩:=bind_some H
  have q:=And.intro @xlink_Relocate.eq_1 hr1
  refine rAq ?_
  refine sX fun K3 hK3=>?_
  refine oY ?_
  refine oX ?_
  refine hK3 _ ?_
  refine Sm.ret ?_
  refine lf ?_
  obtain rfl:=Option.some.inj H
  exact rtM [some 0,some 1,some 2,some 64,some 48,some 80,some 112]
def fetch_loader_1_M1 (n:Nat) (n_:Int) (p1:List Int) (p1_:List TReloc) (p1__:List TSegment) (p1___:Int) (p2:List Int) (p2_:List Int) (p3:Int) (p4:List Int):Option (List Int) :=
  gd ((0≤n_∧n_ < (p1__.length:Int))) <|
  gd ((0≤((gt p1__ (Int.toNat n_)).From)∧((gt p1__ (Int.toNat n_)).From)≤(IntKind.wrap .i64 (((gt p1__ (Int.toNat n_)).From)+((gt p1__ (Int.toNat n_)).Len)))∧(IntKind.wrap .i64 (((gt p1__ (Int.toNat n_)).From)+((gt p1__ (Int.toNat n_)).Len)))≤(p4.length:Int))) <|
  (store_Store__Put_M1 n p2 p2_ (IntKind.wrap .i64 (p3+((gt p1__ (Int.toNat n_)).Origin))) (List.drop (Int.toNat ((gt p1__ (Int.toNat n_)).From)) (List.take (Int.toNat (IntKind.wrap .i64 (((gt p1__ (Int.toNat n_)).From)+((gt p1__ (Int.toNat n_)).Len)))) p4)) 0).bind fun r1 =>
  some r1.2
theorem cfetch_loader_1_M1 (n:Nat) (n_:Int) (p1:List Int) (p1_:List TReloc) (p1__:List TSegment) (p1___:Int) (p2:List Int) (p2_:List Int) (p3:Int) (p4:List Int) (r:(List Int)) (H:fetch_loader_1_M1 n n_ p1 p1_ p1__ p1___ p2 p2_ p3 p4=some r):CallsM Try.prog 61 [.dat (false,[.int .i64]) [.int n_],.ref (.box 0 0),.ref (.box 1 0),.ref (.box 5 0),.ref (.box 6 0)] [.box [.c (.slice 5) (.slice (List.map e_Int p1)),.c (.slice 58) (.slice (List.map e_TReloc p1_)),.c (.slice 52) (.slice (List.map e_TSegment p1__)),.c (.int .i64) (.int p1___)],.box [.box 2 0],.box [.own 3 [.int .u8] 0 p2.length,.own 4 [.int .i64] 0 p2_.length],.row 5 (List.map e_Int p2),.row 3 (List.map e_Int p2_),.box [.c (.int .i64) (.int p3)],.box [.c (.slice 5) (.slice (List.map e_Int p4))]] [] [.box [.c (.slice 5) (.slice (List.map e_Int p1)),.c (.slice 58) (.slice (List.map e_TReloc p1_)),.c (.slice 52) (.slice (List.map e_TSegment p1__)),.c (.int .i64) (.int p1___)],.box [.box 2 0],.box [.own 3 [.int .u8] 0 r.length,.own 4 [.int .i64] 0 p2_.length],.row 5 (List.map e_Int r),.row 3 (List.map e_Int p2_),.box [.c (.int .i64) (.int p3)],.box [.c (.slice 5) (.slice (List.map e_Int p4))]]:=by
  have hΓ:=@g0 (Contract Try.prog)
  refine callsM_of (Try.f61.body.getD .skip) h00 Try.func61 rfl Try.call61 (Nat.le_of_ble_eq_true rfl) (Nat.le_of_ble_eq_true rfl) ?_
  unfold fetch_loader_1_M1 at H
  simp only [Try.f61,Option.getD]
  obtain ⟨hg3,H⟩:=gd_some H
  refine rA ?_
  obtain ⟨hg2,H⟩:=gd_some H
  obtain ⟨r1,hr1,H⟩:=bind_some H
  refine eE [0,1,2,3,4,5,6,7,8,9,10,11,12,13,14] [(none,[1],[]),(none,[5],[]),(none,[96],[]),(none,[96],[]),(none,[],[]),(none,[6],[]),(none,[96],[]),(none,[96],[]),(none,[96],[]),(none,[96],[]),(none,[96],[]),(none,[96],[]),(none,[],[]),(none,[],[]),(none,[2],[2,3,4])] [(14,(⟨_,_,_,_,_,[2,3,4],[],cstore_Store__Put_M1 n _ _ _ _ _ r1 hr1⟩:MT Try.prog))] ?_
  have q:=hr1
  iterate 14 refine eQq ?_
  refine eM ?_
  refine opsE0 ?_
  refine lf ?_
  obtain rfl:=Option.some.inj H
  exact rtM [some 0,some 1,some 2,some 3,some 4,some 5,some 6]
abbrev fetch_Put_M1_s1 (b0:List Int) (b0_1:List Int) (at_:Int) (m:TLoad):S:=stB [(0,.box 0 0),(2,.c (.int .i64) (.int at_)),(6,.box 9000 0)] [(0,.box [.own 1 [.int .u8] 0 b0.length,.own 2 [.int .i64] 0 b0_1.length]),(1,.row 5 (List.map e_Int b0)),(2,.row 3 (List.map e_Int b0_1)),(9000,.box [.c (.slice 5) (.slice (List.map e_Int m.Text)),.c (.slice 58) (.slice (List.map e_TReloc m.Relocs)),.c (.slice 52) (.slice (List.map e_TSegment m.Segments)),.c (.int .i64) (.int m.Entry)])]
def fetch_Put_M1_k1 (n:Nat) (b0:List Int) (b0_1:List Int) (at_:Int) (m:TLoad):Option (Int×Int×(List Int)×(List Int)) :=
  (fetch_loader_M1 n b0 b0_1 m at_).bind fun r4 =>
  (fetch_loader_1_M1 n 0 r4.1 r4.2.1 r4.2.2.1 r4.2.2.2.1 b0 b0_1 r4.2.2.2.2.1 r4.2.2.2.2.2).bind fun r5 =>
  some ((IntKind.wrap .i64 (at_+m.Entry)),0,r5,b0_1)
abbrev fetch_Put_M1_t2 (b0_2:List Int) (at_:Int) (size:Int) (key:Int) (m:TLoad) (b0_3:List Int) (block:Int):S:=stB [(0,.box 0 0),(2,.c (.int .i64) (.int at_)),(3,.c (.int .i64) (.int size)),(4,.c (.int .i64) (.int key)),(6,.box 9002 0),(13,.c (.int .i64) (.int block))] [(0,.box [.own 1 [.int .u8] 0 b0_2.length,.own 2 [.int .i64] 0 b0_3.length]),(1,.row 5 (List.map e_Int b0_2)),(2,.row 3 (List.map e_Int b0_3)),(9002,.box [.c (.slice 5) (.slice (List.map e_Int m.Text)),.c (.slice 58) (.slice (List.map e_TReloc m.Relocs)),.c (.slice 52) (.slice (List.map e_TSegment m.Segments)),.c (.int .i64) (.int m.Entry)])]
def fetch_Put_M1_b2 (n:Nat) (b0_2:List Int) (at_:Int) (size:Int) (key:Int) (m:TLoad) (b0_3:List Int) (block:Int):Option (((List Int)×Int) ⊕ (((List Int)))) :=
  bif (decide (block < (IntKind.wrap .i64 (at_+size)))) then
    (store_Store__SetKey_M1 n b0_2 b0_3 block (IntKind.wrap .i64 (((BitVec.ofInt (IntKind.bits .i64) (IntKind.wrap .i64 (key * 2 ^ min 1 (IntKind.bits .i64))) ||| BitVec.ofInt (IntKind.bits .i64) 1).toNat:Int)))).bind fun r6 =>
    gd (r6.2.length=b0_3.length) <|
    some (.inl (r6.2,(IntKind.wrap .i64 (block+2048))))
  else
    some (.inr b0_3)
def fetch_Put_M1 (n:Nat) (s:List Int) (s_:List Int) (m:TLoad) (at_:Int) (size:Int) (key:Int):Option (Int×Int×(List Int)×(List Int)) :=
  bif (if (if (if (decide (at_ < 0))=true then true else (decide (size < 1)))=true then true else ((Int.tmod at_ 2048) != 0))=true then true else ((Int.tmod size 2048) != 0)) then
    some (0,1,s,s_)
  else
    gd ((!(if (if (if (decide (at_ < 0))=true then true else (decide (size < 1)))=true then true else ((Int.tmod at_ 2048) != 0))=true then true else ((Int.tmod size 2048) != 0)))=true) <|
    (store_Store__Size_M1 n s s_).bind fun r1 =>
    gd ((!(if (if (if (decide (at_ < 0))=true then true else (decide (size < 1)))=true then true else ((Int.tmod at_ 2048) != 0))=true then true else ((Int.tmod size 2048) != 0)))=true) <|
    bif (if (if (decide (size > (IntKind.wrap .i64 (r1 - at_))))=true then true else (decide (key < 1)))=true then true else (decide (key > 15))) then
      some (0,1,s,s_)
    else
      (fetch_Fit n m size).bind fun r2 =>
      bif (r2 != 0) then
        some (0,r2,s,s_)
      else
        (store_Store__Clear_M1 n s s_ at_ size).bind fun r3 =>
        gd (r3.2.length=s.length) <|
        (loopF (fun (x:(List Int)×Int)=>fetch_Put_M1_b2 n r3.2 at_ size key m x.1 x.2) n (s_,at_)).bind fun y24 =>
        fetch_Put_M1_k1 n r3.2 y24 at_ m
theorem cfetch_Put_M1 (n:Nat) (s:List Int) (s_:List Int) (m:TLoad) (at_:Int) (size:Int) (key:Int) (r:Int×Int×(List Int)×(List Int)) (H:fetch_Put_M1 n s s_ m at_ size key=some r):CallsM Try.prog 15 [.ref (.box 0 0),.dat (true,[.slice 5,.slice 58,.slice 52,.int .i64]) [.slice (List.map e_Int m.Text),.slice (List.map e_TReloc m.Relocs),.slice (List.map e_TSegment m.Segments),.int m.Entry],.dat (false,[.int .i64]) [.int at_],.dat (false,[.int .i64]) [.int size],.dat (false,[.int .i64]) [.int key]] [.box [.own 1 [.int .u8] 0 s.length,.own 2 [.int .i64] 0 s_.length],.row 5 (List.map e_Int s),.row 3 (List.map e_Int s_)] [.c (.int .i64) (.int r.1),.c (.int .i64) (.int r.2.1)] [.box [.own 1 [.int .u8] 0 r.2.2.1.length,.own 2 [.int .i64] 0 r.2.2.2.length],.row 5 (List.map e_Int r.2.2.1),.row 3 (List.map e_Int r.2.2.2)]:=by
  have hΓ:=g1 (cfetch_Fit n) (@g0 (Contract Try.prog))
  refine callsM_of (Try.f15.body.getD .skip) h00 Try.func15 rfl Try.call15 (Nat.le_of_ble_eq_true rfl) (Nat.le_of_ble_eq_true rfl) ?_
  unfold fetch_Put_M1 at H
  simp only [Try.f15,Option.getD]
  refine rA ?_
  refine Sm.seqK fun K2 hK2=>?_
  refine sX fun K3 hK3=>?_
  refine oX ?_
  refine oE stepPN_ok ?_ (hs:=by intro K hK;simp only [z,seval,stepPN,ptT];(repeat first | refine gcI ?_ | intro (_:_≤_));exact hK)
  refine hK3 _ ?_
  refine cndF ?_
  refine Sm.skip ?_
  refine hK2 _ ?_
  refine Sm.seqK fun K5 hK5=>?_
  refine sX fun K6 hK6=>?_
  iterate 19 refine oX ?_
  refine bif_cases H (fun hs7 H=>?_) (fun hs7 H=>?_)
  · have q:=hs7
    refine oFq ?_
    refine oFq ?_
    refine oFq ?_
    refine oFq ?_
    refine oPl ?_
    refine oXq ?_
    refine oFq ?_
    refine oFq ?_
    refine oPl ?_
    refine oXq ?_
    refine oFq ?_
    refine oFq ?_
    refine oPl ?_
    refine hK6 _ ?_
    refine cndT ?_
    refine rA ?_
    refine Sm.ret ?_
    refine lf ?_
    obtain rfl:=Option.some.inj H
    exact rtM [some 0,some 1,some 2]
  obtain ⟨hg10,H⟩:=gd_some H
  obtain ⟨r1,hr1,H⟩:=bind_some H
  obtain ⟨hg11,H⟩:=gd_some H
  have q:=And.intro hs7 hr1
  refine oTM (cstore_Store__Size_M1 n _ _ r1 hr1) [0,1,2] [] ?_
  refine oTG ?_
  refine oTG ?_
  refine oTG ?_
  refine oPr ?_
  iterate 8 refine oXq ?_
  refine hK6 _ ?_
  refine cnd H (fun h12 H=>?_) (fun h12 H=>?_)
  · refine rA ?_
    refine Sm.ret ?_
    refine lf ?_
    obtain rfl:=Option.some.inj H
    exact rtM [some 0,some 1,some 2]
  refine Sm.skip ?_
  refine hK5 _ ?_
  refine Sm.seqK fun K14 hK14=>?_
  obtain ⟨r2,hr2,H⟩:=bind_some H
  have q:=And.intro @xfetch_Fit.eq_1 hr2
  refine rAq ?_
  refine rA ?_
  refine cnd H (fun h17 H=>?_) (fun h17 H=>?_)
  · refine rA ?_
    refine Sm.ret ?_
    refine lf ?_
    obtain rfl:=Option.some.inj H
    exact rtM [some 0,some 1,some 2]
  refine Sm.skip ?_
  refine hK14 _ ?_
  refine sX fun K19 hK19=>?_
  obtain ⟨r3,hr3,H⟩:=bind_some H
  obtain ⟨hg20,H⟩:=gd_some H
  have q:=hr3
  iterate 3 refine oX ?_
  refine oMq (cstore_Store__Clear_M1 n _ _ _ _ r3 hr3) [0,1,2] [] ?_
  refine hK19 _ ?_
  refine Sm.cut (fun (x:(List Int)×(List Int))=>fetch_Put_M1_s1 x.1 x.2 at_ m) (fun x=>fetch_Put_M1_k1 n x.1 x.2 at_ m=some r) ?_ ?_
  · refine rA ?_
    refine Sm.block ?_
    obtain ⟨y24,hy24,Ho24⟩:=bind_some H
    refine Sm.loopB _ (fun x=>fetch_Put_M1_t2 r3.2 at_ size key m x.1 x.2) hy24 (wbo [some 0,some 1,some 2,some 96]) ?_
    rintro ⟨b0_3,block⟩ z24 H
    try dsimp only at H
    unfold fetch_Put_M1_b2 at H
    refine Sm.st (fetch_Put_M1_t2.eq_1 ..) ?_
    refine Sm.seqK fun K25 hK25=>?_
    refine rA ?_
    refine cnd H (fun h27 H=>?_) (fun h27 H=>?_)
    · refine Sm.skip ?_
      refine hK25 _ ?_
      refine Sm.seqK fun K28 hK28=>?_
      refine Sm.block ?_
      refine eX ?_
      obtain ⟨r6,hr6,H⟩:=bind_some H
      obtain ⟨hg29,H⟩:=gd_some H
      have q:=hr6
      iterate 3 refine oX ?_
      refine oE stepV_ok ?_
      refine oX ?_
      refine oMq (cstore_Store__SetKey_M1 n _ _ _ _ r6 hr6) [0,1,2] [] ?_
      refine opsX0 ?_
      refine hK28 _ ?_
      refine eA ?_
      refine lf ?_
      exact nx H (wbo [some 0,some 1,some 2,some 9002])
    refine Sm.exit ?_
    refine lf ?_
    refine lx H fun hyy=>?_
    subst hyy
    have H:=Ho24
    try dsimp only at H
    refine lf ?_
    exact ⟨(r3.2,b0_3),H,wbo [some 0,some 1,some 2,some 9002]⟩
  rintro ⟨b0,b0_1⟩ H
  try dsimp only at H
  unfold fetch_Put_M1_k1 at H
  refine Sm.st (fetch_Put_M1_s1.eq_1 ..) ?_
  refine sX fun K21 hK21=>?_
  obtain ⟨r4,hr4,H⟩:=bind_some H
  obtain ⟨r5,hr5,H⟩:=bind_some H
  have q:=And.intro hr4 hr5
  iterate 3 refine oX ?_
  refine oMq (cfetch_loader_M1 n _ _ _ _ r4 hr4) [0,1,2] [1200,1201,1202,1203] ?_
  refine oMq (cfetch_loader_1_M1 n _ _ _ _ _ _ _ _ _ r5 hr5) [1200,1201,0,1,2,1202,1203] [] ?_
  refine hK21 _ ?_
  refine rA ?_
  refine Sm.ret ?_
  refine lf ?_
  obtain rfl:=Option.some.inj H
  exact rtM [some 0,some 1,some 2]
abbrev ref31_segments_s1 (m:TLoad) (from_:Int):S:=stB [(1,.box 9000 0),(3,.c (.int .i64) (.int from_))] [(9000,.box [.c (.slice 5) (.slice (List.map e_Int m.Text)),.c (.slice 58) (.slice (List.map e_TReloc m.Relocs)),.c (.slice 52) (.slice (List.map e_TSegment m.Segments)),.c (.int .i64) (.int m.Entry)])]
def ref31_segments_k1 (n:Nat) (m:TLoad) (from_:Int):Option Bool :=
  some (from_ == (m.Text.length:Int))
abbrev ref31_segments_t2 (m:TLoad) (from__1:Int) (i:Int):S:=stB [(1,.box 9002 0),(3,.c (.int .i64) (.int from__1)),(4,.c (.int .i64) (.int i))] [(9002,.box [.c (.slice 5) (.slice (List.map e_Int m.Text)),.c (.slice 58) (.slice (List.map e_TReloc m.Relocs)),.c (.slice 52) (.slice (List.map e_TSegment m.Segments)),.c (.int .i64) (.int m.Entry)])]
def ref31_segments_b2 (n:Nat) (m:TLoad) (from__1:Int) (i:Int):Option ((Int×Int) ⊕ (((Bool) ⊕ (Int)))) :=
  bif (decide (i < (m.Segments.length:Int))) then
    gd ((0≤i∧i < (m.Segments.length:Int))) <|
    bif (if (if (if (if (decide (((gt m.Segments (Int.toNat i)).Len) < 0))=true then true else (decide (((gt m.Segments (Int.toNat i)).Origin) < 0)))=true then true else (decide (((gt m.Segments (Int.toNat i)).Origin) > 65536)))=true then true else (decide (((gt m.Segments (Int.toNat i)).Len) > (IntKind.wrap .i64 (65536 - ((gt m.Segments (Int.toNat i)).Origin))))))=true then true else (((gt m.Segments (Int.toNat i)).From) != from__1)) then
      some (.inr (.inl false))
    else
      gd ((((i == 0) && !(((gt m.Segments (Int.toNat i)).Parent) != (-1)))=true→((i == 0) && (!(((gt m.Segments (Int.toNat i)).Parent) != (-1))))=true)∧(((i == 0) && !(if (((gt m.Segments (Int.toNat i)).Parent) != (-1))=true then true else (((gt m.Segments (Int.toNat i)).Origin) != 0)))=true→((i == 0) && (!(if (((gt m.Segments (Int.toNat i)).Parent) != (-1))=true then true else (((gt m.Segments (Int.toNat i)).Origin) != 0))))=true)) <|
      bif (if (i == 0)=true then (if (if (((gt m.Segments (Int.toNat i)).Parent) != (-1))=true then true else (((gt m.Segments (Int.toNat i)).Origin) != 0))=true then true else (decide (((gt m.Segments (Int.toNat i)).Len) < 1))) else false) then
        some (.inr (.inl false))
      else
        gd ((((decide (i > 0)) && !(decide (((gt m.Segments (Int.toNat i)).Parent) < 0)))=true→((decide (i > 0)) && (!(decide (((gt m.Segments (Int.toNat i)).Parent) < 0))))=true)∧(((decide (i > 0)) && (!(if (decide (((gt m.Segments (Int.toNat i)).Parent) < 0))=true then true else (decide (((gt m.Segments (Int.toNat i)).Parent) ≥ i)))))=true→(0≤((gt m.Segments (Int.toNat i)).Parent)∧((gt m.Segments (Int.toNat i)).Parent) < (m.Segments.length:Int)))∧(((decide (i > 0)) && (!(if (decide (((gt m.Segments (Int.toNat i)).Parent) < 0))=true then true else (decide (((gt m.Segments (Int.toNat i)).Parent) ≥ i)))))=true→(0≤((gt m.Segments (Int.toNat i)).Parent)∧((gt m.Segments (Int.toNat i)).Parent) < (m.Segments.length:Int)))∧(((decide (i > 0)) && !(if (decide (((gt m.Segments (Int.toNat i)).Parent) < 0))=true then true else (decide (((gt m.Segments (Int.toNat i)).Parent) ≥ i))))=true→((decide (i > 0)) && (!(if (decide (((gt m.Segments (Int.toNat i)).Parent) < 0))=true then true else (decide (((gt m.Segments (Int.toNat i)).Parent) ≥ i)))))=true)) <|
        bif (if (decide (i > 0))=true then (if (if (decide (((gt m.Segments (Int.toNat i)).Parent) < 0))=true then true else (decide (((gt m.Segments (Int.toNat i)).Parent) ≥ i)))=true then true else (decide (((gt m.Segments (Int.toNat i)).Origin) < (IntKind.wrap .i64 (((gt m.Segments (Int.toNat ((gt m.Segments (Int.toNat i)).Parent))).Origin)+((gt m.Segments (Int.toNat ((gt m.Segments (Int.toNat i)).Parent))).Len)))))) else false) then
          some (.inr (.inl false))
        else
          some (.inl ((IntKind.wrap .i64 (from__1+((gt m.Segments (Int.toNat i)).Len))),(IntKind.wrap .i64 (i+1))))
  else
    some (.inr (.inr from__1))
def ref31_segments (n:Nat) (m:TLoad):Option Bool :=
  bif (if (decide ((m.Segments.length:Int) < 1))=true then true else (decide ((m.Segments.length:Int) > 64))) then
    some false
  else
    (loopF (fun (x:Int×Int)=>ref31_segments_b2 n m x.1 x.2) n (0,0)).bind fun y9 =>
    match y9 with
    | .inl vv =>
      some vv
    | .inr vv =>
      ref31_segments_k1 n m vv
def xref31_segments (n:Nat):Go.AE.Fn:=mkFn (A:=TLoad) (R:=Bool) 56 [(true,[.slice 5,.slice 58,.slice 52,.int .i64])] false (fun xs=>(⟨((cg (xs.getD 0 []) 0).toSl.map d_Int),((cg (xs.getD 0 []) 1).toSl.map d_TReloc),((cg (xs.getD 0 []) 2).toSl.map d_TSegment),(cg (xs.getD 0 []) 3).toInt⟩:TLoad)) (fun a=>[[.slice (List.map e_Int a.Text),.slice (List.map e_TReloc a.Relocs),.slice (List.map e_TSegment a.Segments),.int a.Entry]]) (fun a=>ref31_segments n a) (fun r=>[.c .bool (.bool r)]) (fun r=>[])
theorem cref31_segments (n:Nat):Contract Try.prog (xref31_segments n):=by
  have hΓ:=@g0 (Contract Try.prog)
  refine contract_f (Try.f56.body.getD .skip) h00 Try.func56 rfl Try.call56 (by decide) (by intro _ r;exact ⟨rfl,by simp⟩) ?_
  rintro m r H
  try dsimp only at H
  unfold ref31_segments at H
  simp only [Try.f56,Option.getD]
  refine rA ?_
  refine Sm.seqK fun K2 hK2=>?_
  refine rA ?_
  refine cnd H (fun h4 H=>?_) (fun h4 H=>?_)
  · refine rA ?_
    refine Sm.ret ?_
    refine lf ?_
    obtain rfl:=Option.some.inj H
    exact rt []
  refine Sm.skip ?_
  refine hK2 _ ?_
  refine rA ?_
  refine Sm.cut (fun (x:Int)=>ref31_segments_s1 m x) (fun x=>ref31_segments_k1 n m x=some r) ?_ ?_
  · refine rA ?_
    refine Sm.block ?_
    obtain ⟨y9,hy9,Ho9⟩:=bind_some H
    refine Sm.loopB _ (fun x=>ref31_segments_t2 m x.1 x.2) hy9 (wb [some 16]) ?_
    rintro ⟨from__1,i⟩ z9 H
    try dsimp only at H
    unfold ref31_segments_b2 at H
    refine Sm.st (ref31_segments_t2.eq_1 ..) ?_
    refine Sm.seqK fun K10 hK10=>?_
    refine rA ?_
    refine cnd H (fun h12 H=>?_) (fun h12 H=>?_)
    · refine Sm.skip ?_
      refine hK10 _ ?_
      refine Sm.seqK fun K13 hK13=>?_
      refine Sm.block ?_
      obtain ⟨hg33,H⟩:=gd_some H
      refine rA ?_
      refine Sm.seqK fun K15 hK15=>?_
      refine rA ?_
      refine cnd H (fun h17 H=>?_) (fun h17 H=>?_)
      · refine rA ?_
        refine Sm.ret ?_
        refine lf ?_
        refine lx H fun hyy=>?_
        subst hyy
        have H:=Ho9
        try dsimp only at H
        refine lf ?_
        obtain rfl:=Option.some.inj H
        exact rt []
      refine Sm.skip ?_
      refine hK15 _ ?_
      refine Sm.seqK fun K19 hK19=>?_
      obtain ⟨⟨hg31,hg32⟩,H⟩:=gd_some H
      refine rA ?_
      refine cnd H (fun h21 H=>?_) (fun h21 H=>?_)
      · refine rA ?_
        refine Sm.ret ?_
        refine lf ?_
        refine lx H fun hyy=>?_
        subst hyy
        have H:=Ho9
        try dsimp only at H
        refine lf ?_
        obtain rfl:=Option.some.inj H
        exact rt []
      refine Sm.skip ?_
      refine hK19 _ ?_
      refine Sm.seqK fun K23 hK23=>?_
      obtain ⟨⟨hg27,hg28,hg29,hg30⟩,H⟩:=gd_some H
      refine rD ?_
      refine cnd H (fun h25 H=>?_) (fun h25 H=>?_)
      · refine rA ?_
        refine Sm.ret ?_
        refine lf ?_
        refine lx H fun hyy=>?_
        subst hyy
        have H:=Ho9
        try dsimp only at H
        refine lf ?_
        obtain rfl:=Option.some.inj H
        exact rt []
      refine Sm.skip ?_
      refine hK23 _ ?_
      refine eA ?_
      refine hK13 _ ?_
      refine eA ?_
      refine lf ?_
      exact nx H (wb [some 9002])
    refine Sm.exit ?_
    refine lf ?_
    refine lx H fun hyy=>?_
    subst hyy
    have H:=Ho9
    try dsimp only at H
    refine lf ?_
    exact ⟨_,H,wb [some 9002]⟩
  rintro from_ H
  try dsimp only at H
  unfold ref31_segments_k1 at H
  refine Sm.st (ref31_segments_s1.eq_1 ..) ?_
  refine rA ?_
  refine Sm.ret ?_
  refine lf ?_
  obtain rfl:=Option.some.inj H
  exact rt []
abbrev ref31_CheckLoad_s1:S:=stB [] []
def ref31_CheckLoad_k1 (n:Nat):Option Bool :=
  some true
abbrev ref31_CheckLoad_s3 (m:TLoad) (i:Int):S:=stB [(1,.box 9002 0),(3,.c (.int .i64) (.int i))] [(9002,.box [.c (.slice 5) (.slice (List.map e_Int m.Text)),.c (.slice 58) (.slice (List.map e_TReloc m.Relocs)),.c (.slice 52) (.slice (List.map e_TSegment m.Segments)),.c (.int .i64) (.int m.Entry)])]
def ref31_CheckLoad_k3 (n:Nat) (m:TLoad) (i:Int):Option ((Int) ⊕ (((Bool) ⊕ (Unit)))) :=
  some (.inl (IntKind.wrap .i64 (i+1)))
abbrev ref31_CheckLoad_s4 (m:TLoad) (i:Int) (in_:Bool):S:=stB [(1,.box 9003 0),(3,.c (.int .i64) (.int i)),(5,.c .bool (.bool in_))] [(9003,.box [.c (.slice 5) (.slice (List.map e_Int m.Text)),.c (.slice 58) (.slice (List.map e_TReloc m.Relocs)),.c (.slice 52) (.slice (List.map e_TSegment m.Segments)),.c (.int .i64) (.int m.Entry)])]
def ref31_CheckLoad_k4 (n:Nat) (m:TLoad) (i:Int) (in_:Bool):Option ((Int) ⊕ (((Bool) ⊕ (Unit)))) :=
  bif (!in_) then
    some (.inr (.inl false))
  else
    ref31_CheckLoad_k3 n m i
abbrev ref31_CheckLoad_t5 (m:TLoad) (i:Int) (r:Int) (r_1:Int) (r_2:Bool) (in__1:Bool) (k:Int):S:=stB [(1,.box 9006 0),(3,.c (.int .i64) (.int i)),(4,.box 9007 0),(5,.c .bool (.bool in__1)),(6,.c (.int .i64) (.int k))] [(9006,.box [.c (.slice 5) (.slice (List.map e_Int m.Text)),.c (.slice 58) (.slice (List.map e_TReloc m.Relocs)),.c (.slice 52) (.slice (List.map e_TSegment m.Segments)),.c (.int .i64) (.int m.Entry)]),(9007,.box [.c (.int .i64) (.int r),.c (.int .i64) (.int r_1),.c .bool (.bool r_2)])]
def ref31_CheckLoad_b5 (n:Nat) (m:TLoad) (i:Int) (r:Int) (r_1:Int) (r_2:Bool) (in__1:Bool) (k:Int):Option ((Bool×Int) ⊕ ((Bool))) :=
  bif (decide (k < (m.Segments.length:Int))) then
    gd ((0≤k∧k < (m.Segments.length:Int))) <|
    some (.inl ((if in__1=true then true else (if (decide (r ≥ ((gt m.Segments (Int.toNat k)).From)))=true then (decide ((IntKind.wrap .i64 (r+r_1))≤(IntKind.wrap .i64 (((gt m.Segments (Int.toNat k)).From)+((gt m.Segments (Int.toNat k)).Len))))) else false)),(IntKind.wrap .i64 (k+1))))
  else
    some (.inr in__1)
abbrev ref31_CheckLoad_t2 (m:TLoad) (i:Int):S:=stB [(1,.box 9001 0),(3,.c (.int .i64) (.int i))] [(9001,.box [.c (.slice 5) (.slice (List.map e_Int m.Text)),.c (.slice 58) (.slice (List.map e_TReloc m.Relocs)),.c (.slice 52) (.slice (List.map e_TSegment m.Segments)),.c (.int .i64) (.int m.Entry)])]
def ref31_CheckLoad_b2 (n:Nat) (m:TLoad) (i:Int):Option ((Int) ⊕ (((Bool) ⊕ (Unit)))) :=
  bif (decide (i < (m.Relocs.length:Int))) then
    gd ((0≤i∧i < (m.Relocs.length:Int))) <|
    gd ((((!(if (if (if (decide (((gt m.Relocs (Int.toNat i)).Len) < 1))=true then true else (decide (((gt m.Relocs (Int.toNat i)).Len) > 4)))=true then true else (decide (((gt m.Relocs (Int.toNat i)).At) < 0)))=true then true else (decide (((gt m.Relocs (Int.toNat i)).At) > (m.Text.length:Int))))) && (decide (i > 0)))=true→(0≤(IntKind.wrap .i64 (i - 1))∧(IntKind.wrap .i64 (i - 1)) < (m.Relocs.length:Int)))∧(((!(if (if (if (decide (((gt m.Relocs (Int.toNat i)).Len) < 1))=true then true else (decide (((gt m.Relocs (Int.toNat i)).Len) > 4)))=true then true else (decide (((gt m.Relocs (Int.toNat i)).At) < 0)))=true then true else (decide (((gt m.Relocs (Int.toNat i)).At) > (m.Text.length:Int))))) && (decide (i > 0)))=true→(0≤(IntKind.wrap .i64 (i - 1))∧(IntKind.wrap .i64 (i - 1)) < (m.Relocs.length:Int)))) <|
    bif (if (if (if (if (decide (((gt m.Relocs (Int.toNat i)).Len) < 1))=true then true else (decide (((gt m.Relocs (Int.toNat i)).Len) > 4)))=true then true else (decide (((gt m.Relocs (Int.toNat i)).At) < 0)))=true then true else (decide (((gt m.Relocs (Int.toNat i)).At) > (m.Text.length:Int))))=true then true else (if (decide (i > 0))=true then (decide (((gt m.Relocs (Int.toNat i)).At) < (IntKind.wrap .i64 (((gt m.Relocs (Int.toNat (IntKind.wrap .i64 (i - 1)))).At)+((gt m.Relocs (Int.toNat (IntKind.wrap .i64 (i - 1)))).Len))))) else false)) then
      some (.inr (.inl false))
    else
      (loopF (fun (x:Bool×Int)=>ref31_CheckLoad_b5 n m i ((gt m.Relocs (Int.toNat i)).At) ((gt m.Relocs (Int.toNat i)).Len) ((gt m.Relocs (Int.toNat i)).Neg) x.1 x.2) n (false,0)).bind fun y22 =>
      ref31_CheckLoad_k4 n m i y22
  else
    some (.inr (.inr ()))
def ref31_CheckLoad (n:Nat) (m:TLoad):Option Bool :=
  (ref31_segments n m).bind fun r1 =>
  gd (((!(if (if (!r1)=true then true else (decide ((m.Relocs.length:Int) > 8192)))=true then true else (decide (m.Entry < 0))))=true→0 < (m.Segments.length:Int))) <|
  bif (if (if (if (!r1)=true then true else (decide ((m.Relocs.length:Int) > 8192)))=true then true else (decide (m.Entry < 0)))=true then true else (decide (m.Entry ≥ ((gt m.Segments 0).Len)))) then
    some false
  else
    (loopF (fun (x:Int)=>ref31_CheckLoad_b2 n m x) n 0).bind fun y8 =>
    match y8 with
    | .inl vv =>
      some vv
    | .inr vv =>
      ref31_CheckLoad_k1 n
def xref31_CheckLoad (n:Nat):Go.AE.Fn:=mkFn (A:=TLoad) (R:=Bool) 26 [(true,[.slice 5,.slice 58,.slice 52,.int .i64])] false (fun xs=>(⟨((cg (xs.getD 0 []) 0).toSl.map d_Int),((cg (xs.getD 0 []) 1).toSl.map d_TReloc),((cg (xs.getD 0 []) 2).toSl.map d_TSegment),(cg (xs.getD 0 []) 3).toInt⟩:TLoad)) (fun a=>[[.slice (List.map e_Int a.Text),.slice (List.map e_TReloc a.Relocs),.slice (List.map e_TSegment a.Segments),.int a.Entry]]) (fun a=>ref31_CheckLoad n a) (fun r=>[.c .bool (.bool r)]) (fun r=>[])
theorem cref31_CheckLoad (n:Nat):Contract Try.prog (xref31_CheckLoad n):=by
  have hΓ:=g1 (cref31_segments n) (@g0 (Contract Try.prog))
  refine contract_f (Try.f26.body.getD .skip) h00 Try.func26 rfl Try.call26 (by decide) (by intro _ r;exact ⟨rfl,by simp⟩) ?_
  rintro m r H
  try dsimp only at H
  unfold ref31_CheckLoad at H
  simp only [Try.f26,Option.getD]
  refine rA ?_
  refine Sm.seqK fun K2 hK2=>?_
  obtain ⟨r1,hr1,H⟩:=bind_some H
  obtain ⟨hg32,H⟩:=gd_some H
  have q:=And.intro @xref31_segments.eq_1 hr1
  refine rDq ?_
  refine cnd H (fun h4 H=>?_) (fun h4 H=>?_)
  · refine rA ?_
    refine Sm.ret ?_
    refine lf ?_
    obtain rfl:=Option.some.inj H
    exact rt []
  refine Sm.skip ?_
  refine hK2 _ ?_
  refine Sm.cut (fun (x:Unit)=>ref31_CheckLoad_s1) (fun x=>ref31_CheckLoad_k1 n=some r) ?_ ?_
  · refine rA ?_
    refine Sm.block ?_
    obtain ⟨y8,hy8,Ho8⟩:=bind_some H
    refine Sm.loopB _ (fun x=>ref31_CheckLoad_t2 m x) hy8 (wb [some 16]) ?_
    rintro i z8 H
    try dsimp only at H
    unfold ref31_CheckLoad_b2 at H
    refine Sm.st (ref31_CheckLoad_t2.eq_1 ..) ?_
    refine Sm.seqK fun K9 hK9=>?_
    refine rA ?_
    refine cnd H (fun h11 H=>?_) (fun h11 H=>?_)
    · refine Sm.skip ?_
      refine hK9 _ ?_
      refine Sm.cut (fun (x:Unit)=>ref31_CheckLoad_s3 m i) (fun x=>ref31_CheckLoad_k3 n m i=some z8) ?_ ?_
      · refine Sm.block ?_
        obtain ⟨hg31,H⟩:=gd_some H
        refine rA ?_
        refine Sm.seqK fun K13 hK13=>?_
        obtain ⟨⟨hg29,hg30⟩,H⟩:=gd_some H
        refine rD ?_
        refine cnd H (fun h15 H=>?_) (fun h15 H=>?_)
        · refine rA ?_
          refine Sm.ret ?_
          refine lf ?_
          refine lx H fun hyy=>?_
          subst hyy
          have H:=Ho8
          try dsimp only at H
          refine lf ?_
          obtain rfl:=Option.some.inj H
          exact rt []
        refine Sm.skip ?_
        refine hK13 _ ?_
        refine rA ?_
        refine Sm.cut (fun (x:Bool)=>ref31_CheckLoad_s4 m i x) (fun x=>ref31_CheckLoad_k4 n m i x=some z8) ?_ ?_
        · refine rA ?_
          refine Sm.block ?_
          obtain ⟨y22,hy22,Ho22⟩:=bind_some H
          refine Sm.loopB _ (fun x=>ref31_CheckLoad_t5 m i ((gt m.Relocs (Int.toNat i)).At) ((gt m.Relocs (Int.toNat i)).Len) ((gt m.Relocs (Int.toNat i)).Neg) x.1 x.2) hy22 (wb [some 9001,some 64]) ?_
          rintro ⟨in__1,k⟩ z22 H
          try dsimp only at H
          unfold ref31_CheckLoad_b5 at H
          refine Sm.st (ref31_CheckLoad_t5.eq_1 ..) ?_
          refine Sm.seqK fun K23 hK23=>?_
          refine rA ?_
          refine cnd H (fun h25 H=>?_) (fun h25 H=>?_)
          · refine Sm.skip ?_
            refine hK23 _ ?_
            refine Sm.seqK fun K26 hK26=>?_
            refine Sm.block ?_
            obtain ⟨hg28,H⟩:=gd_some H
            refine rA ?_
            refine eA ?_
            refine hK26 _ ?_
            refine eA ?_
            refine lf ?_
            exact nx H (wb [some 9006,some 9007])
          refine Sm.exit ?_
          refine lf ?_
          refine lx H fun hyy=>?_
          subst hyy
          have H:=Ho22
          try dsimp only at H
          refine lf ?_
          exact ⟨_,H,wb [some 9006]⟩
        rintro in_ H
        try dsimp only at H
        unfold ref31_CheckLoad_k4 at H
        refine Sm.st (ref31_CheckLoad_s4.eq_1 ..) ?_
        refine rA ?_
        refine cnd H (fun h19 H=>?_) (fun h19 H=>?_)
        · refine rA ?_
          refine Sm.ret ?_
          refine lf ?_
          refine lx H fun hyy=>?_
          subst hyy
          have H:=Ho8
          try dsimp only at H
          refine lf ?_
          obtain rfl:=Option.some.inj H
          exact rt []
        refine Sm.skip ?_
        refine lf ?_
        exact ⟨(),H,wb [some 9003]⟩
      rintro ⟨⟩ H
      try dsimp only at H
      unfold ref31_CheckLoad_k3 at H
      refine Sm.st (ref31_CheckLoad_s3.eq_1 ..) ?_
      refine eA ?_
      refine lf ?_
      exact nx H (wb [some 9002])
    refine Sm.exit ?_
    refine lf ?_
    refine lx H fun hyy=>?_
    subst hyy
    have H:=Ho8
    try dsimp only at H
    refine lf ?_
    exact ⟨(),H,wb []⟩
  rintro ⟨⟩ H
  try dsimp only at H
  unfold ref31_CheckLoad_k1 at H
  refine Sm.st (ref31_CheckLoad_s1.eq_1 ..) ?_
  refine rA ?_
  refine Sm.ret ?_
  refine lf ?_
  obtain rfl:=Option.some.inj H
  exact rt []
abbrev ref33_Size_s1 (n_:Int):S:=stB [(3,.c (.int .i64) (.int n_))] []
def ref33_Size_k1 (n:Nat) (n_:Int):Option Int :=
  some n_
abbrev ref33_Size_t2 (m:TLoad) (n__1:Int) (i:Int):S:=stB [(1,.box 9001 0),(3,.c (.int .i64) (.int n__1)),(4,.c (.int .i64) (.int i))] [(9001,.box [.c (.slice 5) (.slice (List.map e_Int m.Text)),.c (.slice 58) (.slice (List.map e_TReloc m.Relocs)),.c (.slice 52) (.slice (List.map e_TSegment m.Segments)),.c (.int .i64) (.int m.Entry)])]
def ref33_Size_b2 (n:Nat) (m:TLoad) (n__1:Int) (i:Int):Option ((Int×Int) ⊕ ((Int))) :=
  bif (decide (i < (m.Segments.length:Int))) then
    gd ((0≤i∧i < (m.Segments.length:Int))∧(0≤i∧i < (m.Segments.length:Int))) <|
    some (.inl ((if (IntKind.wrap .i64 (((gt m.Segments (Int.toNat i)).Origin)+((gt m.Segments (Int.toNat i)).Len))) > n__1 then (IntKind.wrap .i64 (((gt m.Segments (Int.toNat i)).Origin)+((gt m.Segments (Int.toNat i)).Len))) else n__1),(IntKind.wrap .i64 (i+1))))
  else
    some (.inr n__1)
def ref33_Size (n:Nat) (m:TLoad):Option Int :=
  (ref31_CheckLoad n m).bind fun r1 =>
  bif (!r1) then
    some 0
  else
    (loopF (fun (x:Int×Int)=>ref33_Size_b2 n m x.1 x.2) n (0,0)).bind fun y9 =>
    ref33_Size_k1 n y9
def xref33_Size (n:Nat):Go.AE.Fn:=mkFn (A:=TLoad) (R:=Int) 9 [(true,[.slice 5,.slice 58,.slice 52,.int .i64])] false (fun xs=>(⟨((cg (xs.getD 0 []) 0).toSl.map d_Int),((cg (xs.getD 0 []) 1).toSl.map d_TReloc),((cg (xs.getD 0 []) 2).toSl.map d_TSegment),(cg (xs.getD 0 []) 3).toInt⟩:TLoad)) (fun a=>[[.slice (List.map e_Int a.Text),.slice (List.map e_TReloc a.Relocs),.slice (List.map e_TSegment a.Segments),.int a.Entry]]) (fun a=>ref33_Size n a) (fun r=>[.c (.int .i64) (.int r)]) (fun r=>[])
theorem cref33_Size (n:Nat):Contract Try.prog (xref33_Size n):=by
  have hΓ:=g1 (cref31_CheckLoad n) (@g0 (Contract Try.prog))
  refine contract_f (Try.f9.body.getD .skip) h00 Try.func9 rfl Try.call9 (by decide) (by intro _ r;exact ⟨rfl,by simp⟩) ?_
  rintro m r H
  try dsimp only at H
  unfold ref33_Size at H
  simp only [Try.f9,Option.getD]
  refine rA ?_
  refine rA ?_
  refine Sm.seqK fun K3 hK3=>?_
  obtain ⟨r1,hr1,H⟩:=bind_some H
  have q:=And.intro @xref31_CheckLoad.eq_1 hr1
  refine rAq ?_
  refine cnd H (fun h5 H=>?_) (fun h5 H=>?_)
  · refine rA ?_
    refine Sm.ret ?_
    refine lf ?_
    obtain rfl:=Option.some.inj H
    exact rt []
  refine Sm.skip ?_
  refine hK3 _ ?_
  refine Sm.cut (fun (x:Int)=>ref33_Size_s1 x) (fun x=>ref33_Size_k1 n x=some r) ?_ ?_
  · refine rA ?_
    refine Sm.block ?_
    obtain ⟨y9,hy9,Ho9⟩:=bind_some H
    refine Sm.loopB _ (fun x=>ref33_Size_t2 m x.1 x.2) hy9 (wb [some 16]) ?_
    rintro ⟨n__1,i⟩ z9 H
    try dsimp only at H
    unfold ref33_Size_b2 at H
    refine Sm.st (ref33_Size_t2.eq_1 ..) ?_
    refine Sm.seqK fun K10 hK10=>?_
    refine rA ?_
    refine cnd H (fun h12 H=>?_) (fun h12 H=>?_)
    · refine Sm.skip ?_
      refine hK10 _ ?_
      refine Sm.seqK fun K13 hK13=>?_
      refine Sm.block ?_
      obtain ⟨⟨hg14,hg15⟩,H⟩:=gd_some H
      refine eD ?_
      refine hK13 _ ?_
      refine eA ?_
      refine lf ?_
      exact nx H (wb [some 9001])
    refine Sm.exit ?_
    refine lf ?_
    refine lx H fun hyy=>?_
    subst hyy
    have H:=Ho9
    try dsimp only at H
    refine lf ?_
    exact ⟨_,H,wb []⟩
  rintro n_ H
  try dsimp only at H
  unfold ref33_Size_k1 at H
  refine Sm.st (ref33_Size_s1.eq_1 ..) ?_
  refine rA ?_
  refine Sm.ret ?_
  refine lf ?_
  obtain rfl:=Option.some.inj H
  exact rt []
def ref33_Fit (n:Nat) (m:TLoad) (size:Int):Option Int :=
  (ref31_CheckLoad n m).bind fun r1 =>
  bif (!r1) then
    some 310
  else
    (ref33_Size n m).bind fun r2 =>
    bif (decide (r2 > size)) then
      some 330
    else
      some 0
def xref33_Fit (n:Nat):Go.AE.Fn:=mkFn (A:=TLoad×Int) (R:=Int) 11 [(true,[.slice 5,.slice 58,.slice 52,.int .i64]),(false,[.int .i64])] false (fun xs=>((⟨((cg (xs.getD 0 []) 0).toSl.map d_Int),((cg (xs.getD 0 []) 1).toSl.map d_TReloc),((cg (xs.getD 0 []) 2).toSl.map d_TSegment),(cg (xs.getD 0 []) 3).toInt⟩:TLoad),(cg (xs.getD 1 []) 0).toInt)) (fun a=>[[.slice (List.map e_Int a.1.Text),.slice (List.map e_TReloc a.1.Relocs),.slice (List.map e_TSegment a.1.Segments),.int a.1.Entry],[.int a.2]]) (fun a=>ref33_Fit n a.1 a.2) (fun r=>[.c (.int .i64) (.int r)]) (fun r=>[])
theorem cref33_Fit (n:Nat):Contract Try.prog (xref33_Fit n):=by
  have hΓ:=g1 (cref31_CheckLoad n) (g1 (cref33_Size n) (@g0 (Contract Try.prog)))
  refine contract_f (Try.f11.body.getD .skip) h00 Try.func11 rfl Try.call11 (by decide) (by intro _ r;exact ⟨rfl,by simp⟩) ?_
  rintro ⟨m,size⟩ r H
  try dsimp only at H
  unfold ref33_Fit at H
  simp only [Try.f11,Option.getD]
  refine rA ?_
  refine Sm.seqK fun K2 hK2=>?_
  obtain ⟨r1,hr1,H⟩:=bind_some H
  have q:=And.intro @xref31_CheckLoad.eq_1 hr1
  refine rAq ?_
  refine cnd H (fun h4 H=>?_) (fun h4 H=>?_)
  · refine rA ?_
    refine Sm.ret ?_
    refine lf ?_
    obtain rfl:=Option.some.inj H
    exact rt []
  refine Sm.skip ?_
  refine hK2 _ ?_
  refine Sm.seqK fun K6 hK6=>?_
  obtain ⟨r2,hr2,H⟩:=bind_some H
  have q:=And.intro @xref31_CheckLoad.eq_1 (And.intro @xref33_Size.eq_1 hr2)
  refine rAq ?_
  refine cnd H (fun h8 H=>?_) (fun h8 H=>?_)
  · refine rA ?_
    refine Sm.ret ?_
    refine lf ?_
    obtain rfl:=Option.some.inj H
    exact rt []
  refine Sm.skip ?_
  refine hK6 _ ?_
  refine rA ?_
  refine Sm.ret ?_
  refine lf ?_
  obtain rfl:=Option.some.inj H
  exact rt []
abbrev ref07_Store__Clear_M1_s1 (b0:List Int) (s_:List Int):S:=stB [] [(0,.box [.own 1 [.int .u8] 0 b0.length,.own 2 [.int .i64] 0 s_.length]),(1,.row 5 (List.map e_Int b0)),(2,.row 3 (List.map e_Int s_))]
def ref07_Store__Clear_M1_k1 (n:Nat) (b0:List Int) (s_:List Int):Option (Bool×(List Int)) :=
  some (true,b0)
abbrev ref07_Store__Clear_M1_t2 (s_:List Int) (addr:Int) (n_:Int) (b0_1:List Int) (i:Int):S:=stB [(0,.box 0 0),(1,.c (.int .i64) (.int addr)),(2,.c (.int .i64) (.int n_)),(7,.c (.int .i64) (.int i))] [(0,.box [.own 1 [.int .u8] 0 b0_1.length,.own 2 [.int .i64] 0 s_.length]),(1,.row 5 (List.map e_Int b0_1)),(2,.row 3 (List.map e_Int s_))]
def ref07_Store__Clear_M1_b2 (n:Nat) (s_:List Int) (addr:Int) (n_:Int) (b0_1:List Int) (i:Int):Option (((List Int)×Int) ⊕ (((List Int)))) :=
  bif (decide (i < (IntKind.wrap .i64 (addr+n_)))) then
    gd ((0≤i∧i < (b0_1.length:Int))∧(Int.toNat i) < b0_1.length) <|
    some (.inl ((List.set b0_1 (Int.toNat i) 0),(IntKind.wrap .i64 (i+1))))
  else
    some (.inr b0_1)
def ref07_Store__Clear_M1 (n:Nat) (s:List Int) (s_:List Int) (addr:Int) (n_:Int):Option (Bool×(List Int)) :=
  (ref07_Store__In_M1 n s s_ addr n_).bind fun r1 =>
  bif (!r1) then
    some (false,s)
  else
    (loopF (fun (x:(List Int)×Int)=>ref07_Store__Clear_M1_b2 n s_ addr n_ x.1 x.2) n (s,addr)).bind fun y8 =>
    ref07_Store__Clear_M1_k1 n y8 s_
theorem cref07_Store__Clear_M1 (n:Nat) (s:List Int) (s_:List Int) (addr:Int) (n_:Int) (r:Bool×(List Int)) (H:ref07_Store__Clear_M1 n s s_ addr n_=some r):CallsM Try.prog 36 [.ref (.box 0 0),.dat (false,[.int .i64]) [.int addr],.dat (false,[.int .i64]) [.int n_]] [.box [.own 1 [.int .u8] 0 s.length,.own 2 [.int .i64] 0 s_.length],.row 5 (List.map e_Int s),.row 3 (List.map e_Int s_)] [.c .bool (.bool r.1)] [.box [.own 1 [.int .u8] 0 r.2.length,.own 2 [.int .i64] 0 s_.length],.row 5 (List.map e_Int r.2),.row 3 (List.map e_Int s_)]:=by
  have hΓ:=@g0 (Contract Try.prog)
  refine callsM_of (Try.f36.body.getD .skip) h00 Try.func36 rfl Try.call36 (Nat.le_of_ble_eq_true rfl) (Nat.le_of_ble_eq_true rfl) ?_
  unfold ref07_Store__Clear_M1 at H
  simp only [Try.f36,Option.getD]
  refine rA ?_
  refine Sm.seqK fun K2 hK2=>?_
  refine sX fun K3 hK3=>?_
  obtain ⟨r1,hr1,H⟩:=bind_some H
  have q:=hr1
  iterate 3 refine oX ?_
  refine oMq (cref07_Store__In_M1 n _ _ _ _ r1 hr1) [0,1,2] [] ?_
  refine oXq ?_
  refine hK3 _ ?_
  refine cnd H (fun h4 H=>?_) (fun h4 H=>?_)
  · refine rA ?_
    refine Sm.ret ?_
    refine lf ?_
    obtain rfl:=Option.some.inj H
    exact rtM [some 0,some 1,some 2]
  refine Sm.skip ?_
  refine hK2 _ ?_
  refine Sm.cut (fun (x:(List Int))=>ref07_Store__Clear_M1_s1 x s_) (fun x=>ref07_Store__Clear_M1_k1 n x s_=some r) ?_ ?_
  · refine rA ?_
    refine Sm.block ?_
    obtain ⟨y8,hy8,Ho8⟩:=bind_some H
    refine Sm.loopB _ (fun x=>ref07_Store__Clear_M1_t2 s_ addr n_ x.1 x.2) hy8 (wb [some 0,some 1,some 2]) ?_
    rintro ⟨b0_1,i⟩ z8 H
    try dsimp only at H
    unfold ref07_Store__Clear_M1_b2 at H
    refine Sm.st (ref07_Store__Clear_M1_t2.eq_1 ..) ?_
    refine Sm.seqK fun K9 hK9=>?_
    refine rA ?_
    refine cnd H (fun h11 H=>?_) (fun h11 H=>?_)
    · refine Sm.skip ?_
      refine hK9 _ ?_
      refine Sm.seqK fun K12 hK12=>?_
      refine Sm.block ?_
      refine eX ?_
      obtain ⟨⟨hg13,hg14⟩,H⟩:=gd_some H
      refine oX ?_
      refine oE stepZ_ok ?_
      iterate 5 refine oX ?_
      refine opsX0 ?_
      refine hK12 _ ?_
      refine eA ?_
      refine lf ?_
      exact nx H (wb [some 0,some 1,some 2])
    refine Sm.exit ?_
    refine lf ?_
    refine lx H fun hyy=>?_
    subst hyy
    have H:=Ho8
    try dsimp only at H
    refine lf ?_
    exact ⟨_,H,wb [some 0,some 1,some 2]⟩
  rintro b0 H
  try dsimp only at H
  unfold ref07_Store__Clear_M1_k1 at H
  refine Sm.st (ref07_Store__Clear_M1_s1.eq_1 ..) ?_
  refine rA ?_
  refine Sm.ret ?_
  refine lf ?_
  obtain rfl:=Option.some.inj H
  exact rtM [some 0,some 1,some 2]
def ref07_Store__SetKey_M1 (n:Nat) (s:List Int) (s_:List Int) (addr:Int) (key:Int):Option (Bool×(List Int)) :=
  bif (decide (addr < 0)) then
    some (false,s_)
  else
    gd ((!(decide (addr < 0)))=true∧(!(decide (addr < 0)))=true) <|
    bif (if (if (decide (addr ≥ ((s.length:Nat):Int)))=true then true else (decide (key < 0)))=true then true else (decide (key > 31))) then
      some (false,s_)
    else
      gd ((0≤(IntKind.wrap .i64 (Int.tdiv addr 2048))∧(IntKind.wrap .i64 (Int.tdiv addr 2048)) < (s_.length:Int))∧(Int.toNat (IntKind.wrap .i64 (Int.tdiv addr 2048))) < s_.length) <|
      some (true,(List.set s_ (Int.toNat (IntKind.wrap .i64 (Int.tdiv addr 2048))) key))
theorem cref07_Store__SetKey_M1 (n:Nat) (s:List Int) (s_:List Int) (addr:Int) (key:Int) (r:Bool×(List Int)) (H:ref07_Store__SetKey_M1 n s s_ addr key=some r):CallsM Try.prog 37 [.ref (.box 0 0),.dat (false,[.int .i64]) [.int addr],.dat (false,[.int .i64]) [.int key]] [.box [.own 1 [.int .u8] 0 s.length,.own 2 [.int .i64] 0 s_.length],.row 5 (List.map e_Int s),.row 3 (List.map e_Int s_)] [.c .bool (.bool r.1)] [.box [.own 1 [.int .u8] 0 s.length,.own 2 [.int .i64] 0 s_.length],.row 5 (List.map e_Int s),.row 3 (List.map e_Int r.2)]:=by
  have hΓ:=@g0 (Contract Try.prog)
  refine callsM_of (Try.f37.body.getD .skip) h00 Try.func37 rfl Try.call37 (Nat.le_of_ble_eq_true rfl) (Nat.le_of_ble_eq_true rfl) ?_
  unfold ref07_Store__SetKey_M1 at H
  simp only [Try.f37,Option.getD]
  refine rA ?_
  refine Sm.seqK fun K2 hK2=>?_
  refine sX fun K3 hK3=>?_
  iterate 5 refine oX ?_
  refine bif_cases H (fun hs4 H=>?_) (fun hs4 H=>?_)
  · have q:=hs4
    refine oFq ?_
    refine oFq ?_
    refine oFq ?_
    refine oFq ?_
    refine oFq ?_
    refine oPl ?_
    refine oXq ?_
    refine oFq ?_
    refine oFq ?_
    refine oPl ?_
    refine oXq ?_
    refine oFq ?_
    refine oFq ?_
    refine oPl ?_
    refine hK3 _ ?_
    refine cndT ?_
    refine rA ?_
    refine Sm.ret ?_
    refine lf ?_
    obtain rfl:=Option.some.inj H
    exact rtM [some 0,some 1,some 2]
  obtain ⟨⟨hg7,hg8⟩,H⟩:=gd_some H
  have q:=hs4
  refine oTE stepZ_ok ?_
  refine oTG ?_
  refine oTG ?_
  refine oTG ?_
  refine oTG ?_
  refine oPr ?_
  iterate 8 refine oXq ?_
  refine hK3 _ ?_
  refine cnd H (fun h9 H=>?_) (fun h9 H=>?_)
  · refine rA ?_
    refine Sm.ret ?_
    refine lf ?_
    obtain rfl:=Option.some.inj H
    exact rtM [some 0,some 1,some 2]
  refine Sm.skip ?_
  refine hK2 _ ?_
  refine sX fun K11 hK11=>?_
  obtain ⟨⟨hg12,hg13⟩,H⟩:=gd_some H
  refine oX ?_
  refine oE stepZ_ok ?_
  iterate 7 refine oX ?_
  refine hK11 _ ?_
  refine rA ?_
  refine Sm.ret ?_
  refine lf ?_
  obtain rfl:=Option.some.inj H
  exact rtM [some 0,some 1,some 2]
abbrev ref32_Adjust_M2_s2 (b0_1:List Int) (b_2:Nat) (at_:Int) (v_1:Int) (i:Int):S:=stB [(0,.own 0 [.int .u8] 0 b_2),(1,.c (.int .i64) (.int at_)),(8,.c (.int .i64) (.int v_1)),(9,.c (.int .i64) (.int i))] [(0,.row 5 (List.map e_Int b0_1))]
def ref32_Adjust_M2_k2 (n:Nat) (b0_1:List Int) (b_2:Nat) (at_:Int) (v_1:Int) (i:Int):Option (((List Int)×Nat×Int×Int) ⊕ (((List Int)))) :=
  some (.inl (b0_1,b_2,v_1,(IntKind.wrap .i64 (i - 1))))
abbrev ref32_Adjust_M2_s3 (b0:List Int) (b_3:Nat) (at_:Int) (v_2:Int) (i:Int) (r:Int):S:=stB [(0,.own 0 [.int .u8] 0 b_3),(1,.c (.int .i64) (.int at_)),(8,.c (.int .i64) (.int v_2)),(9,.c (.int .i64) (.int i)),(10,.c (.int .i64) (.int r))] [(0,.row 5 (List.map e_Int b0))]
def ref32_Adjust_M2_k3 (n:Nat) (b0:List Int) (b_3:Nat) (at_:Int) (v_2:Int) (i:Int) (r:Int):Option (((List Int)×Nat×Int×Int) ⊕ (((List Int)))) :=
  gd ((0≤(IntKind.wrap .i64 (at_+i))∧(IntKind.wrap .i64 (at_+i)) < (b_3:Int))∧(Int.toNat (IntKind.wrap .i64 (at_+i))) < b0.length) <|
  ref32_Adjust_M2_k2 n (List.set b0 (Int.toNat (IntKind.wrap .i64 (at_+i))) (IntKind.wrap .u8 (r))) b_3 at_ (IntKind.wrap .i64 (Int.tdiv (IntKind.wrap .i64 (v_2 - r)) 256)) i
abbrev ref32_Adjust_M2_t1 (at_:Int) (b0:List Int) (b_1:Nat) (v:Int) (i:Int):S:=stB [(0,.own 0 [.int .u8] 0 b_1),(1,.c (.int .i64) (.int at_)),(8,.c (.int .i64) (.int v)),(9,.c (.int .i64) (.int i))] [(0,.row 5 (List.map e_Int b0))]
def ref32_Adjust_M2_b1 (n:Nat) (at_:Int) (b0:List Int) (b_1:Nat) (v:Int) (i:Int):Option (((List Int)×Nat×Int×Int) ⊕ (((List Int)))) :=
  bif (decide (i ≥ 0)) then
    gd ((0≤(IntKind.wrap .i64 (at_+i))∧(IntKind.wrap .i64 (at_+i)) < (b_1:Int))∧(Int.toNat (IntKind.wrap .i64 (at_+i))) < b0.length) <|
    bif (decide ((Int.tmod (IntKind.wrap .i64 (v+(IntKind.wrap .i64 ((gt b0 (Int.toNat (IntKind.wrap .i64 (at_+i)))))))) 256) < 0)) then
      ref32_Adjust_M2_k3 n b0 b_1 at_ (IntKind.wrap .i64 (v+(IntKind.wrap .i64 ((gt b0 (Int.toNat (IntKind.wrap .i64 (at_+i)))))))) i (IntKind.wrap .i64 ((Int.tmod (IntKind.wrap .i64 (v+(IntKind.wrap .i64 ((gt b0 (Int.toNat (IntKind.wrap .i64 (at_+i)))))))) 256)+256))
    else
      ref32_Adjust_M2_k3 n b0 b_1 at_ (IntKind.wrap .i64 (v+(IntKind.wrap .i64 ((gt b0 (Int.toNat (IntKind.wrap .i64 (at_+i)))))))) i (Int.tmod (IntKind.wrap .i64 (v+(IntKind.wrap .i64 ((gt b0 (Int.toNat (IntKind.wrap .i64 (at_+i)))))))) 256)
  else
    some (.inr b0)
def ref32_Adjust_M2 (n:Nat) (b:List Int) (b_l:Nat) (at_:Int) (n_:Int) (by_:Int):Option (List Int) :=
  (loopF (fun (x:(List Int)×Nat×Int×Int)=>ref32_Adjust_M2_b1 n at_ x.1 x.2.1 x.2.2.1 x.2.2.2) n (b,b_l,by_,(IntKind.wrap .i64 (n_ - 1)))).bind fun y3 =>
  some y3
theorem cref32_Adjust_M2 (n:Nat) (b:List Int) (b_l:Nat) (at_:Int) (n_:Int) (by_:Int) (r:(List Int)) (H:ref32_Adjust_M2 n b b_l at_ n_ by_=some r):CallsM Try.prog 51 [.ref (.own 0 [.int .u8] 0 b_l),.dat (false,[.int .i64]) [.int at_],.dat (false,[.int .i64]) [.int n_],.dat (false,[.int .i64]) [.int by_]] [.row 5 (List.map e_Int b)] [] [.row 5 (List.map e_Int r)]:=by
  have hΓ:=@g0 (Contract Try.prog)
  refine callsM_of (Try.f51.body.getD .skip) h00 Try.func51 rfl Try.call51 (Nat.le_of_ble_eq_true rfl) (Nat.le_of_ble_eq_true rfl) ?_
  unfold ref32_Adjust_M2 at H
  simp only [Try.f51,Option.getD]
  refine rA ?_
  refine rA ?_
  refine Sm.block ?_
  obtain ⟨y3,hy3,Ho3⟩:=bind_some H
  refine Sm.loopB _ (fun x=>ref32_Adjust_M2_t1 at_ x.1 x.2.1 x.2.2.1 x.2.2.2) hy3 (wb [some 0]) ?_
  rintro ⟨b0,b_1,v,i⟩ z3 H
  try dsimp only at H
  unfold ref32_Adjust_M2_b1 at H
  refine Sm.st (ref32_Adjust_M2_t1.eq_1 ..) ?_
  refine Sm.seqK fun K4 hK4=>?_
  refine rA ?_
  refine cnd H (fun h6 H=>?_) (fun h6 H=>?_)
  · refine Sm.skip ?_
    refine hK4 _ ?_
    refine Sm.cut (fun (x:(List Int)×Nat×Int)=>ref32_Adjust_M2_s2 x.1 x.2.1 at_ x.2.2 i) (fun x=>ref32_Adjust_M2_k2 n x.1 x.2.1 at_ x.2.2 i=some z3) ?_ ?_
    · refine Sm.block ?_
      obtain ⟨⟨hg14,hg15⟩,H⟩:=gd_some H
      refine rA ?_
      refine rA ?_
      refine Sm.cut (fun (x:Int)=>ref32_Adjust_M2_s3 b0 b_1 at_ (IntKind.wrap .i64 (v+(IntKind.wrap .i64 ((gt b0 (Int.toNat (IntKind.wrap .i64 (at_+i)))))))) i x) (fun x=>ref32_Adjust_M2_k3 n b0 b_1 at_ (IntKind.wrap .i64 (v+(IntKind.wrap .i64 ((gt b0 (Int.toNat (IntKind.wrap .i64 (at_+i)))))))) i x=some z3) ?_ ?_
      · refine rA ?_
        refine cnd H (fun h13 H=>?_) (fun h13 H=>?_)
        · refine eA ?_
          refine lf ?_
          exact ⟨_,H,wb [some 0]⟩
        refine Sm.skip ?_
        refine lf ?_
        exact ⟨_,H,wb [some 0]⟩
      rintro r H
      try dsimp only at H
      unfold ref32_Adjust_M2_k3 at H
      refine Sm.st (ref32_Adjust_M2_s3.eq_1 ..) ?_
      obtain ⟨⟨hg10,hg11⟩,H⟩:=gd_some H
      refine rA ?_
      refine eA ?_
      refine lf ?_
      exact ⟨((List.set b0 (Int.toNat (IntKind.wrap .i64 (at_+i))) (IntKind.wrap .u8 (r))),b_1,(IntKind.wrap .i64 (Int.tdiv (IntKind.wrap .i64 ((IntKind.wrap .i64 (v+(IntKind.wrap .i64 ((gt b0 (Int.toNat (IntKind.wrap .i64 (at_+i)))))))) - r)) 256))),H,wb [some 0]⟩
    rintro ⟨b0_1,b_2,v_1⟩ H
    try dsimp only at H
    unfold ref32_Adjust_M2_k2 at H
    refine Sm.st (ref32_Adjust_M2_s2.eq_1 ..) ?_
    refine eA ?_
    refine lf ?_
    exact nx H (wb [some 0])
  refine Sm.exit ?_
  refine lf ?_
  refine lx H fun hyy=>?_
  subst hyy
  have H:=Ho3
  try dsimp only at H
  refine lf ?_
  obtain rfl:=Option.some.inj H
  exact rtM [some 0]
abbrev ref32_Relocate_s1 (out:List Int) (out_1:Nat):S:=stB [(6,.own 9000 [.int .u8] 0 out_1)] [(9000,.row 5 (List.map e_Int out))]
def ref32_Relocate_k1 (n:Nat) (out:List Int) (out_1:Nat):Option ((List Int)×Int) :=
  some ((List.take out_1 out),0)
abbrev ref32_Relocate_s3 (at_:Int) (m:TLoad) (out_4:List Int) (out_5:Nat) (i:Int):S:=stB [(1,.c (.int .i64) (.int at_)),(2,.box 9005 0),(6,.own 9006 [.int .u8] 0 out_5),(7,.c (.int .i64) (.int i))] [(9005,.box [.c (.slice 5) (.slice (List.map e_Int m.Text)),.c (.slice 58) (.slice (List.map e_TReloc m.Relocs)),.c (.slice 52) (.slice (List.map e_TSegment m.Segments)),.c (.int .i64) (.int m.Entry)]),(9006,.row 5 (List.map e_Int out_4))]
def ref32_Relocate_k3 (n:Nat) (at_:Int) (m:TLoad) (out_4:List Int) (out_5:Nat) (i:Int):Option (((List Int)×Nat×Int) ⊕ (((List Int)×Nat))) :=
  some (.inl (out_4,out_5,(IntKind.wrap .i64 (i+1))))
abbrev ref32_Relocate_s4 (at_:Int) (m:TLoad) (out_2:List Int) (out_6:Nat) (i:Int) (by_:Int):S:=stB [(1,.c (.int .i64) (.int at_)),(2,.box 9007 0),(6,.own 9008 [.int .u8] 0 out_6),(7,.c (.int .i64) (.int i)),(8,.c (.int .i64) (.int by_))] [(9007,.box [.c (.slice 5) (.slice (List.map e_Int m.Text)),.c (.slice 58) (.slice (List.map e_TReloc m.Relocs)),.c (.slice 52) (.slice (List.map e_TSegment m.Segments)),.c (.int .i64) (.int m.Entry)]),(9008,.row 5 (List.map e_Int out_2))]
def ref32_Relocate_k4 (n:Nat) (at_:Int) (m:TLoad) (out_2:List Int) (out_6:Nat) (i:Int) (by_:Int):Option (((List Int)×Nat×Int) ⊕ (((List Int)×Nat))) :=
  gd ((0≤i∧i < (m.Relocs.length:Int))∧(0≤i∧i < (m.Relocs.length:Int))) <|
  (ref32_Adjust_M2 n out_2 out_6 ((gt m.Relocs (Int.toNat i)).At) ((gt m.Relocs (Int.toNat i)).Len) by_).bind fun r2 =>
  ref32_Relocate_k3 n at_ m r2 out_6 i
abbrev ref32_Relocate_t2 (at_:Int) (m:TLoad) (out_2:List Int) (out_3:Nat) (i:Int):S:=stB [(1,.c (.int .i64) (.int at_)),(2,.box 9003 0),(6,.own 9004 [.int .u8] 0 out_3),(7,.c (.int .i64) (.int i))] [(9003,.box [.c (.slice 5) (.slice (List.map e_Int m.Text)),.c (.slice 58) (.slice (List.map e_TReloc m.Relocs)),.c (.slice 52) (.slice (List.map e_TSegment m.Segments)),.c (.int .i64) (.int m.Entry)]),(9004,.row 5 (List.map e_Int out_2))]
def ref32_Relocate_b2 (n:Nat) (at_:Int) (m:TLoad) (out_2:List Int) (out_3:Nat) (i:Int):Option (((List Int)×Nat×Int) ⊕ (((List Int)×Nat))) :=
  bif (decide (i < (m.Relocs.length:Int))) then
    gd ((0≤i∧i < (m.Relocs.length:Int))) <|
    bif (gt m.Relocs (Int.toNat i)).Neg then
      ref32_Relocate_k4 n at_ m out_2 out_3 i (IntKind.wrap .i64 (0 - at_))
    else
      ref32_Relocate_k4 n at_ m out_2 out_3 i at_
  else
    some (.inr (out_2,out_3))
def ref32_Relocate (n:Nat) (m:TLoad) (at_:Int):Option ((List Int)×Int) :=
  (ref31_CheckLoad n m).bind fun r1 =>
  bif (!r1) then
    some ([],310)
  else
    bif (if (decide (at_ < 0))=true then true else (decide (at_ > 16777215))) then
      some ([],6)
    else
      gd (m.Text.length≤2147483648) <|
      (loopF (fun (x:(List Int)×Nat×Int)=>ref32_Relocate_b2 n at_ m x.1 x.2.1 x.2.2) n (m.Text,m.Text.length,0)).bind fun y13 =>
      ref32_Relocate_k1 n y13.1 y13.2
def xref32_Relocate (n:Nat):Go.AE.Fn:=mkFn (A:=TLoad×Int) (R:=(List Int)×Int) 21 [(true,[.slice 5,.slice 58,.slice 52,.int .i64]),(false,[.int .i64])] true (fun xs=>((⟨((cg (xs.getD 0 []) 0).toSl.map d_Int),((cg (xs.getD 0 []) 1).toSl.map d_TReloc),((cg (xs.getD 0 []) 2).toSl.map d_TSegment),(cg (xs.getD 0 []) 3).toInt⟩:TLoad),(cg (xs.getD 1 []) 0).toInt)) (fun a=>[[.slice (List.map e_Int a.1.Text),.slice (List.map e_TReloc a.1.Relocs),.slice (List.map e_TSegment a.1.Segments),.int a.1.Entry],[.int a.2]]) (fun a=>ref32_Relocate n a.1 a.2) (fun r=>[.c (.slice 5) (.slice (List.map e_Int r.1)),.c (.int .i64) (.int r.2)]) (fun r=>[])
theorem cref32_Relocate (n:Nat):Contract Try.prog (xref32_Relocate n):=by
  have hΓ:=g1 (cref31_CheckLoad n) (@g0 (Contract Try.prog))
  refine contract_f (Try.f21.body.getD .skip) h00 Try.func21 rfl Try.call21 (by decide) (by intro h;cases h) ?_
  rintro ⟨m,at_⟩ r H
  try dsimp only at H
  unfold ref32_Relocate at H
  simp only [Try.f21,Option.getD]
  refine rA ?_
  refine Sm.seqK fun K2 hK2=>?_
  obtain ⟨r1,hr1,H⟩:=bind_some H
  have q:=And.intro @xref31_CheckLoad.eq_1 hr1
  refine rAq ?_
  refine cnd H (fun h4 H=>?_) (fun h4 H=>?_)
  · refine rA ?_
    refine Sm.ret ?_
    refine lf ?_
    obtain rfl:=Option.some.inj H
    exact rt []
  refine Sm.skip ?_
  refine hK2 _ ?_
  refine Sm.seqK fun K6 hK6=>?_
  refine rA ?_
  refine cnd H (fun h8 H=>?_) (fun h8 H=>?_)
  · refine rA ?_
    refine Sm.ret ?_
    refine lf ?_
    obtain rfl:=Option.some.inj H
    exact rt []
  refine Sm.skip ?_
  refine hK6 _ ?_
  obtain ⟨hg23,H⟩:=gd_some H
  refine rA ?_
  refine Sm.cut (fun (x:(List Int)×Nat)=>ref32_Relocate_s1 x.1 x.2) (fun x=>ref32_Relocate_k1 n x.1 x.2=some r) ?_ ?_
  · refine rA ?_
    refine Sm.block ?_
    obtain ⟨y13,hy13,Ho13⟩:=bind_some H
    refine Sm.loopB _ (fun x=>ref32_Relocate_t2 at_ m x.1 x.2.1 x.2.2) hy13 (wb [some 32,some 336]) ?_
    rintro ⟨out_2,out_3,i⟩ z13 H
    try dsimp only at H
    unfold ref32_Relocate_b2 at H
    refine Sm.st (ref32_Relocate_t2.eq_1 ..) ?_
    refine Sm.seqK fun K14 hK14=>?_
    refine rA ?_
    refine cnd H (fun h16 H=>?_) (fun h16 H=>?_)
    · refine Sm.skip ?_
      refine hK14 _ ?_
      refine Sm.cut (fun (x:(List Int)×Nat)=>ref32_Relocate_s3 at_ m x.1 x.2 i) (fun x=>ref32_Relocate_k3 n at_ m x.1 x.2 i=some z13) ?_ ?_
      · refine Sm.block ?_
        refine rA ?_
        refine Sm.cut (fun (x:Int)=>ref32_Relocate_s4 at_ m out_2 out_3 i x) (fun x=>ref32_Relocate_k4 n at_ m out_2 out_3 i x=some z13) ?_ ?_
        · obtain ⟨hg22,H⟩:=gd_some H
          refine rA ?_
          refine cnd H (fun h21 H=>?_) (fun h21 H=>?_)
          · refine eA ?_
            refine lf ?_
            exact ⟨_,H,wb [some 9003,some 9004]⟩
          refine Sm.skip ?_
          refine lf ?_
          exact ⟨_,H,wb [some 9003,some 9004]⟩
        rintro by_ H
        try dsimp only at H
        unfold ref32_Relocate_k4 at H
        refine Sm.st (ref32_Relocate_s4.eq_1 ..) ?_
        obtain ⟨⟨hg18,hg19⟩,H⟩:=gd_some H
        obtain ⟨r2,hr2,H⟩:=bind_some H
        refine eL [0,1,2,3,4,5,6,7,8,9,10,11,12,13] 14 [(none,[],[]),(none,[9007],[]),(none,[9007],[]),(none,[],[]),(none,[],[]),(none,[],[]),(none,[],[]),(none,[9007],[]),(none,[9007],[]),(none,[],[]),(none,[],[]),(none,[],[]),(none,[],[]),(none,[],[]),(none,[],[])] ?_
        have q:=hr2
        iterate 14 refine oQq ?_
        refine opsQ0 ?_
        refine opsM (cref32_Adjust_M2 n _ _ _ _ _ r2 hr2) [9008] [] (by simp only [z,seval,hr2];try rfl) (by simp only [z,seval,hr2]) (by simp only [z,seval,hr2]) (by simp only [z,seval,hr2]) (by simp only [z,seval,hr2]) rfl (by simp only [z,seval,hr2]) rfl ?_
        refine opsX0 ?_
        refine lf ?_
        exact ⟨(r2,out_3),H,wb [some 9007,some 9008]⟩
      rintro ⟨out_4,out_5⟩ H
      try dsimp only at H
      unfold ref32_Relocate_k3 at H
      refine Sm.st (ref32_Relocate_s3.eq_1 ..) ?_
      refine eA ?_
      refine lf ?_
      exact nx H (wb [some 9005,some 9006])
    refine Sm.exit ?_
    refine lf ?_
    refine lx H fun hyy=>?_
    subst hyy
    have H:=Ho13
    try dsimp only at H
    refine lf ?_
    exact ⟨(out_2,out_3),H,wb [some 9004]⟩
  rintro ⟨out,out_1⟩ H
  try dsimp only at H
  unfold ref32_Relocate_k1 at H
  refine Sm.st (ref32_Relocate_s1.eq_1 ..) ?_
  refine rA ?_
  refine Sm.ret ?_
  refine lf ?_
  obtain rfl:=Option.some.inj H
  exact rt []
def ref33_load_M1 (n:Nat) (s:List Int) (s_:List Int) (m:TLoad) (at_:Int) (n_:Int):Option (List Int) :=
  (ref32_Relocate n m at_).bind fun r1 =>
  gd ((0≤n_∧n_ < (m.Segments.length:Int))) <|
  gd ((0≤((gt m.Segments (Int.toNat n_)).From)∧((gt m.Segments (Int.toNat n_)).From)≤(IntKind.wrap .i64 (((gt m.Segments (Int.toNat n_)).From)+((gt m.Segments (Int.toNat n_)).Len)))∧(IntKind.wrap .i64 (((gt m.Segments (Int.toNat n_)).From)+((gt m.Segments (Int.toNat n_)).Len)))≤(r1.1.length:Int))) <|
  (ref07_Store__Put_M1 n s s_ (IntKind.wrap .i64 (at_+((gt m.Segments (Int.toNat n_)).Origin))) (List.drop (Int.toNat ((gt m.Segments (Int.toNat n_)).From)) (List.take (Int.toNat (IntKind.wrap .i64 (((gt m.Segments (Int.toNat n_)).From)+((gt m.Segments (Int.toNat n_)).Len)))) r1.1)) 0).bind fun r2 =>
  some r2.2
theorem cref33_load_M1 (n:Nat) (s:List Int) (s_:List Int) (m:TLoad) (at_:Int) (n_:Int) (r:(List Int)) (H:ref33_load_M1 n s s_ m at_ n_=some r):CallsM Try.prog 38 [.ref (.box 0 0),.dat (true,[.slice 5,.slice 58,.slice 52,.int .i64]) [.slice (List.map e_Int m.Text),.slice (List.map e_TReloc m.Relocs),.slice (List.map e_TSegment m.Segments),.int m.Entry],.dat (false,[.int .i64]) [.int at_],.dat (false,[.int .i64]) [.int n_]] [.box [.own 1 [.int .u8] 0 s.length,.own 2 [.int .i64] 0 s_.length],.row 5 (List.map e_Int s),.row 3 (List.map e_Int s_)] [] [.box [.own 1 [.int .u8] 0 r.length,.own 2 [.int .i64] 0 s_.length],.row 5 (List.map e_Int r),.row 3 (List.map e_Int s_)]:=by
  have hΓ:=g1 (cref32_Relocate n) (@g0 (Contract Try.prog))
  refine callsM_of (Try.f38.body.getD .skip) h00 Try.func38 rfl Try.call38 (Nat.le_of_ble_eq_true rfl) (Nat.le_of_ble_eq_true rfl) ?_
  unfold ref33_load_M1 at H
  simp only [Try.f38,Option.getD]
  refine rA ?_
  obtain ⟨r1,hr1,H⟩:=bind_some H
  have q:=And.intro @xref32_Relocate.eq_1 hr1
  refine rAq ?_
  obtain ⟨hg5,H⟩:=gd_some H
  refine rA ?_
  obtain ⟨hg4,H⟩:=gd_some H
  obtain ⟨r2,hr2,H⟩:=bind_some H
  refine eE [0,1,2,3,4,5,6,7,8,9,10,11,12,13,14] [(none,[],[]),(none,[],[]),(none,[160],[]),(none,[160],[]),(none,[],[]),(none,[],[]),(none,[160],[]),(none,[160],[]),(none,[160],[]),(none,[160],[]),(none,[160],[]),(none,[160],[]),(none,[],[]),(none,[],[]),(none,[0],[0,1,2])] [(14,(⟨_,_,_,_,_,[0,1,2],[],cref07_Store__Put_M1 n _ _ _ _ _ r2 hr2⟩:MT Try.prog))] ?_
  have q:=hr2
  iterate 14 refine eQq ?_
  refine eM ?_
  refine opsE0 ?_
  refine lf ?_
  obtain rfl:=Option.some.inj H
  exact rtM [some 0,some 1,some 2]
abbrev ref33_Put_M1_s1 (b0:List Int) (b0_1:List Int) (at_:Int) (m:TLoad):S:=stB [(0,.box 0 0),(3,.c (.int .i64) (.int at_)),(8,.box 9000 0)] [(0,.box [.own 1 [.int .u8] 0 b0.length,.own 2 [.int .i64] 0 b0_1.length]),(1,.row 5 (List.map e_Int b0)),(2,.row 3 (List.map e_Int b0_1)),(9000,.box [.c (.slice 5) (.slice (List.map e_Int m.Text)),.c (.slice 58) (.slice (List.map e_TReloc m.Relocs)),.c (.slice 52) (.slice (List.map e_TSegment m.Segments)),.c (.int .i64) (.int m.Entry)])]
def ref33_Put_M1_k1 (n:Nat) (b0:List Int) (b0_1:List Int) (at_:Int) (m:TLoad):Option (Int×Int×(List Int)×(List Int)) :=
  (ref33_load_M1 n b0 b0_1 m at_ 0).bind fun r3 =>
  some ((IntKind.wrap .i64 (at_+m.Entry)),0,r3,b0_1)
abbrev ref33_Put_M1_t2 (b0_2:List Int) (at_:Int) (size:Int) (key:Int) (m:TLoad) (b0_3:List Int) (i:Int):S:=stB [(0,.box 0 0),(3,.c (.int .i64) (.int at_)),(4,.c (.int .i64) (.int size)),(5,.c (.int .i64) (.int key)),(8,.box 9002 0),(15,.c (.int .i64) (.int i))] [(0,.box [.own 1 [.int .u8] 0 b0_2.length,.own 2 [.int .i64] 0 b0_3.length]),(1,.row 5 (List.map e_Int b0_2)),(2,.row 3 (List.map e_Int b0_3)),(9002,.box [.c (.slice 5) (.slice (List.map e_Int m.Text)),.c (.slice 58) (.slice (List.map e_TReloc m.Relocs)),.c (.slice 52) (.slice (List.map e_TSegment m.Segments)),.c (.int .i64) (.int m.Entry)])]
def ref33_Put_M1_b2 (n:Nat) (b0_2:List Int) (at_:Int) (size:Int) (key:Int) (m:TLoad) (b0_3:List Int) (i:Int):Option (((List Int)×Int) ⊕ (((List Int)))) :=
  bif (decide (i < (IntKind.wrap .i64 (at_+size)))) then
    (ref07_Store__SetKey_M1 n b0_2 b0_3 i (IntKind.wrap .i64 ((IntKind.wrap .i64 (2 * key))+1))).bind fun r4 =>
    gd (r4.2.length=b0_3.length) <|
    some (.inl (r4.2,(IntKind.wrap .i64 (i+2048))))
  else
    some (.inr b0_3)
def ref33_Put_M1 (n:Nat) (s:List Int) (s_:List Int) (bytes:Int) (m:TLoad) (at_:Int) (size:Int) (key:Int):Option (Int×Int×(List Int)×(List Int)) :=
  bif (if (if (if (if (if (if (if ((Int.tmod at_ 2048) != 0)=true then true else ((Int.tmod size 2048) != 0))=true then true else (decide (at_ < 0)))=true then true else (decide (size < 1)))=true then true else (decide (at_ > bytes)))=true then true else (decide (size > (IntKind.wrap .i64 (bytes - at_)))))=true then true else (decide (key < 1)))=true then true else (decide (key > 15))) then
    some (0,1,s,s_)
  else
    (ref33_Fit n m size).bind fun r1 =>
    bif (r1 != 0) then
      some (0,r1,s,s_)
    else
      (ref07_Store__Clear_M1 n s s_ at_ size).bind fun r2 =>
      (loopF (fun (x:(List Int)×Int)=>ref33_Put_M1_b2 n r2.2 at_ size key m x.1 x.2) n (s_,at_)).bind fun y15 =>
      ref33_Put_M1_k1 n r2.2 y15 at_ m
theorem cref33_Put_M1 (n:Nat) (s:List Int) (s_:List Int) (bytes:Int) (m:TLoad) (at_:Int) (size:Int) (key:Int) (r:Int×Int×(List Int)×(List Int)) (H:ref33_Put_M1 n s s_ bytes m at_ size key=some r):CallsM Try.prog 16 [.ref (.box 0 0),.dat (false,[.int .i64]) [.int bytes],.dat (true,[.slice 5,.slice 58,.slice 52,.int .i64]) [.slice (List.map e_Int m.Text),.slice (List.map e_TReloc m.Relocs),.slice (List.map e_TSegment m.Segments),.int m.Entry],.dat (false,[.int .i64]) [.int at_],.dat (false,[.int .i64]) [.int size],.dat (false,[.int .i64]) [.int key]] [.box [.own 1 [.int .u8] 0 s.length,.own 2 [.int .i64] 0 s_.length],.row 5 (List.map e_Int s),.row 3 (List.map e_Int s_)] [.c (.int .i64) (.int r.1),.c (.int .i64) (.int r.2.1)] [.box [.own 1 [.int .u8] 0 r.2.2.1.length,.own 2 [.int .i64] 0 r.2.2.2.length],.row 5 (List.map e_Int r.2.2.1),.row 3 (List.map e_Int r.2.2.2)]:=by
  have hΓ:=g1 (cref33_Fit n) (@g0 (Contract Try.prog))
  refine callsM_of (Try.f16.body.getD .skip) h00 Try.func16 rfl Try.call16 (Nat.le_of_ble_eq_true rfl) (Nat.le_of_ble_eq_true rfl) ?_
  unfold ref33_Put_M1 at H
  simp only [Try.f16,Option.getD]
  refine rA ?_
  refine Sm.seqK fun K2 hK2=>?_
  refine rA ?_
  refine cnd H (fun h4 H=>?_) (fun h4 H=>?_)
  · refine rA ?_
    refine Sm.ret ?_
    refine lf ?_
    obtain rfl:=Option.some.inj H
    exact rtM [some 0,some 1,some 2]
  refine Sm.skip ?_
  refine hK2 _ ?_
  obtain ⟨r1,hr1,H⟩:=bind_some H
  have q:=And.intro @xref33_Fit.eq_1 hr1
  refine rAq ?_
  refine Sm.seqK fun K7 hK7=>?_
  refine rA ?_
  refine cnd H (fun h9 H=>?_) (fun h9 H=>?_)
  · refine rA ?_
    refine Sm.ret ?_
    refine lf ?_
    obtain rfl:=Option.some.inj H
    exact rtM [some 0,some 1,some 2]
  refine Sm.skip ?_
  refine hK7 _ ?_
  refine sX fun K11 hK11=>?_
  obtain ⟨r2,hr2,H⟩:=bind_some H
  have q:=hr2
  iterate 3 refine oX ?_
  refine oMq (cref07_Store__Clear_M1 n _ _ _ _ r2 hr2) [0,1,2] [] ?_
  refine hK11 _ ?_
  refine Sm.cut (fun (x:(List Int)×(List Int))=>ref33_Put_M1_s1 x.1 x.2 at_ m) (fun x=>ref33_Put_M1_k1 n x.1 x.2 at_ m=some r) ?_ ?_
  · refine rA ?_
    refine Sm.block ?_
    obtain ⟨y15,hy15,Ho15⟩:=bind_some H
    refine Sm.loopB _ (fun x=>ref33_Put_M1_t2 r2.2 at_ size key m x.1 x.2) hy15 (wbo [some 0,some 1,some 2,some 128]) ?_
    rintro ⟨b0_3,i⟩ z15 H
    try dsimp only at H
    unfold ref33_Put_M1_b2 at H
    refine Sm.st (ref33_Put_M1_t2.eq_1 ..) ?_
    refine Sm.seqK fun K16 hK16=>?_
    refine rA ?_
    refine cnd H (fun h18 H=>?_) (fun h18 H=>?_)
    · refine Sm.skip ?_
      refine hK16 _ ?_
      refine Sm.seqK fun K19 hK19=>?_
      refine Sm.block ?_
      refine eX ?_
      obtain ⟨r4,hr4,H⟩:=bind_some H
      obtain ⟨hg20,H⟩:=gd_some H
      have q:=hr4
      iterate 5 refine oX ?_
      refine oMq (cref07_Store__SetKey_M1 n _ _ _ _ r4 hr4) [0,1,2] [] ?_
      refine opsX0 ?_
      refine hK19 _ ?_
      refine eA ?_
      refine lf ?_
      exact nx H (wbo [some 0,some 1,some 2,some 9002])
    refine Sm.exit ?_
    refine lf ?_
    refine lx H fun hyy=>?_
    subst hyy
    have H:=Ho15
    try dsimp only at H
    refine lf ?_
    exact ⟨(r2.2,b0_3),H,wbo [some 0,some 1,some 2,some 9002]⟩
  rintro ⟨b0,b0_1⟩ H
  try dsimp only at H
  unfold ref33_Put_M1_k1 at H
  refine Sm.st (ref33_Put_M1_s1.eq_1 ..) ?_
  refine sX fun K12 hK12=>?_
  obtain ⟨r3,hr3,H⟩:=bind_some H
  have q:=hr3
  iterate 3 refine oX ?_
  refine oMq (cref33_load_M1 n _ _ _ _ _ r3 hr3) [0,1,2] [] ?_
  refine hK12 _ ?_
  refine rA ?_
  refine Sm.ret ?_
  refine lf ?_
  obtain rfl:=Option.some.inj H
  exact rtM [some 0,some 1,some 2]
def store_Store__KeyOf_M1 (n:Nat) (s:List Int) (s_:List Int) (addr:Int):Option (Int×Bool) :=
  bif (decide (addr < 0)) then
    some (0,false)
  else
    gd ((!(decide (addr < 0)))=true∧(!(decide (addr < 0)))=true) <|
    bif (decide (addr ≥ ((s.length:Nat):Int))) then
      some (0,false)
    else
      gd ((0≤(IntKind.wrap .i64 (Int.tdiv addr 2048))∧(IntKind.wrap .i64 (Int.tdiv addr 2048)) < (s_.length:Int))∧(Int.toNat (IntKind.wrap .i64 (Int.tdiv addr 2048))) < s_.length) <|
      some ((gt s_ (Int.toNat (IntKind.wrap .i64 (Int.tdiv addr 2048)))),true)
theorem cstore_Store__KeyOf_M1 (n:Nat) (s:List Int) (s_:List Int) (addr:Int) (r:Int×Bool) (H:store_Store__KeyOf_M1 n s s_ addr=some r):CallsM Try.prog 28 [.ref (.box 0 0),.dat (false,[.int .i64]) [.int addr]] [.box [.own 1 [.int .u8] 0 s.length,.own 2 [.int .i64] 0 s_.length],.row 5 (List.map e_Int s),.row 3 (List.map e_Int s_)] [.c (.int .i64) (.int r.1),.c .bool (.bool r.2)] [.box [.own 1 [.int .u8] 0 s.length,.own 2 [.int .i64] 0 s_.length],.row 5 (List.map e_Int s),.row 3 (List.map e_Int s_)]:=by
  have hΓ:=@g0 (Contract Try.prog)
  refine callsM_of (Try.f28.body.getD .skip) h00 Try.func28 rfl Try.call28 (Nat.le_of_ble_eq_true rfl) (Nat.le_of_ble_eq_true rfl) ?_
  unfold store_Store__KeyOf_M1 at H
  simp only [Try.f28,Option.getD]
  refine rA ?_
  refine Sm.seqK fun K2 hK2=>?_
  refine sX fun K3 hK3=>?_
  have q:=True.intro
  refine oX ?_
  refine oE stepPN_ok ?_ (hs:=by intro K hK;simp only [z,seval,stepPN,ptT];(repeat first | refine gcI ?_ | intro (_:_≤_));exact hK)
  refine oX ?_
  refine oTG ?_
  refine oTG ?_
  refine oPr ?_
  iterate 3 refine oX ?_
  refine bif_cases H (fun hs4 H=>?_) (fun hs4 H=>?_)
  · have q:=hs4
    refine oFq ?_
    refine oFq ?_
    refine oFq ?_
    refine oFq ?_
    refine oFq ?_
    refine oPl ?_
    refine hK3 _ ?_
    refine cndT ?_
    refine rA ?_
    refine Sm.ret ?_
    refine lf ?_
    obtain rfl:=Option.some.inj H
    exact rtM [some 0,some 1,some 2]
  obtain ⟨⟨hg7,hg8⟩,H⟩:=gd_some H
  have q:=hs4
  refine oTE stepZ_ok ?_
  refine oTG ?_
  refine oTG ?_
  refine oTG ?_
  refine oTG ?_
  refine oPr ?_
  refine hK3 _ ?_
  refine cnd H (fun h9 H=>?_) (fun h9 H=>?_)
  · refine rA ?_
    refine Sm.ret ?_
    refine lf ?_
    obtain rfl:=Option.some.inj H
    exact rtM [some 0,some 1,some 2]
  refine Sm.skip ?_
  refine hK2 _ ?_
  refine sX fun K11 hK11=>?_
  obtain ⟨⟨hg12,hg13⟩,H⟩:=gd_some H
  refine oX ?_
  refine oE stepZ_ok ?_
  iterate 8 refine oX ?_
  refine hK11 _ ?_
  refine Sm.ret ?_
  refine lf ?_
  obtain rfl:=Option.some.inj H
  exact rtM [some 0,some 1,some 2]
def ref07_Store__KeyOf_M1 (n:Nat) (s:List Int) (s_:List Int) (addr:Int):Option (Int×Bool) :=
  bif (decide (addr < 0)) then
    some (0,false)
  else
    gd ((!(decide (addr < 0)))=true∧(!(decide (addr < 0)))=true) <|
    bif (decide (addr ≥ ((s.length:Nat):Int))) then
      some (0,false)
    else
      gd ((0≤(IntKind.wrap .i64 (Int.tdiv addr 2048))∧(IntKind.wrap .i64 (Int.tdiv addr 2048)) < (s_.length:Int))∧(Int.toNat (IntKind.wrap .i64 (Int.tdiv addr 2048))) < s_.length) <|
      some ((gt s_ (Int.toNat (IntKind.wrap .i64 (Int.tdiv addr 2048)))),true)
theorem cref07_Store__KeyOf_M1 (n:Nat) (s:List Int) (s_:List Int) (addr:Int) (r:Int×Bool) (H:ref07_Store__KeyOf_M1 n s s_ addr=some r):CallsM Try.prog 39 [.ref (.box 0 0),.dat (false,[.int .i64]) [.int addr]] [.box [.own 1 [.int .u8] 0 s.length,.own 2 [.int .i64] 0 s_.length],.row 5 (List.map e_Int s),.row 3 (List.map e_Int s_)] [.c (.int .i64) (.int r.1),.c .bool (.bool r.2)] [.box [.own 1 [.int .u8] 0 s.length,.own 2 [.int .i64] 0 s_.length],.row 5 (List.map e_Int s),.row 3 (List.map e_Int s_)]:=by
  have hΓ:=@g0 (Contract Try.prog)
  refine callsM_of (Try.f39.body.getD .skip) h00 Try.func39 rfl Try.call39 (Nat.le_of_ble_eq_true rfl) (Nat.le_of_ble_eq_true rfl) ?_
  unfold ref07_Store__KeyOf_M1 at H
  simp only [Try.f39,Option.getD]
  refine rA ?_
  refine Sm.seqK fun K2 hK2=>?_
  refine sX fun K3 hK3=>?_
  iterate 5 refine oX ?_
  refine bif_cases H (fun hs4 H=>?_) (fun hs4 H=>?_)
  · have q:=hs4
    refine oFq ?_
    refine oFq ?_
    refine oFq ?_
    refine oFq ?_
    refine oFq ?_
    refine oPl ?_
    refine hK3 _ ?_
    refine cndT ?_
    refine rA ?_
    refine Sm.ret ?_
    refine lf ?_
    obtain rfl:=Option.some.inj H
    exact rtM [some 0,some 1,some 2]
  obtain ⟨⟨hg7,hg8⟩,H⟩:=gd_some H
  have q:=hs4
  refine oTE stepZ_ok ?_
  refine oTG ?_
  refine oTG ?_
  refine oTG ?_
  refine oTG ?_
  refine oPr ?_
  refine hK3 _ ?_
  refine cnd H (fun h9 H=>?_) (fun h9 H=>?_)
  · refine rA ?_
    refine Sm.ret ?_
    refine lf ?_
    obtain rfl:=Option.some.inj H
    exact rtM [some 0,some 1,some 2]
  refine Sm.skip ?_
  refine hK2 _ ?_
  refine sX fun K11 hK11=>?_
  obtain ⟨⟨hg12,hg13⟩,H⟩:=gd_some H
  refine oX ?_
  refine oE stepZ_ok ?_
  iterate 8 refine oX ?_
  refine hK11 _ ?_
  refine Sm.ret ?_
  refine lf ?_
  obtain rfl:=Option.some.inj H
  exact rtM [some 0,some 1,some 2]
def store_Store__Bytes_M1 (n:Nat) (s:List Int) (s_:List Int) (addr:Int) (n_:Int):Option (List Int) :=
  (store_Store__in_M1 n s s_ addr n_).bind fun r1 =>
  bif (!r1) then
    some []
  else
    gd ((0≤n_∧n_≤n_∧n_≤2147483648)) <|
    gd ((0≤addr∧addr≤(s.length:Int)∧(s.length:Int)≤(s.length:Int))∧(Int.toNat n_)≤(Int.toNat n_)) <|
    some (overL (zreps (Int.toNat n_) 0) 0 (List.take (Int.toNat n_) (List.take (Int.toNat ((s.length:Int) - addr)) (List.drop (Int.toNat addr) s))))
theorem cstore_Store__Bytes_M1 (n:Nat) (s:List Int) (s_:List Int) (addr:Int) (n_:Int) (r:(List Int)) (H:store_Store__Bytes_M1 n s s_ addr n_=some r):CallsM Try.prog 23 [.ref (.box 0 0),.dat (false,[.int .i64]) [.int addr],.dat (false,[.int .i64]) [.int n_]] [.box [.own 1 [.int .u8] 0 s.length,.own 2 [.int .i64] 0 s_.length],.row 5 (List.map e_Int s),.row 3 (List.map e_Int s_)] [.own 3 [.int .u8] 0 r.length] [.box [.own 1 [.int .u8] 0 s.length,.own 2 [.int .i64] 0 s_.length],.row 5 (List.map e_Int s),.row 3 (List.map e_Int s_),.row 5 (List.map e_Int r)]:=by
  have hΓ:=@g0 (Contract Try.prog)
  refine callsM_of (Try.f23.body.getD .skip) h00 Try.func23 rfl Try.call23 (Nat.le_of_ble_eq_true rfl) (Nat.le_of_ble_eq_true rfl) ?_
  unfold store_Store__Bytes_M1 at H
  simp only [Try.f23,Option.getD]
  refine rA ?_
  refine Sm.seqK fun K2 hK2=>?_
  refine sX fun K3 hK3=>?_
  obtain ⟨r1,hr1,H⟩:=bind_some H
  have q:=hr1
  refine oX ?_
  refine oE stepPN_ok ?_ (hs:=by intro K hK;simp only [z,seval,stepPN,ptT];(repeat first | refine gcI ?_ | intro (_:_≤_));exact hK)
  refine oX ?_
  refine oTG ?_
  refine oTG ?_
  refine oTG ?_
  refine oTM (cstore_Store__in_M1 n _ _ _ _ r1 hr1) [0,1,2] [] ?_
  refine oTG ?_
  refine oPr ?_
  refine hK3 _ ?_
  refine cnd H (fun h4 H=>?_) (fun h4 H=>?_)
  · refine rA ?_
    refine Sm.ret ?_
    refine lf ?_
    obtain rfl:=Option.some.inj H
    exact rtM [some 0,some 1,some 2,none]
  refine Sm.skip ?_
  refine hK2 _ ?_
  refine sX fun K6 hK6=>?_
  obtain ⟨hg7,H⟩:=gd_some H
  refine oX ?_
  refine oY ?_
  refine oX ?_
  refine hK6 _ ?_
  refine sX fun K8 hK8=>?_
  obtain ⟨⟨hg9,hg10⟩,H⟩:=gd_some H
  iterate 2 refine oX ?_
  refine oE stepZ_ok ?_
  iterate 4 refine oX ?_
  refine oE stepV_ok ?_
  refine hK8 _ ?_
  refine rA ?_
  refine Sm.ret ?_
  refine lf ?_
  obtain rfl:=Option.some.inj H
  exact rtM [some 0,some 1,some 2,some 288]
def ref07_Store__Bytes_M1 (n:Nat) (s:List Int) (s_:List Int) (addr:Int) (n_:Int):Option (List Int) :=
  (ref07_Store__In_M1 n s s_ addr n_).bind fun r1 =>
  bif (!r1) then
    some []
  else
    gd ((0≤addr∧addr≤(IntKind.wrap .i64 (addr+n_))∧(IntKind.wrap .i64 (addr+n_))≤(s.length:Int))∧(List.take (Int.toNat ((IntKind.wrap .i64 (addr+n_)) - addr)) (List.drop (Int.toNat addr) s)).length≤2147483648) <|
    some (List.take (Int.toNat ((IntKind.wrap .i64 (addr+n_)) - addr)) (List.drop (Int.toNat addr) s))
theorem cref07_Store__Bytes_M1 (n:Nat) (s:List Int) (s_:List Int) (addr:Int) (n_:Int) (r:(List Int)) (H:ref07_Store__Bytes_M1 n s s_ addr n_=some r):CallsM Try.prog 40 [.ref (.box 0 0),.dat (false,[.int .i64]) [.int addr],.dat (false,[.int .i64]) [.int n_]] [.box [.own 1 [.int .u8] 0 s.length,.own 2 [.int .i64] 0 s_.length],.row 5 (List.map e_Int s),.row 3 (List.map e_Int s_)] [.own 3 [.int .u8] 0 r.length] [.box [.own 1 [.int .u8] 0 s.length,.own 2 [.int .i64] 0 s_.length],.row 5 (List.map e_Int s),.row 3 (List.map e_Int s_),.row 5 (List.map e_Int r)]:=by
  have hΓ:=@g0 (Contract Try.prog)
  refine callsM_of (Try.f40.body.getD .skip) h00 Try.func40 rfl Try.call40 (Nat.le_of_ble_eq_true rfl) (Nat.le_of_ble_eq_true rfl) ?_
  unfold ref07_Store__Bytes_M1 at H
  simp only [Try.f40,Option.getD]
  refine rA ?_
  refine Sm.seqK fun K2 hK2=>?_
  refine sX fun K3 hK3=>?_
  obtain ⟨r1,hr1,H⟩:=bind_some H
  have q:=hr1
  iterate 3 refine oX ?_
  refine oMq (cref07_Store__In_M1 n _ _ _ _ r1 hr1) [0,1,2] [] ?_
  refine oXq ?_
  refine hK3 _ ?_
  refine cnd H (fun h4 H=>?_) (fun h4 H=>?_)
  · refine rA ?_
    refine Sm.ret ?_
    refine lf ?_
    obtain rfl:=Option.some.inj H
    exact rtM [some 0,some 1,some 2,none]
  refine Sm.skip ?_
  refine hK2 _ ?_
  refine sX fun K6 hK6=>?_
  obtain ⟨⟨hg7,hg8⟩,H⟩:=gd_some H
  iterate 2 refine oX ?_
  refine oE stepZ_ok ?_
  iterate 9 refine oX ?_
  refine hK6 _ ?_
  refine Sm.ret ?_
  refine lf ?_
  obtain rfl:=Option.some.inj H
  exact rtM [some 0,some 1,some 2,some 352]
abbrev law08_SameBytes_s1:S:=stB [] []
def law08_SameBytes_k1 (n:Nat):Option Bool :=
  some true
abbrev law08_SameBytes_t2 (a:List Int) (b:List Int) (i:Int):S:=stB [(0,.c (.slice 5) (.slice (List.map e_Int a))),(1,.c (.slice 5) (.slice (List.map e_Int b))),(5,.c (.int .i64) (.int i))] []
def law08_SameBytes_b2 (n:Nat) (a:List Int) (b:List Int) (i:Int):Option ((Int) ⊕ (((Bool) ⊕ (Unit)))) :=
  bif (decide (i < (a.length:Int))) then
    gd ((0≤i∧i < (a.length:Int))∧(0≤i∧i < (b.length:Int))) <|
    bif ((gt a (Int.toNat i)) != (gt b (Int.toNat i))) then
      some (.inr (.inl false))
    else
      some (.inl (IntKind.wrap .i64 (i+1)))
  else
    some (.inr (.inr ()))
def law08_SameBytes (n:Nat) (a:List Int) (b:List Int):Option Bool :=
  bif ((a.length:Int) != (b.length:Int)) then
    some false
  else
    (loopF (fun (x:Int)=>law08_SameBytes_b2 n a b x) n 0).bind fun y8 =>
    match y8 with
    | .inl vv =>
      some vv
    | .inr vv =>
      law08_SameBytes_k1 n
def xlaw08_SameBytes (n:Nat):Go.AE.Fn:=mkFn (A:=(List Int)×(List Int)) (R:=Bool) 22 [(false,[.slice 5]),(false,[.slice 5])] false (fun xs=>(((cg (xs.getD 0 []) 0).toSl.map d_Int),((cg (xs.getD 1 []) 0).toSl.map d_Int))) (fun a=>[[.slice (List.map e_Int a.1)],[.slice (List.map e_Int a.2)]]) (fun a=>law08_SameBytes n a.1 a.2) (fun r=>[.c .bool (.bool r)]) (fun r=>[])
theorem claw08_SameBytes (n:Nat):Contract Try.prog (xlaw08_SameBytes n):=by
  have hΓ:=@g0 (Contract Try.prog)
  refine contract_f (Try.f22.body.getD .skip) h00 Try.func22 rfl Try.call22 (by decide) (by intro _ r;exact ⟨rfl,by simp⟩) ?_
  rintro ⟨a,b⟩ r H
  try dsimp only at H
  unfold law08_SameBytes at H
  simp only [Try.f22,Option.getD]
  refine rA ?_
  refine Sm.seqK fun K2 hK2=>?_
  refine rA ?_
  refine cnd H (fun h4 H=>?_) (fun h4 H=>?_)
  · refine rA ?_
    refine Sm.ret ?_
    refine lf ?_
    obtain rfl:=Option.some.inj H
    exact rt []
  refine Sm.skip ?_
  refine hK2 _ ?_
  refine Sm.cut (fun (x:Unit)=>law08_SameBytes_s1) (fun x=>law08_SameBytes_k1 n=some r) ?_ ?_
  · refine rA ?_
    refine Sm.block ?_
    obtain ⟨y8,hy8,Ho8⟩:=bind_some H
    refine Sm.loopB _ (fun x=>law08_SameBytes_t2 a b x) hy8 (wb []) ?_
    rintro i z8 H
    try dsimp only at H
    unfold law08_SameBytes_b2 at H
    refine Sm.st (law08_SameBytes_t2.eq_1 ..) ?_
    refine Sm.seqK fun K9 hK9=>?_
    refine rA ?_
    refine cnd H (fun h11 H=>?_) (fun h11 H=>?_)
    · refine Sm.skip ?_
      refine hK9 _ ?_
      refine Sm.seqK fun K12 hK12=>?_
      refine Sm.block ?_
      obtain ⟨⟨hg16,hg17⟩,H⟩:=gd_some H
      refine rD ?_
      refine cnd H (fun h14 H=>?_) (fun h14 H=>?_)
      · refine rA ?_
        refine Sm.ret ?_
        refine lf ?_
        refine lx H fun hyy=>?_
        subst hyy
        have H:=Ho8
        try dsimp only at H
        refine lf ?_
        obtain rfl:=Option.some.inj H
        exact rt []
      refine Sm.skip ?_
      refine hK12 _ ?_
      refine eA ?_
      refine lf ?_
      exact nx H (wb [])
    refine Sm.exit ?_
    refine lf ?_
    refine lx H fun hyy=>?_
    subst hyy
    have H:=Ho8
    try dsimp only at H
    refine lf ?_
    exact ⟨(),H,wb []⟩
  rintro ⟨⟩ H
  try dsimp only at H
  unfold law08_SameBytes_k1 at H
  refine Sm.st (law08_SameBytes_s1.eq_1 ..) ?_
  refine rA ?_
  refine Sm.ret ?_
  refine lf ?_
  obtain rfl:=Option.some.inj H
  exact rt []
abbrev law33_same_M1_s1 (s:List Int) (s_:List Int) (x_:List Int) (x__:List Int) (n_:Int):S:=stB [(0,.box 0 0),(1,.box 3 0),(2,.c (.int .i64) (.int n_))] [(0,.box [.own 1 [.int .u8] 0 s.length,.own 2 [.int .i64] 0 s_.length]),(1,.row 5 (List.map e_Int s)),(2,.row 3 (List.map e_Int s_)),(3,.box [.own 4 [.int .u8] 0 x_.length,.own 5 [.int .i64] 0 x__.length]),(4,.row 5 (List.map e_Int x_)),(5,.row 3 (List.map e_Int x__))]
def law33_same_M1_k1 (n:Nat) (s:List Int) (s_:List Int) (x_:List Int) (x__:List Int) (n_:Int):Option Bool :=
  (store_Store__Bytes_M1 n s s_ 0 n_).bind fun r1 =>
  (ref07_Store__Bytes_M1 n x_ x__ 0 n_).bind fun r2 =>
  (law08_SameBytes n r1 r2).bind fun r3 =>
  some r3
abbrev law33_same_M1_t2 (s:List Int) (s_:List Int) (x_:List Int) (x__:List Int) (n_:Int) (i:Int):S:=stB [(0,.box 0 0),(1,.box 3 0),(2,.c (.int .i64) (.int n_)),(7,.c (.int .i64) (.int i))] [(0,.box [.own 1 [.int .u8] 0 s.length,.own 2 [.int .i64] 0 s_.length]),(1,.row 5 (List.map e_Int s)),(2,.row 3 (List.map e_Int s_)),(3,.box [.own 4 [.int .u8] 0 x_.length,.own 5 [.int .i64] 0 x__.length]),(4,.row 5 (List.map e_Int x_)),(5,.row 3 (List.map e_Int x__))]
def law33_same_M1_b2 (n:Nat) (s:List Int) (s_:List Int) (x_:List Int) (x__:List Int) (n_:Int) (i:Int):Option ((Int) ⊕ (((Bool) ⊕ (Unit)))) :=
  bif (decide (i < n_)) then
    (store_Store__KeyOf_M1 n s s_ i).bind fun r4 =>
    (ref07_Store__KeyOf_M1 n x_ x__ i).bind fun r5 =>
    bif (r4.1 != r5.1) then
      some (.inr (.inl false))
    else
      some (.inl (IntKind.wrap .i64 (i+2048)))
  else
    some (.inr (.inr ()))
def law33_same_M1 (n:Nat) (s:List Int) (s_:List Int) (x_:List Int) (x__:List Int) (n_:Int):Option Bool :=
  (loopF (fun (x:Int)=>law33_same_M1_b2 n s s_ x_ x__ n_ x) n 0).bind fun y4 =>
  match y4 with
  | .inl vv =>
    some vv
  | .inr vv =>
    law33_same_M1_k1 n s s_ x_ x__ n_
theorem claw33_same_M1 (n:Nat) (s:List Int) (s_:List Int) (x_:List Int) (x__:List Int) (n_:Int) (r:Bool) (H:law33_same_M1 n s s_ x_ x__ n_=some r):CallsM Try.prog 17 [.ref (.box 0 0),.ref (.box 3 0),.dat (false,[.int .i64]) [.int n_]] [.box [.own 1 [.int .u8] 0 s.length,.own 2 [.int .i64] 0 s_.length],.row 5 (List.map e_Int s),.row 3 (List.map e_Int s_),.box [.own 4 [.int .u8] 0 x_.length,.own 5 [.int .i64] 0 x__.length],.row 5 (List.map e_Int x_),.row 3 (List.map e_Int x__)] [.c .bool (.bool r)] [.box [.own 1 [.int .u8] 0 s.length,.own 2 [.int .i64] 0 s_.length],.row 5 (List.map e_Int s),.row 3 (List.map e_Int s_),.box [.own 4 [.int .u8] 0 x_.length,.own 5 [.int .i64] 0 x__.length],.row 5 (List.map e_Int x_),.row 3 (List.map e_Int x__)]:=by
  have hΓ:=g1 (claw08_SameBytes n) (@g0 (Contract Try.prog))
  refine callsM_of (Try.f17.body.getD .skip) h00 Try.func17 rfl Try.call17 (Nat.le_of_ble_eq_true rfl) (Nat.le_of_ble_eq_true rfl) ?_
  unfold law33_same_M1 at H
  simp only [Try.f17,Option.getD]
  refine rA ?_
  refine Sm.cut (fun (x:Unit)=>law33_same_M1_s1 s s_ x_ x__ n_) (fun x=>law33_same_M1_k1 n s s_ x_ x__ n_=some r) ?_ ?_
  · refine rA ?_
    refine Sm.block ?_
    obtain ⟨y4,hy4,Ho4⟩:=bind_some H
    refine Sm.loopB _ (fun x=>law33_same_M1_t2 s s_ x_ x__ n_ x) hy4 (wb [some 0,some 1,some 2,some 3,some 4,some 5]) ?_
    rintro i z4 H
    try dsimp only at H
    unfold law33_same_M1_b2 at H
    refine Sm.st (law33_same_M1_t2.eq_1 ..) ?_
    refine Sm.seqK fun K5 hK5=>?_
    refine rA ?_
    refine cnd H (fun h7 H=>?_) (fun h7 H=>?_)
    · refine Sm.skip ?_
      refine hK5 _ ?_
      refine Sm.seqK fun K8 hK8=>?_
      refine Sm.block ?_
      refine sX fun K9 hK9=>?_
      obtain ⟨r4,hr4,H⟩:=bind_some H
      have q:=hr4
      iterate 2 refine oX ?_
      refine oMq (cstore_Store__KeyOf_M1 n _ _ _ r4 hr4) [0,1,2] [] ?_
      iterate 5 refine oXq ?_
      refine hK9 _ ?_
      refine sX fun K10 hK10=>?_
      obtain ⟨r5,hr5,H⟩:=bind_some H
      have q:=hr5
      iterate 2 refine oX ?_
      refine oMq (cref07_Store__KeyOf_M1 n _ _ _ r5 hr5) [3,4,5] [] ?_
      iterate 5 refine oXq ?_
      refine hK10 _ ?_
      refine rA ?_
      refine cnd H (fun h12 H=>?_) (fun h12 H=>?_)
      · refine rA ?_
        refine Sm.ret ?_
        refine lf ?_
        refine lx H fun hyy=>?_
        subst hyy
        have H:=Ho4
        try dsimp only at H
        refine lf ?_
        obtain rfl:=Option.some.inj H
        exact rtM [some 0,some 1,some 2,some 3,some 4,some 5]
      refine Sm.skip ?_
      refine hK8 _ ?_
      refine eA ?_
      refine lf ?_
      exact nx H (wb [some 0,some 1,some 2,some 3,some 4,some 5])
    refine Sm.exit ?_
    refine lf ?_
    refine lx H fun hyy=>?_
    subst hyy
    have H:=Ho4
    try dsimp only at H
    refine lf ?_
    exact ⟨(),H,wb [some 0,some 1,some 2,some 3,some 4,some 5]⟩
  rintro ⟨⟩ H
  try dsimp only at H
  unfold law33_same_M1_k1 at H
  refine Sm.st (law33_same_M1_s1.eq_1 ..) ?_
  refine sX fun K2 hK2=>?_
  obtain ⟨r1,hr1,H⟩:=bind_some H
  obtain ⟨r2,hr2,H⟩:=bind_some H
  obtain ⟨r3,hr3,H⟩:=bind_some H
  have q:=And.intro @xlaw08_SameBytes.eq_1 (And.intro hr1 (And.intro hr2 hr3))
  iterate 2 refine oXq ?_
  refine oMq (cstore_Store__Bytes_M1 n _ _ _ _ r1 hr1) [0,1,2] [544] ?_
  iterate 2 refine oXq ?_
  refine oMq (cref07_Store__Bytes_M1 n _ _ _ _ r2 hr2) [3,4,5] [592] ?_
  iterate 2 refine oXq ?_
  refine hK2 _ ?_
  refine Sm.ret ?_
  refine lf ?_
  obtain rfl:=Option.some.inj H
  exact rtM [some 0,some 1,some 2,some 3,some 4,some 5]
def fetch_Segment_1_M1 (n:Nat) (n_:Int) (p1:List Int) (p1_:List TReloc) (p1__:List TSegment) (p1___:Int):Option Bool :=
  some (if (decide (n_ < 0))=true then true else (decide (n_ ≥ (p1__.length:Int))))
theorem cfetch_Segment_1_M1 (n:Nat) (n_:Int) (p1:List Int) (p1_:List TReloc) (p1__:List TSegment) (p1___:Int) (r:Bool) (H:fetch_Segment_1_M1 n n_ p1 p1_ p1__ p1___=some r):CallsM Try.prog 41 [.dat (false,[.int .i64]) [.int n_],.ref (.box 0 0)] [.box [.c (.slice 5) (.slice (List.map e_Int p1)),.c (.slice 58) (.slice (List.map e_TReloc p1_)),.c (.slice 52) (.slice (List.map e_TSegment p1__)),.c (.int .i64) (.int p1___)]] [.c .bool (.bool r)] [.box [.c (.slice 5) (.slice (List.map e_Int p1)),.c (.slice 58) (.slice (List.map e_TReloc p1_)),.c (.slice 52) (.slice (List.map e_TSegment p1__)),.c (.int .i64) (.int p1___)]]:=by
  have hΓ:=@g0 (Contract Try.prog)
  refine callsM_of (Try.f41.body.getD .skip) h00 Try.func41 rfl Try.call41 (Nat.le_of_ble_eq_true rfl) (Nat.le_of_ble_eq_true rfl) ?_
  unfold fetch_Segment_1_M1 at H
  simp only [Try.f41,Option.getD]
  refine rA ?_
  refine rA ?_
  refine Sm.ret ?_
  refine lf ?_
  obtain rfl:=Option.some.inj H
  exact rtM [some 0]
abbrev slices_IndexFunc_f63_M1_s1 (f:List Int) (f_:List TReloc) (f__:List TSegment) (f___:Int):S:=stB [] [(0,.box [.c (.slice 5) (.slice (List.map e_Int f)),.c (.slice 58) (.slice (List.map e_TReloc f_)),.c (.slice 52) (.slice (List.map e_TSegment f__)),.c (.int .i64) (.int f___)])]
def slices_IndexFunc_f63_M1_k1 (n:Nat) (f:List Int) (f_:List TReloc) (f__:List TSegment) (f___:Int):Option Int :=
  some (-1)
abbrev slices_IndexFunc_f63_M1_t2 (f:List Int) (f_:List TReloc) (f__:List TSegment) (f___:Int) (s:List Int) (v7:Int) (v8:Int):S:=stB [(0,.c (.slice 3) (.slice (List.map e_Int s))),(1,.fnv 41 [.box 0 0]),(7,.c (.int .i64) (.int v7)),(8,.c (.int .i64) (.int v8))] [(0,.box [.c (.slice 5) (.slice (List.map e_Int f)),.c (.slice 58) (.slice (List.map e_TReloc f_)),.c (.slice 52) (.slice (List.map e_TSegment f__)),.c (.int .i64) (.int f___)])]
def slices_IndexFunc_f63_M1_b2 (n:Nat) (f:List Int) (f_:List TReloc) (f__:List TSegment) (f___:Int) (s:List Int) (v7:Int) (v8:Int):Option ((Int) ⊕ (((Int) ⊕ (Unit)))) :=
  bif (decide (v8 < v7)) then
    gd ((0≤v8∧v8 < (s.length:Int))) <|
    (fetch_Segment_1_M1 n (gt s (Int.toNat v8)) f f_ f__ f___).bind fun r1 =>
    bif r1 then
      some (.inr (.inl v8))
    else
      some (.inl (IntKind.wrap .i64 (v8+1)))
  else
    some (.inr (.inr ()))
def slices_IndexFunc_f63_M1 (n:Nat) (s:List Int) (f:List Int) (f_:List TReloc) (f__:List TSegment) (f___:Int):Option Int :=
  (loopF (fun (x:Int)=>slices_IndexFunc_f63_M1_b2 n f f_ f__ f___ s (s.length:Int) x) n 0).bind fun y4 =>
  match y4 with
  | .inl vv =>
    some vv
  | .inr vv =>
    slices_IndexFunc_f63_M1_k1 n f f_ f__ f___
theorem cslices_IndexFunc_f63_M1 (n:Nat) (s:List Int) (f:List Int) (f_:List TReloc) (f__:List TSegment) (f___:Int) (r:Int) (H:slices_IndexFunc_f63_M1 n s f f_ f__ f___=some r):CallsM Try.prog 63 [.dat (false,[.slice 3]) [.slice (List.map e_Int s)],.ref (.fnv 41 [.box 0 0])] [.box [.c (.slice 5) (.slice (List.map e_Int f)),.c (.slice 58) (.slice (List.map e_TReloc f_)),.c (.slice 52) (.slice (List.map e_TSegment f__)),.c (.int .i64) (.int f___)]] [.c (.int .i64) (.int r)] [.box [.c (.slice 5) (.slice (List.map e_Int f)),.c (.slice 58) (.slice (List.map e_TReloc f_)),.c (.slice 52) (.slice (List.map e_TSegment f__)),.c (.int .i64) (.int f___)]]:=by
  have hΓ:=@g0 (Contract Try.prog)
  refine callsM_of (Try.f63.body.getD .skip) h00 Try.func63 rfl Try.call63 (Nat.le_of_ble_eq_true rfl) (Nat.le_of_ble_eq_true rfl) ?_
  unfold slices_IndexFunc_f63_M1 at H
  simp only [Try.f63,Option.getD]
  refine rA ?_
  refine Sm.cut (fun (x:Unit)=>slices_IndexFunc_f63_M1_s1 f f_ f__ f___) (fun x=>slices_IndexFunc_f63_M1_k1 n f f_ f__ f___=some r) ?_ ?_
  · refine rA ?_
    refine Sm.block ?_
    obtain ⟨y4,hy4,Ho4⟩:=bind_some H
    refine Sm.loopB _ (fun x=>slices_IndexFunc_f63_M1_t2 f f_ f__ f___ s (s.length:Int) x) hy4 (wb [some 0]) ?_
    rintro v8 z4 H
    try dsimp only at H
    unfold slices_IndexFunc_f63_M1_b2 at H
    refine Sm.st (slices_IndexFunc_f63_M1_t2.eq_1 ..) ?_
    refine rA ?_
    refine Sm.seqK fun K6 hK6=>?_
    refine cnd H (fun h7 H=>?_) (fun h7 H=>?_)
    · refine Sm.skip ?_
      refine hK6 _ ?_
      refine Sm.seqK fun K8 hK8=>?_
      refine Sm.block ?_
      refine rA ?_
      refine sX fun K10 hK10=>?_
      obtain ⟨hg11,H⟩:=gd_some H
      obtain ⟨r1,hr1,H⟩:=bind_some H
      have q:=hr1
      iterate 5 refine oX ?_
      refine oMq (cfetch_Segment_1_M1 n _ _ _ _ _ r1 hr1) [0] [] ?_
      refine hK10 _ ?_
      refine cnd H (fun h12 H=>?_) (fun h12 H=>?_)
      · refine rA ?_
        refine Sm.ret ?_
        refine lf ?_
        refine lx H fun hyy=>?_
        subst hyy
        have H:=Ho4
        try dsimp only at H
        refine lf ?_
        obtain rfl:=Option.some.inj H
        exact rtM [some 0]
      refine Sm.skip ?_
      refine hK8 _ ?_
      refine eA ?_
      refine lf ?_
      exact nx H (wb [some 0])
    refine Sm.exit ?_
    refine lf ?_
    refine lx H fun hyy=>?_
    subst hyy
    have H:=Ho4
    try dsimp only at H
    refine lf ?_
    exact ⟨(),H,wb [some 0]⟩
  rintro ⟨⟩ H
  try dsimp only at H
  unfold slices_IndexFunc_f63_M1_k1 at H
  refine Sm.st (slices_IndexFunc_f63_M1_s1.eq_1 ..) ?_
  refine rA ?_
  refine Sm.ret ?_
  refine lf ?_
  obtain rfl:=Option.some.inj H
  exact rtM [some 0]
def slices_ContainsFunc_f42_M1 (n:Nat) (s:List Int) (f:List Int) (f_:List TReloc) (f__:List TSegment) (f___:Int):Option Bool :=
  (slices_IndexFunc_f63_M1 n s f f_ f__ f___).bind fun r1 =>
  some (decide (r1 ≥ 0))
theorem cslices_ContainsFunc_f42_M1 (n:Nat) (s:List Int) (f:List Int) (f_:List TReloc) (f__:List TSegment) (f___:Int) (r:Bool) (H:slices_ContainsFunc_f42_M1 n s f f_ f__ f___=some r):CallsM Try.prog 42 [.dat (false,[.slice 3]) [.slice (List.map e_Int s)],.ref (.fnv 41 [.box 0 0])] [.box [.c (.slice 5) (.slice (List.map e_Int f)),.c (.slice 58) (.slice (List.map e_TReloc f_)),.c (.slice 52) (.slice (List.map e_TSegment f__)),.c (.int .i64) (.int f___)]] [.c .bool (.bool r)] [.box [.c (.slice 5) (.slice (List.map e_Int f)),.c (.slice 58) (.slice (List.map e_TReloc f_)),.c (.slice 52) (.slice (List.map e_TSegment f__)),.c (.int .i64) (.int f___)]]:=by
  have hΓ:=@g0 (Contract Try.prog)
  refine callsM_of (Try.f42.body.getD .skip) h00 Try.func42 rfl Try.call42 (Nat.le_of_ble_eq_true rfl) (Nat.le_of_ble_eq_true rfl) ?_
  unfold slices_ContainsFunc_f42_M1 at H
  simp only [Try.f42,Option.getD]
  refine rA ?_
  refine sX fun K2 hK2=>?_
  obtain ⟨r1,hr1,H⟩:=bind_some H
  have q:=hr1
  iterate 2 refine oX ?_
  refine oMq (cslices_IndexFunc_f63_M1 n _ _ _ _ _ r1 hr1) [0] [] ?_
  iterate 2 refine oXq ?_
  refine hK2 _ ?_
  refine Sm.ret ?_
  refine lf ?_
  obtain rfl:=Option.some.inj H
  exact rtM [some 0]
def maps_Keys_f47_M1 (n:Nat) (m:List (Int×Bool)):Option Unit :=
  some ()
theorem cmaps_Keys_f47_M1 (n:Nat) (m:List (Int×Bool)) (r:Unit) (H:maps_Keys_f47_M1 n m=some r):CallsM Try.prog 47 [.ref (.mref 0)] [.mp (.int .i64) (false,[.bool]) (List.map em_Int_Bool m)] [.fnv 67 [.box 1 0]] [.mp (.int .i64) (false,[.bool]) (List.map em_Int_Bool m),.box [.mref 0]]:=by
  have hΓ:=@g0 (Contract Try.prog)
  refine callsM_of (Try.f47.body.getD .skip) h00 Try.func47 rfl Try.call47 (Nat.le_of_ble_eq_true rfl) (Nat.le_of_ble_eq_true rfl) ?_
  unfold maps_Keys_f47_M1 at H
  simp only [Try.f47,Option.getD]
  refine rA ?_
  refine sX fun K2 hK2=>?_
  refine oY ?_
  refine oX ?_
  refine hK2 _ ?_
  refine Sm.ret ?_
  refine lf ?_
  obtain rfl:=Option.some.inj H
  exact rtM [some 0,some 16]
abbrev ref32_Path_s1 (out:List Int):S:=stB [(6,.own 9000 [.int .i64] 0 out.length)] [(9000,.row 3 (List.map e_Int out))]
def ref32_Path_k1 (n:Nat) (out:List Int):Option ((List Int)×Bool) :=
  some (out,true)
abbrev ref32_Path_t2 (m:TLoad) (n__1:Int) (out_1:List Int):S:=stB [(1,.c (.int .i64) (.int n__1)),(2,.box 9004 0),(6,.own 9005 [.int .i64] 0 out_1.length)] [(9004,.box [.c (.slice 5) (.slice (List.map e_Int m.Text)),.c (.slice 58) (.slice (List.map e_TReloc m.Relocs)),.c (.slice 52) (.slice (List.map e_TSegment m.Segments)),.c (.int .i64) (.int m.Entry)]),(9005,.row 3 (List.map e_Int out_1))]
def ref32_Path_b2 (n:Nat) (m:TLoad) (n__1:Int) (out_1:List Int):Option ((Int×(List Int)) ⊕ (((List Int)))) :=
  bif (decide (n__1 ≥ 0)) then
    gd ((1+out_1.length)≤2147483648) <|
    gd ((0≤n__1∧n__1 < (m.Segments.length:Int))) <|
    some (.inl ((gt m.Segments (Int.toNat n__1)).Parent,([n__1] ++ out_1)))
  else
    some (.inr out_1)
def ref32_Path (n:Nat) (m:TLoad) (n_:Int):Option ((List Int)×Bool) :=
  (ref31_CheckLoad n m).bind fun r1 =>
  bif (if (if (!r1)=true then true else (decide (n_ < 0)))=true then true else (decide (n_ ≥ (m.Segments.length:Int)))) then
    some ([],false)
  else
    (loopF (fun (x:Int×(List Int))=>ref32_Path_b2 n m x.1 x.2) n (n_,[])).bind fun y8 =>
    ref32_Path_k1 n y8
def xref32_Path (n:Nat):Go.AE.Fn:=mkFn (A:=TLoad×Int) (R:=(List Int)×Bool) 48 [(true,[.slice 5,.slice 58,.slice 52,.int .i64]),(false,[.int .i64])] false (fun xs=>((⟨((cg (xs.getD 0 []) 0).toSl.map d_Int),((cg (xs.getD 0 []) 1).toSl.map d_TReloc),((cg (xs.getD 0 []) 2).toSl.map d_TSegment),(cg (xs.getD 0 []) 3).toInt⟩:TLoad),(cg (xs.getD 1 []) 0).toInt)) (fun a=>[[.slice (List.map e_Int a.1.Text),.slice (List.map e_TReloc a.1.Relocs),.slice (List.map e_TSegment a.1.Segments),.int a.1.Entry],[.int a.2]]) (fun a=>ref32_Path n a.1 a.2) (fun r=>[.own 0 [.int .i64] 0 r.1.length,.c .bool (.bool r.2)]) (fun r=>[.row 3 (List.map e_Int r.1)])
theorem cref32_Path (n:Nat):Contract Try.prog (xref32_Path n):=by
  have hΓ:=g1 (cref31_CheckLoad n) (@g0 (Contract Try.prog))
  refine contract_f (Try.f48.body.getD .skip) h00 Try.func48 rfl Try.call48 (by decide) (fun _ r=>⟨rfl,m1 ⟨3,_,_,rfl,ty3,rfl⟩ m0⟩) ?_
  rintro ⟨m,n_⟩ r H
  try dsimp only at H
  unfold ref32_Path at H
  simp only [Try.f48,Option.getD]
  refine rA ?_
  refine Sm.seqK fun K2 hK2=>?_
  obtain ⟨r1,hr1,H⟩:=bind_some H
  have q:=And.intro @xref31_CheckLoad.eq_1 hr1
  refine rAq ?_
  refine cnd H (fun h4 H=>?_) (fun h4 H=>?_)
  · refine rA ?_
    refine Sm.ret ?_
    refine lf ?_
    obtain rfl:=Option.some.inj H
    exact rto [none]
  refine Sm.skip ?_
  refine hK2 _ ?_
  refine rA ?_
  refine Sm.cut (fun (x:(List Int))=>ref32_Path_s1 x) (fun x=>ref32_Path_k1 n x=some r) ?_ ?_
  · refine Sm.block ?_
    obtain ⟨y8,hy8,Ho8⟩:=bind_some H
    refine Sm.loopB _ (fun x=>ref32_Path_t2 m x.1 x.2) hy8 (wb [some 32,none]) ?_
    rintro ⟨n__1,out_1⟩ z8 H
    try dsimp only at H
    unfold ref32_Path_b2 at H
    refine Sm.st (ref32_Path_t2.eq_1 ..) ?_
    refine Sm.seqK fun K9 hK9=>?_
    refine rA ?_
    refine cnd H (fun h11 H=>?_) (fun h11 H=>?_)
    · refine Sm.skip ?_
      refine hK9 _ ?_
      refine Sm.block ?_
      obtain ⟨hg14,H⟩:=gd_some H
      refine rA ?_
      obtain ⟨hg13,H⟩:=gd_some H
      refine eA ?_
      refine lf ?_
      exact nx H (wbo [some 9004,some 416])
    refine Sm.exit ?_
    refine lf ?_
    refine lx H fun hyy=>?_
    subst hyy
    have H:=Ho8
    try dsimp only at H
    refine lf ?_
    exact ⟨_,H,wb [some 9005]⟩
  rintro out H
  try dsimp only at H
  unfold ref32_Path_k1 at H
  refine Sm.st (ref32_Path_s1.eq_1 ..) ?_
  refine rA ?_
  refine Sm.ret ?_
  refine lf ?_
  obtain rfl:=Option.some.inj H
  exact rto [some 9000]
abbrev ref33_in_s1:S:=stB [] []
def ref33_in_k1 (n:Nat):Option Bool :=
  some false
abbrev ref33_in_t2 (l:List Int) (n_:Int) (i:Int):S:=stB [(0,.c (.slice 3) (.slice (List.map e_Int l))),(1,.c (.int .i64) (.int n_)),(5,.c (.int .i64) (.int i))] []
def ref33_in_b2 (n:Nat) (l:List Int) (n_:Int) (i:Int):Option ((Int) ⊕ (((Bool) ⊕ (Unit)))) :=
  bif (decide (i < (l.length:Int))) then
    gd ((0≤i∧i < (l.length:Int))) <|
    bif ((gt l (Int.toNat i)) == n_) then
      some (.inr (.inl true))
    else
      some (.inl (IntKind.wrap .i64 (i+1)))
  else
    some (.inr (.inr ()))
def ref33_in (n:Nat) (l:List Int) (n_:Int):Option Bool :=
  (loopF (fun (x:Int)=>ref33_in_b2 n l n_ x) n 0).bind fun y4 =>
  match y4 with
  | .inl vv =>
    some vv
  | .inr vv =>
    ref33_in_k1 n
def xref33_in (n:Nat):Go.AE.Fn:=mkFn (A:=(List Int)×Int) (R:=Bool) 49 [(false,[.slice 3]),(false,[.int .i64])] false (fun xs=>(((cg (xs.getD 0 []) 0).toSl.map d_Int),(cg (xs.getD 1 []) 0).toInt)) (fun a=>[[.slice (List.map e_Int a.1)],[.int a.2]]) (fun a=>ref33_in n a.1 a.2) (fun r=>[.c .bool (.bool r)]) (fun r=>[])
theorem cref33_in (n:Nat):Contract Try.prog (xref33_in n):=by
  have hΓ:=@g0 (Contract Try.prog)
  refine contract_f (Try.f49.body.getD .skip) h00 Try.func49 rfl Try.call49 (by decide) (by intro _ r;exact ⟨rfl,by simp⟩) ?_
  rintro ⟨l,n_⟩ r H
  try dsimp only at H
  unfold ref33_in at H
  simp only [Try.f49,Option.getD]
  refine rA ?_
  refine Sm.cut (fun (x:Unit)=>ref33_in_s1) (fun x=>ref33_in_k1 n=some r) ?_ ?_
  · refine rA ?_
    refine Sm.block ?_
    obtain ⟨y4,hy4,Ho4⟩:=bind_some H
    refine Sm.loopB _ (fun x=>ref33_in_t2 l n_ x) hy4 (wb []) ?_
    rintro i z4 H
    try dsimp only at H
    unfold ref33_in_b2 at H
    refine Sm.st (ref33_in_t2.eq_1 ..) ?_
    refine Sm.seqK fun K5 hK5=>?_
    refine rA ?_
    refine cnd H (fun h7 H=>?_) (fun h7 H=>?_)
    · refine Sm.skip ?_
      refine hK5 _ ?_
      refine Sm.seqK fun K8 hK8=>?_
      refine Sm.block ?_
      obtain ⟨hg12,H⟩:=gd_some H
      refine rA ?_
      refine cnd H (fun h10 H=>?_) (fun h10 H=>?_)
      · refine rA ?_
        refine Sm.ret ?_
        refine lf ?_
        refine lx H fun hyy=>?_
        subst hyy
        have H:=Ho4
        try dsimp only at H
        refine lf ?_
        obtain rfl:=Option.some.inj H
        exact rt []
      refine Sm.skip ?_
      refine hK8 _ ?_
      refine eA ?_
      refine lf ?_
      exact nx H (wb [])
    refine Sm.exit ?_
    refine lf ?_
    refine lx H fun hyy=>?_
    subst hyy
    have H:=Ho4
    try dsimp only at H
    refine lf ?_
    exact ⟨(),H,wb []⟩
  rintro ⟨⟩ H
  try dsimp only at H
  unfold ref33_in_k1 at H
  refine Sm.st (ref33_in_s1.eq_1 ..) ?_
  refine rA ?_
  refine Sm.ret ?_
  refine lf ?_
  obtain rfl:=Option.some.inj H
  exact rt []
def ref33_share (n:Nat) (a:TSegment) (b:TSegment):Option Bool :=
  some (if (if (if (decide (a.Len > 0))=true then (decide (b.Len > 0)) else false)=true then (decide (a.Origin < (IntKind.wrap .i64 (b.Origin+b.Len)))) else false)=true then (decide (b.Origin < (IntKind.wrap .i64 (a.Origin+a.Len)))) else false)
def xref33_share (n:Nat):Go.AE.Fn:=mkFn (A:=TSegment×TSegment) (R:=Bool) 50 [(true,[.int .i64,.int .i64,.int .i64,.int .i64]),(true,[.int .i64,.int .i64,.int .i64,.int .i64])] false (fun xs=>((⟨(cg (xs.getD 0 []) 0).toInt,(cg (xs.getD 0 []) 1).toInt,(cg (xs.getD 0 []) 2).toInt,(cg (xs.getD 0 []) 3).toInt⟩:TSegment),(⟨(cg (xs.getD 1 []) 0).toInt,(cg (xs.getD 1 []) 1).toInt,(cg (xs.getD 1 []) 2).toInt,(cg (xs.getD 1 []) 3).toInt⟩:TSegment))) (fun a=>[[.int a.1.Parent,.int a.1.Origin,.int a.1.From,.int a.1.Len],[.int a.2.Parent,.int a.2.Origin,.int a.2.From,.int a.2.Len]]) (fun a=>ref33_share n a.1 a.2) (fun r=>[.c .bool (.bool r)]) (fun r=>[])
theorem cref33_share (n:Nat):Contract Try.prog (xref33_share n):=by
  have hΓ:=@g0 (Contract Try.prog)
  refine contract_f (Try.f50.body.getD .skip) h00 Try.func50 rfl Try.call50 (by decide) (by intro _ r;exact ⟨rfl,by simp⟩) ?_
  rintro ⟨a,b⟩ r H
  try dsimp only at H
  unfold ref33_share at H
  simp only [Try.f50,Option.getD]
  refine rA ?_
  refine rA ?_
  refine Sm.ret ?_
  refine lf ?_
  obtain rfl:=Option.some.inj H
  exact rt []
abbrev ref33_Segment_M1_s3 (b0:List Int) (s_:List Int) (out:List Int):S:=stB [(19,.own 9004 [.int .i64] 0 out.length)] [(0,.box [.own 1 [.int .u8] 0 b0.length,.own 2 [.int .i64] 0 s_.length]),(1,.row 5 (List.map e_Int b0)),(2,.row 3 (List.map e_Int s_)),(9004,.row 3 (List.map e_Int out))]
def ref33_Segment_M1_k3 (n:Nat) (b0:List Int) (s_:List Int) (out:List Int):Option ((List Int)×Int×(List Int)) :=
  some (out,0,b0)
abbrev ref33_Segment_M1_s5 (b0:List Int) (s_:List Int) (loaded:List Int) (m:TLoad) (path:List Int) (fresh:List Int) (out_2:List Int) (k:Int):S:=stB [(4,.c (.slice 3) (.slice (List.map e_Int loaded))),(8,.box 9016 0),(15,.own 9017 [.int .i64] 0 path.length),(17,.own 9018 [.int .i64] 0 fresh.length),(19,.own 9019 [.int .i64] 0 out_2.length),(20,.c (.int .i64) (.int k))] [(0,.box [.own 1 [.int .u8] 0 b0.length,.own 2 [.int .i64] 0 s_.length]),(1,.row 5 (List.map e_Int b0)),(2,.row 3 (List.map e_Int s_)),(9016,.box [.c (.slice 5) (.slice (List.map e_Int m.Text)),.c (.slice 58) (.slice (List.map e_TReloc m.Relocs)),.c (.slice 52) (.slice (List.map e_TSegment m.Segments)),.c (.int .i64) (.int m.Entry)]),(9017,.row 3 (List.map e_Int path)),(9018,.row 3 (List.map e_Int fresh)),(9019,.row 3 (List.map e_Int out_2))]
def ref33_Segment_M1_k5 (n:Nat) (b0:List Int) (s_:List Int) (loaded:List Int) (m:TLoad) (path:List Int) (fresh:List Int) (out_2:List Int) (k:Int):Option (((List Int)×Int) ⊕ (((List Int)))) :=
  some (.inl (out_2,(IntKind.wrap .i64 (k+1))))
abbrev ref33_Segment_M1_s6 (b0:List Int) (s_:List Int) (loaded:List Int) (m:TLoad) (path:List Int) (fresh:List Int) (out_1:List Int) (k:Int) (keep:Bool):S:=stB [(4,.c (.slice 3) (.slice (List.map e_Int loaded))),(8,.box 9020 0),(15,.own 9021 [.int .i64] 0 path.length),(17,.own 9022 [.int .i64] 0 fresh.length),(19,.own 9023 [.int .i64] 0 out_1.length),(20,.c (.int .i64) (.int k)),(21,.c .bool (.bool keep))] [(0,.box [.own 1 [.int .u8] 0 b0.length,.own 2 [.int .i64] 0 s_.length]),(1,.row 5 (List.map e_Int b0)),(2,.row 3 (List.map e_Int s_)),(9020,.box [.c (.slice 5) (.slice (List.map e_Int m.Text)),.c (.slice 58) (.slice (List.map e_TReloc m.Relocs)),.c (.slice 52) (.slice (List.map e_TSegment m.Segments)),.c (.int .i64) (.int m.Entry)]),(9021,.row 3 (List.map e_Int path)),(9022,.row 3 (List.map e_Int fresh)),(9023,.row 3 (List.map e_Int out_1))]
def ref33_Segment_M1_k6 (n:Nat) (b0:List Int) (s_:List Int) (loaded:List Int) (m:TLoad) (path:List Int) (fresh:List Int) (out_1:List Int) (k:Int) (keep:Bool):Option (((List Int)×Int) ⊕ (((List Int)))) :=
  gd (((!keep)=true→(ref33_in n path k).isSome=true)) <|
  bif (if keep=true then true else ((ref33_in n path k).getD default)) then
    gd ((out_1.length+1)≤2147483648) <|
    ref33_Segment_M1_k5 n b0 s_ loaded m path fresh (out_1 ++ [k]) k
  else
    ref33_Segment_M1_k5 n b0 s_ loaded m path fresh out_1 k
abbrev ref33_Segment_M1_t7 (b0:List Int) (s_:List Int) (loaded:List Int) (m:TLoad) (path:List Int) (fresh:List Int) (out_1:List Int) (k:Int) (keep_1:Bool) (i:Int):S:=stB [(4,.c (.slice 3) (.slice (List.map e_Int loaded))),(8,.box 9028 0),(15,.own 9029 [.int .i64] 0 path.length),(17,.own 9030 [.int .i64] 0 fresh.length),(19,.own 9031 [.int .i64] 0 out_1.length),(20,.c (.int .i64) (.int k)),(21,.c .bool (.bool keep_1)),(22,.c (.int .i64) (.int i))] [(0,.box [.own 1 [.int .u8] 0 b0.length,.own 2 [.int .i64] 0 s_.length]),(1,.row 5 (List.map e_Int b0)),(2,.row 3 (List.map e_Int s_)),(9028,.box [.c (.slice 5) (.slice (List.map e_Int m.Text)),.c (.slice 58) (.slice (List.map e_TReloc m.Relocs)),.c (.slice 52) (.slice (List.map e_TSegment m.Segments)),.c (.int .i64) (.int m.Entry)]),(9029,.row 3 (List.map e_Int path)),(9030,.row 3 (List.map e_Int fresh)),(9031,.row 3 (List.map e_Int out_1))]
def ref33_Segment_M1_b7 (n:Nat) (b0:List Int) (s_:List Int) (loaded:List Int) (m:TLoad) (path:List Int) (fresh:List Int) (out_1:List Int) (k:Int) (keep_1:Bool) (i:Int):Option ((Bool×Int) ⊕ ((Bool))) :=
  bif (decide (i < ((fresh.length:Nat):Int))) then
    gd ((keep_1=true→(0≤k∧k < (m.Segments.length:Int)))∧(keep_1=true→(0≤i∧i < (fresh.length:Int)))∧(keep_1=true→(Int.toNat i) < fresh.length)∧(keep_1=true→(0≤(gt fresh (Int.toNat i))∧(gt fresh (Int.toNat i)) < (m.Segments.length:Int)))∧(keep_1=true→(ref33_share n (gt m.Segments (Int.toNat k)) (gt m.Segments (Int.toNat (gt fresh (Int.toNat i))))).isSome=true)) <|
    some (.inl ((if keep_1=true then (!((ref33_share n (gt m.Segments (Int.toNat k)) (gt m.Segments (Int.toNat (gt fresh (Int.toNat i))))).getD default)) else false),(IntKind.wrap .i64 (i+1))))
  else
    some (.inr keep_1)
abbrev ref33_Segment_M1_t4 (b0:List Int) (s_:List Int) (loaded:List Int) (m:TLoad) (path:List Int) (fresh:List Int) (out_1:List Int) (k:Int):S:=stB [(4,.c (.slice 3) (.slice (List.map e_Int loaded))),(8,.box 9012 0),(15,.own 9013 [.int .i64] 0 path.length),(17,.own 9014 [.int .i64] 0 fresh.length),(19,.own 9015 [.int .i64] 0 out_1.length),(20,.c (.int .i64) (.int k))] [(0,.box [.own 1 [.int .u8] 0 b0.length,.own 2 [.int .i64] 0 s_.length]),(1,.row 5 (List.map e_Int b0)),(2,.row 3 (List.map e_Int s_)),(9012,.box [.c (.slice 5) (.slice (List.map e_Int m.Text)),.c (.slice 58) (.slice (List.map e_TReloc m.Relocs)),.c (.slice 52) (.slice (List.map e_TSegment m.Segments)),.c (.int .i64) (.int m.Entry)]),(9013,.row 3 (List.map e_Int path)),(9014,.row 3 (List.map e_Int fresh)),(9015,.row 3 (List.map e_Int out_1))]
def ref33_Segment_M1_b4 (n:Nat) (b0:List Int) (s_:List Int) (loaded:List Int) (m:TLoad) (path:List Int) (fresh:List Int) (out_1:List Int) (k:Int):Option (((List Int)×Int) ⊕ (((List Int)))) :=
  bif (decide (k < (m.Segments.length:Int))) then
    (ref33_in n loaded k).bind fun r3 =>
    (loopF (fun (x:Bool×Int)=>ref33_Segment_M1_b7 n b0 s_ loaded m path fresh out_1 k x.1 x.2) n (r3,0)).bind fun y25 =>
    ref33_Segment_M1_k6 n b0 s_ loaded m path fresh out_1 k y25
  else
    some (.inr out_1)
abbrev ref33_Segment_M1_s2 (b0:List Int) (s_:List Int) (loaded:List Int) (m:TLoad) (path:List Int) (fresh:List Int):S:=stB [(4,.c (.slice 3) (.slice (List.map e_Int loaded))),(8,.box 9001 0),(15,.own 9002 [.int .i64] 0 path.length),(17,.own 9003 [.int .i64] 0 fresh.length)] [(0,.box [.own 1 [.int .u8] 0 b0.length,.own 2 [.int .i64] 0 s_.length]),(1,.row 5 (List.map e_Int b0)),(2,.row 3 (List.map e_Int s_)),(9001,.box [.c (.slice 5) (.slice (List.map e_Int m.Text)),.c (.slice 58) (.slice (List.map e_TReloc m.Relocs)),.c (.slice 52) (.slice (List.map e_TSegment m.Segments)),.c (.int .i64) (.int m.Entry)]),(9002,.row 3 (List.map e_Int path)),(9003,.row 3 (List.map e_Int fresh))]
def ref33_Segment_M1_k2 (n:Nat) (b0:List Int) (s_:List Int) (loaded:List Int) (m:TLoad) (path:List Int) (fresh:List Int):Option ((List Int)×Int×(List Int)) :=
  (loopF (fun (x:(List Int)×Int)=>ref33_Segment_M1_b4 n b0 s_ loaded m path fresh x.1 x.2) n ([],0)).bind fun y15 =>
  ref33_Segment_M1_k3 n b0 s_ y15
abbrev ref33_Segment_M1_s9 (b0_2:List Int) (s_:List Int) (at_:Int) (loaded:List Int) (m:TLoad) (path_1:List Int) (fresh_2:List Int) (i_1:Int):S:=stB [(0,.box 0 0),(3,.c (.int .i64) (.int at_)),(4,.c (.slice 3) (.slice (List.map e_Int loaded))),(8,.box 9040 0),(15,.own 9041 [.int .i64] 0 path_1.length),(17,.own 9042 [.int .i64] 0 fresh_2.length),(18,.c (.int .i64) (.int i_1))] [(0,.box [.own 1 [.int .u8] 0 b0_2.length,.own 2 [.int .i64] 0 s_.length]),(1,.row 5 (List.map e_Int b0_2)),(2,.row 3 (List.map e_Int s_)),(9040,.box [.c (.slice 5) (.slice (List.map e_Int m.Text)),.c (.slice 58) (.slice (List.map e_TReloc m.Relocs)),.c (.slice 52) (.slice (List.map e_TSegment m.Segments)),.c (.int .i64) (.int m.Entry)]),(9041,.row 3 (List.map e_Int path_1)),(9042,.row 3 (List.map e_Int fresh_2))]
def ref33_Segment_M1_k9 (n:Nat) (b0_2:List Int) (s_:List Int) (at_:Int) (loaded:List Int) (m:TLoad) (path_1:List Int) (fresh_2:List Int) (i_1:Int):Option (((List Int)×(List Int)×Int) ⊕ (((List Int)×(List Int)))) :=
  some (.inl (b0_2,fresh_2,(IntKind.wrap .i64 (i_1+1))))
abbrev ref33_Segment_M1_t8 (s_:List Int) (at_:Int) (loaded:List Int) (m:TLoad) (path_1:List Int) (b0_1:List Int) (fresh_1:List Int) (i_1:Int):S:=stB [(0,.box 0 0),(3,.c (.int .i64) (.int at_)),(4,.c (.slice 3) (.slice (List.map e_Int loaded))),(8,.box 9037 0),(15,.own 9038 [.int .i64] 0 path_1.length),(17,.own 9039 [.int .i64] 0 fresh_1.length),(18,.c (.int .i64) (.int i_1))] [(0,.box [.own 1 [.int .u8] 0 b0_1.length,.own 2 [.int .i64] 0 s_.length]),(1,.row 5 (List.map e_Int b0_1)),(2,.row 3 (List.map e_Int s_)),(9037,.box [.c (.slice 5) (.slice (List.map e_Int m.Text)),.c (.slice 58) (.slice (List.map e_TReloc m.Relocs)),.c (.slice 52) (.slice (List.map e_TSegment m.Segments)),.c (.int .i64) (.int m.Entry)]),(9038,.row 3 (List.map e_Int path_1)),(9039,.row 3 (List.map e_Int fresh_1))]
def ref33_Segment_M1_b8 (n:Nat) (s_:List Int) (at_:Int) (loaded:List Int) (m:TLoad) (path_1:List Int) (b0_1:List Int) (fresh_1:List Int) (i_1:Int):Option (((List Int)×(List Int)×Int) ⊕ (((List Int)×(List Int)))) :=
  bif (decide (i_1 < ((path_1.length:Nat):Int))) then
    gd ((0≤i_1∧i_1 < (path_1.length:Int))∧(Int.toNat i_1) < path_1.length) <|
    (ref33_in n loaded (gt path_1 (Int.toNat i_1))).bind fun r4 =>
    bif (!r4) then
      gd ((0≤i_1∧i_1 < (path_1.length:Int))∧(Int.toNat i_1) < path_1.length) <|
      (ref33_load_M1 n b0_1 s_ m at_ (gt path_1 (Int.toNat i_1))).bind fun r5 =>
      gd ((0≤i_1∧i_1 < (path_1.length:Int))∧(Int.toNat i_1) < path_1.length∧(fresh_1.length+1)≤2147483648) <|
      ref33_Segment_M1_k9 n r5 s_ at_ loaded m path_1 (fresh_1 ++ [(gt path_1 (Int.toNat i_1))]) i_1
    else
      ref33_Segment_M1_k9 n b0_1 s_ at_ loaded m path_1 fresh_1 i_1
  else
    some (.inr (b0_1,fresh_1))
abbrev ref33_Segment_M1_s1 (s:List Int) (s_:List Int) (at_:Int) (loaded:List Int) (n_:Int) (m:TLoad):S:=stB [(0,.box 0 0),(3,.c (.int .i64) (.int at_)),(4,.c (.slice 3) (.slice (List.map e_Int loaded))),(5,.c (.int .i64) (.int n_)),(8,.box 9000 0)] [(0,.box [.own 1 [.int .u8] 0 s.length,.own 2 [.int .i64] 0 s_.length]),(1,.row 5 (List.map e_Int s)),(2,.row 3 (List.map e_Int s_)),(9000,.box [.c (.slice 5) (.slice (List.map e_Int m.Text)),.c (.slice 58) (.slice (List.map e_TReloc m.Relocs)),.c (.slice 52) (.slice (List.map e_TSegment m.Segments)),.c (.int .i64) (.int m.Entry)])]
def ref33_Segment_M1_k1 (n:Nat) (s:List Int) (s_:List Int) (at_:Int) (loaded:List Int) (n_:Int) (m:TLoad):Option ((List Int)×Int×(List Int)) :=
  (ref32_Path n m n_).bind fun r2 =>
  (loopF (fun (x:(List Int)×(List Int)×Int)=>ref33_Segment_M1_b8 n s_ at_ loaded m r2.1 x.1 x.2.1 x.2.2) n (s,[],0)).bind fun y36 =>
  ref33_Segment_M1_k2 n y36.1 s_ loaded m r2.1 y36.2
abbrev ref33_Segment_M1_t10 (s:List Int) (s_:List Int) (at_:Int) (loaded:List Int) (n_:Int) (m:TLoad) (i_2:Int):S:=stB [(0,.box 0 0),(3,.c (.int .i64) (.int at_)),(4,.c (.slice 3) (.slice (List.map e_Int loaded))),(5,.c (.int .i64) (.int n_)),(8,.box 9044 0),(14,.c (.int .i64) (.int i_2))] [(0,.box [.own 1 [.int .u8] 0 s.length,.own 2 [.int .i64] 0 s_.length]),(1,.row 5 (List.map e_Int s)),(2,.row 3 (List.map e_Int s_)),(9044,.box [.c (.slice 5) (.slice (List.map e_Int m.Text)),.c (.slice 58) (.slice (List.map e_TReloc m.Relocs)),.c (.slice 52) (.slice (List.map e_TSegment m.Segments)),.c (.int .i64) (.int m.Entry)])]
def ref33_Segment_M1_b10 (n:Nat) (s:List Int) (s_:List Int) (at_:Int) (loaded:List Int) (n_:Int) (m:TLoad) (i_2:Int):Option ((Int) ⊕ ((((List Int)×Int) ⊕ (Unit)))) :=
  bif (decide (i_2 < (loaded.length:Int))) then
    gd ((0≤i_2∧i_2 < (loaded.length:Int))∧((!(decide ((gt loaded (Int.toNat i_2)) < 0)))=true→(0≤i_2∧i_2 < (loaded.length:Int)))) <|
    bif (if (decide ((gt loaded (Int.toNat i_2)) < 0))=true then true else (decide ((gt loaded (Int.toNat i_2)) ≥ (m.Segments.length:Int)))) then
      some (.inr (.inl ([],1)))
    else
      some (.inl (IntKind.wrap .i64 (i_2+1)))
  else
    some (.inr (.inr ()))
def ref33_Segment_M1 (n:Nat) (s:List Int) (s_:List Int) (bytes:Int) (m:TLoad) (at_:Int) (loaded:List Int) (n_:Int):Option ((List Int)×Int×(List Int)) :=
  (ref31_CheckLoad n m).bind fun r1 =>
  bif (!r1) then
    some ([],310,s)
  else
    gd (((!(if (decide (at_ < 0))=true then true else (decide (at_ > bytes))))=true→(ref33_Size n m).isSome=true)) <|
    bif (if (if (if (if (decide (at_ < 0))=true then true else (decide (at_ > bytes)))=true then true else (decide (((ref33_Size n m).getD default) > (IntKind.wrap .i64 (bytes - at_)))))=true then true else (decide (n_ < 0)))=true then true else (decide (n_ ≥ (m.Segments.length:Int)))) then
      some ([],1,s)
    else
      (loopF (fun (x:Int)=>ref33_Segment_M1_b10 n s s_ at_ loaded n_ m x) n 0).bind fun y51 =>
      match y51 with
      | .inl vv =>
        some (vv.1,vv.2,s)
      | .inr vv =>
        ref33_Segment_M1_k1 n s s_ at_ loaded n_ m
theorem cref33_Segment_M1 (n:Nat) (s:List Int) (s_:List Int) (bytes:Int) (m:TLoad) (at_:Int) (loaded:List Int) (n_:Int) (r:(List Int)×Int×(List Int)) (H:ref33_Segment_M1 n s s_ bytes m at_ loaded n_=some r):CallsM Try.prog 19 [.ref (.box 0 0),.dat (false,[.int .i64]) [.int bytes],.dat (true,[.slice 5,.slice 58,.slice 52,.int .i64]) [.slice (List.map e_Int m.Text),.slice (List.map e_TReloc m.Relocs),.slice (List.map e_TSegment m.Segments),.int m.Entry],.dat (false,[.int .i64]) [.int at_],.dat (false,[.slice 3]) [.slice (List.map e_Int loaded)],.dat (false,[.int .i64]) [.int n_]] [.box [.own 1 [.int .u8] 0 s.length,.own 2 [.int .i64] 0 s_.length],.row 5 (List.map e_Int s),.row 3 (List.map e_Int s_)] [.own 3 [.int .i64] 0 r.1.length,.c (.int .i64) (.int r.2.1)] [.box [.own 1 [.int .u8] 0 r.2.2.length,.own 2 [.int .i64] 0 s_.length],.row 5 (List.map e_Int r.2.2),.row 3 (List.map e_Int s_),.row 3 (List.map e_Int r.1)]:=by
  have hΓ:=g1 (cref31_CheckLoad n) (g1 (cref33_Size n) (g1 (cref32_Path n) (g1 (cref33_in n) (g1 (cref33_share n) (@g0 (Contract Try.prog))))))
  refine callsM_of (Try.f19.body.getD .skip) h00 Try.func19 rfl Try.call19 (Nat.le_of_ble_eq_true rfl) (Nat.le_of_ble_eq_true rfl) ?_
  unfold ref33_Segment_M1 at H
  simp only [Try.f19,Option.getD]
  refine rA ?_
  refine Sm.seqK fun K2 hK2=>?_
  obtain ⟨r1,hr1,H⟩:=bind_some H
  have q:=And.intro @xref31_CheckLoad.eq_1 hr1
  refine rAq ?_
  refine cnd H (fun h4 H=>?_) (fun h4 H=>?_)
  · refine rA ?_
    refine Sm.ret ?_
    refine lf ?_
    obtain rfl:=Option.some.inj H
    exact rtM [some 0,some 1,some 2,none]
  refine Sm.skip ?_
  refine hK2 _ ?_
  refine Sm.seqK fun K6 hK6=>?_
  obtain ⟨hg61,H⟩:=gd_some H
  have q:=And.intro @xref31_CheckLoad.eq_1 @xref33_Size.eq_1
  refine rAq ?_
  refine cnd H (fun h8 H=>?_) (fun h8 H=>?_)
  · refine rA ?_
    refine Sm.ret ?_
    refine lf ?_
    obtain rfl:=Option.some.inj H
    exact rtM [some 0,some 1,some 2,none]
  refine Sm.skip ?_
  refine hK6 _ ?_
  refine Sm.cut (fun (x:Unit)=>ref33_Segment_M1_s1 s s_ at_ loaded n_ m) (fun x=>ref33_Segment_M1_k1 n s s_ at_ loaded n_ m=some r) ?_ ?_
  · refine rA ?_
    refine Sm.block ?_
    obtain ⟨y51,hy51,Ho51⟩:=bind_some H
    refine Sm.loopB _ (fun x=>ref33_Segment_M1_t10 s s_ at_ loaded n_ m x) hy51 (wb [some 0,some 1,some 2,some 128]) ?_
    rintro i_2 z51 H
    try dsimp only at H
    unfold ref33_Segment_M1_b10 at H
    refine Sm.st (ref33_Segment_M1_t10.eq_1 ..) ?_
    refine Sm.seqK fun K52 hK52=>?_
    refine rA ?_
    refine cnd H (fun h54 H=>?_) (fun h54 H=>?_)
    · refine Sm.skip ?_
      refine hK52 _ ?_
      refine Sm.seqK fun K55 hK55=>?_
      refine Sm.block ?_
      obtain ⟨⟨hg59,hg60⟩,H⟩:=gd_some H
      refine rD ?_
      refine cnd H (fun h57 H=>?_) (fun h57 H=>?_)
      · refine rA ?_
        refine Sm.ret ?_
        refine lf ?_
        refine lx H fun hyy=>?_
        subst hyy
        have H:=Ho51
        try dsimp only at H
        refine lf ?_
        obtain rfl:=Option.some.inj H
        exact rtM [some 0,some 1,some 2,none]
      refine Sm.skip ?_
      refine hK55 _ ?_
      refine eA ?_
      refine lf ?_
      exact nx H (wb [some 0,some 1,some 2,some 9044])
    refine Sm.exit ?_
    refine lf ?_
    refine lx H fun hyy=>?_
    subst hyy
    have H:=Ho51
    try dsimp only at H
    refine lf ?_
    exact ⟨(),H,wb [some 0,some 1,some 2,some 9044]⟩
  rintro ⟨⟩ H
  try dsimp only at H
  unfold ref33_Segment_M1_k1 at H
  refine Sm.st (ref33_Segment_M1_s1.eq_1 ..) ?_
  obtain ⟨r2,hr2,H⟩:=bind_some H
  have q:=And.intro @xref31_CheckLoad.eq_1 (And.intro @xref33_Size.eq_1 (And.intro @xref32_Path.eq_1 hr2))
  refine rAq ?_
  refine rA ?_
  refine Sm.cut (fun (x:(List Int)×(List Int)×(List Int))=>ref33_Segment_M1_s2 x.1 s_ loaded m x.2.1 x.2.2) (fun x=>ref33_Segment_M1_k2 n x.1 s_ loaded m x.2.1 x.2.2=some r) ?_ ?_
  · refine rA ?_
    refine Sm.block ?_
    obtain ⟨y36,hy36,Ho36⟩:=bind_some H
    refine Sm.loopB _ (fun x=>ref33_Segment_M1_t8 s_ at_ loaded m r2.1 x.1 x.2.1 x.2.2) hy36 (wb [some 0,some 1,some 2,some 9000,some 1216,none]) ?_
    rintro ⟨b0_1,fresh_1,i_1⟩ z36 H
    try dsimp only at H
    unfold ref33_Segment_M1_b8 at H
    refine Sm.st (ref33_Segment_M1_t8.eq_1 ..) ?_
    refine Sm.seqK fun K37 hK37=>?_
    refine rA ?_
    refine cnd H (fun h39 H=>?_) (fun h39 H=>?_)
    · refine Sm.skip ?_
      refine hK37 _ ?_
      refine Sm.cut (fun (x:(List Int)×(List Int))=>ref33_Segment_M1_s9 x.1 s_ at_ loaded m r2.1 x.2 i_1) (fun x=>ref33_Segment_M1_k9 n x.1 s_ at_ loaded m r2.1 x.2 i_1=some z36) ?_ ?_
      · refine Sm.block ?_
        obtain ⟨⟨hg48,hg49⟩,H⟩:=gd_some H
        obtain ⟨r4,hr4,H⟩:=bind_some H
        have q:=And.intro @xref31_CheckLoad.eq_1 (And.intro @xref33_Size.eq_1 (And.intro @xref32_Path.eq_1 (And.intro @xref33_in.eq_1 hr4)))
        refine rAq ?_
        refine cnd H (fun h41 H=>?_) (fun h41 H=>?_)
        · obtain ⟨⟨hg43,hg44⟩,H⟩:=gd_some H
          obtain ⟨r5,hr5,H⟩:=bind_some H
          refine sE [0,1,2,3,4,5,6,7] [(none,[],[]),(none,[9037],[]),(none,[],[]),(none,[],[]),(none,[],[]),(none,[9038],[]),(none,[9038],[]),(none,[0],[0,1,2])] [(7,(⟨_,_,_,_,_,[0,1,2],[],cref33_load_M1 n _ _ _ _ _ r5 hr5⟩:MT Try.prog))] fun K42 hK42=>?_
          have q:=hr5
          iterate 7 refine eQq ?_
          refine eM ?_
          refine opsE0 ?_
          refine hK42 _ ?_
          obtain ⟨⟨hg45,hg46,hg47⟩,H⟩:=gd_some H
          refine eA ?_
          refine lf ?_
          exact ⟨(r5,(fresh_1 ++ [(gt r2.1 (Int.toNat i_1))])),H,wb [some 0,some 1,some 2,some 9037,some 9038,some 1696]⟩
        refine Sm.skip ?_
        refine lf ?_
        exact ⟨(b0_1,fresh_1),H,wb [some 0,some 1,some 2,some 9037,some 9038,some 9039]⟩
      rintro ⟨b0_2,fresh_2⟩ H
      try dsimp only at H
      unfold ref33_Segment_M1_k9 at H
      refine Sm.st (ref33_Segment_M1_s9.eq_1 ..) ?_
      refine eA ?_
      refine lf ?_
      exact nx H (wb [some 0,some 1,some 2,some 9040,some 9041,some 9042])
    refine Sm.exit ?_
    refine lf ?_
    refine lx H fun hyy=>?_
    subst hyy
    have H:=Ho36
    try dsimp only at H
    refine lf ?_
    exact ⟨(b0_1,r2.1,fresh_1),H,wb [some 0,some 1,some 2,some 9037,some 9038,some 9039]⟩
  rintro ⟨b0,path,fresh⟩ H
  try dsimp only at H
  unfold ref33_Segment_M1_k2 at H
  refine Sm.st (ref33_Segment_M1_s2.eq_1 ..) ?_
  refine rA ?_
  refine Sm.cut (fun (x:(List Int))=>ref33_Segment_M1_s3 b0 s_ x) (fun x=>ref33_Segment_M1_k3 n b0 s_ x=some r) ?_ ?_
  · refine rA ?_
    refine Sm.block ?_
    obtain ⟨y15,hy15,Ho15⟩:=bind_some H
    refine Sm.loopB _ (fun x=>ref33_Segment_M1_t4 b0 s_ loaded m path fresh x.1 x.2) hy15 (wb [some 0,some 1,some 2,some 9001,some 9002,some 9003,none]) ?_
    rintro ⟨out_1,k⟩ z15 H
    try dsimp only at H
    unfold ref33_Segment_M1_b4 at H
    refine Sm.st (ref33_Segment_M1_t4.eq_1 ..) ?_
    refine Sm.seqK fun K16 hK16=>?_
    refine rA ?_
    refine cnd H (fun h18 H=>?_) (fun h18 H=>?_)
    · refine Sm.skip ?_
      refine hK16 _ ?_
      refine Sm.cut (fun (x:(List Int))=>ref33_Segment_M1_s5 b0 s_ loaded m path fresh x k) (fun x=>ref33_Segment_M1_k5 n b0 s_ loaded m path fresh x k=some z15) ?_ ?_
      · refine Sm.block ?_
        obtain ⟨r3,hr3,H⟩:=bind_some H
        have q:=And.intro @xref31_CheckLoad.eq_1 (And.intro @xref33_Size.eq_1 (And.intro @xref32_Path.eq_1 (And.intro @xref33_in.eq_1 hr3)))
        refine rAq ?_
        refine Sm.cut (fun (x:Bool)=>ref33_Segment_M1_s6 b0 s_ loaded m path fresh out_1 k x) (fun x=>ref33_Segment_M1_k6 n b0 s_ loaded m path fresh out_1 k x=some z15) ?_ ?_
        · refine rA ?_
          refine Sm.block ?_
          obtain ⟨y25,hy25,Ho25⟩:=bind_some H
          refine Sm.loopB _ (fun x=>ref33_Segment_M1_t7 b0 s_ loaded m path fresh out_1 k x.1 x.2) hy25 (wb [some 0,some 1,some 2,some 9012,some 9013,some 9014,some 9015]) ?_
          rintro ⟨keep_1,i⟩ z25 H
          try dsimp only at H
          unfold ref33_Segment_M1_b7 at H
          refine Sm.st (ref33_Segment_M1_t7.eq_1 ..) ?_
          refine Sm.seqK fun K26 hK26=>?_
          refine rA ?_
          refine cnd H (fun h28 H=>?_) (fun h28 H=>?_)
          · refine Sm.skip ?_
            refine hK26 _ ?_
            refine Sm.seqK fun K29 hK29=>?_
            refine Sm.block ?_
            obtain ⟨⟨hg30,hg31,hg32,hg33,hg34⟩,H⟩:=gd_some H
            have q:=And.intro @xref31_CheckLoad.eq_1 (And.intro @xref33_Size.eq_1 (And.intro @xref32_Path.eq_1 (And.intro @xref33_in.eq_1 @xref33_share.eq_1)))
            refine eDq ?_
            refine hK29 _ ?_
            refine eA ?_
            refine lf ?_
            exact nx H (wb [some 0,some 1,some 2,some 9028,some 9029,some 9030,some 9031])
          refine Sm.exit ?_
          refine lf ?_
          refine lx H fun hyy=>?_
          subst hyy
          have H:=Ho25
          try dsimp only at H
          refine lf ?_
          exact ⟨_,H,wb [some 0,some 1,some 2,some 9028,some 9029,some 9030,some 9031]⟩
        rintro keep H
        try dsimp only at H
        unfold ref33_Segment_M1_k6 at H
        refine Sm.st (ref33_Segment_M1_s6.eq_1 ..) ?_
        obtain ⟨hg23,H⟩:=gd_some H
        have q:=And.intro @xref31_CheckLoad.eq_1 (And.intro @xref33_Size.eq_1 (And.intro @xref32_Path.eq_1 @xref33_in.eq_1))
        refine rAq ?_
        refine cnd H (fun h21 H=>?_) (fun h21 H=>?_)
        · obtain ⟨hg22,H⟩:=gd_some H
          refine eA ?_
          refine lf ?_
          exact ⟨_,H,wb [some 0,some 1,some 2,some 9020,some 9021,some 9022,some 2400]⟩
        refine Sm.skip ?_
        refine lf ?_
        exact ⟨_,H,wb [some 0,some 1,some 2,some 9020,some 9021,some 9022,some 9023]⟩
      rintro out_2 H
      try dsimp only at H
      unfold ref33_Segment_M1_k5 at H
      refine Sm.st (ref33_Segment_M1_s5.eq_1 ..) ?_
      refine eA ?_
      refine lf ?_
      exact nx H (wb [some 0,some 1,some 2,some 9016,some 9017,some 9018,some 9019])
    refine Sm.exit ?_
    refine lf ?_
    refine lx H fun hyy=>?_
    subst hyy
    have H:=Ho15
    try dsimp only at H
    refine lf ?_
    exact ⟨_,H,wb [some 0,some 1,some 2,some 9015]⟩
  rintro out H
  try dsimp only at H
  unfold ref33_Segment_M1_k3 at H
  refine Sm.st (ref33_Segment_M1_s3.eq_1 ..) ?_
  refine rA ?_
  refine Sm.ret ?_
  refine lf ?_
  obtain rfl:=Option.some.inj H
  exact rtM [some 0,some 1,some 2,some 9004]
abbrev law33_sameInts_s1:S:=stB [] []
def law33_sameInts_k1 (n:Nat):Option Bool :=
  some true
abbrev law33_sameInts_t2 (a:List Int) (b:List Int) (i:Int):S:=stB [(0,.c (.slice 3) (.slice (List.map e_Int a))),(1,.c (.slice 3) (.slice (List.map e_Int b))),(5,.c (.int .i64) (.int i))] []
def law33_sameInts_b2 (n:Nat) (a:List Int) (b:List Int) (i:Int):Option ((Int) ⊕ (((Bool) ⊕ (Unit)))) :=
  bif (decide (i < (a.length:Int))) then
    gd ((0≤i∧i < (a.length:Int))∧(0≤i∧i < (b.length:Int))) <|
    bif ((gt a (Int.toNat i)) != (gt b (Int.toNat i))) then
      some (.inr (.inl false))
    else
      some (.inl (IntKind.wrap .i64 (i+1)))
  else
    some (.inr (.inr ()))
def law33_sameInts (n:Nat) (a:List Int) (b:List Int):Option Bool :=
  bif ((a.length:Int) != (b.length:Int)) then
    some false
  else
    (loopF (fun (x:Int)=>law33_sameInts_b2 n a b x) n 0).bind fun y8 =>
    match y8 with
    | .inl vv =>
      some vv
    | .inr vv =>
      law33_sameInts_k1 n
def xlaw33_sameInts (n:Nat):Go.AE.Fn:=mkFn (A:=(List Int)×(List Int)) (R:=Bool) 20 [(false,[.slice 3]),(false,[.slice 3])] false (fun xs=>(((cg (xs.getD 0 []) 0).toSl.map d_Int),((cg (xs.getD 1 []) 0).toSl.map d_Int))) (fun a=>[[.slice (List.map e_Int a.1)],[.slice (List.map e_Int a.2)]]) (fun a=>law33_sameInts n a.1 a.2) (fun r=>[.c .bool (.bool r)]) (fun r=>[])
theorem claw33_sameInts (n:Nat):Contract Try.prog (xlaw33_sameInts n):=by
  have hΓ:=@g0 (Contract Try.prog)
  refine contract_f (Try.f20.body.getD .skip) h00 Try.func20 rfl Try.call20 (by decide) (by intro _ r;exact ⟨rfl,by simp⟩) ?_
  rintro ⟨a,b⟩ r H
  try dsimp only at H
  unfold law33_sameInts at H
  simp only [Try.f20,Option.getD]
  refine rA ?_
  refine Sm.seqK fun K2 hK2=>?_
  refine rA ?_
  refine cnd H (fun h4 H=>?_) (fun h4 H=>?_)
  · refine rA ?_
    refine Sm.ret ?_
    refine lf ?_
    obtain rfl:=Option.some.inj H
    exact rt []
  refine Sm.skip ?_
  refine hK2 _ ?_
  refine Sm.cut (fun (x:Unit)=>law33_sameInts_s1) (fun x=>law33_sameInts_k1 n=some r) ?_ ?_
  · refine rA ?_
    refine Sm.block ?_
    obtain ⟨y8,hy8,Ho8⟩:=bind_some H
    refine Sm.loopB _ (fun x=>law33_sameInts_t2 a b x) hy8 (wb []) ?_
    rintro i z8 H
    try dsimp only at H
    unfold law33_sameInts_b2 at H
    refine Sm.st (law33_sameInts_t2.eq_1 ..) ?_
    refine Sm.seqK fun K9 hK9=>?_
    refine rA ?_
    refine cnd H (fun h11 H=>?_) (fun h11 H=>?_)
    · refine Sm.skip ?_
      refine hK9 _ ?_
      refine Sm.seqK fun K12 hK12=>?_
      refine Sm.block ?_
      obtain ⟨⟨hg16,hg17⟩,H⟩:=gd_some H
      refine rD ?_
      refine cnd H (fun h14 H=>?_) (fun h14 H=>?_)
      · refine rA ?_
        refine Sm.ret ?_
        refine lf ?_
        refine lx H fun hyy=>?_
        subst hyy
        have H:=Ho8
        try dsimp only at H
        refine lf ?_
        obtain rfl:=Option.some.inj H
        exact rt []
      refine Sm.skip ?_
      refine hK12 _ ?_
      refine eA ?_
      refine lf ?_
      exact nx H (wb [])
    refine Sm.exit ?_
    refine lf ?_
    refine lx H fun hyy=>?_
    subst hyy
    have H:=Ho8
    try dsimp only at H
    refine lf ?_
    exact ⟨(),H,wb []⟩
  rintro ⟨⟩ H
  try dsimp only at H
  unfold law33_sameInts_k1 at H
  refine Sm.st (law33_sameInts_s1.eq_1 ..) ?_
  refine rA ?_
  refine Sm.ret ?_
  refine lf ?_
  obtain rfl:=Option.some.inj H
  exact rt []
end Go.Proofs.Ytcbcdjincgclaaa
