/- Text. -/
import Derived.Test.YtkebegfopnlkhaaF
import Derived.Test.YtkebegfopnlkhaaIU
import Derived.Test.YtkebegfopnlkhaaFH
set_option linter.unusedSimpArgs false
set_option linter.unusedVariables false
set_option maxRecDepth 100000
namespace Go.Proofs.Ytkebegfopnlkhaa
end Go.Proofs.Ytkebegfopnlkhaa
/-
  The functions that call one whose contract is written by hand.
-/
set_option maxHeartbeats 8000000
set_option linter.unusedVariables false
set_option linter.unusedSimpArgs false
set_option maxRecDepth 100000
namespace Go.Proofs.Ytkebegfopnlkhaa
open Go.AE
abbrev track_Valid_s1 (t:List TRec):S:=stB [(0,.c (.slice 59) (.slice (List.map e_TRec t)))] []
def track_Valid_k1 (n:Nat) (t:List TRec):Option Bool :=
  (track_Used n t).bind fun r1 =>
  some (decide (r1≤2048))
abbrev track_Valid_t2 (t:List TRec) (v6:Int) (v7:Int):S:=stB [(0,.c (.slice 59) (.slice (List.map e_TRec t))),(5,.c (.slice 59) (.slice (List.map e_TRec t))),(6,.c (.int .i64) (.int v6)),(7,.c (.int .i64) (.int v7))] []
def track_Valid_b2 (n:Nat) (t:List TRec) (v6:Int) (v7:Int):Option ((Int) ⊕ (((Bool) ⊕ (Unit)))) :=
  bif (decide (v7 < v6)) then
    gd ((0≤v7∧v7 < (t.length:Int))) <|
    (track_valid n (gt t (Int.toNat v7))).bind fun r2 =>
    gd ((((!(!r2)) && (decide (v7 > 0)))=true→(0≤(IntKind.wrap .i64 (v7 - 1))∧(IntKind.wrap .i64 (v7 - 1)) < (t.length:Int)))) <|
    bif (if (!r2)=true then true else (if (decide (v7 > 0))=true then (decide (((gt t (Int.toNat v7)).R)≤((gt t (Int.toNat (IntKind.wrap .i64 (v7 - 1)))).R))) else false)) then
      some (.inr (.inl false))
    else
      some (.inl (IntKind.wrap .i64 (v7+1)))
  else
    some (.inr (.inr ()))
def track_Valid (n:Nat) (t:List TRec):Option Bool :=
  (loopF (fun (x:Int)=>track_Valid_b2 n t (t.length:Int) x) n 0).bind fun y4 =>
  match y4 with
  | .inl vv =>
    some vv
  | .inr vv =>
    track_Valid_k1 n t
def xtrack_Valid (n:Nat):Go.AE.Fn:=mkFn (A:=(List TRec)) (R:=Bool) 24 [(false,[.slice 59])] false (fun xs=>((cg (xs.getD 0 []) 0).toSl.map d_TRec)) (fun a=>[[.slice (List.map e_TRec a)]]) (fun a=>track_Valid n a) (fun r=>[.c .bool (.bool r)]) (fun r=>[])
theorem ctrack_Valid (n:Nat):Contract Try.prog (xtrack_Valid n):=by
  have hΓ:=g1 (ctrack_valid n) (g1 (ctrack_Used n) (@g0 (Contract Try.prog)))
  refine contract_f (Try.f24.body.getD .skip) h00 Try.func24 rfl Try.call24 (by decide) (by intro _ r;exact ⟨rfl,by simp⟩) ?_
  rintro t r H
  try dsimp only at H
  unfold track_Valid at H
  simp only [Try.f24,Option.getD]
  refine rA ?_
  refine Sm.cut (fun (x:Unit)=>track_Valid_s1 t) (fun x=>track_Valid_k1 n t=some r) ?_ ?_
  · refine rA ?_
    refine Sm.block ?_
    obtain ⟨y4,hy4,Ho4⟩:=bind_some H
    refine Sm.loopB _ (fun x=>track_Valid_t2 t (t.length:Int) x) hy4 (wb []) ?_
    rintro v7 z4 H
    try dsimp only at H
    unfold track_Valid_b2 at H
    refine Sm.st (track_Valid_t2.eq_1 ..) ?_
    refine rA ?_
    refine Sm.seqK fun K6 hK6=>?_
    refine cnd H (fun h7 H=>?_) (fun h7 H=>?_)
    · refine Sm.skip ?_
      refine hK6 _ ?_
      refine Sm.seqK fun K8 hK8=>?_
      refine Sm.block ?_
      obtain ⟨hg14,H⟩:=gd_some H
      refine rA ?_
      obtain ⟨r2,hr2,H⟩:=bind_some H
      obtain ⟨hg13,H⟩:=gd_some H
      have q:=And.intro @xtrack_valid.eq_1 hr2
      refine rDq ?_
      refine cnd H (fun h11 H=>?_) (fun h11 H=>?_)
      · refine rA ?_
        refine Sm.ret ?_
        refine lf ?_
        refine lx H fun hyy=>?_
        subst hyy
        have H:=Ho4
        try dsimp only at H
        refine lf ?_
        obtain rfl:=Option.some.inj H
        exact rt []
      refine Sm.skip ?_
      refine hK8 _ ?_
      refine eA ?_
      refine lf ?_
      exact nx H (wb [])
    refine Sm.exit ?_
    refine lf ?_
    refine lx H fun hyy=>?_
    subst hyy
    have H:=Ho4
    try dsimp only at H
    refine lf ?_
    exact ⟨(),H,wb []⟩
  rintro ⟨⟩ H
  try dsimp only at H
  unfold track_Valid_k1 at H
  refine Sm.st (track_Valid_s1.eq_1 ..) ?_
  obtain ⟨r1,hr1,H⟩:=bind_some H
  have q:=And.intro @xtrack_valid.eq_1 (And.intro @xtrack_Used.eq_1 hr1)
  refine rAq ?_
  refine Sm.ret ?_
  refine lf ?_
  obtain rfl:=Option.some.inj H
  exact rt []
abbrev law39_SpoolBack_s1 (at_:Int) (which:Int) (v:List TLine) (t:List (List TRec)):S:=stB [(1,.c (.int .u8) (.int at_)),(2,.c (.int .u8) (.int which)),(7,.own 9000 [.int .i64,.str] 0 v.length),(8,.own 9001 [.slice 59] 0 t.length)] [(9000,.row 48 (List.map e_TLine v)),(9001,.row 57 (List.map e_LTRec t))]
def backOk (n:Nat) (t:List (List TRec)) (I K:Int) (len:Int):Prop:=len≤1000000∧∃ (i k:Nat),I=(i:Int)∧K=(k:Int)∧∃ (hi:i < t.length) (hk:k < (t[i]).length),((t[i])[k]).Bad=false∧∀ t',flL t t'→(∀ (h1:i < t'.length) (h2:k < (t'[i]).length),((t'[i])[k]).Bad=true)→spool_Lines n t' len=some ([],390)
noncomputable instance backDec (n:Nat) (t:List (List TRec)) (I K:Int) (len:Int):Decidable (backOk n t I K len):=Classical.propDecidable _
noncomputable def law39_SpoolBack_k1 (n:Nat) (at_:Int) (which:Int) (v:List TLine) (t:List (List TRec)):Option Bool :=
  bif (((t.length:Nat):Int) == 0) then
    some (((v.length:Nat):Int) == 0)
  else
    gd (((t.length:Nat):Int)≠0) <|
    gd ((0≤(Int.tmod (IntKind.wrap .i64 (at_)) ((t.length:Nat):Int))∧(Int.tmod (IntKind.wrap .i64 (at_)) ((t.length:Nat):Int)) < (t.length:Int))∧(Int.toNat (Int.tmod (IntKind.wrap .i64 (at_)) ((t.length:Nat):Int))) < t.length∧((gt t (Int.toNat (Int.tmod (IntKind.wrap .i64 (at_)) ((t.length:Nat):Int)))).length:Int)≠0) <|
    gd (backOk n t (Int.tmod (IntKind.wrap .i64 (at_)) ((t.length:Nat):Int)) (Int.tmod (IntKind.wrap .i64 (which)) ((gt t (Int.toNat (Int.tmod (IntKind.wrap .i64 (at_)) ((t.length:Nat):Int)))).length:Int)) ((v.length:Nat):Int)) <|
    gd ((0≤(Int.tmod (IntKind.wrap .i64 (at_)) ((t.length:Nat):Int))∧(Int.tmod (IntKind.wrap .i64 (at_)) ((t.length:Nat):Int)) < (t.length:Int))∧(Int.toNat (Int.tmod (IntKind.wrap .i64 (at_)) ((t.length:Nat):Int))) < t.length) <|
    gd ((0≤(Int.tmod (IntKind.wrap .i64 (which)) ((gt t (Int.toNat (Int.tmod (IntKind.wrap .i64 (at_)) ((t.length:Nat):Int)))).length:Int))∧(Int.tmod (IntKind.wrap .i64 (which)) ((gt t (Int.toNat (Int.tmod (IntKind.wrap .i64 (at_)) ((t.length:Nat):Int)))).length:Int))≤((gt t (Int.toNat (Int.tmod (IntKind.wrap .i64 (at_)) ((t.length:Nat):Int)))).length:Int))∧(List.take (Int.toNat (Int.tmod (IntKind.wrap .i64 (which)) ((gt t (Int.toNat (Int.tmod (IntKind.wrap .i64 (at_)) ((t.length:Nat):Int)))).length:Int))) (gt t (Int.toNat (Int.tmod (IntKind.wrap .i64 (at_)) ((t.length:Nat):Int))))).length≤2147483648∧(0≤(IntKind.wrap .i64 ((Int.tmod (IntKind.wrap .i64 (which)) ((gt t (Int.toNat (Int.tmod (IntKind.wrap .i64 (at_)) ((t.length:Nat):Int)))).length:Int))+1))∧(IntKind.wrap .i64 ((Int.tmod (IntKind.wrap .i64 (which)) ((gt t (Int.toNat (Int.tmod (IntKind.wrap .i64 (at_)) ((t.length:Nat):Int)))).length:Int))+1))≤((gt t (Int.toNat (Int.tmod (IntKind.wrap .i64 (at_)) ((t.length:Nat):Int)))).length:Int)∧((gt t (Int.toNat (Int.tmod (IntKind.wrap .i64 (at_)) ((t.length:Nat):Int)))).length:Int)≤((gt t (Int.toNat (Int.tmod (IntKind.wrap .i64 (at_)) ((t.length:Nat):Int)))).length:Int))∧((List.take (Int.toNat (Int.tmod (IntKind.wrap .i64 (which)) ((gt t (Int.toNat (Int.tmod (IntKind.wrap .i64 (at_)) ((t.length:Nat):Int)))).length:Int))) (gt t (Int.toNat (Int.tmod (IntKind.wrap .i64 (at_)) ((t.length:Nat):Int))))).length+(List.drop (Int.toNat (IntKind.wrap .i64 ((Int.tmod (IntKind.wrap .i64 (which)) ((gt t (Int.toNat (Int.tmod (IntKind.wrap .i64 (at_)) ((t.length:Nat):Int)))).length:Int))+1))) (gt t (Int.toNat (Int.tmod (IntKind.wrap .i64 (at_)) ((t.length:Nat):Int))))).length)≤2147483648∧(0≤(Int.tmod (IntKind.wrap .i64 (at_)) ((t.length:Nat):Int))∧(Int.tmod (IntKind.wrap .i64 (at_)) ((t.length:Nat):Int)) < (t.length:Int))∧(Int.toNat (Int.tmod (IntKind.wrap .i64 (at_)) ((t.length:Nat):Int))) < t.length) <|
    (spool_Lines n (List.set t (Int.toNat (Int.tmod (IntKind.wrap .i64 (at_)) ((t.length:Nat):Int))) ((List.take (Int.toNat (Int.tmod (IntKind.wrap .i64 (which)) ((gt t (Int.toNat (Int.tmod (IntKind.wrap .i64 (at_)) ((t.length:Nat):Int)))).length:Int))) (gt t (Int.toNat (Int.tmod (IntKind.wrap .i64 (at_)) ((t.length:Nat):Int))))) ++ (List.drop (Int.toNat (IntKind.wrap .i64 ((Int.tmod (IntKind.wrap .i64 (which)) ((gt t (Int.toNat (Int.tmod (IntKind.wrap .i64 (at_)) ((t.length:Nat):Int)))).length:Int))+1))) (gt t (Int.toNat (Int.tmod (IntKind.wrap .i64 (at_)) ((t.length:Nat):Int))))))) ((v.length:Nat):Int)).bind fun r5 =>
    gd ((0≤(Int.tmod (IntKind.wrap .i64 (at_)) ((t.length:Nat):Int))∧(Int.tmod (IntKind.wrap .i64 (at_)) ((t.length:Nat):Int)) < (t.length:Int))∧(Int.toNat (Int.tmod (IntKind.wrap .i64 (at_)) ((t.length:Nat):Int))) < t.length) <|
    gd ((0≤(Int.tmod (IntKind.wrap .i64 (at_)) ((t.length:Nat):Int))∧(Int.tmod (IntKind.wrap .i64 (at_)) ((t.length:Nat):Int))≤(t.length:Int))∧(List.take (Int.toNat ((Int.tmod (IntKind.wrap .i64 (at_)) ((t.length:Nat):Int)) - 0)) (List.set (List.set t (Int.toNat (Int.tmod (IntKind.wrap .i64 (at_)) ((t.length:Nat):Int))) ((List.take (Int.toNat (Int.tmod (IntKind.wrap .i64 (which)) ((gt t (Int.toNat (Int.tmod (IntKind.wrap .i64 (at_)) ((t.length:Nat):Int)))).length:Int))) (gt t (Int.toNat (Int.tmod (IntKind.wrap .i64 (at_)) ((t.length:Nat):Int))))) ++ (List.drop (Int.toNat (IntKind.wrap .i64 ((Int.tmod (IntKind.wrap .i64 (which)) ((gt t (Int.toNat (Int.tmod (IntKind.wrap .i64 (at_)) ((t.length:Nat):Int)))).length:Int))+1))) (gt t (Int.toNat (Int.tmod (IntKind.wrap .i64 (at_)) ((t.length:Nat):Int))))))) (Int.toNat (Int.tmod (IntKind.wrap .i64 (at_)) ((t.length:Nat):Int))) (gt t (Int.toNat (Int.tmod (IntKind.wrap .i64 (at_)) ((t.length:Nat):Int)))))).length≤2147483648∧(0≤(IntKind.wrap .i64 ((Int.tmod (IntKind.wrap .i64 (at_)) ((t.length:Nat):Int))+1))∧(IntKind.wrap .i64 ((Int.tmod (IntKind.wrap .i64 (at_)) ((t.length:Nat):Int))+1))≤(t.length:Int)∧(t.length:Int)≤(t.length:Int))∧((List.take (Int.toNat ((Int.tmod (IntKind.wrap .i64 (at_)) ((t.length:Nat):Int)) - 0)) (List.set (List.set t (Int.toNat (Int.tmod (IntKind.wrap .i64 (at_)) ((t.length:Nat):Int))) ((List.take (Int.toNat (Int.tmod (IntKind.wrap .i64 (which)) ((gt t (Int.toNat (Int.tmod (IntKind.wrap .i64 (at_)) ((t.length:Nat):Int)))).length:Int))) (gt t (Int.toNat (Int.tmod (IntKind.wrap .i64 (at_)) ((t.length:Nat):Int))))) ++ (List.drop (Int.toNat (IntKind.wrap .i64 ((Int.tmod (IntKind.wrap .i64 (which)) ((gt t (Int.toNat (Int.tmod (IntKind.wrap .i64 (at_)) ((t.length:Nat):Int)))).length:Int))+1))) (gt t (Int.toNat (Int.tmod (IntKind.wrap .i64 (at_)) ((t.length:Nat):Int))))))) (Int.toNat (Int.tmod (IntKind.wrap .i64 (at_)) ((t.length:Nat):Int))) (gt t (Int.toNat (Int.tmod (IntKind.wrap .i64 (at_)) ((t.length:Nat):Int)))))).length+(List.take (Int.toNat ((t.length:Int) - (IntKind.wrap .i64 ((Int.tmod (IntKind.wrap .i64 (at_)) ((t.length:Nat):Int))+1)))) (List.drop (Int.toNat (IntKind.wrap .i64 ((Int.tmod (IntKind.wrap .i64 (at_)) ((t.length:Nat):Int))+1))) (List.set (List.set t (Int.toNat (Int.tmod (IntKind.wrap .i64 (at_)) ((t.length:Nat):Int))) ((List.take (Int.toNat (Int.tmod (IntKind.wrap .i64 (which)) ((gt t (Int.toNat (Int.tmod (IntKind.wrap .i64 (at_)) ((t.length:Nat):Int)))).length:Int))) (gt t (Int.toNat (Int.tmod (IntKind.wrap .i64 (at_)) ((t.length:Nat):Int))))) ++ (List.drop (Int.toNat (IntKind.wrap .i64 ((Int.tmod (IntKind.wrap .i64 (which)) ((gt t (Int.toNat (Int.tmod (IntKind.wrap .i64 (at_)) ((t.length:Nat):Int)))).length:Int))+1))) (gt t (Int.toNat (Int.tmod (IntKind.wrap .i64 (at_)) ((t.length:Nat):Int))))))) (Int.toNat (Int.tmod (IntKind.wrap .i64 (at_)) ((t.length:Nat):Int))) (gt t (Int.toNat (Int.tmod (IntKind.wrap .i64 (at_)) ((t.length:Nat):Int))))))).length)≤2147483648) <|
    (spool_Lines n ((List.take (Int.toNat ((Int.tmod (IntKind.wrap .i64 (at_)) ((t.length:Nat):Int)) - 0)) (List.set (List.set t (Int.toNat (Int.tmod (IntKind.wrap .i64 (at_)) ((t.length:Nat):Int))) ((List.take (Int.toNat (Int.tmod (IntKind.wrap .i64 (which)) ((gt t (Int.toNat (Int.tmod (IntKind.wrap .i64 (at_)) ((t.length:Nat):Int)))).length:Int))) (gt t (Int.toNat (Int.tmod (IntKind.wrap .i64 (at_)) ((t.length:Nat):Int))))) ++ (List.drop (Int.toNat (IntKind.wrap .i64 ((Int.tmod (IntKind.wrap .i64 (which)) ((gt t (Int.toNat (Int.tmod (IntKind.wrap .i64 (at_)) ((t.length:Nat):Int)))).length:Int))+1))) (gt t (Int.toNat (Int.tmod (IntKind.wrap .i64 (at_)) ((t.length:Nat):Int))))))) (Int.toNat (Int.tmod (IntKind.wrap .i64 (at_)) ((t.length:Nat):Int))) (gt t (Int.toNat (Int.tmod (IntKind.wrap .i64 (at_)) ((t.length:Nat):Int)))))) ++ (List.take (Int.toNat ((t.length:Int) - (IntKind.wrap .i64 ((Int.tmod (IntKind.wrap .i64 (at_)) ((t.length:Nat):Int))+1)))) (List.drop (Int.toNat (IntKind.wrap .i64 ((Int.tmod (IntKind.wrap .i64 (at_)) ((t.length:Nat):Int))+1))) (List.set (List.set t (Int.toNat (Int.tmod (IntKind.wrap .i64 (at_)) ((t.length:Nat):Int))) ((List.take (Int.toNat (Int.tmod (IntKind.wrap .i64 (which)) ((gt t (Int.toNat (Int.tmod (IntKind.wrap .i64 (at_)) ((t.length:Nat):Int)))).length:Int))) (gt t (Int.toNat (Int.tmod (IntKind.wrap .i64 (at_)) ((t.length:Nat):Int))))) ++ (List.drop (Int.toNat (IntKind.wrap .i64 ((Int.tmod (IntKind.wrap .i64 (which)) ((gt t (Int.toNat (Int.tmod (IntKind.wrap .i64 (at_)) ((t.length:Nat):Int)))).length:Int))+1))) (gt t (Int.toNat (Int.tmod (IntKind.wrap .i64 (at_)) ((t.length:Nat):Int))))))) (Int.toNat (Int.tmod (IntKind.wrap .i64 (at_)) ((t.length:Nat):Int))) (gt t (Int.toNat (Int.tmod (IntKind.wrap .i64 (at_)) ((t.length:Nat):Int)))))))) ((v.length:Nat):Int)).bind fun r6 =>
    bif (if (if false=true then true else (r5.2 != 390))=true then true else (r6.2 != 390)) then
      some false
    else
      bif (decide (((t.length:Nat):Int) > 1)) then
        gd (((t.length:Nat):Int)≠0) <|
        gd ((0≤(Int.tmod (IntKind.wrap .i64 ((Int.tmod (IntKind.wrap .i64 (at_)) ((t.length:Nat):Int))+1)) ((t.length:Nat):Int))∧(Int.tmod (IntKind.wrap .i64 ((Int.tmod (IntKind.wrap .i64 (at_)) ((t.length:Nat):Int))+1)) ((t.length:Nat):Int)) < (t.length:Int))∧(Int.toNat (Int.tmod (IntKind.wrap .i64 ((Int.tmod (IntKind.wrap .i64 (at_)) ((t.length:Nat):Int))+1)) ((t.length:Nat):Int))) < t.length∧(0≤(Int.tmod (IntKind.wrap .i64 (at_)) ((t.length:Nat):Int))∧(Int.tmod (IntKind.wrap .i64 (at_)) ((t.length:Nat):Int)) < (t.length:Int))∧(Int.toNat (Int.tmod (IntKind.wrap .i64 (at_)) ((t.length:Nat):Int))) < t.length∧(0≤(Int.tmod (IntKind.wrap .i64 (at_)) ((t.length:Nat):Int))∧(Int.tmod (IntKind.wrap .i64 (at_)) ((t.length:Nat):Int)) < (t.length:Int))∧(Int.toNat (Int.tmod (IntKind.wrap .i64 (at_)) ((t.length:Nat):Int))) < t.length∧(0≤(Int.tmod (IntKind.wrap .i64 ((Int.tmod (IntKind.wrap .i64 (at_)) ((t.length:Nat):Int))+1)) ((t.length:Nat):Int))∧(Int.tmod (IntKind.wrap .i64 ((Int.tmod (IntKind.wrap .i64 (at_)) ((t.length:Nat):Int))+1)) ((t.length:Nat):Int)) < (t.length:Int))∧(Int.toNat (Int.tmod (IntKind.wrap .i64 ((Int.tmod (IntKind.wrap .i64 (at_)) ((t.length:Nat):Int))+1)) ((t.length:Nat):Int))) < t.length) <|
        (spool_Lines n (List.set (List.set (List.set (List.set t (Int.toNat (Int.tmod (IntKind.wrap .i64 (at_)) ((t.length:Nat):Int))) ((List.take (Int.toNat (Int.tmod (IntKind.wrap .i64 (which)) ((gt t (Int.toNat (Int.tmod (IntKind.wrap .i64 (at_)) ((t.length:Nat):Int)))).length:Int))) (gt t (Int.toNat (Int.tmod (IntKind.wrap .i64 (at_)) ((t.length:Nat):Int))))) ++ (List.drop (Int.toNat (IntKind.wrap .i64 ((Int.tmod (IntKind.wrap .i64 (which)) ((gt t (Int.toNat (Int.tmod (IntKind.wrap .i64 (at_)) ((t.length:Nat):Int)))).length:Int))+1))) (gt t (Int.toNat (Int.tmod (IntKind.wrap .i64 (at_)) ((t.length:Nat):Int))))))) (Int.toNat (Int.tmod (IntKind.wrap .i64 (at_)) ((t.length:Nat):Int))) (gt t (Int.toNat (Int.tmod (IntKind.wrap .i64 (at_)) ((t.length:Nat):Int))))) (Int.toNat (Int.tmod (IntKind.wrap .i64 (at_)) ((t.length:Nat):Int))) (gt (List.set (List.set t (Int.toNat (Int.tmod (IntKind.wrap .i64 (at_)) ((t.length:Nat):Int))) ((List.take (Int.toNat (Int.tmod (IntKind.wrap .i64 (which)) ((gt t (Int.toNat (Int.tmod (IntKind.wrap .i64 (at_)) ((t.length:Nat):Int)))).length:Int))) (gt t (Int.toNat (Int.tmod (IntKind.wrap .i64 (at_)) ((t.length:Nat):Int))))) ++ (List.drop (Int.toNat (IntKind.wrap .i64 ((Int.tmod (IntKind.wrap .i64 (which)) ((gt t (Int.toNat (Int.tmod (IntKind.wrap .i64 (at_)) ((t.length:Nat):Int)))).length:Int))+1))) (gt t (Int.toNat (Int.tmod (IntKind.wrap .i64 (at_)) ((t.length:Nat):Int))))))) (Int.toNat (Int.tmod (IntKind.wrap .i64 (at_)) ((t.length:Nat):Int))) (gt t (Int.toNat (Int.tmod (IntKind.wrap .i64 (at_)) ((t.length:Nat):Int))))) (Int.toNat (Int.tmod (IntKind.wrap .i64 ((Int.tmod (IntKind.wrap .i64 (at_)) ((t.length:Nat):Int))+1)) ((t.length:Nat):Int))))) (Int.toNat (Int.tmod (IntKind.wrap .i64 ((Int.tmod (IntKind.wrap .i64 (at_)) ((t.length:Nat):Int))+1)) ((t.length:Nat):Int))) (gt (List.set (List.set t (Int.toNat (Int.tmod (IntKind.wrap .i64 (at_)) ((t.length:Nat):Int))) ((List.take (Int.toNat (Int.tmod (IntKind.wrap .i64 (which)) ((gt t (Int.toNat (Int.tmod (IntKind.wrap .i64 (at_)) ((t.length:Nat):Int)))).length:Int))) (gt t (Int.toNat (Int.tmod (IntKind.wrap .i64 (at_)) ((t.length:Nat):Int))))) ++ (List.drop (Int.toNat (IntKind.wrap .i64 ((Int.tmod (IntKind.wrap .i64 (which)) ((gt t (Int.toNat (Int.tmod (IntKind.wrap .i64 (at_)) ((t.length:Nat):Int)))).length:Int))+1))) (gt t (Int.toNat (Int.tmod (IntKind.wrap .i64 (at_)) ((t.length:Nat):Int))))))) (Int.toNat (Int.tmod (IntKind.wrap .i64 (at_)) ((t.length:Nat):Int))) (gt t (Int.toNat (Int.tmod (IntKind.wrap .i64 (at_)) ((t.length:Nat):Int))))) (Int.toNat (Int.tmod (IntKind.wrap .i64 (at_)) ((t.length:Nat):Int))))) ((v.length:Nat):Int)).bind fun r7 =>
        some (r7.2 == 390)
      else
        some true
abbrev law39_SpoolBack_t2 (at_:Int) (which:Int) (v_1:List TLine) (t_1:List (List TRec)) (v54:Int) (v55:Int):S:=stB [(1,.c (.int .u8) (.int at_)),(2,.c (.int .u8) (.int which)),(7,.own 9004 [.int .i64,.str] 0 v_1.length),(8,.own 9005 [.slice 59] 0 t_1.length),(54,.c (.int .i64) (.int v54)),(55,.c (.int .i64) (.int v55))] [(9004,.row 48 (List.map e_TLine v_1)),(9005,.row 57 (List.map e_LTRec t_1))]
def law39_SpoolBack_b2 (n:Nat) (at_:Int) (which:Int) (v_1:List TLine) (t_1:List (List TRec)) (v54:Int) (v55:Int):Option ((Int) ⊕ (((Bool) ⊕ (Unit)))) :=
  bif (decide (v55 < v54)) then
    gd ((0≤v55∧v55 < (t_1.length:Int))∧(Int.toNat v55) < t_1.length) <|
    (track_Valid n (gt t_1 (Int.toNat v55))).bind fun r8 =>
    gd (((!(!r8))=true→(0≤v55∧v55 < (t_1.length:Int)))∧((!(!r8))=true→(Int.toNat v55) < t_1.length)) <|
    bif (if (!r8)=true then true else (((gt t_1 (Int.toNat v55)).length:Int) == 0)) then
      some (.inr (.inl false))
    else
      some (.inl (IntKind.wrap .i64 (v55+1)))
  else
    some (.inr (.inr ()))
noncomputable def law39_SpoolBack (n:Nat) (l:List TLine) (at_:Int) (which:Int):Option Bool :=
  (law39_works n).bind fun r1 =>
  bif (!r1) then
    some false
  else
    (law39_Valid n l).bind fun r2 =>
    (spool_Tracks n r2).bind fun r3 =>
    (spool_Lines n r3.1 ((r2.length:Nat):Int)).bind fun r4 =>
    gd (((!(if (r3.2 != 0)=true then true else (r4.2 != 0)))=true→(law39_equal n r4.1 r2).isSome=true)) <|
    bif (if (if (r3.2 != 0)=true then true else (r4.2 != 0))=true then true else (!((law39_equal n r4.1 r2).getD default))) then
      some false
    else
      (loopF (fun (x:Int)=>law39_SpoolBack_b2 n at_ which r2 r3.1 ((r3.1.length:Nat):Int) x) n 0).bind fun y67 =>
      match y67 with
      | .inl vv =>
        some vv
      | .inr vv =>
        law39_SpoolBack_k1 n at_ which r2 r3.1
noncomputable def xlaw39_SpoolBack (n:Nat):Go.AE.Fn:=mkFn (A:=(List TLine)×Int×Int) (R:=Bool) 8 [(false,[.slice 48]),(false,[.int .u8]),(false,[.int .u8])] false (fun xs=>(((cg (xs.getD 0 []) 0).toSl.map d_TLine),(cg (xs.getD 1 []) 0).toInt,(cg (xs.getD 2 []) 0).toInt)) (fun a=>[[.slice (List.map e_TLine a.1)],[.int a.2.1],[.int a.2.2]]) (fun a=>law39_SpoolBack n a.1 a.2.1 a.2.2) (fun r=>[.c .bool (.bool r)]) (fun r=>[])
theorem lines_lost {n:Nat} {w:World} {v8:Value} {t:List (List TRec)} {m:Nat} (hm:m≤1000000) (hl:spool_Lines n t ((m:Nat):Int)=some ([],390)) (h:RepC Try.prog w (fun b=>b < w.heap.size) (.slice 57) v8 (.slice (List.map e_LTRec t))) :
    Calls Try.prog 22 #[v8,.int .i64 ((m:Nat):Int)] w fun e w'=>∃ u,e = .returned u∧∃ x,u = .tuple #[x,.int .i64 390]∧Go.RowKit.Below w.heap.size w w':=by
  have hsem:((xspool_Lines n).sem [[.slice (List.map e_LTRec t)],[.int ((m:Nat):Int)]]).res=[.own 0 [.int .i64,.str] 0 0,.c (.int .i64) (.int 390)]:=by
    show ([.own 0 [.int .i64,.str] 0 ((spool_Lines n (List.map d_LTRec (List.map e_LTRec t)) ((m:Nat):Int)).getD default).1.length,.c (.int .i64) (.int ((spool_Lines n (List.map d_LTRec (List.map e_LTRec t)) ((m:Nat):Int)).getD default).2)]:List A)=_
    rw [de_LTRec,hl];rfl
  have hc:=(cspool_Lines n).new rfl w (fun b=>b < w.heap.size) [v8,.int .i64 ((m:Nat):Int)] [[.slice (List.map e_LTRec t)],[.int ((m:Nat):Int)]] (fun _ h=>h) rfl rfl (fun i hi=>by
    match i,hi with
    | 0,_=>exact ⟨rfl,rfl,h⟩
    | 1,_ =>
      refine ⟨rfl,rfl,.int .i64 (.int ((m:Nat):Int)) ?_⟩
      have e1:IntKind.i64.min = -9223372036854775808:=by decide
      have e2:IntKind.i64.max=9223372036854775807:=by decide
      show IntKind.i64.min≤((m:Nat):Int)∧((m:Nat):Int)≤IntKind.i64.max
      omega) ⟨by
        show [[C.slice (List.map e_LTRec t)],[C.int ((m:Nat):Int)]]=[[.slice (List.map e_LTRec (List.map d_LTRec (List.map e_LTRec t)))],[.int ((m:Nat):Int)]]
        rw [de_LTRec],by
        show (spool_Lines n (List.map d_LTRec (List.map e_LTRec t)) ((m:Nat):Int)).isSome=true
        rw [de_LTRec,hl];rfl⟩
  refine hc.mono ?_
  rintro e w' ⟨u,rfl,hB,_,σr,_,_,hv⟩
  rw [hsem] at hv
  refine ⟨u,rfl,?_⟩
  cases hv with
  | tup vs _ hl' hh =>
    match vs,hl' with
    | [x,y],_ =>
      have h1:=hh 1 (by decide)
      have h1:ARel Try.prog w' _ σr y (.c (.int .i64) (.int 390)):=h1
      cases h1 with
      | c _ _ _ h2=>cases h2 with
        | int _ _ _=>exact ⟨x,rfl,hB⟩
theorem claw39_SpoolBack (n:Nat):Contract Try.prog (xlaw39_SpoolBack n):=by
  have hΓ:=g1 (claw39_works n) (g1 (claw39_Valid n) (g1 (cspool_Tracks n) (g1 (cspool_Lines n) (g1 (claw39_equal n) (g1 (ctrack_Valid n) (@g0 (Contract Try.prog)))))))
  refine contract_f (Try.f8.body.getD .skip) h00 Try.func8 rfl Try.call8 (by decide) (by intro _ r;exact ⟨rfl,by simp⟩) ?_
  rintro ⟨l,at_,which⟩ r H
  try dsimp only at H
  unfold law39_SpoolBack at H
  simp only [Try.f8,Option.getD]
  refine rA ?_
  refine Sm.seqK fun K2 hK2=>?_
  obtain ⟨r1,hr1,H⟩:=bind_some H
  have q:=And.intro @xlaw39_works.eq_1 hr1
  refine rAq ?_
  refine cnd H (fun h4 H=>?_) (fun h4 H=>?_)
  · refine rA ?_
    refine Sm.ret ?_
    refine lf ?_
    obtain rfl:=Option.some.inj H
    exact rt []
  refine Sm.skip ?_
  refine hK2 _ ?_
  obtain ⟨r2,hr2,H⟩:=bind_some H
  have q:=And.intro @xlaw39_works.eq_1 (And.intro @xlaw39_Valid.eq_1 hr2)
  refine rAq ?_
  obtain ⟨r3,hr3,H⟩:=bind_some H
  have q:=And.intro @xlaw39_works.eq_1 (And.intro @xlaw39_Valid.eq_1 (And.intro @xspool_Tracks.eq_1 hr3))
  refine rAq ?_
  obtain ⟨r4,hr4,H⟩:=bind_some H
  have q:=And.intro @xlaw39_works.eq_1 (And.intro @xlaw39_Valid.eq_1 (And.intro @xspool_Tracks.eq_1 (And.intro @xspool_Lines.eq_1 hr4)))
  refine rAq ?_
  refine Sm.seqK fun K9 hK9=>?_
  obtain ⟨hg80,H⟩:=gd_some H
  have q:=And.intro @xlaw39_works.eq_1 (And.intro @xlaw39_Valid.eq_1 (And.intro @xspool_Tracks.eq_1 (And.intro @xspool_Lines.eq_1 @xlaw39_equal.eq_1)))
  refine rAq ?_
  refine cnd H (fun h11 H=>?_) (fun h11 H=>?_)
  · refine rA ?_
    refine Sm.ret ?_
    refine lf ?_
    obtain rfl:=Option.some.inj H
    exact rt []
  refine Sm.skip ?_
  refine hK9 _ ?_
  refine Sm.cut (fun (x:(List TLine)×(List (List TRec)))=>law39_SpoolBack_s1 at_ which x.1 x.2) (fun x=>law39_SpoolBack_k1 n at_ which x.1 x.2=some r) ?_ ?_
  · refine rA ?_
    refine Sm.block ?_
    obtain ⟨y67,hy67,Ho67⟩:=bind_some H
    refine Sm.loopB _ (fun x=>law39_SpoolBack_t2 at_ which r2 r3.1 ((r3.1.length:Nat):Int) x) hy67 (wb [some 448,some 496]) ?_
    rintro v55 z67 H
    try dsimp only at H
    unfold law39_SpoolBack_b2 at H
    refine Sm.st (law39_SpoolBack_t2.eq_1 ..) ?_
    refine rA ?_
    refine Sm.seqK fun K69 hK69=>?_
    refine cnd H (fun h70 H=>?_) (fun h70 H=>?_)
    · refine Sm.skip ?_
      refine hK69 _ ?_
      refine Sm.seqK fun K71 hK71=>?_
      refine Sm.block ?_
      refine rA ?_
      obtain ⟨⟨hg76,hg77⟩,H⟩:=gd_some H
      obtain ⟨r8,hr8,H⟩:=bind_some H
      obtain ⟨⟨hg78,hg79⟩,H⟩:=gd_some H
      have q:=And.intro @xlaw39_works.eq_1 (And.intro @xlaw39_Valid.eq_1 (And.intro @xspool_Tracks.eq_1 (And.intro @xspool_Lines.eq_1 (And.intro @xlaw39_equal.eq_1 (And.intro @xtrack_Valid.eq_1 hr8)))))
      refine rAq ?_
      refine cnd H (fun h74 H=>?_) (fun h74 H=>?_)
      · refine rA ?_
        refine Sm.ret ?_
        refine lf ?_
        refine lx H fun hyy=>?_
        subst hyy
        have H:=Ho67
        try dsimp only at H
        refine lf ?_
        obtain rfl:=Option.some.inj H
        exact rt []
      refine Sm.skip ?_
      refine hK71 _ ?_
      refine eA ?_
      refine lf ?_
      exact nx H (wb [some 9004,some 9005])
    refine Sm.exit ?_
    refine lf ?_
    refine lx H fun hyy=>?_
    subst hyy
    have H:=Ho67
    try dsimp only at H
    refine lf ?_
    exact ⟨(r2,r3.1),H,wb [some 9004,some 9005]⟩
  rintro ⟨v,t⟩ H
  try dsimp only at H
  unfold law39_SpoolBack_k1 at H
  refine Sm.st (law39_SpoolBack_s1.eq_1 ..) ?_
  refine Sm.seqK fun K13 hK13=>?_
  refine rA ?_
  refine cnd H (fun h15 H=>?_) (fun h15 H=>?_)
  · refine rA ?_
    refine Sm.ret ?_
    refine lf ?_
    obtain rfl:=Option.some.inj H
    exact rt []
  refine Sm.skip ?_
  refine hK13 _ ?_
  obtain ⟨hg65,H⟩:=gd_some H
  refine rA ?_
  obtain ⟨⟨hg62,hg63,hg64⟩,H⟩:=gd_some H
  refine rA ?_
  obtain ⟨hgB,H⟩:=gd_some H
  obtain ⟨hmB,iB,kB,hIB,hKB,hiB,hkB,hbB,hLB⟩:=hgB
  refine Sm.frag (t:=t) (v:=v) (i:=iB) (k:=kB) ⟨rfl,rfl,rfl⟩ ⟨rfl,rfl,rfl⟩ ⟨rfl,rfl,rfl⟩ ⟨rfl,rfl,rfl⟩ ⟨rfl,rfl,rfl⟩ ⟨rfl,rfl,rfl⟩ ⟨rfl,rfl,rfl⟩ ⟨rfl,rfl,rfl⟩ ⟨rfl,rfl,rfl⟩ ⟨rfl,rfl,rfl⟩ ⟨rfl,rfl,rfl⟩ ⟨rfl,rfl,rfl⟩ ⟨rfl,rfl,rfl⟩ ⟨rfl,rfl,rfl⟩ ⟨rfl,rfl,rfl⟩ ⟨rfl,rfl,rfl⟩ ⟨rfl,rfl,rfl⟩ ⟨rfl,rfl,rfl⟩ ⟨rfl,rfl,rfl⟩ ⟨rfl,rfl,rfl⟩ ⟨rfl,rfl,rfl⟩ ⟨rfl,rfl,rfl⟩ ⟨rfl,rfl,rfl⟩ ⟨rfl,rfl,rfl⟩ ⟨rfl,rfl,rfl⟩
    (by simp only [z,seval]) (by simp only [z,seval]) (by simp only [z,seval,hIB]) (by simp only [z,seval,hKB]) hiB hkB hbB Try.call22 (fun w v8 t' hr hf hb=>lines_lost (by omega) (hLB t' hf hb) hr) ?_
  simp only [fragD,unkTs]
  obtain ⟨⟨hg60,hg61⟩,H⟩:=gd_some H
  refine rA ?_
  obtain ⟨⟨hg24,hg25,hg26,hg27,hg28,hg29⟩,H⟩:=gd_some H
  refine sQ [0,1,2,3,4,5,6,7,8,9,10,11,12,13] [(none,[],[]),(none,[],[]),(none,[],[1904]),(none,[],[]),(none,[],[]),(none,[],[]),(none,[1904],[1968,1904]),(none,[],[]),(none,[],[]),(none,[],[]),(none,[],[]),(none,[1968],[2048,1968]),(none,[9001],[]),(none,[2048,9001],[2048,9001])] fun K23 hK23=>?_
  iterate 14 refine oQ ?_
  refine opsQ0 ?_
  refine hK23 _ ?_
  obtain ⟨r5,hr5,H⟩:=bind_some H
  have q:=And.intro @xlaw39_works.eq_1 (And.intro @xlaw39_Valid.eq_1 (And.intro @xspool_Tracks.eq_1 (And.intro @xspool_Lines.eq_1 hr5)))
  refine rAq ?_
  obtain ⟨⟨hg58,hg59⟩,H⟩:=gd_some H
  refine rA ?_
  obtain ⟨⟨hg33,hg34,hg35,hg36⟩,H⟩:=gd_some H
  obtain ⟨r6,hr6,H⟩:=bind_some H
  refine sQ [0,1,2,3,4,5,6,7,8,9,10,11,12,13,14,15,16,17] [(none,[],[2272]),(none,[],[]),(none,[],[]),(none,[9001],[]),(none,[2272,9001],[2336,2272]),(none,[],[]),(none,[],[]),(none,[],[]),(none,[9001],[]),(none,[2336,9001],[2416,2336]),(none,[],[]),(none,[9000],[]),(none,[2416],[2479,2478,2477,2476,2475,2474,2473,2472,2471,2470,2469,2468,2467,2466,2465,2464,2416]),(none,[],[]),(none,[],[]),(none,[],[]),(none,[],[]),(none,[],[])] fun K32 hK32=>?_
  have q:=And.intro @xlaw39_works.eq_1 (And.intro @xlaw39_Valid.eq_1 (And.intro @xspool_Tracks.eq_1 (And.intro @xspool_Lines.eq_1 hr6)))
  iterate 18 refine oQq ?_
  refine opsQ0 ?_
  refine hK32 _ ?_
  refine Sm.seqK fun K37 hK37=>?_
  refine rA ?_
  refine cnd H (fun h39 H=>?_) (fun h39 H=>?_)
  · refine rA ?_
    refine Sm.ret ?_
    refine lf ?_
    obtain rfl:=Option.some.inj H
    exact rt []
  refine Sm.skip ?_
  refine hK37 _ ?_
  refine Sm.seqK fun K41 hK41=>?_
  refine rA ?_
  refine cnd H (fun h43 H=>?_) (fun h43 H=>?_)
  · obtain ⟨hg56,H⟩:=gd_some H
    refine rA ?_
    obtain ⟨⟨hg48,hg49,hg50,hg51,hg52,hg53,hg54,hg55⟩,H⟩:=gd_some H
    refine rD ?_
    obtain ⟨r7,hr7,H⟩:=bind_some H
    have qT:∀ (i1 i2 i3 i4:Nat) (x1 x2 x3 x4:List TRec),List.take t.length ((((t.set i1 x1).set i2 x2).set i3 x3).set i4 x4)=(((t.set i1 x1).set i2 x2).set i3 x3).set i4 x4:=fun _ _ _ _ _ _ _ _=>List.take_of_length_le (by simp)
    have q:=And.intro @xlaw39_works.eq_1 (And.intro @xlaw39_Valid.eq_1 (And.intro @xspool_Tracks.eq_1 (And.intro @xspool_Lines.eq_1 (And.intro hr7 qT))))
    refine rAq ?_
    refine rA ?_
    refine Sm.ret ?_
    refine lf ?_
    obtain rfl:=Option.some.inj H
    exact rt []
  refine Sm.skip ?_
  refine hK41 _ ?_
  refine rA ?_
  refine Sm.ret ?_
  refine lf ?_
  obtain rfl:=Option.some.inj H
  exact rt []
end Go.Proofs.Ytkebegfopnlkhaa
