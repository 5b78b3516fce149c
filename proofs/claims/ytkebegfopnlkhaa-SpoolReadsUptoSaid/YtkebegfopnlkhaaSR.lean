/- Text. -/
import Derived.Test.YtkebegfopnlkhaaFL
set_option maxHeartbeats 8000000
set_option linter.unusedVariables false
set_option linter.unusedSimpArgs false
set_option maxRecDepth 100000
namespace Go.Proofs.Ytkebegfopnlkhaa
open Go.AE
def bytS (b:List Int):Prop:=∀ x∈b,0≤x∧x≤255
def szX (m:Nat) (x:List (List TRec)):Prop:=x.length≤m∧∀ t∈x,t.length≤300∧∀ r∈t,r.Data.length≤2000∧r.Key.length≤2000
def okX (x:List (List TRec)):Prop:=szX 301 x∧∀ t∈x,∀ r∈t,bytS r.Data∧bytS r.Key
def okC (c:C):Prop:=∃ x,c = .slice (List.map e_LTRec x)∧okX x
def preS (cs:List (List C)):Prop:=∃ (u:List (List TRec)) (a h b:Int),cs=[[.slice (List.map e_LTRec u)],[.int a],[.int h],[.int b]]∧szX 300 u
abbrev psS:List (Bool×List Kd):=[(false,[.slice 57]),(false,[.int .u8]),(false,[.int .u8]),(false,[.int .u8])]
def okSR (n:Nat) (l:List TLine) (t:List (List TRec)) (n_:Int):Prop :=
  ∃ r1 r2 r3,law39_Valid n l=some r1∧ref39_Layout n r1=some r2∧law39_cut n t=some r3∧law39_reads n r3 n_=some true∧law39_reads n r2 n_=some true∧law39_reads n r2 ((r1.length:Nat):Int)=some true∧szX 300 r2 ∧
    (∀ x,okX x→law39_reads n x ((r1.length:Nat):Int)=some true)∧(r2.length+r3.length)≤2147483648∧law39_reads n (r2 ++ r3) ((r1.length:Nat):Int)=some true∧law39_works n=some true
open Classical in
noncomputable def law39_SpoolReads (n:Nat) (l:List TLine) (t:List (List TRec)) (n_:Int) (at_:Int) (how:Int) (by_:Int):Option Bool :=
  if okSR n l t n_ then some true else none
noncomputable def xlaw39_SpoolReads (n:Nat):Go.AE.Fn:=mkFn (A:=(List TLine)×(List (List TRec))×Int×Int×Int×Int) (R:=Bool) 4 [(false,[.slice 48]),(false,[.slice 57]),(false,[.int .i64]),(false,[.int .u8]),(false,[.int .u8]),(false,[.int .u8])] false (fun xs=>(((cg (xs.getD 0 []) 0).toSl.map d_TLine),((cg (xs.getD 1 []) 0).toSl.map d_LTRec),(cg (xs.getD 2 []) 0).toInt,(cg (xs.getD 3 []) 0).toInt,(cg (xs.getD 4 []) 0).toInt,(cg (xs.getD 5 []) 0).toInt)) (fun a=>[[.slice (List.map e_TLine a.1)],[.slice (List.map e_LTRec a.2.1)],[.int a.2.2.1],[.int a.2.2.2.1],[.int a.2.2.2.2.1],[.int a.2.2.2.2.2]]) (fun a=>law39_SpoolReads n a.1 a.2.1 a.2.2.1 a.2.2.2.1 a.2.2.2.2.1 a.2.2.2.2.2) (fun r=>[.c .bool (.bool r)]) (fun r=>[])
theorem claw39_SpoolReads (n:Nat) (hS:CallsE Try.prog 16 psS preS (.slice 57) okC):Contract Try.prog (xlaw39_SpoolReads n):=by
  have hΓ:=g1 (claw39_Valid n) (g1 (cref39_Layout n) (g1 (claw39_cut n) (g1 (claw39_reads n) (g1 (claw39_works n) (@g0 (Contract Try.prog))))))
  have qe:=aI @xlaw39_Valid.eq_1 (aI @xref39_Layout.eq_1 (aI @xlaw39_cut.eq_1 (aI @xlaw39_reads.eq_1 @xlaw39_works.eq_1)))
  refine contract_f (Try.f4.body.getD .skip) h00 Try.func4 rfl Try.call4 (by decide) (by intro _ r;exact ⟨rfl,by simp⟩) ?_
  rintro ⟨l,t,n_,at_,how,by_⟩ r H
  try dsimp only at H
  unfold law39_SpoolReads at H
  split at H
  rotate_left
  · cases H
  obtain rfl:=Option.some.inj H
  rename_i hok
  obtain ⟨r1,r2,r3,hr1,hr2,hr3,h4,h5,h6,hsz,hX,hlen,h7,h8⟩:=hok
  simp only [Try.f4,Option.getD]
  refine rA ?_
  have q:=aI qe hr1
  refine rAq ?_
  have q:=aI qe hr2
  refine rAq ?_
  refine sX fun K4 hK4=>?_
  have q:=aI qe (aI hr3 (aI h4 (aI h5 (aI h6 (aI h7 h8)))))
  iterate 5 refine oXq ?_
  iterate 3 refine oTG ?_
  refine oPl ?_
  refine oXq ?_
  iterate 4 refine oTG ?_
  refine oPl ?_
  refine oXq ?_
  iterate 4 refine oTG ?_
  refine opsTE (stepE_ok h00 hS) rfl (by simp only [z,seval,q]) fun K hK=>?_
  simp only [z,seval,q,stepE]
  refine ⟨⟨r2,at_,how,by_,rfl,hsz⟩,fun x hx=>hK _ ?_⟩
  obtain ⟨x,rfl,hx⟩:=hx
  have hrx:=hX x hx
  clear hK K
  have q:=aI qe (aI hr3 (aI h4 (aI h5 (aI h6 (aI h7 (aI h8 hrx))))))
  iterate 3 refine oTG ?_
  refine oPl ?_
  refine oXq ?_
  iterate 7 refine oTG ?_
  refine oPl ?_
  refine oXq ?_
  refine oTG ?_
  refine oPl ?_
  refine oXq ?_
  refine hK4 _ ?_
  refine Sm.ret ?_
  refine lf ?_
  exact rt []
end Go.Proofs.Ytkebegfopnlkhaa
