/- Text. -/
import Derived.Test.YtkebegfopnlkhaaF
set_option maxHeartbeats 8000000
set_option linter.unusedVariables false
set_option linter.unusedSimpArgs false
set_option maxRecDepth 100000
open Go.IntKind renaming wrap→jc
open _root_.List renaming mem_cons→jN,length_map→jq,length_eq_zero_iff→JC,take_of_length_le→j8
open Go.AE.Sm renaming cut→Jf,block→jG,loopB→j9,seqK→jB,skip→jF,exit→Jg
open Go.Proofs.Try renaming prog→jd
namespace Go.Proofs.Ytkebegfopnlkhaa
open Go.AE
theorem ty72:tyI jd 72=some ⟨[.slice 46],false,[],46,24⟩:=by kernel_rfl
theorem sl72:slE jd 72=some (46,⟨[.slice 5],false,[],5,24⟩):=by kernel_rfl
def e_LInt (x:List Int):List C:=[.slice (List.map e_Int x)]
theorem ap_LInt (l:List (List Int)) (v0:List Int):List.map e_LInt l ++ [[.slice (List.map e_Int v0)]]=List.map e_LInt (l ++ [v0]):=by simp [e_LInt]
theorem set_LInt (l:List (List Int)) (i:Nat) (v0:List Int):(List.map e_LInt l).set i (spliceR (eg (List.map e_LInt l) i) 0 [.slice (List.map e_Int v0)])=List.map e_LInt (l.set i v0):=by
  refine set_map_of _ _ _ _ fun h=>?_
  rw [eg_map _ _ _ h];rfl
abbrev ref39_groups_t (l:List TLine) (out:List (List Int)) (cur:List Int) (i:Int):S:=stB [(0,.c (.slice 48) (.slice (List.map e_TLine l))),(3,.own 9002 [.slice 5] 0 out.length),(4,.c (.int .i64) (.int i))] [(9002,.rl 46 (List.map e_LInt out) (out.length - 1) 0 (.own 9003 [.int .u8] 0 cur.length)),(9003,.row 5 (List.map e_Int cur))]
abbrev ref39_groups_e (out:List (List Int)):S:=stB [(3,.own 9002 [.slice 5] 0 out.length)] [(9002,.row 46 (List.map e_LInt out))]
theorem wrapI {n:Int} (h1:-9223372036854775808≤n) (h2:n < 9223372036854775808):jc .i64 n=n:=by
  simp only [jc]
  have:IntKind.i64.bits=64:=rfl
  rw [this]
  simp [IntKind.signed]
  omega
def ref39_groups_k (i:Int):List Int:=[0,0,jc .u8 (jc .i64 (Int.tdiv i 256)),jc .u8 (Int.tmod i 256)]
def ref39_groups_b (n:Nat) (l:List TLine) (out:List (List Int)) (cur:List Int) (i:Int):Option ((List (List Int)×List Int×Int) ⊕ (List (List Int))) :=
  bif decide (i < (l.length:Int)) then
    gd (0≤i∧i < (l.length:Int)) <|
    (ref39_bytes n (gt l i.toNat)).bind fun b =>
    gd (out.length≤2147483648∧cur.length≤2147483648∧cur.length+b.length≤2147483648∧out.length+1≤2147483648∧4+b.length≤2147483648) <|
    gd (out=[]∨gt out (out.length - 1)=cur) <|
    bif decide (out.length=0) || decide ((cur.length:Int)+b.length > 1024) then
      some (.inl (out ++ [ref39_groups_k i ++ b],ref39_groups_k i ++ b,jc .i64 (i+1)))
    else
      some (.inl (out.set (out.length - 1) (cur ++ b),cur ++ b,jc .i64 (i+1)))
  else
    gd (out=[]∨gt out (out.length - 1)=cur) <|
    some (.inr out)
def ref39_groups (n:Nat) (l:List TLine):Option (List (List Int)) :=
  loopF (fun (x:List (List Int)×List Int×Int)=>ref39_groups_b n l x.1 x.2.1 x.2.2) n ([],[],0)
def xref39_groups (n:Nat):Go.AE.Fn:=mkFn (A:=(List TLine)) (R:=(List (List Int))) 29 [(false,[.slice 48])] true (fun xs=>((cg (xs.getD 0 []) 0).toSl.map d_TLine)) (fun a=>[[.slice (List.map e_TLine a)]]) (fun a=>ref39_groups n a) (fun r=>[.own 0 [.slice 5] 0 r.length]) (fun r=>[.row 46 (List.map e_LInt r)])
theorem cref39_groups (n:Nat):Contract jd (xref39_groups n):=by
  have hΓ:∀ g,g∈([xref39_bytes n]:List Go.AE.Fn)→Contract jd g:=by
    intro g hg;simp only [jN,List.not_mem_nil,or_false] at hg;subst hg;exact cref39_bytes n
  refine contract_f (Try.f29.body.getD .skip) h00 Try.func29 rfl (by intro args w;exact Try.call29 args w) (by decide) (by intro hh;cases hh) ?_
  rintro l r H
  try dsimp only at H
  unfold ref39_groups at H
  simp only [Try.f29,Option.getD]
  refine Sm.seqA h00 mixed hΓ (by kernel_rfl) fun K1 hK1=>?_
  simp only [rs]
  repeat (refine opsG fun K hK=>?_;simp only [z,ty72,sl72,seval];(repeat (first | refine gcI ?_ | refine fun (_:_≤_)=>?_));refine hK _ ?_;clear hK K)
  refine hK1 _ ?_
  refine Sm.seqA h00 mixed hΓ (by kernel_rfl) fun K2 hK2=>?_
  simp only [rs]
  repeat (refine opsG fun K hK=>?_;simp only [z,ty72,sl72,seval];(repeat (first | refine gcI ?_ | refine fun (_:_≤_)=>?_));refine hK _ ?_;clear hK K)
  refine hK2 _ ?_
  refine Jf (fun (x:(List (List Int)))=>ref39_groups_e x) (fun x=>x=r) ?_ ?_
  · refine Sm.seqA h00 mixed hΓ (by kernel_rfl) fun K4 hK4=>?_
    simp only [rs]
    repeat (refine opsG fun K hK=>?_;simp only [z,ty72,sl72,seval];(repeat (first | refine gcI ?_ | refine fun (_:_≤_)=>?_));refine hK _ ?_;clear hK K)
    refine hK4 _ ?_
    refine jG ?_
    refine j9 (fun (x:List (List Int)×List Int×Int)=>ref39_groups_b n l x.1 x.2.1 x.2.2) (fun x=>ref39_groups_t l x.1 x.2.1 x.2.2) H ?_ ?_
    · exact weak_b [none,none] rfl rfl rfl (by simp only [wk,z,seval]) (by simp only [wk,z,seval])
    rintro ⟨out,cur,i⟩ z5 H
    try dsimp only at H
    unfold ref39_groups_b at H
    refine jB fun K6 hK6=>?_
    refine Sm.seqA h00 mixed hΓ (by kernel_rfl) fun K7 hK7=>?_
    simp only [rs]
    repeat (refine opsG fun K hK=>?_;simp only [z,ty72,sl72,seval,ref39_groups_t];(repeat (first | refine gcI ?_ | refine fun (_:_≤_)=>?_));refine hK _ ?_;clear hK K)
    refine hK7 _ ?_
    refine Sm.condK (by rfl) fun Ka Kb ha hb=>?_
    simp only [wpCond,z,seval,ref39_groups_t]
    refine ⟨fun h8=>ha ?_,fun h8=>hb ?_⟩
    · replace H:=bif_t h8 H
      refine jF ?_
      refine hK6 _ ?_
      refine jB fun K9 hK9=>?_
      refine jG ?_
      obtain ⟨hg14,H⟩:=gd_some H
      obtain ⟨b,hr1,H⟩:=bind_some H
      refine Sm.seqA h00 mixed hΓ (by kernel_rfl) fun K10 hK10=>?_
      simp only [rs]
      repeat (refine opsG fun K hK=>?_;simp only [z,ty72,sl72,seval,ref39_groups_t,xref39_bytes,hr1];(repeat (first | refine gcI ?_ | refine fun (_:_≤_)=>?_));refine hK _ ?_;clear hK K)
      refine hK10 _ ?_
      obtain ⟨hg15,H⟩:=gd_some H
      obtain ⟨hgo,H⟩:=gd_some H
      have hw:jc .i64 ((out.length:Int) - 1)=(out.length:Int) - 1:=wrapI (by omega) (by omega)
      refine Sm.seqX h00 mixed hΓ (by kernel_rfl) fun K11 hK11=>?_
      simp only [rs]
      refine opsX fun K hK=>?_;simp only [z,ty72,sl72,seval,ref39_groups_t];(repeat (first | refine gcI ?_ | refine fun (_:_≤_)=>?_));refine hK _ ?_;clear hK K
      refine opsE stepV_ok fun K hK=>?_;simp only [z,ty72,sl72,seval,ref39_groups_t];(repeat (first | refine gcI ?_ | refine fun (_:_≤_)=>?_));refine hK _ ?_;clear hK K
      iterate 2 (refine opsX fun K hK=>?_;simp only [z,ty72,sl72,seval,ref39_groups_t,hw];(repeat (first | refine gcI ?_ | refine fun (_:_≤_)=>?_));refine hK _ ?_;clear hK K)
      refine hK11 _ ?_
      refine Jf (X:=List (List Int)×List Int) (fun x=>stB [(0,.c (.slice 48) (.slice (List.map e_TLine l))),(3,.own 9002 [.slice 5] 0 x.1.length),(4,.c (.int .i64) (.int i)),(5,.own 272 [.int .u8] 0 b.length),(6,.c (.int .i64) (.int ((x.1.length - 1:Nat):Int)))] [(9002,.rl 46 (List.map e_LInt x.1) (x.1.length - 1) 0 (.own 9003 [.int .u8] 0 x.2.length)),(9003,.row 5 (List.map e_Int x.2)),(272,.row 5 (List.map e_Int b))]) (fun x=>x.1≠[]∧x.2.length+b.length≤2147483648∧z5 = .inl (x.1.set (x.1.length - 1) (x.2 ++ b),x.2 ++ b,jc .i64 (i+1))) ?_ ?_
      · refine Jf (X:=Bool) (fun v=>stB [(0,.c (.slice 48) (.slice (List.map e_TLine l))),(3,.own 9002 [.slice 5] 0 out.length),(4,.c (.int .i64) (.int i)),(5,.own 272 [.int .u8] 0 b.length),(6,.c (.int .i64) (.int ((out.length:Int) - 1))),(33,.c .bool (.bool v))] [(9002,.rl 46 (List.map e_LInt out) (out.length - 1) 0 (.own 9003 [.int .u8] 0 cur.length)),(9003,.row 5 (List.map e_Int cur)),(272,.row 5 (List.map e_Int b))]) (fun v=>v=(decide (out.length=0) || decide ((cur.length:Int)+b.length > 1024))) ?_ ?_
        · refine Sm.regX h00 hΓ (by kernel_rfl) ?_
          simp only [rs]
          iterate 3 (refine opsX fun K hK=>?_;simp only [z,ty72,sl72,seval,ref39_groups_t,hw];(repeat (first | refine gcI ?_ | refine fun (_:_≤_)=>?_));refine hK _ ?_;clear hK K)
          by_cases h0:out.length=0
          · have hs6:decide ((out.length:Int) - 1 < 0)=true:=by simp [h0]
            iterate 9 (refine opsF rfl (by simp only [z,ty72,sl72,seval,ref39_groups_t,hs6]) ?_)
            refine opsP fun K hK=>?_;simp only [z,ty72,sl72,seval,ref39_groups_t,hs6];(repeat (first | refine gcI ?_ | refine fun (_:_≤_)=>?_));refine Or.inl ?_;(repeat (first | refine gcI ?_ | refine fun (_:_≤_)=>?_));refine hK _ ?_;clear hK K
            refine opsX0 ?_
            refine ⟨true,by simp [h0],?_⟩
            exact weak_b [some 9002,some 9003,some 272] rfl rfl rfl (by simp only [wk,z,seval,ref39_groups_t]) (by simp only [wk,z,seval,ref39_groups_t])
          · have hs6:decide ((out.length:Int) - 1 < 0)=false:=by simp;omega
            have hnn:((out.length:Int) - 1).toNat=out.length - 1:=by omega
            have hgg:0≤(out.length:Int) - 1∧(out.length:Int) - 1 < (out.length:Int):=by omega
            have hg2:out.length - 1 < out.length:=by omega
            have hw2:jc .i64 ((cur.length:Int)+(b.length:Int))=(cur.length:Int)+(b.length:Int):=wrapI (by omega) (by omega)
            iterate 2 (refine opsTG rfl (by simp only [z,ty72,sl72,seval,ref39_groups_t,hs6]) fun K hK=>?_;simp only [z,ty72,sl72,seval,ref39_groups_t,hs6];(repeat (first | refine gcI ?_ | refine fun (_:_≤_)=>?_));refine hK _ ?_;clear hK K)
            iterate 2 (refine opsTE stepV_ok rfl (by simp only [z,ty72,sl72,seval,ref39_groups_t,hs6]) fun K hK=>?_;simp only [z,ty72,sl72,seval,ref39_groups_t,hs6,hnn,hgg,hg2,jq,and_true,true_and];(repeat (first | refine gcI ?_ | refine fun (_:_≤_)=>?_));refine hK _ ?_;clear hK K)
            iterate 5 (refine opsTG rfl (by simp only [z,ty72,sl72,seval,ref39_groups_t,hs6]) fun K hK=>?_;simp only [z,ty72,sl72,seval,ref39_groups_t,hs6,hw2];(repeat (first | refine gcI ?_ | refine fun (_:_≤_)=>?_));refine hK _ ?_;clear hK K)
            refine opsP fun K hK=>?_;simp only [z,ty72,sl72,seval,ref39_groups_t,hs6];(repeat (first | refine gcI ?_ | refine fun (_:_≤_)=>?_));refine Or.inr ?_;(repeat (first | refine gcI ?_ | refine fun (_:_≤_)=>?_));refine hK _ ?_;clear hK K
            refine opsX0 ?_
            refine ⟨_,rfl,?_⟩
            refine weak_b [some 9002,some 9003,some 272] rfl rfl rfl ?_ (by simp only [wk,z,seval,ref39_groups_t])
            simp only [wk,z,seval,ref39_groups_t]
            simp [h0]
        rintro v rfl
        refine Sm.condK (by rfl) fun Ka Kb ha hb=>?_
        simp only [wpCond,z,seval]
        refine ⟨fun h8=>ha ?_,fun h8=>hb ?_⟩
        · replace H:=bif_t h8 H
          refine Sm.weak (s':=stB [(0,.c (.slice 48) (.slice (List.map e_TLine l))),(3,.own 9002 [.slice 5] 0 out.length),(4,.c (.int .i64) (.int i)),(5,.own 272 [.int .u8] 0 b.length),(6,.c (.int .i64) (.int ((out.length:Int) - 1)))] [(9002,.row 46 (List.map e_LInt out)),(272,.row 5 (List.map e_Int b))]) ?_ ?_
          · refine weak_bf [9003] [some 9002,some 272] rfl rfl rfl (by simp only [wk,z,seval]) ?_
            simp only [wk,z,seval,subHs,zipH,subB,sub,kdAt,freezeAll,freeze1]
            rcases hgo with rfl | hgo
            · exact .inl rfl
            · by_cases h0:out.length=0
              · exact .inl (by rw [JC.1 h0];rfl)
              · right;rw [eg_map _ _ _ (by omega),hgo];rfl
          refine Sm.seqX h00 mixed hΓ (by kernel_rfl) fun K14 hK14=>?_
          simp only [rs]
          iterate 7 (refine opsX fun K hK=>?_;simp only [z,ty72,sl72,seval];(repeat (first | refine gcI ?_ | refine fun (_:_≤_)=>?_));refine hK _ ?_;clear hK K)
          refine opsX fun K hK=>?_;simp only [z,ty72,sl72,seval];(repeat (first | refine gcI ?_ | refine fun (_:_≤_)=>?_));refine hK _ ?_;clear hK K
          refine opsE stepLR_ok fun K hK=>?_;simp only [z,ty72,sl72,seval,stepLR,opLR,bsL,appL,plainKs]
          refine hK _ ?_;clear hK K
          refine opsE stepLR_ok fun K hK=>?_;simp only [z,ty72,sl72,seval,stepLR,opLR,bsL,appL,plainKs]
          have hb1:(((out.length+1:Nat):Int) * 24≤140737488355328):=by omega
          have e1:(List.map e_LInt out).take out.length=List.map e_LInt out:=j8 (by simp)
          have e2:List.map e_LInt out ++ [[C.slice [[C.int 0],[C.int 0],[C.int (IntKind.u8.wrap (IntKind.i64.wrap (i.tdiv 256)))],[C.int (IntKind.u8.wrap (i.tmod 256))]]]]=List.map e_LInt (out ++ [ref39_groups_k i]):=by rw [← ap_LInt];rfl
          simp only [hb1,e1,e2,jq,and_true,true_and,true_implies,Nat.le_refl]
          refine hK _ ?_;clear hK K
          iterate 1 (refine opsX fun K hK=>?_;simp only [z,ty72,sl72,seval];(repeat (first | refine gcI ?_ | refine fun (_:_≤_)=>?_));refine hK _ ?_;clear hK K)
          refine hK14 _ ?_
          have hw3:jc .i64 ((out.length:Int) - 1+1)=(out.length:Int):=(wrapI (by omega) (by omega)).trans (by omega)
          refine Sm.regA h00 mixed hΓ (by kernel_rfl) ?_
          simp only [rs]
          repeat (refine opsG fun K hK=>?_;simp only [z,ty72,sl72,seval,hw3];(repeat (first | refine gcI ?_ | refine fun (_:_≤_)=>?_));refine hK _ ?_;clear hK K)
          refine opsG0 ?_
          refine ⟨(out ++ [ref39_groups_k i],ref39_groups_k i),⟨by simp,?_,?_⟩,?_⟩
          · show 4+b.length≤_;omega
          · rw [← Option.some.inj H]
            show Sum.inl (_,_,_)=Sum.inl (_,_,_)
            rw [show (out ++ [ref39_groups_k i]).length - 1=out.length by simp,List.set_append_right _ _ (Nat.le_refl _)]
            simp
          · have e3:(out ++ [ref39_groups_k i]).length=out.length+1:=by simp
            refine weak_b [some 688,some 656,some 272] rfl rfl rfl ?_ ?_
            · simp only [wk,z,seval]
            · simp only [wk,z,seval,subHs,zipH,subB,sub]
              exact ⟨.inr rfl,rfl⟩
        · replace H:=bif_f h8 H
          refine jF ?_
          refine ⟨(out,cur),⟨?_,?_,(Option.some.inj H).symm⟩,?_⟩
          · intro h0;rw [show out=[] from h0] at h8;simp at h8
          · show cur.length+b.length≤_;omega
          · refine weak_b [some 9002,some 9003,some 272] rfl rfl rfl ?_ (by simp only [wk,z,seval])
            simp only [wk,z,seval]
            have h0:out.length≠0:=by intro h0;simp [h0] at h8
            congr 1;omega
      rintro ⟨o2,c2⟩ ⟨ho2,hc2,rfl⟩
      try dsimp only at ho2 hc2
      have h0:o2.length≠0:=fun e=>ho2 (JC.1 e)
      have hgg:(0:Int)≤((o2.length - 1:Nat):Int)∧((o2.length - 1:Nat):Int) < (o2.length:Int):=by omega
      have hg2:o2.length - 1 < o2.length:=by omega
      refine Sm.regX h00 hΓ (by kernel_rfl) ?_
      simp only [rs]
      iterate 4 (refine opsX fun K hK=>?_;simp only [z,ty72,sl72,seval];(repeat (first | refine gcI ?_ | refine fun (_:_≤_)=>?_));refine hK _ ?_;clear hK K)
      iterate 2 (refine opsE stepV_ok fun K hK=>?_;simp only [z,ty72,sl72,seval,hgg,hg2,jq,and_true,true_and,Int.toNat_natCast];(repeat (first | refine gcI ?_ | refine fun (_:_≤_)=>?_));refine hK _ ?_;clear hK K)
      iterate 2 (refine opsX fun K hK=>?_;simp only [z,ty72,sl72,seval];(repeat (first | refine gcI ?_ | refine fun (_:_≤_)=>?_));refine hK _ ?_;clear hK K)
      iterate 2 (refine opsE stepV_ok fun K hK=>?_;simp only [z,ty72,sl72,seval,hgg,hg2,jq,and_true,true_and,Int.toNat_natCast];(repeat (first | refine gcI ?_ | refine fun (_:_≤_)=>?_));refine hK _ ?_;clear hK K)
      refine opsX0 ?_
      refine hK9 _ ?_
      refine Sm.regA h00 mixed hΓ (by kernel_rfl) ?_
      simp only [rs]
      repeat (refine opsG fun K hK=>?_;simp only [z,ty72,sl72,seval];(repeat (first | refine gcI ?_ | refine fun (_:_≤_)=>?_));refine hK _ ?_;clear hK K)
      refine opsG0 ?_
      try simp only [seval,Exit.exit.injEq]
      refine ⟨(_,_,_),rfl,?_⟩
      have e3:(o2.set (o2.length - 1) (c2 ++ b)).length=o2.length:=by simp
      refine weak_b [some 9002,some 848] rfl rfl rfl ?_ ?_
      · simp only [wk,z,seval,e3]
      · simp only [wk,z,seval,subHs,zipH,subB,sub,e3,set_LInt]
    replace H:=bif_f h8 H
    obtain ⟨hgo,H⟩:=gd_some H
    refine Jg ?_
    try simp only [seval,Exit.exit.injEq]
    refine ⟨⟨_,(Option.some.inj H).symm⟩,fun hz=>?_⟩
    have hyy:=Sum.inr.inj ((Option.some.inj H).trans hz)
    try simp only [seval,Exit.exit.injEq]
    refine ⟨_,hyy,?_⟩
    refine weak_bf [9003] [some 9002] rfl rfl rfl (by simp only [wk,z,seval,ref39_groups_t]) ?_
    simp only [wk,z,seval,ref39_groups_t,subHs,zipH,subB,sub,kdAt,freezeAll,freeze1]
    rcases hgo with rfl | hgo
    · exact .inl rfl
    · by_cases h0:out.length=0
      · exact .inl (by rw [JC.1 h0];rfl)
      · right;rw [eg_map _ _ _ (by omega),hgo];rfl
  rintro out rfl
  try dsimp only at H
  refine Sm.seqA h00 mixed hΓ (by kernel_rfl) fun K3 hK3=>?_
  simp only [rs]
  repeat (refine opsG fun K hK=>?_;simp only [z,ty72,sl72,seval,ref39_groups_e];(repeat (first | refine gcI ?_ | refine fun (_:_≤_)=>?_));refine hK _ ?_;clear hK K)
  refine hK3 _ ?_
  refine Sm.ret ?_
  try simp only [seval,Exit.exit.injEq]
  refine Ret.ofR [some 9002] (.inr rfl) ?_
  simp only [z,ty72,sl72,seval,ref39_groups_e]
theorem setLT (l:List (List TRec)) (i:Nat) (v0:List TRec):(List.map e_LTRec l).set i (spliceR (eg (List.map e_LTRec l) i) 0 [.slice (List.map e_TRec v0)])=List.map e_LTRec (l.set i v0):=by
  refine set_map_of _ _ _ _ fun h=>?_
  rw [eg_map _ _ _ h];rfl
theorem cg_LInt_0 (l:List (List Int)) (i:Nat):(cg (eg (List.map e_LInt l) i) 0).toSl=List.map e_Int (gt l i):=by
  rcases Nat.lt_or_ge i l.length with h | h
  · rw [eg_map _ _ _ h];rfl
  · rw [eg_out _ _ _ h,gt_out _ _ h];rfl
abbrev ref39_Layout_t (g:List (List Int)) (out:List (List TRec)) (cur:List TRec) (i:Int):S:=stB [(3,.own 9002 [.slice 59] 0 out.length),(4,.c (.slice 46) (.slice (List.map e_LInt g))),(5,.c (.int .i64) (.int i))] [(9002,.rl 57 (List.map e_LTRec out) (out.length - 1) 0 (.own 9003 [.int .i64,.slice 5,.slice 5,.bool] 0 cur.length)),(9003,.row 59 (List.map e_TRec cur))]
abbrev ref39_Layout_e (out:List (List TRec)):S:=stB [(3,.own 9002 [.slice 59] 0 out.length)] [(9002,.row 57 (List.map e_LTRec out))]
abbrev ref39_Layout_m (g:List (List Int)) (out:List (List TRec)) (i:Int):S:=stB [(3,.own 9002 [.slice 59] 0 out.length),(4,.c (.slice 46) (.slice (List.map e_LInt g))),(5,.c (.int .i64) (.int i))] [(9002,.row 57 (List.map e_LTRec out))]
def ref39_Layout_b (n:Nat) (g:List (List Int)) (out:List (List TRec)) (cur:List TRec) (i:Int):Option ((List (List TRec)×List TRec×Int) ⊕ (List (List TRec))) :=
  bif decide (i < (g.length:Int)) then
    gd (0≤i∧i < (g.length:Int)) <|
    gd (out.length+1≤2147483648∧cur.length+1≤2147483648) <|
    gd (out=[]∨gt out (out.length - 1)=cur) <|
    bif decide (out.length=0) then
      some (.inl (out ++ [[⟨1,[],gt g i.toNat,false⟩]],[⟨1,[],gt g i.toNat,false⟩],jc .i64 (i+1)))
    else
      (ref15_Fits n cur ⟨jc .i64 ((cur.length:Int)+1),[],gt g i.toNat,false⟩).bind fun f =>
      bif f then
        some (.inl (out.set (out.length - 1) (cur ++ [⟨jc .i64 ((cur.length:Int)+1),[],gt g i.toNat,false⟩]),cur ++ [⟨jc .i64 ((cur.length:Int)+1),[],gt g i.toNat,false⟩],jc .i64 (i+1)))
      else
        some (.inl (out ++ [[⟨1,[],gt g i.toNat,false⟩]],[⟨1,[],gt g i.toNat,false⟩],jc .i64 (i+1)))
  else
    gd (out=[]∨gt out (out.length - 1)=cur) <|
    some (.inr out)
def ref39_Layout (n:Nat) (l:List TLine):Option (List (List TRec)) :=
  (ref39_groups n l).bind fun g =>
  loopF (fun (x:List (List TRec)×List TRec×Int)=>ref39_Layout_b n g x.1 x.2.1 x.2.2) n ([],[],0)
def xref39_Layout (n:Nat):Go.AE.Fn:=mkFn (A:=(List TLine)) (R:=(List (List TRec))) 13 [(false,[.slice 48])] true (fun xs=>((cg (xs.getD 0 []) 0).toSl.map d_TLine)) (fun a=>[[.slice (List.map e_TLine a)]]) (fun a=>ref39_Layout n a) (fun r=>[.own 0 [.slice 59] 0 r.length]) (fun r=>[.row 57 (List.map e_LTRec r)])
theorem cref39_Layout (n:Nat):Contract jd (xref39_Layout n):=by
  have hΓ:∀ g,g∈([xref39_groups n,xref15_Fits n]:List Go.AE.Fn)→Contract jd g:=by
    intro g hg;simp only [jN,List.not_mem_nil,or_false] at hg;rcases hg with rfl | rfl;exact cref39_groups n;exact cref15_Fits n
  refine contract_f (Try.f13.body.getD .skip) h00 Try.func13 rfl (by intro args w;exact Try.call13 args w) (by decide) (by intro hh;cases hh) ?_
  rintro l r H
  try dsimp only at H
  unfold ref39_Layout at H
  obtain ⟨g,hr1,H⟩:=bind_some H
  simp only [Try.f13,Option.getD]
  refine Sm.seqA h00 mixed hΓ (by kernel_rfl) fun K1 hK1=>?_
  simp only [rs]
  repeat (refine opsG fun K hK=>?_;simp only [z,ty72,sl72,cg_LInt_0,seval];(repeat (first | refine gcI ?_ | refine fun (_:_≤_)=>?_));refine hK _ ?_;clear hK K)
  refine hK1 _ ?_
  refine Sm.seqA h00 mixed hΓ (by kernel_rfl) fun K2 hK2=>?_
  simp only [rs]
  repeat (refine opsG fun K hK=>?_;simp only [z,ty72,sl72,cg_LInt_0,seval];(repeat (first | refine gcI ?_ | refine fun (_:_≤_)=>?_));refine hK _ ?_;clear hK K)
  refine hK2 _ ?_
  refine Sm.seqA h00 mixed hΓ (by kernel_rfl) fun K3 hK3=>?_
  simp only [rs]
  repeat (refine opsG fun K hK=>?_;simp only [z,ty72,sl72,cg_LInt_0,seval,xref39_groups,hr1];(repeat (first | refine gcI ?_ | refine fun (_:_≤_)=>?_));refine hK _ ?_;clear hK K)
  refine hK3 _ ?_
  refine Jf (fun (x:(List (List TRec)))=>ref39_Layout_e x) (fun x=>x=r) ?_ ?_
  · refine Sm.seqA h00 mixed hΓ (by kernel_rfl) fun K4 hK4=>?_
    simp only [rs]
    repeat (refine opsG fun K hK=>?_;simp only [z,ty72,sl72,cg_LInt_0,seval];(repeat (first | refine gcI ?_ | refine fun (_:_≤_)=>?_));refine hK _ ?_;clear hK K)
    refine hK4 _ ?_
    refine jG ?_
    refine j9 (fun (x:List (List TRec)×List TRec×Int)=>ref39_Layout_b n g x.1 x.2.1 x.2.2) (fun x=>ref39_Layout_t g x.1 x.2.1 x.2.2) H ?_ ?_
    · exact weak_bf [144] [none,none] rfl rfl rfl (by simp only [wk,z,seval]) (by simp only [wk,z,seval])
    rintro ⟨out,cur,i⟩ z5 H
    try dsimp only at H
    unfold ref39_Layout_b at H
    refine jB fun K6 hK6=>?_
    refine Sm.seqA h00 mixed hΓ (by kernel_rfl) fun K7 hK7=>?_
    simp only [rs]
    repeat (refine opsG fun K hK=>?_;simp only [z,ty72,sl72,cg_LInt_0,seval,ref39_Layout_t];(repeat (first | refine gcI ?_ | refine fun (_:_≤_)=>?_));refine hK _ ?_;clear hK K)
    refine hK7 _ ?_
    refine Sm.condK (by rfl) fun Ka Kb ha hb=>?_
    simp only [wpCond,z,seval,ref39_Layout_t]
    refine ⟨fun h8=>ha ?_,fun h8=>hb ?_⟩
    · replace H:=bif_t h8 H
      refine jF ?_
      refine hK6 _ ?_
      obtain ⟨hg14,H⟩:=gd_some H
      obtain ⟨hg15,H⟩:=gd_some H
      obtain ⟨hgo,H⟩:=gd_some H
      have hw:jc .i64 ((out.length:Int) - 1)=(out.length:Int) - 1:=wrapI (by omega) (by omega)
      refine Jf (X:=List (List TRec)×List TRec) (fun x=>ref39_Layout_t g x.1 x.2 i) (fun x=>z5 = .inl (x.1,x.2,jc .i64 (i+1))) ?_ ?_
      · refine jG ?_
        refine Sm.seqX h00 mixed hΓ (by kernel_rfl) fun K11 hK11=>?_
        simp only [rs]
        refine opsX fun K hK=>?_;simp only [z,ty72,sl72,cg_LInt_0,seval,ref39_Layout_t];(repeat (first | refine gcI ?_ | refine fun (_:_≤_)=>?_));refine hK _ ?_;clear hK K
        refine opsE stepV_ok fun K hK=>?_;simp only [z,ty72,sl72,cg_LInt_0,seval,ref39_Layout_t];(repeat (first | refine gcI ?_ | refine fun (_:_≤_)=>?_));refine hK _ ?_;clear hK K
        iterate 2 (refine opsX fun K hK=>?_;simp only [z,ty72,sl72,cg_LInt_0,seval,ref39_Layout_t,hw];(repeat (first | refine gcI ?_ | refine fun (_:_≤_)=>?_));refine hK _ ?_;clear hK K)
        refine hK11 _ ?_
        refine Jf (X:=Unit) (fun _=>ref39_Layout_m g out i) (fun _=>z5 = .inl (out ++ [[⟨1,[],gt g i.toNat,false⟩]],[⟨1,[],gt g i.toNat,false⟩],jc .i64 (i+1))) ?_ ?_
        · refine Sm.seqA h00 mixed hΓ (by kernel_rfl) fun K12 hK12=>?_
          simp only [rs]
          repeat (refine opsG fun K hK=>?_;simp only [z,ty72,sl72,cg_LInt_0,seval];(repeat (first | refine gcI ?_ | refine fun (_:_≤_)=>?_));refine hK _ ?_;clear hK K)
          refine hK12 _ ?_
          refine Sm.condK (by rfl) fun Ka Kb ha hb=>?_
          simp only [wpCond,z,seval]
          refine ⟨fun h9=>ha ?_,fun h9=>hb ?_⟩
          · have h0:out.length≠0:=by simp at h9;omega
            replace H:=bif_f (by simp [h0]) H
            obtain ⟨f,hr2,H⟩:=bind_some H
            have hnn:((out.length:Int) - 1).toNat=out.length - 1:=by omega
            have hgg:0≤(out.length:Int) - 1∧(out.length:Int) - 1 < (out.length:Int):=by omega
            have hg2:out.length - 1 < out.length:=by omega
            refine Sm.seqQ h00 mixed hΓ [0,1,2,3,4,5,6,7,8,9,10,11,12] [(none,[],[]),(none,[],[]),(none,[1000001,9002],[]),(none,[1000001,9002],[]),(none,[9003],[]),(none,[],[]),(none,[],[]),(none,[],[]),(none,[],[]),(none,[],[]),(none,[],[]),(none,[],[112]),(none,[112],[112])] (by kernel_rfl) rfl fun K13 hK13=>?_
            simp only [rs]
            iterate 2 (refine opsQ fun K hK=>?_;simp only [z,ty72,sl72,cg_LInt_0,seval];(repeat (first | refine gcI ?_ | refine fun (_:_≤_)=>?_));refine hK _ ?_;clear hK K)
            iterate 2 (refine opsQV (by rfl) fun K hK=>?_;simp only [z,ty72,sl72,cg_LInt_0,seval,hnn,hgg,hg2,jq,and_true,true_and];(repeat (first | refine gcI ?_ | refine fun (_:_≤_)=>?_));refine hK _ ?_;clear hK K)
            iterate 9 (refine opsQ fun K hK=>?_;simp only [z,ty72,sl72,cg_LInt_0,seval];(repeat (first | refine gcI ?_ | refine fun (_:_≤_)=>?_));refine hK _ ?_;clear hK K)
            refine opsQ0 ?_
            refine hK13 _ ?_
            refine Sm.seqQ h00 mixed hΓ [0,1,2,3,4,5] [(none,[],[]),(none,[],[]),(none,[1000001,9002],[]),(none,[1000001,9002],[]),(none,[112],[]),(none,[9003],[607,606,605,604,603,602,601,600,599,598,597,596,595,594,593,592,9003])] (by kernel_rfl) rfl fun K14 hK14=>?_
            simp only [rs]
            iterate 2 (refine opsQ fun K hK=>?_;simp only [z,ty72,sl72,cg_LInt_0,seval];(repeat (first | refine gcI ?_ | refine fun (_:_≤_)=>?_));refine hK _ ?_;clear hK K)
            iterate 2 (refine opsQV (by rfl) fun K hK=>?_;simp only [z,ty72,sl72,cg_LInt_0,seval,hnn,hgg,hg2,jq,and_true,true_and];(repeat (first | refine gcI ?_ | refine fun (_:_≤_)=>?_));refine hK _ ?_;clear hK K)
            iterate 2 (refine opsQ fun K hK=>?_;simp only [z,ty72,sl72,cg_LInt_0,seval,xref39_groups,xref15_Fits,hr2];(repeat (first | refine gcI ?_ | refine fun (_:_≤_)=>?_));refine hK _ ?_;clear hK K)
            refine opsQ0 ?_
            refine hK14 _ ?_
            refine Sm.condK (by rfl) fun Ka Kb ha hb=>?_
            simp only [wpCond,z,seval]
            refine ⟨fun h10=>ha ?_,fun h10=>hb ?_⟩
            · replace H:=bif_t h10 H
              refine Sm.seqQ h00 mixed hΓ [0,1,2,3,4,5,6,7,8,9,10] [(none,[],[]),(none,[],[]),(none,[],[]),(none,[],[]),(none,[1000001,9002],[]),(none,[1000001,9002],[]),(none,[112],[]),(none,[],[720]),(none,[720,9003],[736,9003]),(none,[1000001,9002],[]),(none,[1000001,736,9002],[736,9002])] (by kernel_rfl) rfl fun K15 hK15=>?_
              simp only [rs]
              iterate 4 (refine opsQ fun K hK=>?_;simp only [z,ty72,sl72,cg_LInt_0,seval];(repeat (first | refine gcI ?_ | refine fun (_:_≤_)=>?_));refine hK _ ?_;clear hK K)
              iterate 2 (refine opsQV (by rfl) fun K hK=>?_;simp only [z,ty72,sl72,cg_LInt_0,seval,hnn,hgg,hg2,jq,and_true,true_and];(repeat (first | refine gcI ?_ | refine fun (_:_≤_)=>?_));refine hK _ ?_;clear hK K)
              iterate 3 (refine opsQ fun K hK=>?_;simp only [z,ty72,sl72,cg_LInt_0,seval];(repeat (first | refine gcI ?_ | refine fun (_:_≤_)=>?_));refine hK _ ?_;clear hK K)
              iterate 2 (refine opsQV (by rfl) fun K hK=>?_;simp only [z,ty72,sl72,cg_LInt_0,seval,hnn,hgg,hg2,jq,and_true,true_and];(repeat (first | refine gcI ?_ | refine fun (_:_≤_)=>?_));refine hK _ ?_;clear hK K)
              refine opsQ0 ?_
              refine hK15 _ ?_
              refine Jg ?_
              try simp only [seval,Exit.exit.injEq]
              refine ⟨(_,_),(Option.some.inj H).symm,?_⟩
              have e3:∀ v,(out.set (out.length - 1) v).length=out.length:=by simp
              refine weak_b [some 9002,some 736] rfl rfl rfl ?_ ?_
              · simp only [wk,z,seval,e3]
              · simp only [wk,z,seval,subHs,zipH,subB,sub,e3,setLT]
            · replace H:=bif_f h10 H
              refine jF ?_
              refine ⟨(),(Option.some.inj H).symm,?_⟩
              refine weak_bf [9003] [some 9002] rfl rfl rfl (by simp only [wk,z,seval]) ?_
              simp only [wk,z,seval,subHs,zipH,subB,sub,kdAt,freezeAll,freeze1]
              rcases hgo with rfl | hgo
              · exact .inl rfl
              · right;rw [eg_map _ _ _ (by omega),hgo];rfl
          · have h0:out.length=0:=by simp at h9;omega
            replace H:=bif_t (by simp [h0]) H
            refine jF ?_
            refine ⟨(),(Option.some.inj H).symm,?_⟩
            refine weak_bf [9003] [some 9002] rfl rfl rfl (by simp only [wk,z,seval]) ?_
            simp only [wk,z,seval,subHs,zipH,subB,sub,kdAt,freezeAll,freeze1]
            exact .inl (by rw [JC.1 h0];rfl)
        rintro ⟨⟩ rfl
        refine Sm.regX h00 hΓ (by kernel_rfl) ?_
        simp only [rs]
        iterate 7 (refine opsX fun K hK=>?_;simp only [z,ty72,sl72,cg_LInt_0,seval];(repeat (first | refine gcI ?_ | refine fun (_:_≤_)=>?_));refine hK _ ?_;clear hK K)
        refine opsE stepLR_ok fun K hK=>?_;simp only [z,ty72,sl72,cg_LInt_0,seval,stepLR,opLR,bsL,appL,plainKs]
        refine hK _ ?_;clear hK K
        refine opsE stepLR_ok fun K hK=>?_;simp only [z,ty72,sl72,cg_LInt_0,seval,stepLR,opLR,bsL,appL,plainKs]
        have hb1:(((out.length+1:Nat):Int) * 24≤140737488355328):=by omega
        have e1:(List.map e_LTRec out).take out.length=List.map e_LTRec out:=j8 (by simp)
        have e2:List.map e_LTRec out ++ [[C.slice [[C.int 1,C.slice [],C.slice (List.map e_Int (gt g i.toNat)),C.bool false]]]]=List.map e_LTRec (out ++ [[⟨1,[],gt g i.toNat,false⟩]]):=by rw [← ap_LTRec];rfl
        simp only [hb1,e1,e2,jq,and_true,true_and,true_implies,Nat.le_refl]
        refine hK _ ?_;clear hK K
        refine opsX fun K hK=>?_;simp only [z,ty72,sl72,cg_LInt_0,seval];(repeat (first | refine gcI ?_ | refine fun (_:_≤_)=>?_));refine hK _ ?_;clear hK K
        refine opsX0 ?_
        refine ⟨(_,_),rfl,?_⟩
        have e3:∀ v,(out ++ [v]).length=out.length+1:=by simp
        refine weak_b [some 896,some 864] rfl rfl rfl ?_ ?_
        · simp only [wk,z,seval,e3]
          try rfl
        · simp only [wk,z,seval,subHs,zipH,subB,sub,e3]
          try exact ⟨.inr ⟨rfl,rfl⟩,rfl⟩
      rintro ⟨o2,c2⟩ rfl
      refine Sm.regA h00 mixed hΓ (by kernel_rfl) ?_
      simp only [rs]
      repeat (refine opsG fun K hK=>?_;simp only [z,ty72,sl72,cg_LInt_0,seval,ref39_Layout_t];(repeat (first | refine gcI ?_ | refine fun (_:_≤_)=>?_));refine hK _ ?_;clear hK K)
      refine opsG0 ?_
      try simp only [seval,Exit.exit.injEq]
      refine ⟨(_,_,_),rfl,?_⟩
      exact weak_b [some 9002,some 9003] rfl rfl rfl (by simp only [wk,z,seval,ref39_Layout_t]) (by simp only [wk,z,seval,ref39_Layout_t])
    replace H:=bif_f h8 H
    obtain ⟨hgo,H⟩:=gd_some H
    refine Jg ?_
    try simp only [seval,Exit.exit.injEq]
    refine ⟨⟨_,(Option.some.inj H).symm⟩,fun hz=>?_⟩
    have hyy:=Sum.inr.inj ((Option.some.inj H).trans hz)
    try simp only [seval,Exit.exit.injEq]
    refine ⟨_,hyy,?_⟩
    refine weak_bf [9003] [some 9002] rfl rfl rfl (by simp only [wk,z,seval,ref39_Layout_t]) ?_
    simp only [wk,z,seval,ref39_Layout_t,subHs,zipH,subB,sub,kdAt,freezeAll,freeze1]
    rcases hgo with rfl | hgo
    · exact .inl rfl
    · by_cases h0:out.length=0
      · exact .inl (by rw [JC.1 h0];rfl)
      · right;rw [eg_map _ _ _ (by omega),hgo];rfl
  rintro out rfl
  try dsimp only at H
  refine Sm.seqA h00 mixed hΓ (by kernel_rfl) fun K3 hK3=>?_
  simp only [rs]
  repeat (refine opsG fun K hK=>?_;simp only [z,ty72,sl72,cg_LInt_0,seval,ref39_Layout_e];(repeat (first | refine gcI ?_ | refine fun (_:_≤_)=>?_));refine hK _ ?_;clear hK K)
  refine hK3 _ ?_
  refine Sm.ret ?_
  try simp only [seval,Exit.exit.injEq]
  refine Ret.ofR [some 9002] (.inr rfl) ?_
  simp only [z,ty72,sl72,cg_LInt_0,seval,ref39_Layout_e]
end Go.Proofs.Ytkebegfopnlkhaa
