/- Text. -/
import Derived.Test.YtcdofkflbnpjjaaF1
set_option maxHeartbeats 8000000
set_option linter.unusedVariables false
set_option linter.unusedSimpArgs false
set_option maxRecDepth 100000
namespace Go.Proofs.Ytcdofkflbnpjjaa
open Go.AE
theorem egB (i:Nat):(cg (eg [[C.bool false],[C.bool true]] i) 0).toBool=gt [false,true] i:=by
  match i with
  | 0=>rfl
  | 1=>rfl
  | n+2=>rfl
abbrev enqueue_pool__assign_M1_s1 (p:List TUnitConf) (p_:List Int) (p__:List (Int×TNeed)):S:=stB [] [(0,.box [.own 1 [.int .i64,.int .i64,.str,.int .i64,.int .i64] 0 p.length,.c (.slice 3) (.slice (List.map e_Int p_)),.mref 2]),(1,.row 77 (List.map e_TUnitConf p)),(2,.mp (.int .i64) (true,[.int .i64,.str]) (List.map em_Int_TNeed p__))]
def enqueue_pool__assign_M1_k1 (n:Nat) (p:List TUnitConf) (p_:List Int) (p__:List (Int×TNeed)):Option (Int×Bool×(List (Int×TNeed))) :=
  some (0,false,p__)
abbrev enqueue_pool__assign_M1_s3 (p:List TUnitConf) (p_:List Int) (p__:List (Int×TNeed)) (n_:TNeed) (v14:Int) (v15:Int):S:=stB [(0,.box 0 0),(3,.box 9002 0),(13,.own 1 [.int .i64,.int .i64,.str,.int .i64,.int .i64] 0 p.length),(14,.c (.int .i64) (.int v14)),(15,.c (.int .i64) (.int v15))] [(0,.box [.own 1 [.int .i64,.int .i64,.str,.int .i64,.int .i64] 0 p.length,.c (.slice 3) (.slice (List.map e_Int p_)),.mref 2]),(1,.row 77 (List.map e_TUnitConf p)),(2,.mp (.int .i64) (true,[.int .i64,.str]) (List.map em_Int_TNeed p__)),(9002,.box [.c (.int .i64) (.int n_.Kind),.c .str (.str n_.Serial)])]
def enqueue_pool__assign_M1_k3 (n:Nat) (p:List TUnitConf) (p_:List Int) (p__:List (Int×TNeed)) (n_:TNeed) (v14:Int) (v15:Int):Option ((Int) ⊕ (((Int×Bool×(List (Int×TNeed))) ⊕ (Unit)))) :=
  some (.inl (IntKind.wrap .i64 (v15+1)))
abbrev enqueue_pool__assign_M1_t2 (p:List TUnitConf) (p_:List Int) (p__:List (Int×TNeed)) (n_:TNeed) (v14:Int) (v15:Int):S:=stB [(0,.box 0 0),(3,.box 9001 0),(13,.own 1 [.int .i64,.int .i64,.str,.int .i64,.int .i64] 0 p.length),(14,.c (.int .i64) (.int v14)),(15,.c (.int .i64) (.int v15))] [(0,.box [.own 1 [.int .i64,.int .i64,.str,.int .i64,.int .i64] 0 p.length,.c (.slice 3) (.slice (List.map e_Int p_)),.mref 2]),(1,.row 77 (List.map e_TUnitConf p)),(2,.mp (.int .i64) (true,[.int .i64,.str]) (List.map em_Int_TNeed p__)),(9001,.box [.c (.int .i64) (.int n_.Kind),.c .str (.str n_.Serial)])]
def enqueue_pool__assign_M1_b2 (n:Nat) (p:List TUnitConf) (p_:List Int) (p__:List (Int×TNeed)) (n_:TNeed) (v14:Int) (v15:Int):Option ((Int) ⊕ (((Int×Bool×(List (Int×TNeed))) ⊕ (Unit)))) :=
  bif (decide (v15 < v14)) then
    gd ((0≤v15∧v15 < (p.length:Int))∧(Int.toNat v15) < p.length) <|
    (enqueue_suits n (gt p (Int.toNat v15)) n_).bind fun r1 =>
    bif (!r1) then
      enqueue_pool__assign_M1_k3 n p p_ p__ n_ v14 v15
    else
      bif (((gt p (Int.toNat v15)).Kind) == 5) then
        some (.inr (.inl ((gt p (Int.toNat v15)).Addr,true,p__)))
      else
        (slices_Contains_f75 n p_ ((gt p (Int.toNat v15)).Addr)).bind fun r2 =>
        gd (((((!r2) && ((tget ((gt p (Int.toNat v15)).Addr) p__).isSome)) && !(!(((((tget ((gt p (Int.toNat v15)).Addr) p__).getD default).Kind) == n_.Kind) && ((((tget ((gt p (Int.toNat v15)).Addr) p__).getD default).Serial) == n_.Serial))))=true→(((!r2) && ((tget ((gt p (Int.toNat v15)).Addr) p__).isSome)) && (!(!(((((tget ((gt p (Int.toNat v15)).Addr) p__).getD default).Kind) == n_.Kind) && ((((tget ((gt p (Int.toNat v15)).Addr) p__).getD default).Serial) == n_.Serial)))))=true)) <|
        bif (if r2=true then true else (if (tget ((gt p (Int.toNat v15)).Addr) p__).isSome=true then (if (!(((((tget ((gt p (Int.toNat v15)).Addr) p__).getD default).Kind) == n_.Kind) && ((((tget ((gt p (Int.toNat v15)).Addr) p__).getD default).Serial) == n_.Serial)))=true then true else (n_.Serial == [])) else false)) then
          enqueue_pool__assign_M1_k3 n p p_ p__ n_ v14 v15
        else
          some (.inr (.inl ((gt p (Int.toNat v15)).Addr,true,(tset ((gt p (Int.toNat v15)).Addr) n_ p__))))
  else
    some (.inr (.inr ()))
def enqueue_pool__assign_M1 (n:Nat) (p:List TUnitConf) (p_:List Int) (p__:List (Int×TNeed)) (n_:TNeed):Option (Int×Bool×(List (Int×TNeed))) :=
  (loopF (fun (x:Int)=>enqueue_pool__assign_M1_b2 n p p_ p__ n_ ((p.length:Nat):Int) x) n 0).bind fun y4 =>
  match y4 with
  | .inl vv =>
    some (vv.1,vv.2.1,vv.2.2)
  | .inr vv =>
    enqueue_pool__assign_M1_k1 n p p_ p__
theorem cenqueue_pool__assign_M1 (n:Nat) (p:List TUnitConf) (p_:List Int) (p__:List (Int×TNeed)) (n_:TNeed) (r:Int×Bool×(List (Int×TNeed))) (H:enqueue_pool__assign_M1 n p p_ p__ n_=some r):CallsM Try.prog 53 [.ref (.box 0 0),.dat (true,[.int .i64,.str]) [.int n_.Kind,.str n_.Serial]] [.box [.own 1 [.int .i64,.int .i64,.str,.int .i64,.int .i64] 0 p.length,.c (.slice 3) (.slice (List.map e_Int p_)),.mref 2],.row 77 (List.map e_TUnitConf p),.mp (.int .i64) (true,[.int .i64,.str]) (List.map em_Int_TNeed p__)] [.c (.int .i64) (.int r.1),.c .bool (.bool r.2.1)] [.box [.own 1 [.int .i64,.int .i64,.str,.int .i64,.int .i64] 0 p.length,.c (.slice 3) (.slice (List.map e_Int p_)),.mref 2],.row 77 (List.map e_TUnitConf p),.mp (.int .i64) (true,[.int .i64,.str]) (List.map em_Int_TNeed r.2.2)]:=by
  have hΓ:=g1 (cenqueue_suits n) (g1 (cslices_Contains_f75 n) (@g0 (Contract Try.prog)))
  refine callsM_of (Try.f53.body.getD .skip) h00 Try.func53 rfl Try.call53 (Nat.le_of_ble_eq_true rfl) (Nat.le_of_ble_eq_true rfl) ?_
  unfold enqueue_pool__assign_M1 at H
  simp only [Try.f53,Option.getD]
  refine rA ?_
  refine Sm.cut (fun (x:Unit)=>enqueue_pool__assign_M1_s1 p p_ p__) (fun x=>enqueue_pool__assign_M1_k1 n p p_ p__=some r) ?_ ?_
  · refine sX fun K3 hK3=>?_
    refine oX ?_
    refine oE stepZ_ok ?_
    iterate 4 refine oX ?_
    refine hK3 _ ?_
    refine Sm.block ?_
    obtain ⟨y4,hy4,Ho4⟩:=bind_some H
    refine Sm.loopB _ (fun x=>enqueue_pool__assign_M1_t2 p p_ p__ n_ ((p.length:Nat):Int) x) hy4 (wb [some 0,some 1,some 2,some 48]) ?_
    rintro v15 z4 H
    try dsimp only at H
    unfold enqueue_pool__assign_M1_b2 at H
    refine Sm.st (enqueue_pool__assign_M1_t2.eq_1 ..) ?_
    refine rA ?_
    refine Sm.seqK fun K6 hK6=>?_
    refine cnd H (fun h7 H=>?_) (fun h7 H=>?_)
    · refine Sm.skip ?_
      refine hK6 _ ?_
      refine Sm.cut (fun (x:Unit)=>enqueue_pool__assign_M1_s3 p p_ p__ n_ ((p.length:Nat):Int) v15) (fun x=>enqueue_pool__assign_M1_k3 n p p_ p__ n_ ((p.length:Nat):Int) v15=some z4) ?_ ?_
      · refine Sm.block ?_
        obtain ⟨⟨hg23,hg24⟩,H⟩:=gd_some H
        refine rA ?_
        refine Sm.seqK fun K9 hK9=>?_
        obtain ⟨r1,hr1,H⟩:=bind_some H
        have q:=And.intro @xenqueue_suits.eq_1 hr1
        refine rAq ?_
        refine cnd H (fun h11 H=>?_) (fun h11 H=>?_)
        · refine Sm.exit ?_
          refine lf ?_
          exact ⟨(),H,wb [some 0,some 1,some 2,some 9001]⟩
        refine Sm.skip ?_
        refine hK9 _ ?_
        refine Sm.seqK fun K12 hK12=>?_
        refine rA ?_
        refine cnd H (fun h14 H=>?_) (fun h14 H=>?_)
        · refine rA ?_
          refine Sm.ret ?_
          refine lf ?_
          refine lx H fun hyy=>?_
          subst hyy
          have H:=Ho4
          try dsimp only at H
          refine lf ?_
          obtain rfl:=Option.some.inj H
          exact rtM [some 0,some 1,some 2]
        refine Sm.skip ?_
        refine hK12 _ ?_
        refine sQ [0,1,2,3,4,5,6,7,8,9,10,11,12] [(none,[],[]),(none,[1000001,0],[]),(none,[0],[]),(none,[0],[]),(none,[112],[]),(none,[112],[]),(none,[2],[]),(none,[],[]),(none,[],[]),(none,[],[]),(none,[],[128]),(none,[128],[128]),(none,[],[])] fun K16 hK16=>?_
        refine oQ ?_
        refine oQV ?_
        iterate 11 refine oQ ?_
        refine opsQ0 ?_
        refine hK16 _ ?_
        refine Sm.seqK fun K17 hK17=>?_
        obtain ⟨r2,hr2,H⟩:=bind_some H
        obtain ⟨hg19,H⟩:=gd_some H
        refine sQ [0,1,2,3,4,5,6,7,8,9,10,11,12,13,14,15,16,17,18,19] [(none,[],[]),(none,[1000001,0],[]),(none,[0],[]),(none,[0],[]),(none,[112],[]),(none,[112],[]),(none,[],[719,718,717,716,715,714,713,712,711,710,709,708,707,706,705,704]),(none,[],[]),(none,[],[]),(none,[],[]),(none,[128],[]),(none,[9001],[]),(none,[],[]),(none,[],[]),(none,[9001],[]),(none,[9001],[]),(none,[],[]),(none,[],[]),(none,[],[]),(none,[],[])] fun K18 hK18=>?_
        have q:=And.intro @xenqueue_suits.eq_1 (And.intro @xslices_Contains_f75.eq_1 hr2)
        refine oQq ?_
        refine oQVq ?_
        iterate 18 refine oQq ?_
        refine opsQ0 ?_
        refine hK18 _ ?_
        refine cnd H (fun h20 H=>?_) (fun h20 H=>?_)
        · refine Sm.exit ?_
          refine lf ?_
          exact ⟨(),H,wb [some 0,some 1,some 2,some 9001]⟩
        refine Sm.skip ?_
        refine hK17 _ ?_
        refine sQ [0,1,2,3,4,5,6,7] [(none,[],[]),(none,[1000001,0],[]),(none,[0],[]),(none,[0],[]),(none,[112],[]),(none,[112],[]),(none,[9001],[]),(none,[2],[2])] fun K21 hK21=>?_
        refine oQ ?_
        refine oQV ?_
        iterate 6 refine oQ ?_
        refine opsQ0 ?_
        refine hK21 _ ?_
        refine rA ?_
        refine Sm.ret ?_
        refine lf ?_
        refine lx H fun hyy=>?_
        subst hyy
        have H:=Ho4
        try dsimp only at H
        refine lf ?_
        obtain rfl:=Option.some.inj H
        exact rtM [some 0,some 1,some 2]
      rintro ⟨⟩ H
      try dsimp only at H
      unfold enqueue_pool__assign_M1_k3 at H
      refine Sm.st (enqueue_pool__assign_M1_s3.eq_1 ..) ?_
      refine eA ?_
      refine lf ?_
      exact nx H (wb [some 0,some 1,some 2,some 9002])
    refine Sm.exit ?_
    refine lf ?_
    refine lx H fun hyy=>?_
    subst hyy
    have H:=Ho4
    try dsimp only at H
    refine lf ?_
    exact ⟨(),H,wb [some 0,some 1,some 2]⟩
  rintro ⟨⟩ H
  try dsimp only at H
  unfold enqueue_pool__assign_M1_k1 at H
  refine Sm.st (enqueue_pool__assign_M1_s1.eq_1 ..) ?_
  refine rA ?_
  refine Sm.ret ?_
  refine lf ?_
  obtain rfl:=Option.some.inj H
  exact rtM [some 0,some 1,some 2]
abbrev enqueue_Assign_s3 (out:List Int):S:=stB [(13,.own 9006 [.int .i64] 0 out.length)] [(9006,.row 3 (List.map e_Int out))]
def enqueue_Assign_k3 (n:Nat) (out:List Int):Option ((List Int)×Int) :=
  some (out,0)
abbrev enqueue_Assign_s5 (needs:List TNeed) (p_1:List TUnitConf) (busy:List Int) (p_3:List (Int×TNeed)) (out_2:List Int) (v72:List Bool) (v74:Int):S:=stB [(2,.c (.slice 69) (.slice (List.map e_TNeed needs))),(8,.box 9017 0),(13,.own 9020 [.int .i64] 0 out_2.length),(72,.own 9021 [.bool] 0 v72.length),(73,.c (.int .i64) (.int 2)),(74,.c (.int .i64) (.int v74))] [(9017,.box [.own 9018 [.int .i64,.int .i64,.str,.int .i64,.int .i64] 0 p_1.length,.c (.slice 3) (.slice (List.map e_Int busy)),.mref 9019]),(9018,.row 77 (List.map e_TUnitConf p_1)),(9019,.mp (.int .i64) (true,[.int .i64,.str]) (List.map em_Int_TNeed p_3)),(9020,.row 3 (List.map e_Int out_2)),(9021,.row 4 (List.map e_Bool v72))]
def enqueue_Assign_k5 (n:Nat) (needs:List TNeed) (p_1:List TUnitConf) (busy:List Int) (p_3:List (Int×TNeed)) (out_2:List Int) (v72:List Bool) (v74:Int):Option (((List (Int×TNeed))×(List Int)×Int) ⊕ ((((List Int)×Int) ⊕ ((List Int))))) :=
  some (.inl (p_3,out_2,(IntKind.wrap .i64 (v74+1))))
abbrev enqueue_Assign_s7 (needs:List TNeed) (p_1:List TUnitConf) (busy:List Int) (p_5:List (Int×TNeed)) (out_4:List Int) (any:Bool) (v72:List Bool) (v74:Int) (v79:Int) (v80:Int):S:=stB [(2,.c (.slice 69) (.slice (List.map e_TNeed needs))),(8,.box 9032 0),(13,.own 9035 [.int .i64] 0 out_4.length),(15,.c .bool (.bool any)),(72,.own 9036 [.bool] 0 v72.length),(73,.c (.int .i64) (.int 2)),(74,.c (.int .i64) (.int v74)),(78,.c (.slice 69) (.slice (List.map e_TNeed needs))),(79,.c (.int .i64) (.int v79)),(80,.c (.int .i64) (.int v80))] [(9032,.box [.own 9033 [.int .i64,.int .i64,.str,.int .i64,.int .i64] 0 p_1.length,.c (.slice 3) (.slice (List.map e_Int busy)),.mref 9034]),(9033,.row 77 (List.map e_TUnitConf p_1)),(9034,.mp (.int .i64) (true,[.int .i64,.str]) (List.map em_Int_TNeed p_5)),(9035,.row 3 (List.map e_Int out_4)),(9036,.row 4 (List.map e_Bool v72))]
def enqueue_Assign_k7 (n:Nat) (needs:List TNeed) (p_1:List TUnitConf) (busy:List Int) (p_5:List (Int×TNeed)) (out_4:List Int) (any:Bool) (v72:List Bool) (v74:Int) (v79:Int) (v80:Int):Option (((List (Int×TNeed))×(List Int)×Int) ⊕ ((((List Int)×Int) ⊕ ((List (Int×TNeed))×(List Int))))) :=
  some (.inl (p_5,out_4,(IntKind.wrap .i64 (v80+1))))
abbrev enqueue_Assign_t6 (needs:List TNeed) (p_1:List TUnitConf) (busy:List Int) (any:Bool) (v72:List Bool) (v74:Int) (v79:Int) (p_4:List (Int×TNeed)) (out_3:List Int) (v80:Int):S:=stB [(2,.c (.slice 69) (.slice (List.map e_TNeed needs))),(8,.box 9027 0),(13,.own 9030 [.int .i64] 0 out_3.length),(15,.c .bool (.bool any)),(72,.own 9031 [.bool] 0 v72.length),(73,.c (.int .i64) (.int 2)),(74,.c (.int .i64) (.int v74)),(78,.c (.slice 69) (.slice (List.map e_TNeed needs))),(79,.c (.int .i64) (.int v79)),(80,.c (.int .i64) (.int v80))] [(9027,.box [.own 9028 [.int .i64,.int .i64,.str,.int .i64,.int .i64] 0 p_1.length,.c (.slice 3) (.slice (List.map e_Int busy)),.mref 9029]),(9028,.row 77 (List.map e_TUnitConf p_1)),(9029,.mp (.int .i64) (true,[.int .i64,.str]) (List.map em_Int_TNeed p_4)),(9030,.row 3 (List.map e_Int out_3)),(9031,.row 4 (List.map e_Bool v72))]
def enqueue_Assign_b6 (n:Nat) (needs:List TNeed) (p_1:List TUnitConf) (busy:List Int) (any:Bool) (v72:List Bool) (v74:Int) (v79:Int) (p_4:List (Int×TNeed)) (out_3:List Int) (v80:Int):Option (((List (Int×TNeed))×(List Int)×Int) ⊕ ((((List Int)×Int) ⊕ ((List (Int×TNeed))×(List Int))))) :=
  bif (decide (v80 < v79)) then
    gd ((0≤v80∧v80 < (needs.length:Int))) <|
    bif ((((gt needs (Int.toNat v80)).Serial) == []) != any) then
      enqueue_Assign_k7 n needs p_1 busy p_4 out_3 any v72 v74 v79 v80
    else
      (enqueue_pool__assign_M1 n p_1 busy p_4 (gt needs (Int.toNat v80))).bind fun r2 =>
      bif (!r2.2.1) then
        some (.inr (.inl ([],370)))
      else
        gd ((0≤v80∧v80 < (out_3.length:Int))∧(Int.toNat v80) < out_3.length) <|
        enqueue_Assign_k7 n needs p_1 busy r2.2.2 (List.set out_3 (Int.toNat v80) r2.1) any v72 v74 v79 v80
  else
    some (.inr (.inr (p_4,out_3)))
abbrev enqueue_Assign_t4 (needs:List TNeed) (p_1:List TUnitConf) (busy:List Int) (v72:List Bool) (p_2:List (Int×TNeed)) (out_1:List Int) (v74:Int):S:=stB [(2,.c (.slice 69) (.slice (List.map e_TNeed needs))),(8,.box 9012 0),(13,.own 9015 [.int .i64] 0 out_1.length),(72,.own 9016 [.bool] 0 v72.length),(73,.c (.int .i64) (.int 2)),(74,.c (.int .i64) (.int v74))] [(9012,.box [.own 9013 [.int .i64,.int .i64,.str,.int .i64,.int .i64] 0 p_1.length,.c (.slice 3) (.slice (List.map e_Int busy)),.mref 9014]),(9013,.row 77 (List.map e_TUnitConf p_1)),(9014,.mp (.int .i64) (true,[.int .i64,.str]) (List.map em_Int_TNeed p_2)),(9015,.row 3 (List.map e_Int out_1)),(9016,.row 4 (List.map e_Bool v72))]
def enqueue_Assign_b4 (n:Nat) (needs:List TNeed) (p_1:List TUnitConf) (busy:List Int) (v72:List Bool) (p_2:List (Int×TNeed)) (out_1:List Int) (v74:Int):Option (((List (Int×TNeed))×(List Int)×Int) ⊕ ((((List Int)×Int) ⊕ ((List Int))))) :=
  bif (decide (v74 < 2)) then
    gd ((0≤v74∧v74 < (v72.length:Int))∧(Int.toNat v74) < v72.length) <|
    (loopF (fun (x:(List (Int×TNeed))×(List Int)×Int)=>enqueue_Assign_b6 n needs p_1 busy (gt v72 (Int.toNat v74)) v72 v74 (needs.length:Int) x.1 x.2.1 x.2.2) n (p_2,out_1,0)).bind fun y15 =>
    match y15 with
    | .inl vv =>
      some (.inr (.inl (vv.1,vv.2)))
    | .inr vv =>
      enqueue_Assign_k5 n needs p_1 busy vv.1 vv.2 v72 v74
  else
    some (.inr (.inr out_1))
abbrev enqueue_Assign_s2 (needs:List TNeed) (p_1:List TUnitConf) (busy:List Int):S:=stB [(2,.c (.slice 69) (.slice (List.map e_TNeed needs))),(8,.box 9003 0)] [(9003,.box [.own 9004 [.int .i64,.int .i64,.str,.int .i64,.int .i64] 0 p_1.length,.c (.slice 3) (.slice (List.map e_Int busy)),.mref 9005]),(9004,.row 77 (List.map e_TUnitConf p_1)),(9005,.mp (.int .i64) (true,[.int .i64,.str]) (List.map em_Int_TNeed []))]
def enqueue_Assign_k2 (n:Nat) (needs:List TNeed) (p_1:List TUnitConf) (busy:List Int):Option ((List Int)×Int) :=
  gd ((0≤(needs.length:Int)∧(needs.length:Int)≤(needs.length:Int)∧(needs.length:Int)≤2147483648)) <|
  (loopF (fun (x:(List (Int×TNeed))×(List Int)×Int)=>enqueue_Assign_b4 n needs p_1 busy [false,true] x.1 x.2.1 x.2.2) n ([],(zreps (Int.toNat (needs.length:Int)) 0),0)).bind fun y9 =>
  match y9 with
  | .inl vv =>
    some (vv.1,vv.2)
  | .inr vv =>
    enqueue_Assign_k3 n vv
abbrev enqueue_Assign_t8 (needs:List TNeed) (p_6:List TUnitConf) (busy:List Int) (v56:Int) (v57:Int):S:=stB [(2,.c (.slice 69) (.slice (List.map e_TNeed needs))),(8,.box 9040 0),(55,.c (.slice 69) (.slice (List.map e_TNeed needs))),(56,.c (.int .i64) (.int v56)),(57,.c (.int .i64) (.int v57))] [(9040,.box [.own 9041 [.int .i64,.int .i64,.str,.int .i64,.int .i64] 0 p_6.length,.c (.slice 3) (.slice (List.map e_Int busy)),.mref 9042]),(9041,.row 77 (List.map e_TUnitConf p_6)),(9042,.mp (.int .i64) (true,[.int .i64,.str]) (List.map em_Int_TNeed []))]
def enqueue_Assign_b8 (n:Nat) (needs:List TNeed) (p_6:List TUnitConf) (busy:List Int) (v56:Int) (v57:Int):Option ((Int) ⊕ ((((List Int)×Int) ⊕ (Unit)))) :=
  bif (decide (v57 < v56)) then
    gd ((0≤v57∧v57 < (needs.length:Int))) <|
    (enqueue_some_f47_M3 n p_6 ((gt needs (Int.toNat v57)).Kind) ((gt needs (Int.toNat v57)).Serial)).bind fun r3 =>
    bif (!r3) then
      some (.inr (.inl ([],430)))
    else
      some (.inl (IntKind.wrap .i64 (v57+1)))
  else
    some (.inr (.inr ()))
abbrev enqueue_Assign_s1 (needs:List TNeed) (p:List TUnitConf) (busy:List Int):S:=stB [(2,.c (.slice 69) (.slice (List.map e_TNeed needs))),(8,.box 9000 0)] [(9000,.box [.own 9001 [.int .i64,.int .i64,.str,.int .i64,.int .i64] 0 p.length,.c (.slice 3) (.slice (List.map e_Int busy)),.mref 9002]),(9001,.row 77 (List.map e_TUnitConf p)),(9002,.mp (.int .i64) (true,[.int .i64,.str]) (List.map em_Int_TNeed []))]
def enqueue_Assign_k1 (n:Nat) (needs:List TNeed) (p:List TUnitConf) (busy:List Int):Option ((List Int)×Int) :=
  (slices_SortFunc_f49_M1 n p).bind fun r1 =>
  gd (r1.length=p.length) <|
  (loopF (fun (x:Int)=>enqueue_Assign_b8 n needs r1 busy (needs.length:Int) x) n 0).bind fun y34 =>
  match y34 with
  | .inl vv =>
    some (vv.1,vv.2)
  | .inr vv =>
    enqueue_Assign_k2 n needs r1 busy
abbrev enqueue_Assign_s10 (needs:List TNeed) (p_8:List TUnitConf) (busy:List Int) (units:List TUnitConf) (v25:Int) (v26:Int):S:=stB [(2,.c (.slice 69) (.slice (List.map e_TNeed needs))),(8,.box 9051 0),(24,.c (.slice 77) (.slice (List.map e_TUnitConf units))),(25,.c (.int .i64) (.int v25)),(26,.c (.int .i64) (.int v26))] [(9051,.box [.own 9052 [.int .i64,.int .i64,.str,.int .i64,.int .i64] 0 p_8.length,.c (.slice 3) (.slice (List.map e_Int busy)),.mref 9053]),(9052,.row 77 (List.map e_TUnitConf p_8)),(9053,.mp (.int .i64) (true,[.int .i64,.str]) (List.map em_Int_TNeed []))]
def enqueue_Assign_k10 (n:Nat) (needs:List TNeed) (p_8:List TUnitConf) (busy:List Int) (units:List TUnitConf) (v25:Int) (v26:Int):Option (((List TUnitConf)×Int) ⊕ (((List TUnitConf)))) :=
  some (.inl (p_8,(IntKind.wrap .i64 (v26+1))))
abbrev enqueue_Assign_t9 (needs:List TNeed) (busy:List Int) (units:List TUnitConf) (v25:Int) (p_7:List TUnitConf) (v26:Int):S:=stB [(2,.c (.slice 69) (.slice (List.map e_TNeed needs))),(8,.box 9048 0),(24,.c (.slice 77) (.slice (List.map e_TUnitConf units))),(25,.c (.int .i64) (.int v25)),(26,.c (.int .i64) (.int v26))] [(9048,.box [.own 9049 [.int .i64,.int .i64,.str,.int .i64,.int .i64] 0 p_7.length,.c (.slice 3) (.slice (List.map e_Int busy)),.mref 9050]),(9049,.row 77 (List.map e_TUnitConf p_7)),(9050,.mp (.int .i64) (true,[.int .i64,.str]) (List.map em_Int_TNeed []))]
def enqueue_Assign_b9 (n:Nat) (needs:List TNeed) (busy:List Int) (units:List TUnitConf) (v25:Int) (p_7:List TUnitConf) (v26:Int):Option (((List TUnitConf)×Int) ⊕ (((List TUnitConf)))) :=
  bif (decide (v26 < v25)) then
    gd ((0≤v26∧v26 < (units.length:Int))) <|
    (enqueue_some_f47_M2 n p_7 ((gt units (Int.toNat v26)).Addr) ((gt units (Int.toNat v26)).Kind) ((gt units (Int.toNat v26)).Serial) ((gt units (Int.toNat v26)).Cyls) ((gt units (Int.toNat v26)).Heads)).bind fun r4 =>
    bif (!r4) then
      gd ((p_7.length+1)≤2147483648) <|
      enqueue_Assign_k10 n needs (p_7 ++ [(gt units (Int.toNat v26))]) busy units v25 v26
    else
      enqueue_Assign_k10 n needs p_7 busy units v25 v26
  else
    some (.inr p_7)
def enqueue_Assign (n:Nat) (units:List TUnitConf) (busy:List Int) (needs:List TNeed):Option ((List Int)×Int) :=
  (loopF (fun (x:(List TUnitConf)×Int)=>enqueue_Assign_b9 n needs busy units (units.length:Int) x.1 x.2) n ([],0)).bind fun y45 =>
  enqueue_Assign_k1 n needs y45 busy
def xenqueue_Assign (n:Nat):Go.AE.Fn:=mkFn (A:=(List TUnitConf)×(List Int)×(List TNeed)) (R:=(List Int)×Int) 29 [(false,[.slice 77]),(false,[.slice 3]),(false,[.slice 69])] false (fun xs=>(((cg (xs.getD 0 []) 0).toSl.map d_TUnitConf),((cg (xs.getD 1 []) 0).toSl.map d_Int),((cg (xs.getD 2 []) 0).toSl.map d_TNeed))) (fun a=>[[.slice (List.map e_TUnitConf a.1)],[.slice (List.map e_Int a.2.1)],[.slice (List.map e_TNeed a.2.2)]]) (fun a=>enqueue_Assign n a.1 a.2.1 a.2.2) (fun r=>[.own 0 [.int .i64] 0 r.1.length,.c (.int .i64) (.int r.2)]) (fun r=>[.row 3 (List.map e_Int r.1)])
theorem cenqueue_Assign (n:Nat):Contract Try.prog (xenqueue_Assign n):=by
  have hΓ:=@g0 (Contract Try.prog)
  refine contract_f (Try.f29.body.getD .skip) h00 Try.func29 rfl Try.call29 (by decide) (fun _ r=>⟨rfl,m1 ⟨3,_,_,rfl,ty3,rfl⟩ m0⟩) ?_
  rintro ⟨units,busy,needs⟩ r H
  try dsimp only at H
  unfold enqueue_Assign at H
  simp only [Try.f29,Option.getD]
  refine rA ?_
  refine rA ?_
  refine Sm.cut (fun (x:(List TUnitConf))=>enqueue_Assign_s1 needs x busy) (fun x=>enqueue_Assign_k1 n needs x busy=some r) ?_ ?_
  · refine rA ?_
    refine Sm.block ?_
    obtain ⟨y45,hy45,Ho45⟩:=bind_some H
    refine Sm.loopB _ (fun x=>enqueue_Assign_t9 needs busy units (units.length:Int) x.1 x.2) hy45 (wbo [some 368,none,some 336]) ?_
    rintro ⟨p_7,v26⟩ z45 H
    try dsimp only at H
    unfold enqueue_Assign_b9 at H
    refine Sm.st (enqueue_Assign_t9.eq_1 ..) ?_
    refine rA ?_
    refine Sm.seqK fun K47 hK47=>?_
    refine cnd H (fun h48 H=>?_) (fun h48 H=>?_)
    · refine Sm.skip ?_
      refine hK47 _ ?_
      refine Sm.cut (fun (x:(List TUnitConf))=>enqueue_Assign_s10 needs x busy units (units.length:Int) v26) (fun x=>enqueue_Assign_k10 n needs x busy units (units.length:Int) v26=some z45) ?_ ?_
      · refine Sm.block ?_
        obtain ⟨hg53,H⟩:=gd_some H
        refine rA ?_
        refine sX fun K50 hK50=>?_
        obtain ⟨r4,hr4,H⟩:=bind_some H
        have q:=hr4
        refine oX ?_
        refine oE stepZ_ok ?_
        iterate 2 refine oX ?_
        refine oY ?_
        refine oMq (cenqueue_some_f47_M2 n _ _ _ _ _ _ r4 hr4) [9049,160] [] ?_
        refine oXq ?_
        refine hK50 _ ?_
        refine cnd H (fun h51 H=>?_) (fun h51 H=>?_)
        · obtain ⟨hg52,H⟩:=gd_some H
          refine eQ [0,1,2,3,4,5,6,7,8,9,10] [(none,[],[]),(none,[],[]),(none,[1000001,9048],[]),(none,[9048],[]),(none,[9048],[]),(none,[160],[]),(none,[],[688]),(none,[688,9049],[704,9049]),(none,[1000001,9048],[]),(none,[9048],[]),(none,[704,9048],[9048])] ?_
          iterate 2 refine oQ ?_
          refine oQV ?_
          iterate 5 refine oQ ?_
          refine oQV ?_
          iterate 2 refine oQ ?_
          refine opsQ0 ?_
          refine lf ?_
          exact ⟨_,H,wbo [some 9048,some 704,some 9050]⟩
        refine Sm.skip ?_
        refine lf ?_
        exact ⟨_,H,wbo [some 9048,some 9049,some 9050]⟩
      rintro p_8 H
      try dsimp only at H
      unfold enqueue_Assign_k10 at H
      refine Sm.st (enqueue_Assign_s10.eq_1 ..) ?_
      refine eA ?_
      refine lf ?_
      exact nx H (wbo [some 9051,some 9052,some 9053])
    refine Sm.exit ?_
    refine lf ?_
    refine lx H fun hyy=>?_
    subst hyy
    have H:=Ho45
    try dsimp only at H
    refine lf ?_
    exact ⟨_,H,wbo [some 9048,some 9049,some 9050]⟩
  rintro p H
  try dsimp only at H
  unfold enqueue_Assign_k1 at H
  refine Sm.st (enqueue_Assign_s1.eq_1 ..) ?_
  refine sX fun K3 hK3=>?_
  obtain ⟨r1,hr1,H⟩:=bind_some H
  obtain ⟨hg4,H⟩:=gd_some H
  have q:=hr1
  refine oX ?_
  refine oE stepZ_ok ?_
  iterate 3 refine oX ?_
  refine oY ?_
  refine oMq (cslices_SortFunc_f49_M1 n _ r1 hr1) [9001] [] ?_
  refine hK3 _ ?_
  refine Sm.cut (fun (x:(List TUnitConf))=>enqueue_Assign_s2 needs x busy) (fun x=>enqueue_Assign_k2 n needs x busy=some r) ?_ ?_
  · refine rA ?_
    refine Sm.block ?_
    obtain ⟨y34,hy34,Ho34⟩:=bind_some H
    refine Sm.loopB _ (fun x=>enqueue_Assign_t8 needs r1 busy (needs.length:Int) x) hy34 (wbo [some 9000,some 9001,some 9002]) ?_
    rintro v57 z34 H
    try dsimp only at H
    unfold enqueue_Assign_b8 at H
    refine Sm.st (enqueue_Assign_t8.eq_1 ..) ?_
    refine rA ?_
    refine Sm.seqK fun K36 hK36=>?_
    refine cnd H (fun h37 H=>?_) (fun h37 H=>?_)
    · refine Sm.skip ?_
      refine hK36 _ ?_
      refine Sm.seqK fun K38 hK38=>?_
      refine Sm.block ?_
      obtain ⟨hg43,H⟩:=gd_some H
      refine rA ?_
      refine sX fun K40 hK40=>?_
      obtain ⟨r3,hr3,H⟩:=bind_some H
      have q:=hr3
      refine oX ?_
      refine oE stepZ_ok ?_
      iterate 2 refine oX ?_
      refine oY ?_
      refine oMq (cenqueue_some_f47_M3 n _ _ _ r3 hr3) [9041,192] [] ?_
      refine oXq ?_
      refine hK40 _ ?_
      refine cnd H (fun h41 H=>?_) (fun h41 H=>?_)
      · refine rA ?_
        refine Sm.ret ?_
        refine lf ?_
        refine lx H fun hyy=>?_
        subst hyy
        have H:=Ho34
        try dsimp only at H
        refine lf ?_
        obtain rfl:=Option.some.inj H
        exact rto [none]
      refine Sm.skip ?_
      refine hK38 _ ?_
      refine eA ?_
      refine lf ?_
      exact nx H (wbo [some 9040,some 9041,some 9042])
    refine Sm.exit ?_
    refine lf ?_
    refine lx H fun hyy=>?_
    subst hyy
    have H:=Ho34
    try dsimp only at H
    refine lf ?_
    exact ⟨_,H,wbo [some 9040,some 9041,some 9042]⟩
  rintro p_1 H
  try dsimp only at H
  unfold enqueue_Assign_k2 at H
  refine Sm.st (enqueue_Assign_s2.eq_1 ..) ?_
  refine sX fun K5 hK5=>?_
  obtain ⟨hg6,H⟩:=gd_some H
  iterate 2 refine oX ?_
  refine oY ?_
  refine oX ?_
  refine hK5 _ ?_
  refine Sm.cut (fun (x:(List Int))=>enqueue_Assign_s3 x) (fun x=>enqueue_Assign_k3 n x=some r) ?_ ?_
  · refine rA ?_
    refine Sm.block ?_
    obtain ⟨y9,hy9,Ho9⟩:=bind_some H
    refine Sm.loopB _ (fun x=>enqueue_Assign_t4 needs p_1 busy [false,true] x.1 x.2.1 x.2.2) hy9 (wbo [some 9003,some 9004,some 9005,some 1136,some 1152]) ?_
    rintro ⟨p_2,out_1,v74⟩ z9 H
    try dsimp only at H
    unfold enqueue_Assign_b4 at H
    refine Sm.st (enqueue_Assign_t4.eq_1 ..) ?_
    refine rA ?_
    refine Sm.seqK fun K11 hK11=>?_
    refine cnd H (fun h12 H=>?_) (fun h12 H=>?_)
    · refine Sm.skip ?_
      refine hK11 _ ?_
      refine Sm.cut (fun (x:(List (Int×TNeed))×(List Int))=>enqueue_Assign_s5 needs p_1 busy x.1 x.2 [false,true] v74) (fun x=>enqueue_Assign_k5 n needs p_1 busy x.1 x.2 [false,true] v74=some z9) ?_ ?_
      · refine Sm.block ?_
        obtain ⟨⟨hg31,hg32⟩,H⟩:=gd_some H
        refine rA ?_
        refine rA ?_
        refine Sm.block ?_
        obtain ⟨y15,hy15,Ho15⟩:=bind_some H
        refine Sm.loopB _ (fun x=>enqueue_Assign_t6 needs p_1 busy (gt [false,true] (Int.toNat v74)) [false,true] v74 (needs.length:Int) x.1 x.2.1 x.2.2) hy15 (wbo [some 9012,some 9013,some 9014,some 9015,some 9016] (hL:=by (simp only [wk,z,seval,egB];try omega))) ?_
        rintro ⟨p_4,out_3,v80⟩ z15 H
        try dsimp only at H
        unfold enqueue_Assign_b6 at H
        refine Sm.st (enqueue_Assign_t6.eq_1 ..) ?_
        refine rA ?_
        refine Sm.seqK fun K17 hK17=>?_
        refine cnd H (fun h18 H=>?_) (fun h18 H=>?_)
        · refine Sm.skip ?_
          refine hK17 _ ?_
          refine Sm.cut (fun (x:(List (Int×TNeed))×(List Int))=>enqueue_Assign_s7 needs p_1 busy x.1 x.2 (gt [false,true] (Int.toNat v74)) [false,true] v74 (needs.length:Int) v80) (fun x=>enqueue_Assign_k7 n needs p_1 busy x.1 x.2 (gt [false,true] (Int.toNat v74)) [false,true] v74 (needs.length:Int) v80=some z15) ?_ ?_
          · refine Sm.block ?_
            obtain ⟨hg30,H⟩:=gd_some H
            refine rA ?_
            refine Sm.seqK fun K20 hK20=>?_
            refine rA ?_
            refine cnd H (fun h22 H=>?_) (fun h22 H=>?_)
            · refine Sm.exit ?_
              refine lf ?_
              exact ⟨(p_4,out_3),H,wbo [some 9027,some 9028,some 9029,some 9030,some 9031]⟩
            refine Sm.skip ?_
            refine hK20 _ ?_
            refine sX fun K23 hK23=>?_
            obtain ⟨r2,hr2,H⟩:=bind_some H
            have q:=hr2
            iterate 2 refine oX ?_
            refine oMq (cenqueue_pool__assign_M1 n _ _ _ _ r2 hr2) [9027,9028,9029] [] ?_
            iterate 5 refine oXq ?_
            refine hK23 _ ?_
            refine Sm.seqK fun K24 hK24=>?_
            refine rA ?_
            refine cnd H (fun h26 H=>?_) (fun h26 H=>?_)
            · refine rA ?_
              refine Sm.ret ?_
              refine lf ?_
              refine lx H fun hyy=>?_
              subst hyy
              have H:=Ho15
              try dsimp only at H
              refine lf ?_
              refine lx H fun hyy=>?_
              subst hyy
              have H:=Ho9
              try dsimp only at H
              refine lf ?_
              obtain rfl:=Option.some.inj H
              exact rto [none]
            refine Sm.skip ?_
            refine hK24 _ ?_
            obtain ⟨⟨hg28,hg29⟩,H⟩:=gd_some H
            refine eA ?_
            refine lf ?_
            exact ⟨(r2.2.2,(List.set out_3 (Int.toNat v80) r2.1)),H,wbo [some 9027,some 9028,some 9029,some 9030,some 9031]⟩
          rintro ⟨p_5,out_4⟩ H
          try dsimp only at H
          unfold enqueue_Assign_k7 at H
          refine Sm.st (enqueue_Assign_s7.eq_1 ..) ?_
          refine eA ?_
          refine lf ?_
          exact nx H (wbo [some 9032,some 9033,some 9034,some 9035,some 9036])
        refine Sm.exit ?_
        refine lf ?_
        refine lx H fun hyy=>?_
        subst hyy
        have H:=Ho15
        try dsimp only at H
        refine lf ?_
        exact ⟨(p_4,out_3),H,wbo [some 9027,some 9028,some 9029,some 9030,some 9031]⟩
      rintro ⟨p_3,out_2⟩ H
      try dsimp only at H
      unfold enqueue_Assign_k5 at H
      refine Sm.st (enqueue_Assign_s5.eq_1 ..) ?_
      refine eA ?_
      refine lf ?_
      exact nx H (wbo [some 9017,some 9018,some 9019,some 9020,some 9021])
    refine Sm.exit ?_
    refine lf ?_
    refine lx H fun hyy=>?_
    subst hyy
    have H:=Ho9
    try dsimp only at H
    refine lf ?_
    exact ⟨_,H,wbo [some 9015]⟩
  rintro out H
  try dsimp only at H
  unfold enqueue_Assign_k3 at H
  refine Sm.st (enqueue_Assign_s3.eq_1 ..) ?_
  refine rA ?_
  refine Sm.ret ?_
  refine lf ?_
  obtain rfl:=Option.some.inj H
  exact rto [some 9006]
def ref37_first_k1 (n:Nat):Option Bool :=
  some true
def ref37_first_b2 (n:Nat) (units:List TUnitConf) (k:Int) (i:Int):Option ((Int) ⊕ (((Bool) ⊕ (Unit)))) :=
  bif (decide (i < k)) then
    gd ((0≤i∧i < (units.length:Int))∧(0≤k∧k < (units.length:Int))) <|
    bif (((gt units (Int.toNat i)).Addr) == ((gt units (Int.toNat k)).Addr)) then
      some (.inr (.inl false))
    else
      some (.inl (IntKind.wrap .i64 (i+1)))
  else
    some (.inr (.inr ()))
def ref37_first (n:Nat) (units:List TUnitConf) (k:Int):Option Bool :=
  (loopF (fun (x:Int)=>ref37_first_b2 n units k x) n 0).bind fun y4 =>
  match y4 with
  | .inl vv =>
    some vv
  | .inr vv =>
    ref37_first_k1 n
def ref37_suits (n:Nat) (u:TUnitConf) (n_:TNeed):Option Bool :=
  gd ((((u.Kind == n_.Kind) && !(n_.Serial == []))=true→((u.Kind == n_.Kind) && (!(n_.Serial == [])))=true)) <|
  some (if (u.Kind == n_.Kind)=true then (if (n_.Serial == [])=true then true else (u.Serial == n_.Serial)) else false)
def ref37_mounted_k1 (n:Nat):Option Bool :=
  some false
def ref37_mounted_b2 (n:Nat) (units:List TUnitConf) (n_:TNeed) (k:Int):Option ((Int) ⊕ (((Bool) ⊕ (Unit)))) :=
  bif (decide (k < (units.length:Int))) then
    (ref37_first n units k).bind fun r1 =>
    gd ((r1=true→(0≤k∧k < (units.length:Int)))∧(r1=true→(ref37_suits n (gt units (Int.toNat k)) n_).isSome=true)) <|
    bif (if r1=true then ((ref37_suits n (gt units (Int.toNat k)) n_).getD default) else false) then
      some (.inr (.inl true))
    else
      some (.inl (IntKind.wrap .i64 (k+1)))
  else
    some (.inr (.inr ()))
def ref37_mounted (n:Nat) (units:List TUnitConf) (n_:TNeed):Option Bool :=
  (loopF (fun (x:Int)=>ref37_mounted_b2 n units n_ x) n 0).bind fun y4 =>
  match y4 with
  | .inl vv =>
    some vv
  | .inr vv =>
    ref37_mounted_k1 n
def ref37_has_k1 (n:Nat):Option Bool :=
  some false
def ref37_has_b2 (n:Nat) (l:List Int) (n_:Int) (k:Int):Option ((Int) ⊕ (((Bool) ⊕ (Unit)))) :=
  bif (decide (k < (l.length:Int))) then
    gd ((0≤k∧k < (l.length:Int))) <|
    bif ((gt l (Int.toNat k)) == n_) then
      some (.inr (.inl true))
    else
      some (.inl (IntKind.wrap .i64 (k+1)))
  else
    some (.inr (.inr ()))
def ref37_has (n:Nat) (l:List Int) (n_:Int):Option Bool :=
  (loopF (fun (x:Int)=>ref37_has_b2 n l n_ x) n 0).bind fun y4 =>
  match y4 with
  | .inl vv =>
    some vv
  | .inr vv =>
    ref37_has_k1 n
def ref37_pick_k1 (n:Nat) (best:Int):Option Int :=
  some best
def ref37_pick_k3 (n:Nat) (units:List TUnitConf) (busy:List Int) (needs:List TNeed) (out:List Int) (done:List Bool) (n_:Int) (best_2:Int) (k:Int):Option ((Int×Int) ⊕ ((Int))) :=
  some (.inl (best_2,(IntKind.wrap .i64 (k+1))))
def ref37_pick_k4 (n:Nat) (units:List TUnitConf) (busy:List Int) (needs:List TNeed) (out:List Int) (done:List Bool) (n_:Int) (best_1:Int) (k:Int) (u:Int) (u_1:Int) (u_2:List UInt8) (u_3:Int) (u_4:Int) (ok:Bool):Option ((Int×Int) ⊕ ((Int))) :=
  gd (((ok && (!(decide (best_1 < 0))))=true→(0≤best_1∧best_1 < (units.length:Int)))∧((ok && !(decide (best_1 < 0)))=true→(ok && (!(decide (best_1 < 0))))=true)) <|
  bif (if ok=true then (if (decide (best_1 < 0))=true then true else (decide (u < ((gt units (Int.toNat best_1)).Addr)))) else false) then
    ref37_pick_k3 n units busy needs out done n_ k k
  else
    ref37_pick_k3 n units busy needs out done n_ best_1 k
def ref37_pick_k6 (n:Nat) (units:List TUnitConf) (busy:List Int) (needs:List TNeed) (out:List Int) (done:List Bool) (n_:Int) (best_1:Int) (k:Int) (u_5:Int) (u_6:Int) (u_7:List UInt8) (u_8:Int) (u_9:Int) (ok_2:Bool) (i:Int):Option ((Bool×Int) ⊕ ((Bool))) :=
  some (.inl (ok_2,(IntKind.wrap .i64 (i+1))))
def ref37_pick_b5 (n:Nat) (units:List TUnitConf) (busy:List Int) (needs:List TNeed) (out:List Int) (done:List Bool) (n_:Int) (best_1:Int) (k:Int) (u_5:Int) (u_6:Int) (u_7:List UInt8) (u_8:Int) (u_9:Int) (ok_1:Bool) (i:Int):Option ((Bool×Int) ⊕ ((Bool))) :=
  bif (if (decide (i < (needs.length:Int)))=true then (u_6 != 5) else false) then
    gd ((0≤i∧i < (done.length:Int))∧((gt done (Int.toNat i))=true→(0≤i∧i < (out.length:Int)))∧((if (gt done (Int.toNat i))=true then ((gt out (Int.toNat i)) == u_5) else false)=true→(0≤i∧i < (needs.length:Int)))∧((if (gt done (Int.toNat i))=true then ((gt out (Int.toNat i)) == u_5) else false)=true→(0≤n_∧n_ < (needs.length:Int)))∧(((if (gt done (Int.toNat i))=true then ((gt out (Int.toNat i)) == u_5) else false) && (!(!((((gt needs (Int.toNat i)).Kind) == ((gt needs (Int.toNat n_)).Kind)) && (((gt needs (Int.toNat i)).Serial) == ((gt needs (Int.toNat n_)).Serial))))))=true→(0≤n_∧n_ < (needs.length:Int)))∧(((if (gt done (Int.toNat i))=true then ((gt out (Int.toNat i)) == u_5) else false) && !(!((((gt needs (Int.toNat i)).Kind) == ((gt needs (Int.toNat n_)).Kind)) && (((gt needs (Int.toNat i)).Serial) == ((gt needs (Int.toNat n_)).Serial)))))=true→((if (gt done (Int.toNat i))=true then ((gt out (Int.toNat i)) == u_5) else false) && (!(!((((gt needs (Int.toNat i)).Kind) == ((gt needs (Int.toNat n_)).Kind)) && (((gt needs (Int.toNat i)).Serial) == ((gt needs (Int.toNat n_)).Serial))))))=true)) <|
    bif (if (if (gt done (Int.toNat i))=true then ((gt out (Int.toNat i)) == u_5) else false)=true then (if (!((((gt needs (Int.toNat i)).Kind) == ((gt needs (Int.toNat n_)).Kind)) && (((gt needs (Int.toNat i)).Serial) == ((gt needs (Int.toNat n_)).Serial))))=true then true else (((gt needs (Int.toNat n_)).Serial) == [])) else false) then
      ref37_pick_k6 n units busy needs out done n_ best_1 k u_5 u_6 u_7 u_8 u_9 false i
    else
      ref37_pick_k6 n units busy needs out done n_ best_1 k u_5 u_6 u_7 u_8 u_9 ok_1 i
  else
    some (.inr ok_1)
def ref37_pick_b2 (n:Nat) (units:List TUnitConf) (busy:List Int) (needs:List TNeed) (out:List Int) (done:List Bool) (n_:Int) (best_1:Int) (k:Int):Option ((Int×Int) ⊕ ((Int))) :=
  bif (decide (k < (units.length:Int))) then
    gd ((0≤k∧k < (units.length:Int))) <|
    (ref37_first n units k).bind fun r1 =>
    gd (((!(!r1))=true→(0≤n_∧n_ < (needs.length:Int)))∧((!(!r1))=true→(ref37_suits n (gt units (Int.toNat k)) (gt needs (Int.toNat n_))).isSome=true)) <|
    bif (if (!r1)=true then true else (!((ref37_suits n (gt units (Int.toNat k)) (gt needs (Int.toNat n_))).getD default))) then
      ref37_pick_k3 n units busy needs out done n_ best_1 k
    else
      gd (((!(((gt units (Int.toNat k)).Kind) == 5))=true→(ref37_has n busy ((gt units (Int.toNat k)).Addr)).isSome=true)) <|
      (loopF (fun (x:Bool×Int)=>ref37_pick_b5 n units busy needs out done n_ best_1 k ((gt units (Int.toNat k)).Addr) ((gt units (Int.toNat k)).Kind) ((gt units (Int.toNat k)).Serial) ((gt units (Int.toNat k)).Cyls) ((gt units (Int.toNat k)).Heads) x.1 x.2) n ((if (((gt units (Int.toNat k)).Kind) == 5)=true then true else (!((ref37_has n busy ((gt units (Int.toNat k)).Addr)).getD default))),0)).bind fun y19 =>
      ref37_pick_k4 n units busy needs out done n_ best_1 k ((gt units (Int.toNat k)).Addr) ((gt units (Int.toNat k)).Kind) ((gt units (Int.toNat k)).Serial) ((gt units (Int.toNat k)).Cyls) ((gt units (Int.toNat k)).Heads) y19
  else
    some (.inr best_1)
def ref37_pick (n:Nat) (units:List TUnitConf) (busy:List Int) (needs:List TNeed) (out:List Int) (done:List Bool) (n_:Int):Option Int :=
  (loopF (fun (x:Int×Int)=>ref37_pick_b2 n units busy needs out done n_ x.1 x.2) n ((-1),0)).bind fun y5 =>
  ref37_pick_k1 n y5
def ref37_Assign_k2 (n:Nat) (out:List Int):Option ((List Int)×Int) :=
  some (out,0)
def ref37_Assign_k4 (n:Nat) (units:List TUnitConf) (busy:List Int) (needs:List TNeed) (out_2:List Int) (done_1:List Bool) (pass:Int):Option (((List Int)×(List Bool)×Int) ⊕ ((((List Int)×Int) ⊕ ((List Int))))) :=
  some (.inl (out_2,done_1,(IntKind.wrap .i64 (pass+1))))
def ref37_Assign_k6 (n:Nat) (units:List TUnitConf) (busy:List Int) (needs:List TNeed) (out_4:List Int) (done_3:List Bool) (pass:Int) (n_:Int):Option (((List Int)×(List Bool)×Int) ⊕ ((((List Int)×Int) ⊕ ((List Int)×(List Bool))))) :=
  some (.inl (out_4,done_3,(IntKind.wrap .i64 (n_+1))))
def ref37_Assign_b5 (n:Nat) (units:List TUnitConf) (busy:List Int) (needs:List TNeed) (pass:Int) (out_3:List Int) (done_2:List Bool) (n_:Int):Option (((List Int)×(List Bool)×Int) ⊕ ((((List Int)×Int) ⊕ ((List Int)×(List Bool))))) :=
  bif (decide (n_ < (needs.length:Int))) then
    gd ((0≤n_∧n_ < (needs.length:Int))) <|
    bif ((((gt needs (Int.toNat n_)).Serial) == []) != (pass == 1)) then
      ref37_Assign_k6 n units busy needs out_3 done_2 pass n_
    else
      (ref37_pick n units busy needs out_3 done_2 n_).bind fun r1 =>
      bif (decide (r1 < 0)) then
        some (.inr (.inl ([],370)))
      else
        gd ((0≤r1∧r1 < (units.length:Int))∧(0≤n_∧n_ < (out_3.length:Int))∧(Int.toNat n_) < out_3.length) <|
        gd ((0≤n_∧n_ < (done_2.length:Int))∧(Int.toNat n_) < done_2.length) <|
        ref37_Assign_k6 n units busy needs (List.set out_3 (Int.toNat n_) ((gt units (Int.toNat r1)).Addr)) (List.set done_2 (Int.toNat n_) true) pass n_
  else
    some (.inr (.inr (out_3,done_2)))
def ref37_Assign_b3 (n:Nat) (units:List TUnitConf) (busy:List Int) (needs:List TNeed) (out_1:List Int) (done:List Bool) (pass:Int):Option (((List Int)×(List Bool)×Int) ⊕ ((((List Int)×Int) ⊕ ((List Int))))) :=
  bif (decide (pass < 2)) then
    (loopF (fun (x:(List Int)×(List Bool)×Int)=>ref37_Assign_b5 n units busy needs pass x.1 x.2.1 x.2.2) n (out_1,done,0)).bind fun y13 =>
    match y13 with
    | .inl vv =>
      some (.inr (.inl (vv.1,vv.2)))
    | .inr vv =>
      ref37_Assign_k4 n units busy needs vv.1 vv.2 pass
  else
    some (.inr (.inr out_1))
def ref37_Assign_k1 (n:Nat) (units:List TUnitConf) (busy:List Int) (needs:List TNeed):Option ((List Int)×Int) :=
  gd ((0≤(needs.length:Int)∧(needs.length:Int)≤(needs.length:Int)∧(needs.length:Int)≤2147483648)) <|
  gd ((0≤(needs.length:Int)∧(needs.length:Int)≤(needs.length:Int)∧(needs.length:Int)≤2147483648)) <|
  (loopF (fun (x:(List Int)×(List Bool)×Int)=>ref37_Assign_b3 n units busy needs x.1 x.2.1 x.2.2) n ((zreps (Int.toNat (needs.length:Int)) 0),(zreps (Int.toNat (needs.length:Int)) false),0)).bind fun y8 =>
  match y8 with
  | .inl vv =>
    some (vv.1,vv.2)
  | .inr vv =>
    ref37_Assign_k2 n vv
def ref37_Assign_b7 (n:Nat) (units:List TUnitConf) (busy:List Int) (needs:List TNeed) (n__1:Int):Option ((Int) ⊕ ((((List Int)×Int) ⊕ (Unit)))) :=
  bif (decide (n__1 < (needs.length:Int))) then
    gd ((0≤n__1∧n__1 < (needs.length:Int))) <|
    (ref37_mounted n units (gt needs (Int.toNat n__1))).bind fun r2 =>
    bif (!r2) then
      some (.inr (.inl ([],430)))
    else
      some (.inl (IntKind.wrap .i64 (n__1+1)))
  else
    some (.inr (.inr ()))
def ref37_Assign (n:Nat) (units:List TUnitConf) (busy:List Int) (needs:List TNeed):Option ((List Int)×Int) :=
  (loopF (fun (x:Int)=>ref37_Assign_b7 n units busy needs x) n 0).bind fun y33 =>
  match y33 with
  | .inl vv =>
    some (vv.1,vv.2)
  | .inr vv =>
    ref37_Assign_k1 n units busy needs
abbrev law37_find_s1:S:=stB [] []
def law37_find_k1 (n:Nat):Option Int :=
  some (-1)
abbrev law37_find_t2 (l:List TUnitConf) (addr:Int) (k:Int):S:=stB [(0,.c (.slice 77) (.slice (List.map e_TUnitConf l))),(1,.c (.int .i64) (.int addr)),(5,.c (.int .i64) (.int k))] []
def law37_find_b2 (n:Nat) (l:List TUnitConf) (addr:Int) (k:Int):Option ((Int) ⊕ (((Int) ⊕ (Unit)))) :=
  bif (decide (k < (l.length:Int))) then
    gd ((0≤k∧k < (l.length:Int))) <|
    bif (((gt l (Int.toNat k)).Addr) == addr) then
      some (.inr (.inl k))
    else
      some (.inl (IntKind.wrap .i64 (k+1)))
  else
    some (.inr (.inr ()))
def law37_find (n:Nat) (l:List TUnitConf) (addr:Int):Option Int :=
  (loopF (fun (x:Int)=>law37_find_b2 n l addr x) n 0).bind fun y4 =>
  match y4 with
  | .inl vv =>
    some vv
  | .inr vv =>
    law37_find_k1 n
def xlaw37_find (n:Nat):Go.AE.Fn:=mkFn (A:=(List TUnitConf)×Int) (R:=Int) 31 [(false,[.slice 77]),(false,[.int .i64])] false (fun xs=>(((cg (xs.getD 0 []) 0).toSl.map d_TUnitConf),(cg (xs.getD 1 []) 0).toInt)) (fun a=>[[.slice (List.map e_TUnitConf a.1)],[.int a.2]]) (fun a=>law37_find n a.1 a.2) (fun r=>[.c (.int .i64) (.int r)]) (fun r=>[])
theorem claw37_find (n:Nat):Contract Try.prog (xlaw37_find n):=by
  have hΓ:=@g0 (Contract Try.prog)
  refine contract_f (Try.f31.body.getD .skip) h00 Try.func31 rfl Try.call31 (by decide) (by intro _ r;exact ⟨rfl,by simp⟩) ?_
  rintro ⟨l,addr⟩ r H
  try dsimp only at H
  unfold law37_find at H
  simp only [Try.f31,Option.getD]
  refine rA ?_
  refine Sm.cut (fun (x:Unit)=>law37_find_s1) (fun x=>law37_find_k1 n=some r) ?_ ?_
  · refine rA ?_
    refine Sm.block ?_
    obtain ⟨y4,hy4,Ho4⟩:=bind_some H
    refine Sm.loopB _ (fun x=>law37_find_t2 l addr x) hy4 (wb []) ?_
    rintro k z4 H
    try dsimp only at H
    unfold law37_find_b2 at H
    refine Sm.st (law37_find_t2.eq_1 ..) ?_
    refine Sm.seqK fun K5 hK5=>?_
    refine rA ?_
    refine cnd H (fun h7 H=>?_) (fun h7 H=>?_)
    · refine Sm.skip ?_
      refine hK5 _ ?_
      refine Sm.seqK fun K8 hK8=>?_
      refine Sm.block ?_
      obtain ⟨hg12,H⟩:=gd_some H
      refine rA ?_
      refine cnd H (fun h10 H=>?_) (fun h10 H=>?_)
      · refine rA ?_
        refine Sm.ret ?_
        refine lf ?_
        refine lx H fun hyy=>?_
        subst hyy
        have H:=Ho4
        try dsimp only at H
        refine lf ?_
        obtain rfl:=Option.some.inj H
        exact rt []
      refine Sm.skip ?_
      refine hK8 _ ?_
      refine eA ?_
      refine lf ?_
      exact nx H (wb [])
    refine Sm.exit ?_
    refine lf ?_
    refine lx H fun hyy=>?_
    subst hyy
    have H:=Ho4
    try dsimp only at H
    refine lf ?_
    exact ⟨(),H,wb []⟩
  rintro ⟨⟩ H
  try dsimp only at H
  unfold law37_find_k1 at H
  refine Sm.st (law37_find_s1.eq_1 ..) ?_
  refine rA ?_
  refine Sm.ret ?_
  refine lf ?_
  obtain rfl:=Option.some.inj H
  exact rt []
abbrev law37_EnqueueUnits_s2 (needs:List TNeed) (a:List Int):S:=stB [(2,.c (.slice 69) (.slice (List.map e_TNeed needs))),(9,.own 9001 [.int .i64] 0 a.length)] [(9001,.row 3 (List.map e_Int a))]
def law37_EnqueueUnits_k2 (n:Nat) (needs:List TNeed) (a:List Int):Option Bool :=
  some (((a.length:Nat):Int) == (needs.length:Int))
abbrev law37_EnqueueUnits_s4 (busy:List Int) (needs:List TNeed) (l:List TUnitConf) (a_1:List Int) (k:Int):S:=stB [(1,.c (.slice 3) (.slice (List.map e_Int busy))),(2,.c (.slice 69) (.slice (List.map e_TNeed needs))),(7,.own 9006 [.int .i64,.int .i64,.str,.int .i64,.int .i64] 0 l.length),(9,.own 9007 [.int .i64] 0 a_1.length),(11,.c (.int .i64) (.int k))] [(9006,.row 77 (List.map e_TUnitConf l)),(9007,.row 3 (List.map e_Int a_1))]
def law37_EnqueueUnits_k4 (n:Nat) (busy:List Int) (needs:List TNeed) (l:List TUnitConf) (a_1:List Int) (k:Int):Option ((Int) ⊕ (((Bool) ⊕ (Unit)))) :=
  some (.inl (IntKind.wrap .i64 (k+1)))
abbrev law37_EnqueueUnits_t6 (busy:List Int) (needs:List TNeed) (l:List TUnitConf) (a_1:List Int) (k:Int) (u:Int) (i:Int):S:=stB [(1,.c (.slice 3) (.slice (List.map e_Int busy))),(2,.c (.slice 69) (.slice (List.map e_TNeed needs))),(7,.own 9012 [.int .i64,.int .i64,.str,.int .i64,.int .i64] 0 l.length),(9,.own 9013 [.int .i64] 0 a_1.length),(11,.c (.int .i64) (.int k)),(12,.c (.int .i64) (.int u)),(14,.c (.int .i64) (.int i))] [(9012,.row 77 (List.map e_TUnitConf l)),(9013,.row 3 (List.map e_Int a_1))]
def law37_EnqueueUnits_b6 (n:Nat) (busy:List Int) (needs:List TNeed) (l:List TUnitConf) (a_1:List Int) (k:Int) (u:Int) (i:Int):Option ((Int) ⊕ (((Bool) ⊕ (Unit)))) :=
  gd (((decide (i < k))=true→(0≤u∧u < (l.length:Int)))∧((decide (i < k))=true→(Int.toNat u) < l.length)) <|
  bif (if (decide (i < k))=true then (((gt l (Int.toNat u)).Kind) != 5) else false) then
    gd ((0≤i∧i < (a_1.length:Int))∧(Int.toNat i) < a_1.length∧(0≤k∧k < (a_1.length:Int))∧(Int.toNat k) < a_1.length∧(((gt a_1 (Int.toNat i)) == (gt a_1 (Int.toNat k)))=true→(0≤i∧i < (needs.length:Int)))∧(((gt a_1 (Int.toNat i)) == (gt a_1 (Int.toNat k)))=true→(0≤k∧k < (needs.length:Int)))∧((((gt a_1 (Int.toNat i)) == (gt a_1 (Int.toNat k))) && (!(!((((gt needs (Int.toNat i)).Kind) == ((gt needs (Int.toNat k)).Kind)) && (((gt needs (Int.toNat i)).Serial) == ((gt needs (Int.toNat k)).Serial))))))=true→(0≤k∧k < (needs.length:Int)))∧((((gt a_1 (Int.toNat i)) == (gt a_1 (Int.toNat k))) && !(!((((gt needs (Int.toNat i)).Kind) == ((gt needs (Int.toNat k)).Kind)) && (((gt needs (Int.toNat i)).Serial) == ((gt needs (Int.toNat k)).Serial)))))=true→(((gt a_1 (Int.toNat i)) == (gt a_1 (Int.toNat k))) && (!(!((((gt needs (Int.toNat i)).Kind) == ((gt needs (Int.toNat k)).Kind)) && (((gt needs (Int.toNat i)).Serial) == ((gt needs (Int.toNat k)).Serial))))))=true)) <|
    bif (if ((gt a_1 (Int.toNat i)) == (gt a_1 (Int.toNat k)))=true then (if (!((((gt needs (Int.toNat i)).Kind) == ((gt needs (Int.toNat k)).Kind)) && (((gt needs (Int.toNat i)).Serial) == ((gt needs (Int.toNat k)).Serial))))=true then true else (((gt needs (Int.toNat k)).Serial) == [])) else false) then
      some (.inr (.inl false))
    else
      some (.inl (IntKind.wrap .i64 (i+1)))
  else
    some (.inr (.inr ()))
abbrev law37_EnqueueUnits_s5 (busy:List Int) (needs:List TNeed) (l:List TUnitConf) (a_1:List Int) (k:Int) (u:Int):S:=stB [(1,.c (.slice 3) (.slice (List.map e_Int busy))),(2,.c (.slice 69) (.slice (List.map e_TNeed needs))),(7,.own 9008 [.int .i64,.int .i64,.str,.int .i64,.int .i64] 0 l.length),(9,.own 9009 [.int .i64] 0 a_1.length),(11,.c (.int .i64) (.int k)),(12,.c (.int .i64) (.int u))] [(9008,.row 77 (List.map e_TUnitConf l)),(9009,.row 3 (List.map e_Int a_1))]
def law37_EnqueueUnits_k5 (n:Nat) (busy:List Int) (needs:List TNeed) (l:List TUnitConf) (a_1:List Int) (k:Int) (u:Int):Option ((Int) ⊕ (((Bool) ⊕ (Unit)))) :=
  (loopF (fun (x:Int)=>law37_EnqueueUnits_b6 n busy needs l a_1 k u x) n 0).bind fun y29 =>
  match y29 with
  | .inl vv =>
    some (.inr (.inl vv))
  | .inr vv =>
    law37_EnqueueUnits_k4 n busy needs l a_1 k
abbrev law37_EnqueueUnits_t7 (busy:List Int) (needs:List TNeed) (l:List TUnitConf) (a_1:List Int) (k:Int) (u_1:Int) (i_1:Int):S:=stB [(1,.c (.slice 3) (.slice (List.map e_Int busy))),(2,.c (.slice 69) (.slice (List.map e_TNeed needs))),(7,.own 9016 [.int .i64,.int .i64,.str,.int .i64,.int .i64] 0 l.length),(9,.own 9017 [.int .i64] 0 a_1.length),(11,.c (.int .i64) (.int k)),(12,.c (.int .i64) (.int u_1)),(13,.c (.int .i64) (.int i_1))] [(9016,.row 77 (List.map e_TUnitConf l)),(9017,.row 3 (List.map e_Int a_1))]
def law37_EnqueueUnits_b7 (n:Nat) (busy:List Int) (needs:List TNeed) (l:List TUnitConf) (a_1:List Int) (k:Int) (u_1:Int) (i_1:Int):Option ((Int) ⊕ (((Bool) ⊕ (Unit)))) :=
  gd (((decide (i_1 < (busy.length:Int)))=true→(0≤u_1∧u_1 < (l.length:Int)))∧((decide (i_1 < (busy.length:Int)))=true→(Int.toNat u_1) < l.length)) <|
  bif (if (decide (i_1 < (busy.length:Int)))=true then (((gt l (Int.toNat u_1)).Kind) != 5) else false) then
    gd ((0≤i_1∧i_1 < (busy.length:Int))∧(0≤k∧k < (a_1.length:Int))∧(Int.toNat k) < a_1.length) <|
    bif ((gt busy (Int.toNat i_1)) == (gt a_1 (Int.toNat k))) then
      some (.inr (.inl false))
    else
      some (.inl (IntKind.wrap .i64 (i_1+1)))
  else
    some (.inr (.inr ()))
abbrev law37_EnqueueUnits_t3 (busy:List Int) (needs:List TNeed) (l:List TUnitConf) (a_1:List Int) (k:Int):S:=stB [(1,.c (.slice 3) (.slice (List.map e_Int busy))),(2,.c (.slice 69) (.slice (List.map e_TNeed needs))),(7,.own 9004 [.int .i64,.int .i64,.str,.int .i64,.int .i64] 0 l.length),(9,.own 9005 [.int .i64] 0 a_1.length),(11,.c (.int .i64) (.int k))] [(9004,.row 77 (List.map e_TUnitConf l)),(9005,.row 3 (List.map e_Int a_1))]
def law37_EnqueueUnits_b3 (n:Nat) (busy:List Int) (needs:List TNeed) (l:List TUnitConf) (a_1:List Int) (k:Int):Option ((Int) ⊕ (((Bool) ⊕ (Unit)))) :=
  bif (decide (k < (needs.length:Int))) then
    gd ((0≤k∧k < (a_1.length:Int))∧(Int.toNat k) < a_1.length) <|
    (law37_find n l (gt a_1 (Int.toNat k))).bind fun r3 =>
    gd (((!(decide (r3 < 0)))=true→(0≤r3∧r3 < (l.length:Int)))∧((!(decide (r3 < 0)))=true→(Int.toNat r3) < l.length)∧((!(decide (r3 < 0)))=true→(0≤k∧k < (needs.length:Int)))∧((!(if (decide (r3 < 0))=true then true else (((gt l (Int.toNat r3)).Kind) != ((gt needs (Int.toNat k)).Kind))))=true→(0≤k∧k < (needs.length:Int)))∧(((!(if (decide (r3 < 0))=true then true else (((gt l (Int.toNat r3)).Kind) != ((gt needs (Int.toNat k)).Kind)))) && (((gt needs (Int.toNat k)).Serial) != []))=true→(0≤r3∧r3 < (l.length:Int)))∧(((!(if (decide (r3 < 0))=true then true else (((gt l (Int.toNat r3)).Kind) != ((gt needs (Int.toNat k)).Kind)))) && (((gt needs (Int.toNat k)).Serial) != []))=true→(Int.toNat r3) < l.length)∧(((!(if (decide (r3 < 0))=true then true else (((gt l (Int.toNat r3)).Kind) != ((gt needs (Int.toNat k)).Kind)))) && (((gt needs (Int.toNat k)).Serial) != []))=true→(0≤k∧k < (needs.length:Int)))) <|
    bif (if (if (decide (r3 < 0))=true then true else (((gt l (Int.toNat r3)).Kind) != ((gt needs (Int.toNat k)).Kind)))=true then true else (if (((gt needs (Int.toNat k)).Serial) != [])=true then (((gt l (Int.toNat r3)).Serial) != ((gt needs (Int.toNat k)).Serial)) else false)) then
      some (.inr (.inl false))
    else
      (loopF (fun (x:Int)=>law37_EnqueueUnits_b7 n busy needs l a_1 k r3 x) n 0).bind fun y48 =>
      match y48 with
      | .inl vv =>
        some (.inr (.inl vv))
      | .inr vv =>
        law37_EnqueueUnits_k5 n busy needs l a_1 k r3
  else
    some (.inr (.inr ()))
abbrev law37_EnqueueUnits_s1 (busy:List Int) (needs:List TNeed) (l:List TUnitConf):S:=stB [(1,.c (.slice 3) (.slice (List.map e_Int busy))),(2,.c (.slice 69) (.slice (List.map e_TNeed needs))),(7,.own 9000 [.int .i64,.int .i64,.str,.int .i64,.int .i64] 0 l.length)] [(9000,.row 77 (List.map e_TUnitConf l))]
def law37_EnqueueUnits_k1 (n:Nat) (busy:List Int) (needs:List TNeed) (l:List TUnitConf):Option Bool :=
  (enqueue_Assign n l busy needs).bind fun r2 =>
  bif (r2.2 != 0) then
    gd ((((((r2.1.length:Nat):Int) == 0) && !(r2.2 == 430))=true→((((r2.1.length:Nat):Int) == 0) && (!(r2.2 == 430)))=true)) <|
    some (if (if (((r2.1.length:Nat):Int) == 0)=true then (if (r2.2 == 430)=true then true else (r2.2 == 370)) else false)=true then (decide ((needs.length:Int) > 0)) else false)
  else
    (loopF (fun (x:Int)=>law37_EnqueueUnits_b3 n busy needs l r2.1 x) n 0).bind fun y19 =>
    match y19 with
    | .inl vv =>
      some vv
    | .inr vv =>
      law37_EnqueueUnits_k2 n needs r2.1
abbrev law37_EnqueueUnits_s9 (units:List TUnitConf) (busy:List Int) (needs:List TNeed) (l_2:List TUnitConf) (k_1:Int):S:=stB [(0,.c (.slice 77) (.slice (List.map e_TUnitConf units))),(1,.c (.slice 3) (.slice (List.map e_Int busy))),(2,.c (.slice 69) (.slice (List.map e_TNeed needs))),(7,.own 9020 [.int .i64,.int .i64,.str,.int .i64,.int .i64] 0 l_2.length),(8,.c (.int .i64) (.int k_1))] [(9020,.row 77 (List.map e_TUnitConf l_2))]
def law37_EnqueueUnits_k9 (n:Nat) (units:List TUnitConf) (busy:List Int) (needs:List TNeed) (l_2:List TUnitConf) (k_1:Int):Option (((List TUnitConf)×Int) ⊕ (((List TUnitConf)))) :=
  some (.inl (l_2,(IntKind.wrap .i64 (k_1+1))))
abbrev law37_EnqueueUnits_t8 (units:List TUnitConf) (busy:List Int) (needs:List TNeed) (l_1:List TUnitConf) (k_1:Int):S:=stB [(0,.c (.slice 77) (.slice (List.map e_TUnitConf units))),(1,.c (.slice 3) (.slice (List.map e_Int busy))),(2,.c (.slice 69) (.slice (List.map e_TNeed needs))),(7,.own 9019 [.int .i64,.int .i64,.str,.int .i64,.int .i64] 0 l_1.length),(8,.c (.int .i64) (.int k_1))] [(9019,.row 77 (List.map e_TUnitConf l_1))]
def law37_EnqueueUnits_b8 (n:Nat) (units:List TUnitConf) (busy:List Int) (needs:List TNeed) (l_1:List TUnitConf) (k_1:Int):Option (((List TUnitConf)×Int) ⊕ (((List TUnitConf)))) :=
  bif (decide (k_1 < (units.length:Int))) then
    gd ((0≤k_1∧k_1 < (units.length:Int))) <|
    (law37_find n l_1 ((gt units (Int.toNat k_1)).Addr)).bind fun r4 =>
    bif (decide (r4 < 0)) then
      gd ((0≤k_1∧k_1 < (units.length:Int))∧(l_1.length+1)≤2147483648) <|
      law37_EnqueueUnits_k9 n units busy needs (l_1 ++ [(gt units (Int.toNat k_1))]) k_1
    else
      law37_EnqueueUnits_k9 n units busy needs l_1 k_1
  else
    some (.inr l_1)
def law37_EnqueueUnits (n:Nat) (units:List TUnitConf) (busy:List Int) (needs:List TNeed):Option Bool :=
  (law37_works n).bind fun r1 =>
  bif (!r1) then
    some false
  else
    bif (if (if (decide ((units.length:Int) > 40))=true then true else (decide ((busy.length:Int) > 40)))=true then true else (decide ((needs.length:Int) > 40))) then
      some true
    else
      (loopF (fun (x:(List TUnitConf)×Int)=>law37_EnqueueUnits_b8 n units busy needs x.1 x.2) n ([],0)).bind fun y71 =>
      law37_EnqueueUnits_k1 n busy needs y71
def xlaw37_EnqueueUnits (n:Nat):Go.AE.Fn:=mkFn (A:=(List TUnitConf)×(List Int)×(List TNeed)) (R:=Bool) 10 [(false,[.slice 77]),(false,[.slice 3]),(false,[.slice 69])] false (fun xs=>(((cg (xs.getD 0 []) 0).toSl.map d_TUnitConf),((cg (xs.getD 1 []) 0).toSl.map d_Int),((cg (xs.getD 2 []) 0).toSl.map d_TNeed))) (fun a=>[[.slice (List.map e_TUnitConf a.1)],[.slice (List.map e_Int a.2.1)],[.slice (List.map e_TNeed a.2.2)]]) (fun a=>law37_EnqueueUnits n a.1 a.2.1 a.2.2) (fun r=>[.c .bool (.bool r)]) (fun r=>[])
theorem claw37_EnqueueUnits (n:Nat):Contract Try.prog (xlaw37_EnqueueUnits n):=by
  have hΓ:=g1 (claw37_works n) (g1 (claw37_find n) (g1 (cenqueue_Assign n) (@g0 (Contract Try.prog))))
  refine contract_f (Try.f10.body.getD .skip) h00 Try.func10 rfl Try.call10 (by decide) (by intro _ r;exact ⟨rfl,by simp⟩) ?_
  rintro ⟨units,busy,needs⟩ r H
  try dsimp only at H
  unfold law37_EnqueueUnits at H
  simp only [Try.f10,Option.getD]
  refine rA ?_
  refine Sm.seqK fun K2 hK2=>?_
  obtain ⟨r1,hr1,H⟩:=bind_some H
  have q:=And.intro @xlaw37_works.eq_1 hr1
  refine rAq ?_
  refine cnd H (fun h4 H=>?_) (fun h4 H=>?_)
  · refine rA ?_
    refine Sm.ret ?_
    refine lf ?_
    obtain rfl:=Option.some.inj H
    exact rt []
  refine Sm.skip ?_
  refine hK2 _ ?_
  refine Sm.seqK fun K6 hK6=>?_
  refine rA ?_
  refine cnd H (fun h8 H=>?_) (fun h8 H=>?_)
  · refine rA ?_
    refine Sm.ret ?_
    refine lf ?_
    obtain rfl:=Option.some.inj H
    exact rt []
  refine Sm.skip ?_
  refine hK6 _ ?_
  refine rA ?_
  refine Sm.cut (fun (x:(List TUnitConf))=>law37_EnqueueUnits_s1 busy needs x) (fun x=>law37_EnqueueUnits_k1 n busy needs x=some r) ?_ ?_
  · refine rA ?_
    refine Sm.block ?_
    obtain ⟨y71,hy71,Ho71⟩:=bind_some H
    refine Sm.loopB _ (fun x=>law37_EnqueueUnits_t8 units busy needs x.1 x.2) hy71 (wb [none]) ?_
    rintro ⟨l_1,k_1⟩ z71 H
    try dsimp only at H
    unfold law37_EnqueueUnits_b8 at H
    refine Sm.st (law37_EnqueueUnits_t8.eq_1 ..) ?_
    refine Sm.seqK fun K72 hK72=>?_
    refine rA ?_
    refine cnd H (fun h74 H=>?_) (fun h74 H=>?_)
    · refine Sm.skip ?_
      refine hK72 _ ?_
      refine Sm.cut (fun (x:(List TUnitConf))=>law37_EnqueueUnits_s9 units busy needs x k_1) (fun x=>law37_EnqueueUnits_k9 n units busy needs x k_1=some z71) ?_ ?_
      · refine Sm.block ?_
        obtain ⟨hg79,H⟩:=gd_some H
        obtain ⟨r4,hr4,H⟩:=bind_some H
        have q:=And.intro @xlaw37_works.eq_1 (And.intro @xlaw37_find.eq_1 hr4)
        refine rAq ?_
        refine cnd H (fun h76 H=>?_) (fun h76 H=>?_)
        · obtain ⟨⟨hg77,hg78⟩,H⟩:=gd_some H
          refine eA ?_
          refine lf ?_
          exact ⟨_,H,wb [some 800]⟩
        refine Sm.skip ?_
        refine lf ?_
        exact ⟨_,H,wb [some 9019]⟩
      rintro l_2 H
      try dsimp only at H
      unfold law37_EnqueueUnits_k9 at H
      refine Sm.st (law37_EnqueueUnits_s9.eq_1 ..) ?_
      refine eA ?_
      refine lf ?_
      exact nx H (wb [some 9020])
    refine Sm.exit ?_
    refine lf ?_
    refine lx H fun hyy=>?_
    subst hyy
    have H:=Ho71
    try dsimp only at H
    refine lf ?_
    exact ⟨_,H,wb [some 9019]⟩
  rintro l H
  try dsimp only at H
  unfold law37_EnqueueUnits_k1 at H
  refine Sm.st (law37_EnqueueUnits_s1.eq_1 ..) ?_
  obtain ⟨r2,hr2,H⟩:=bind_some H
  have q:=And.intro @xlaw37_works.eq_1 (And.intro @xlaw37_find.eq_1 (And.intro @xenqueue_Assign.eq_1 hr2))
  refine rAq ?_
  refine Sm.seqK fun K12 hK12=>?_
  refine rA ?_
  refine cnd H (fun h14 H=>?_) (fun h14 H=>?_)
  · obtain ⟨hg16,H⟩:=gd_some H
    refine rA ?_
    refine Sm.ret ?_
    refine lf ?_
    obtain rfl:=Option.some.inj H
    exact rt []
  refine Sm.skip ?_
  refine hK12 _ ?_
  refine Sm.cut (fun (x:(List Int))=>law37_EnqueueUnits_s2 needs x) (fun x=>law37_EnqueueUnits_k2 n needs x=some r) ?_ ?_
  · refine rA ?_
    refine Sm.block ?_
    obtain ⟨y19,hy19,Ho19⟩:=bind_some H
    refine Sm.loopB _ (fun x=>law37_EnqueueUnits_t3 busy needs l r2.1 x) hy19 (wb [some 9000,some 880]) ?_
    rintro k z19 H
    try dsimp only at H
    unfold law37_EnqueueUnits_b3 at H
    refine Sm.st (law37_EnqueueUnits_t3.eq_1 ..) ?_
    refine Sm.seqK fun K20 hK20=>?_
    refine rA ?_
    refine cnd H (fun h22 H=>?_) (fun h22 H=>?_)
    · refine Sm.skip ?_
      refine hK20 _ ?_
      refine Sm.cut (fun (x:Unit)=>law37_EnqueueUnits_s4 busy needs l r2.1 k) (fun x=>law37_EnqueueUnits_k4 n busy needs l r2.1 k=some z19) ?_ ?_
      · refine Sm.block ?_
        obtain ⟨⟨hg68,hg69⟩,H⟩:=gd_some H
        obtain ⟨r3,hr3,H⟩:=bind_some H
        have q:=And.intro @xlaw37_works.eq_1 (And.intro @xlaw37_find.eq_1 hr3)
        refine rAq ?_
        refine Sm.seqK fun K24 hK24=>?_
        obtain ⟨⟨hg61,hg62,hg63,hg64,hg65,hg66,hg67⟩,H⟩:=gd_some H
        refine rD ?_
        refine cnd H (fun h26 H=>?_) (fun h26 H=>?_)
        · refine rA ?_
          refine Sm.ret ?_
          refine lf ?_
          refine lx H fun hyy=>?_
          subst hyy
          have H:=Ho19
          try dsimp only at H
          refine lf ?_
          obtain rfl:=Option.some.inj H
          exact rt []
        refine Sm.skip ?_
        refine hK24 _ ?_
        refine Sm.cut (fun (x:Int)=>law37_EnqueueUnits_s5 busy needs l r2.1 k x) (fun x=>law37_EnqueueUnits_k5 n busy needs l r2.1 k x=some z19) ?_ ?_
        · refine rA ?_
          refine Sm.block ?_
          obtain ⟨y48,hy48,Ho48⟩:=bind_some H
          refine Sm.loopB _ (fun x=>law37_EnqueueUnits_t7 busy needs l r2.1 k r3 x) hy48 (wb [some 9004,some 9005]) ?_
          rintro i_1 z48 H
          try dsimp only at H
          unfold law37_EnqueueUnits_b7 at H
          refine Sm.st (law37_EnqueueUnits_t7.eq_1 ..) ?_
          refine Sm.seqK fun K49 hK49=>?_
          obtain ⟨⟨hg59,hg60⟩,H⟩:=gd_some H
          refine rA ?_
          refine cnd H (fun h51 H=>?_) (fun h51 H=>?_)
          · refine Sm.skip ?_
            refine hK49 _ ?_
            refine Sm.seqK fun K52 hK52=>?_
            refine Sm.block ?_
            obtain ⟨⟨hg56,hg57,hg58⟩,H⟩:=gd_some H
            refine rD ?_
            refine cnd H (fun h54 H=>?_) (fun h54 H=>?_)
            · refine rA ?_
              refine Sm.ret ?_
              refine lf ?_
              refine lx H fun hyy=>?_
              subst hyy
              have H:=Ho48
              try dsimp only at H
              refine lf ?_
              refine lx H fun hyy=>?_
              subst hyy
              have H:=Ho19
              try dsimp only at H
              refine lf ?_
              obtain rfl:=Option.some.inj H
              exact rt []
            refine Sm.skip ?_
            refine hK52 _ ?_
            refine eA ?_
            refine lf ?_
            exact nx H (wb [some 9016,some 9017])
          refine Sm.exit ?_
          refine lf ?_
          refine lx H fun hyy=>?_
          subst hyy
          have H:=Ho48
          try dsimp only at H
          refine lf ?_
          exact ⟨_,H,wb [some 9016,some 9017]⟩
        rintro u H
        try dsimp only at H
        unfold law37_EnqueueUnits_k5 at H
        refine Sm.st (law37_EnqueueUnits_s5.eq_1 ..) ?_
        refine rA ?_
        refine Sm.block ?_
        obtain ⟨y29,hy29,Ho29⟩:=bind_some H
        refine Sm.loopB _ (fun x=>law37_EnqueueUnits_t6 busy needs l r2.1 k u x) hy29 (wb [some 9008,some 9009]) ?_
        rintro i z29 H
        try dsimp only at H
        unfold law37_EnqueueUnits_b6 at H
        refine Sm.st (law37_EnqueueUnits_t6.eq_1 ..) ?_
        refine Sm.seqK fun K30 hK30=>?_
        obtain ⟨⟨hg45,hg46⟩,H⟩:=gd_some H
        refine rA ?_
        refine cnd H (fun h32 H=>?_) (fun h32 H=>?_)
        · refine Sm.skip ?_
          refine hK30 _ ?_
          refine Sm.seqK fun K33 hK33=>?_
          refine Sm.block ?_
          obtain ⟨⟨hg37,hg38,hg39,hg40,hg41,hg42,hg43,hg44⟩,H⟩:=gd_some H
          refine rD ?_
          refine cnd H (fun h35 H=>?_) (fun h35 H=>?_)
          · refine rA ?_
            refine Sm.ret ?_
            refine lf ?_
            refine lx H fun hyy=>?_
            subst hyy
            have H:=Ho29
            try dsimp only at H
            refine lf ?_
            refine lx H fun hyy=>?_
            subst hyy
            have H:=Ho19
            try dsimp only at H
            refine lf ?_
            obtain rfl:=Option.some.inj H
            exact rt []
          refine Sm.skip ?_
          refine hK33 _ ?_
          refine eA ?_
          refine lf ?_
          exact nx H (wb [some 9012,some 9013])
        refine Sm.exit ?_
        refine lf ?_
        refine lx H fun hyy=>?_
        subst hyy
        have H:=Ho29
        try dsimp only at H
        refine lf ?_
        exact ⟨(),H,wb [some 9012,some 9013]⟩
      rintro ⟨⟩ H
      try dsimp only at H
      unfold law37_EnqueueUnits_k4 at H
      refine Sm.st (law37_EnqueueUnits_s4.eq_1 ..) ?_
      refine eA ?_
      refine lf ?_
      exact nx H (wb [some 9006,some 9007])
    refine Sm.exit ?_
    refine lf ?_
    refine lx H fun hyy=>?_
    subst hyy
    have H:=Ho19
    try dsimp only at H
    refine lf ?_
    exact ⟨_,H,wb [some 9005]⟩
  rintro a H
  try dsimp only at H
  unfold law37_EnqueueUnits_k2 at H
  refine Sm.st (law37_EnqueueUnits_s2.eq_1 ..) ?_
  refine rA ?_
  refine Sm.ret ?_
  refine lf ?_
  obtain rfl:=Option.some.inj H
  exact rt []
end Go.Proofs.Ytcdofkflbnpjjaa
