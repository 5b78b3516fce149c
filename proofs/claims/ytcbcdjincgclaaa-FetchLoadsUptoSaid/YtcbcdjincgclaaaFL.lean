/- Text. -/
import Derived.Test.YtcbcdjincgclaaaF
import Derived.Test.YtcbcdjincgclaaaDF
import Derived.Test.YtcbcdjincgclaaaAE62
set_option linter.unusedSimpArgs false
set_option linter.unusedVariables false
set_option maxHeartbeats 8000000
set_option linter.unusedVariables false
set_option linter.unusedSimpArgs false
set_option maxRecDepth 100000
namespace Go.Proofs.Ytcbcdjincgclaaa
open Go.AE
def walkM:Nat→TLoad→Int→Option (List Int)
  | 0,_,_=>none
  | k+1,m,x =>
    bif (decide (x < 0)) then
      some []
    else
      gd (0≤x∧x < (m.Segments.length:Int)) <|
      (walkM k m (gt m.Segments (Int.toNat x)).Parent).bind fun r1 =>
      gd (r1.length+1≤2147483648) <|
      some (r1 ++ [x])
theorem un32:Try.prog.underlying 32=some (.slice 3):=by kernel_rfl
theorem ty95:tyI Try.prog 95=some ⟨[.other],false,[],0,8⟩:=by kernel_rfl
def link_Path (n:Nat) (m:TLoad) (x:Int):Option ((List Int)×Bool) :=
  (module_CheckLoad n m).bind fun r1 =>
  bif (if (if (r1 != 0)=true then true else (decide (x < 0)))=true then true else (decide (x ≥ (m.Segments.length:Int)))) then
    some ([],false)
  else
    (walkM n m x).bind fun r2 =>
    some (r2,true)
def xlink_Path (n:Nat):Go.AE.Fn:=mkFn (A:=TLoad×Int) (R:=(List Int)×Bool) 43 [(true,[.slice 5,.slice 58,.slice 52,.int .i64]),(false,[.int .i64])] true (fun xs=>((⟨((cg (xs.getD 0 []) 0).toSl.map d_Int),((cg (xs.getD 0 []) 1).toSl.map d_TReloc),((cg (xs.getD 0 []) 2).toSl.map d_TSegment),(cg (xs.getD 0 []) 3).toInt⟩:TLoad),(cg (xs.getD 1 []) 0).toInt)) (fun a=>[[.slice (List.map e_Int a.1.Text),.slice (List.map e_TReloc a.1.Relocs),.slice (List.map e_TSegment a.1.Segments),.int a.1.Entry],[.int a.2]]) (fun a=>link_Path n a.1 a.2) (fun r=>[.c (.slice 3) (.slice (List.map e_Int r.1)),.c .bool (.bool r.2)]) (fun r=>[])
namespace wlk
theorem z:type_of% (And.intro Go.Proofs.Ytcbcdjincgclaaa.z (And.intro un32 ty95)):=And.intro Go.Proofs.Ytcbcdjincgclaaa.z (And.intro un32 ty95)
theorem cwalk:∀ (k:Nat) (m:TLoad) (x:Int) (r:List Int),walkM k m x=some r→CallsM Try.prog 64 [.dat (false,[.int .i64]) [.int x],.ref (.box 0 0),.ref (.box 1 0)] [.box [.fnv 64 [.box 0 0,.box 1 0]],.box [.c (.slice 5) (.slice (List.map e_Int m.Text)),.c (.slice 58) (.slice (List.map e_TReloc m.Relocs)),.c (.slice 52) (.slice (List.map e_TSegment m.Segments)),.c (.int .i64) (.int m.Entry)]]
    [.own 2 [.int .i64] 0 r.length] [.box [.fnv 64 [.box 0 0,.box 1 0]],.box [.c (.slice 5) (.slice (List.map e_Int m.Text)),.c (.slice 58) (.slice (List.map e_TReloc m.Relocs)),.c (.slice 52) (.slice (List.map e_TSegment m.Segments)),.c (.int .i64) (.int m.Entry)],.row 3 (List.map e_Int r)]:=by
  intro k
  induction k with
  | zero=>intro m x r H;cases H
  | succ k ih =>
    intro m x r H
    have hΓ:=@g0 (Contract Try.prog)
    refine callsM_of (Try.f64.body.getD .skip) h00 Try.func64 rfl Try.call64 (Nat.le_of_ble_eq_true rfl) (Nat.le_of_ble_eq_true rfl) ?_
    simp only [walkM] at H
    simp only [Try.f64,Option.getD]
    refine rA ?_
    refine Sm.seqK fun K2 hK2=>?_
    refine rA ?_
    refine cnd H (fun h5 H=>?_) (fun h5 H=>?_)
    · refine rA ?_
      refine Sm.ret ?_
      refine lf ?_
      obtain rfl:=Option.some.inj H
      exact rtM [some 0,some 1,none] (h:=by simp only [z,seval])
    refine Sm.skip ?_
    refine hK2 _ ?_
    obtain ⟨hg1,H⟩:=gd_some H
    obtain ⟨r1,hr1,H⟩:=bind_some H
    obtain ⟨hg2,H⟩:=gd_some H
    refine sP [0,1,2,3,4,5,6] 5 [7,10,11] [(none,[0],[]),(none,[1],[]),(none,[1],[]),(none,[],[]),(none,[],[]),(none,[],[]),(none,[],[]),(none,[],[]),(none,[],[]),(none,[],[256]),(none,[],[]),(none,[],[])] fun K hK=>?_
    iterate 7 refine oQ ?_
    refine opsQ0 ?_
    have q:=hr1
    refine restL_node 7 [8] (nextX ?_ (nextQ ?_ trivial))
    · refine oMq (ih m _ r1 hr1) [0,1] [224] ?_
      refine opsX0 ?_
      refine restL_node 8 [] (nextQ ?_ trivial)
      refine oQ ?_
      refine opsQ0 ?_
      refine restL_node 9 [] (nextQ ?_ trivial)
      refine oQ ?_
      refine opsQ0 ?_
      refine restL_node 10 [] (nextX ?_ trivial)
      refine oX ?_
      refine opsX0 ?_
      refine restL_node 11 [] (nextX ?_ trivial)
      refine oX ?_
      refine opsX0 ?_
      refine restL0 ?_
      refine hK _ ?_
      refine Sm.ret ?_
      refine lf ?_
      obtain rfl:=Option.some.inj H
      exact rtM [some 0,some 1,some 272]
    · refine oQ ?_
      refine opsQ0 ?_
      refine restL_node 7 [9] (nextX ?_ (nextQ ?_ trivial))
      · refine oMq (ih m _ r1 hr1) [0,1] [224] ?_
        refine opsX0 ?_
        refine restL_node 9 [] (nextQ ?_ trivial)
        refine oQ ?_
        refine opsQ0 ?_
        refine restL_node 10 [] (nextX ?_ trivial)
        refine oX ?_
        refine opsX0 ?_
        refine restL_node 11 [] (nextX ?_ trivial)
        refine oX ?_
        refine opsX0 ?_
        refine restL0 ?_
        refine hK _ ?_
        refine Sm.ret ?_
        refine lf ?_
        obtain rfl:=Option.some.inj H
        exact rtM [some 0,some 1,some 272]
      · refine oQ ?_
        refine opsQ0 ?_
        refine restL_node 7 [] (nextX ?_ trivial)
        refine oMq (ih m _ r1 hr1) [0,1] [224] ?_
        refine opsX0 ?_
        refine restL_node 10 [] (nextX ?_ trivial)
        refine oX ?_
        refine opsX0 ?_
        refine restL_node 11 [] (nextX ?_ trivial)
        refine oX ?_
        refine opsX0 ?_
        refine restL0 ?_
        refine hK _ ?_
        refine Sm.ret ?_
        refine lf ?_
        obtain rfl:=Option.some.inj H
        exact rtM [some 0,some 1,some 272]
theorem clink_Path (n:Nat):Contract Try.prog (xlink_Path n):=by
  have hΓ:=g1 (cmodule_CheckLoad n) (@g0 (Contract Try.prog))
  refine contract_f (Try.f43.body.getD .skip) h00 Try.func43 rfl Try.call43 (by decide) (by intro h;cases h) ?_
  rintro ⟨m,x⟩ r H
  try dsimp only at H
  unfold link_Path at H
  simp only [Try.f43,Option.getD]
  refine rA ?_
  refine Sm.seqK fun K2 hK2=>?_
  obtain ⟨r1,hr1,H⟩:=bind_some H
  have q:=And.intro @xmodule_CheckLoad.eq_1 hr1
  refine rAq ?_
  refine cnd H (fun h5 H=>?_) (fun h5 H=>?_)
  · refine rA ?_
    refine Sm.ret ?_
    refine lf ?_
    obtain rfl:=Option.some.inj H
    exact rt []
  refine Sm.skip ?_
  refine hK2 _ ?_
  refine rA ?_
  refine sX fun K5 hK5=>?_
  refine oY ?_
  refine oX ?_
  refine opsX0 ?_
  refine hK5 _ ?_
  obtain ⟨r2,hr2,H⟩:=bind_some H
  have q:=hr2
  refine sX fun K6 hK6=>?_
  refine oX ?_
  refine oX ?_
  refine oMq (cwalk n m x r2 hr2) [96,32] [384] ?_
  refine oX ?_
  refine oX ?_
  refine opsX0 ?_
  refine hK6 _ ?_
  refine Sm.ret ?_
  refine lf ?_
  obtain rfl:=Option.some.inj H
  exact rt []
end wlk
theorem clink_Path (n:Nat):Contract Try.prog (xlink_Path n):=wlk.clink_Path n
end Go.Proofs.Ytcbcdjincgclaaa
/-
  The functions that call one whose contract is written by hand.
-/
set_option maxHeartbeats 8000000
set_option linter.unusedVariables false
set_option linter.unusedSimpArgs false
set_option maxRecDepth 100000
namespace Go.Proofs.Ytcbcdjincgclaaa
open Go.AE
def law33_module (n:Nat):Option TLoad :=
  gd ((0≤28∧28≤28∧28≤2147483648)) <|
  gd (7 < (28:Int)∧7 < 28) <|
  some (⟨(List.set (zreps 28 0) 7 20),[(⟨4,4,false⟩:TReloc)],[(⟨(-1),0,0,16⟩:TSegment),(⟨0,16,16,8⟩:TSegment),(⟨0,16,24,4⟩:TSegment)],8⟩:TLoad)
def xlaw33_module (n:Nat):Go.AE.Fn:=mkFn (A:=Unit) (R:=TLoad) 27 [] false (fun xs=>()) (fun a=>[]) (fun a=>law33_module n) (fun r=>[.agg [.own 0 [.int .u8] 0 r.Text.length,.own 1 [.int .i64,.int .i64,.bool] 0 r.Relocs.length,.own 2 [.int .i64,.int .i64,.int .i64,.int .i64] 0 r.Segments.length,.c (.int .i64) (.int r.Entry)]]) (fun r=>[.row 5 (List.map e_Int r.Text),.row 58 (List.map e_TReloc r.Relocs),.row 52 (List.map e_TSegment r.Segments)])
theorem claw33_module (n:Nat):Contract Try.prog (xlaw33_module n):=by
  have hΓ:=@g0 (Contract Try.prog)
  refine contract_f (Try.f27.body.getD .skip) h00 Try.func27 rfl Try.call27 (by decide) (fun _ r=>⟨rfl,m1 ⟨5,_,_,rfl,ty5,rfl⟩ (m1 ⟨58,_,_,rfl,ty58,rfl⟩ (m1 ⟨52,_,_,rfl,ty52,rfl⟩ m0))⟩) ?_
  rintro ⟨⟩ r H
  try dsimp only at H
  unfold law33_module at H
  simp only [Try.f27,Option.getD]
  refine rA ?_
  refine sX fun K2 hK2=>?_
  obtain ⟨hg3,H⟩:=gd_some H
  refine oY ?_
  refine oX ?_
  refine hK2 _ ?_
  obtain ⟨⟨hg6,hg7⟩,H⟩:=gd_some H
  refine rA ?_
  refine rA ?_
  refine Sm.ret ?_
  refine lf ?_
  obtain rfl:=Option.some.inj H
  exact rto [some 32,some 112,some 176]
abbrev fetch_Segment_M1_s2 (b0:List Int) (s_:List Int) (now_1:List (Int×Bool)):S:=stB [(14,.mref 9002)] [(0,.box [.own 1 [.int .u8] 0 b0.length,.own 2 [.int .i64] 0 s_.length]),(1,.row 5 (List.map e_Int b0)),(2,.row 3 (List.map e_Int s_)),(9002,.mp (.int .i64) (false,[.bool]) (List.map em_Int_Bool now_1))]
def fetch_Segment_M1_k2 (n:Nat) (b0:List Int) (s_:List Int) (now_1:List (Int×Bool)):Option ((List Int)×Int×(List Int)) :=
  (maps_Keys_f47_M1 n now_1).bind fun r8 =>
  (slices_Sorted_M n now_1).bind fun r9 =>
  some (r9,0,b0)
abbrev fetch_Segment_M1_s4 (b0_2:List Int) (s_:List Int) (m:TLoad) (now_3:List (Int×Bool)) (load:List Int) (load_1:List TReloc) (load_2:List TSegment) (load_3:Int) (load_4:Int) (load_5:List Int) (v72:List Int) (v73:Int) (v74:Int):S:=stB [(6,.box 9015 0),(14,.mref 9016),(17,.fnv 61 [.box 9017 0,.box 9018 0,.box 9019 0,.box 9020 0]),(72,.c (.slice 3) (.slice (List.map e_Int v72))),(73,.c (.int .i64) (.int v73)),(74,.c (.int .i64) (.int v74))] [(0,.box [.own 1 [.int .u8] 0 b0_2.length,.own 2 [.int .i64] 0 s_.length]),(1,.row 5 (List.map e_Int b0_2)),(2,.row 3 (List.map e_Int s_)),(9015,.box [.c (.slice 5) (.slice (List.map e_Int m.Text)),.c (.slice 58) (.slice (List.map e_TReloc m.Relocs)),.c (.slice 52) (.slice (List.map e_TSegment m.Segments)),.c (.int .i64) (.int m.Entry)]),(9016,.mp (.int .i64) (false,[.bool]) (List.map em_Int_Bool now_3)),(9017,.box [.c (.slice 5) (.slice (List.map e_Int load)),.c (.slice 58) (.slice (List.map e_TReloc load_1)),.c (.slice 52) (.slice (List.map e_TSegment load_2)),.c (.int .i64) (.int load_3)]),(9018,.box [.box 0 0]),(9019,.box [.c (.int .i64) (.int load_4)]),(9020,.box [.c (.slice 5) (.slice (List.map e_Int load_5))])]
def fetch_Segment_M1_k4 (n:Nat) (b0_2:List Int) (s_:List Int) (m:TLoad) (now_3:List (Int×Bool)) (load:List Int) (load_1:List TReloc) (load_2:List TSegment) (load_3:Int) (load_4:Int) (load_5:List Int) (v72:List Int) (v73:Int) (v74:Int):Option (((List Int)×(List (Int×Bool))×Int) ⊕ (((List Int)×(List (Int×Bool))))) :=
  some (.inl (b0_2,now_3,(IntKind.wrap .i64 (v74+1))))
abbrev fetch_Segment_M1_t3 (s_:List Int) (m:TLoad) (load:List Int) (load_1:List TReloc) (load_2:List TSegment) (load_3:Int) (load_4:Int) (load_5:List Int) (v72:List Int) (v73:Int) (b0_1:List Int) (now_2:List (Int×Bool)) (v74:Int):S:=stB [(6,.box 9009 0),(14,.mref 9010),(17,.fnv 61 [.box 9011 0,.box 9012 0,.box 9013 0,.box 9014 0]),(72,.c (.slice 3) (.slice (List.map e_Int v72))),(73,.c (.int .i64) (.int v73)),(74,.c (.int .i64) (.int v74))] [(0,.box [.own 1 [.int .u8] 0 b0_1.length,.own 2 [.int .i64] 0 s_.length]),(1,.row 5 (List.map e_Int b0_1)),(2,.row 3 (List.map e_Int s_)),(9009,.box [.c (.slice 5) (.slice (List.map e_Int m.Text)),.c (.slice 58) (.slice (List.map e_TReloc m.Relocs)),.c (.slice 52) (.slice (List.map e_TSegment m.Segments)),.c (.int .i64) (.int m.Entry)]),(9010,.mp (.int .i64) (false,[.bool]) (List.map em_Int_Bool now_2)),(9011,.box [.c (.slice 5) (.slice (List.map e_Int load)),.c (.slice 58) (.slice (List.map e_TReloc load_1)),.c (.slice 52) (.slice (List.map e_TSegment load_2)),.c (.int .i64) (.int load_3)]),(9012,.box [.box 0 0]),(9013,.box [.c (.int .i64) (.int load_4)]),(9014,.box [.c (.slice 5) (.slice (List.map e_Int load_5))])]
def fetch_Segment_M1_b3 (n:Nat) (s_:List Int) (m:TLoad) (load:List Int) (load_1:List TReloc) (load_2:List TSegment) (load_3:Int) (load_4:Int) (load_5:List Int) (v72:List Int) (v73:Int) (b0_1:List Int) (now_2:List (Int×Bool)) (v74:Int):Option (((List Int)×(List (Int×Bool))×Int) ⊕ (((List Int)×(List (Int×Bool))))) :=
  bif (decide (v74 < v73)) then
    gd ((0≤v74∧v74 < (v72.length:Int))) <|
    bif ((tget (gt v72 (Int.toNat v74)) now_2).getD default) then
      fetch_Segment_M1_k4 n b0_1 s_ m now_2 load load_1 load_2 load_3 load_4 load_5 v72 v73 v74
    else
      (fetch_loader_1_M1 n (gt v72 (Int.toNat v74)) load load_1 load_2 load_3 b0_1 s_ load_4 load_5).bind fun r10 =>
      gd ((0≤(gt v72 (Int.toNat v74))∧(gt v72 (Int.toNat v74)) < (m.Segments.length:Int))) <|
      (maps_DeleteFunc_M n now_2 m.Text m.Relocs m.Segments m.Entry ((gt m.Segments (Int.toNat (gt v72 (Int.toNat v74)))).Parent) ((gt m.Segments (Int.toNat (gt v72 (Int.toNat v74)))).Origin) ((gt m.Segments (Int.toNat (gt v72 (Int.toNat v74)))).From) ((gt m.Segments (Int.toNat (gt v72 (Int.toNat v74)))).Len)).bind fun r11 =>
      fetch_Segment_M1_k4 n r10 s_ m (tset (gt v72 (Int.toNat v74)) true r11) load load_1 load_2 load_3 load_4 load_5 v72 v73 v74
  else
    some (.inr (b0_1,now_2))
abbrev fetch_Segment_M1_s1 (s:List Int) (s_:List Int) (at_:Int) (n_:Int) (m:TLoad) (now:List (Int×Bool)):S:=stB [(0,.box 0 0),(2,.c (.int .i64) (.int at_)),(4,.c (.int .i64) (.int n_)),(6,.box 9000 0),(14,.mref 9001)] [(0,.box [.own 1 [.int .u8] 0 s.length,.own 2 [.int .i64] 0 s_.length]),(1,.row 5 (List.map e_Int s)),(2,.row 3 (List.map e_Int s_)),(9000,.box [.c (.slice 5) (.slice (List.map e_Int m.Text)),.c (.slice 58) (.slice (List.map e_TReloc m.Relocs)),.c (.slice 52) (.slice (List.map e_TSegment m.Segments)),.c (.int .i64) (.int m.Entry)]),(9001,.mp (.int .i64) (false,[.bool]) (List.map em_Int_Bool now))]
def fetch_Segment_M1_k1 (n:Nat) (s:List Int) (s_:List Int) (at_:Int) (n_:Int) (m:TLoad) (now:List (Int×Bool)):Option ((List Int)×Int×(List Int)) :=
  (fetch_loader_M1 n s s_ m at_).bind fun r6 =>
  (link_Path n m n_).bind fun r7 =>
  (loopF (fun (x:(List Int)×(List (Int×Bool))×Int)=>fetch_Segment_M1_b3 n s_ m r6.1 r6.2.1 r6.2.2.1 r6.2.2.2.1 r6.2.2.2.2.1 r6.2.2.2.2.2 r7.1 (r7.1.length:Int) x.1 x.2.1 x.2.2) n (s,now,0)).bind fun y34 =>
  fetch_Segment_M1_k2 n y34.1 s_ y34.2
abbrev fetch_Segment_M1_t5 (s:List Int) (s_:List Int) (at_:Int) (n_:Int) (m:TLoad) (loaded:List Int) (v54:Int) (now_4:List (Int×Bool)) (v55:Int):S:=stB [(0,.box 0 0),(2,.c (.int .i64) (.int at_)),(4,.c (.int .i64) (.int n_)),(6,.box 9023 0),(14,.mref 9024),(53,.c (.slice 3) (.slice (List.map e_Int loaded))),(54,.c (.int .i64) (.int v54)),(55,.c (.int .i64) (.int v55))] [(0,.box [.own 1 [.int .u8] 0 s.length,.own 2 [.int .i64] 0 s_.length]),(1,.row 5 (List.map e_Int s)),(2,.row 3 (List.map e_Int s_)),(9023,.box [.c (.slice 5) (.slice (List.map e_Int m.Text)),.c (.slice 58) (.slice (List.map e_TReloc m.Relocs)),.c (.slice 52) (.slice (List.map e_TSegment m.Segments)),.c (.int .i64) (.int m.Entry)]),(9024,.mp (.int .i64) (false,[.bool]) (List.map em_Int_Bool now_4))]
def fetch_Segment_M1_b5 (n:Nat) (s:List Int) (s_:List Int) (at_:Int) (n_:Int) (m:TLoad) (loaded:List Int) (v54:Int) (now_4:List (Int×Bool)) (v55:Int):Option (((List (Int×Bool))×Int) ⊕ (((List (Int×Bool))))) :=
  bif (decide (v55 < v54)) then
    gd ((0≤v55∧v55 < (loaded.length:Int))) <|
    some (.inl ((tset (gt loaded (Int.toNat v55)) true now_4),(IntKind.wrap .i64 (v55+1))))
  else
    some (.inr now_4)
def fetch_Segment_M1 (n:Nat) (s:List Int) (s_:List Int) (m:TLoad) (at_:Int) (loaded:List Int) (n_:Int):Option ((List Int)×Int×(List Int)) :=
  (module_CheckLoad n m).bind fun r1 =>
  bif (r1 != 0) then
    some ([],r1,s)
  else
    bif (decide (at_ < 0)) then
      some ([],1,s)
    else
      gd ((!(decide (at_ < 0)))=true) <|
      (store_Store__Size_M1 n s s_).bind fun r2 =>
      gd ((!(decide (at_ < 0)))=true) <|
      (fetch_Size n m).bind fun r3 =>
      gd ((!(decide (at_ < 0)))=true) <|
      bif (decide (at_ > (IntKind.wrap .i64 (r2 - r3)))) then
        some ([],1,s)
      else
        gd ((!(decide (at_ > (IntKind.wrap .i64 (r2 - r3)))))=true) <|
        (fetch_Segment_1_M1 n n_ m.Text m.Relocs m.Segments m.Entry).bind fun r4 =>
        bif r4 then
          some ([],1,s)
        else
          gd ((!r4)=true) <|
          (slices_ContainsFunc_f42_M1 n loaded m.Text m.Relocs m.Segments m.Entry).bind fun r5 =>
          bif r5 then
            some ([],1,s)
          else
            (loopF (fun (x:(List (Int×Bool))×Int)=>fetch_Segment_M1_b5 n s s_ at_ n_ m loaded (loaded.length:Int) x.1 x.2) n ([],0)).bind fun y48 =>
            fetch_Segment_M1_k1 n s s_ at_ n_ m y48
theorem cfetch_Segment_M1 (n:Nat) (s:List Int) (s_:List Int) (m:TLoad) (at_:Int) (loaded:List Int) (n_:Int) (r:(List Int)×Int×(List Int)) (H:fetch_Segment_M1 n s s_ m at_ loaded n_=some r):CallsM Try.prog 18 [.ref (.box 0 0),.dat (true,[.slice 5,.slice 58,.slice 52,.int .i64]) [.slice (List.map e_Int m.Text),.slice (List.map e_TReloc m.Relocs),.slice (List.map e_TSegment m.Segments),.int m.Entry],.dat (false,[.int .i64]) [.int at_],.dat (false,[.slice 3]) [.slice (List.map e_Int loaded)],.dat (false,[.int .i64]) [.int n_]] [.box [.own 1 [.int .u8] 0 s.length,.own 2 [.int .i64] 0 s_.length],.row 5 (List.map e_Int s),.row 3 (List.map e_Int s_)] [.own 3 [.int .i64] 0 r.1.length,.c (.int .i64) (.int r.2.1)] [.box [.own 1 [.int .u8] 0 r.2.2.length,.own 2 [.int .i64] 0 s_.length],.row 5 (List.map e_Int r.2.2),.row 3 (List.map e_Int s_),.row 3 (List.map e_Int r.1)]:=by
  have hΓ:=g1 (cmodule_CheckLoad n) (g1 (cfetch_Size n) (g1 (clink_Path n) (@g0 (Contract Try.prog))))
  refine callsM_of (Try.f18.body.getD .skip) h00 Try.func18 rfl Try.call18 (Nat.le_of_ble_eq_true rfl) (Nat.le_of_ble_eq_true rfl) ?_
  unfold fetch_Segment_M1 at H
  simp only [Try.f18,Option.getD]
  refine rA ?_
  refine Sm.seqK fun K2 hK2=>?_
  refine sX fun K3 hK3=>?_
  refine oX ?_
  refine oE stepPN_ok ?_ (hs:=by intro K hK;simp only [z,seval,stepPN,ptT];(repeat first | refine gcI ?_ | intro (_:_≤_));exact hK)
  refine hK3 _ ?_
  refine cndF ?_
  refine Sm.skip ?_
  refine hK2 _ ?_
  refine Sm.seqK fun K5 hK5=>?_
  obtain ⟨r1,hr1,H⟩:=bind_some H
  have q:=And.intro @xmodule_CheckLoad.eq_1 hr1
  refine rAq ?_
  refine rA ?_
  refine cnd H (fun h8 H=>?_) (fun h8 H=>?_)
  · refine rA ?_
    refine Sm.ret ?_
    refine lf ?_
    obtain rfl:=Option.some.inj H
    exact rtM [some 0,some 1,some 2,none]
  refine Sm.skip ?_
  refine hK5 _ ?_
  refine sX fun K10 hK10=>?_
  refine oY ?_
  refine oX ?_
  refine hK10 _ ?_
  refine Sm.seqK fun K11 hK11=>?_
  refine bif_cases H (fun hs13 H=>?_) (fun hs13 H=>?_)
  · refine sQ [0,1,2,3,4,6,5,7,8,9,10,11,12,13,14,15,16,17,18,19,20] [(none,[],[]),(none,[],[]),(none,[],[]),(none,[],[]),(none,[],[]),(some false,[],[]),(none,[96],[]),(some false,[],[]),(some false,[],[]),(some false,[],[]),(some true,[],[]),(none,[],[]),(some false,[],[]),(some false,[],[]),(some false,[],[]),(some true,[],[]),(none,[],[]),(some false,[],[]),(some false,[],[]),(some false,[],[]),(some true,[],[])] fun K12 hK12=>?_
    have q:=And.intro @xmodule_CheckLoad.eq_1 (And.intro @xfetch_Size.eq_1 hs13)
    iterate 21 refine oQq ?_
    refine opsQ0 ?_
    refine hK12 _ ?_
    refine cndT ?_
    refine rA ?_
    refine Sm.ret ?_
    refine lf ?_
    obtain rfl:=Option.some.inj H
    exact rtM [some 0,some 1,some 2,none]
  obtain ⟨hg16,H⟩:=gd_some H
  obtain ⟨r2,hr2,H⟩:=bind_some H
  obtain ⟨hg17,H⟩:=gd_some H
  obtain ⟨r3,hr3,H⟩:=bind_some H
  obtain ⟨hg18,H⟩:=gd_some H
  refine bif_cases H (fun hs19 H=>?_) (fun hs19 H=>?_)
  · try simp only [z,seval,hs13,hr2,hr3] at hs19
    refine sE [0,1,2,3,4,6,5,7,8,9,10,11,12,13,14,15,16,17,18,19,20] [(none,[],[]),(none,[],[]),(none,[],[]),(none,[],[]),(none,[],[]),(none,[0],[0,1,2]),(none,[96],[]),(some true,[],[623,622,621,620,619,618,617,616,615,614,613,612,611,610,609,608]),(some true,[],[]),(some true,[],[]),(some false,[],[]),(none,[],[]),(none,[],[]),(none,[],[]),(some false,[],[]),(some true,[],[]),(none,[],[]),(some false,[],[]),(some false,[],[]),(some false,[],[]),(some true,[],[])] [(5,(⟨_,_,_,_,_,[0,1,2],[],cstore_Store__Size_M1 n _ _ r2 hr2⟩:MT Try.prog))] fun K12 hK12=>?_
    have q:=And.intro @xmodule_CheckLoad.eq_1 (And.intro @xfetch_Size.eq_1 (And.intro hs13 (And.intro hr2 (And.intro hr3 hs19))))
    iterate 6 refine eQq ?_
    refine eM ?_
    iterate 14 refine eQq ?_
    refine opsE0 ?_
    refine hK12 _ ?_
    refine cndT ?_
    refine rA ?_
    refine Sm.ret ?_
    refine lf ?_
    obtain rfl:=Option.some.inj H
    exact rtM [some 0,some 1,some 2,none]
  try simp only [z,seval,hs13,hr2,hr3] at hs19
  obtain ⟨hg22,H⟩:=gd_some H
  obtain ⟨r4,hr4,H⟩:=bind_some H
  refine bif_cases H (fun hs23 H=>?_) (fun hs23 H=>?_)
  · try simp only [z,seval,hs13,hr2,hr3,hs19,hr4] at hs23
    refine sE [0,1,2,3,4,6,5,7,8,9,10,11,12,13,14,15,16,17,18,19,20] [(none,[],[]),(none,[],[]),(none,[],[]),(none,[],[]),(none,[],[]),(none,[0],[0,1,2]),(none,[96],[]),(some true,[],[623,622,621,620,619,618,617,616,615,614,613,612,611,610,609,608]),(some true,[],[]),(some true,[],[]),(some false,[],[]),(none,[],[]),(none,[],[]),(none,[],[]),(none,[96],[96]),(some false,[],[]),(none,[],[]),(none,[],[]),(none,[],[]),(some false,[],[]),(some true,[],[])] [(5,(⟨_,_,_,_,_,[0,1,2],[],cstore_Store__Size_M1 n _ _ r2 hr2⟩:MT Try.prog)),(14,(⟨_,_,_,_,_,[96],[],cfetch_Segment_1_M1 n _ _ _ _ _ r4 hr4⟩:MT Try.prog))] fun K12 hK12=>?_
    have q:=And.intro @xmodule_CheckLoad.eq_1 (And.intro @xfetch_Size.eq_1 (And.intro hs13 (And.intro hr2 (And.intro hr3 (And.intro hs19 (And.intro hr4 hs23))))))
    iterate 6 refine eQq ?_
    refine eM ?_
    iterate 7 refine eQq ?_
    refine eM ?_
    iterate 6 refine eQq ?_
    refine opsE0 ?_
    refine hK12 _ ?_
    refine cndT ?_
    refine rA ?_
    refine Sm.ret ?_
    refine lf ?_
    obtain rfl:=Option.some.inj H
    exact rtM [some 0,some 1,some 2,none]
  try simp only [z,seval,hs13,hr2,hr3,hs19,hr4] at hs23
  obtain ⟨hg26,H⟩:=gd_some H
  obtain ⟨r5,hr5,H⟩:=bind_some H
  refine sE [0,1,2,3,4,6,5,7,8,9,10,11,12,13,14,15,16,17,18,19,20] [(none,[],[]),(none,[],[]),(none,[],[]),(none,[],[]),(none,[],[]),(none,[0],[0,1,2]),(none,[96],[]),(some true,[],[623,622,621,620,619,618,617,616,615,614,613,612,611,610,609,608]),(some true,[],[]),(some true,[],[]),(some false,[],[]),(none,[],[]),(none,[],[]),(none,[],[]),(none,[96],[96]),(some false,[],[]),(none,[],[]),(none,[],[]),(none,[],[]),(none,[96],[96]),(some false,[],[])] [(5,(⟨_,_,_,_,_,[0,1,2],[],cstore_Store__Size_M1 n _ _ r2 hr2⟩:MT Try.prog)),(14,(⟨_,_,_,_,_,[96],[],cfetch_Segment_1_M1 n _ _ _ _ _ r4 hr4⟩:MT Try.prog)),(19,(⟨_,_,_,_,_,[96],[],cslices_ContainsFunc_f42_M1 n _ _ _ _ _ r5 hr5⟩:MT Try.prog))] fun K12 hK12=>?_
  have q:=And.intro @xmodule_CheckLoad.eq_1 (And.intro @xfetch_Size.eq_1 (And.intro hs13 (And.intro hr2 (And.intro hr3 (And.intro hs19 (And.intro hr4 (And.intro hs23 hr5)))))))
  iterate 6 refine eQq ?_
  refine eM ?_
  iterate 7 refine eQq ?_
  refine eM ?_
  iterate 4 refine eQq ?_
  refine eM ?_
  refine eQq ?_
  refine opsE0 ?_
  refine hK12 _ ?_
  refine cnd H (fun h27 H=>?_) (fun h27 H=>?_)
  · refine rA ?_
    refine Sm.ret ?_
    refine lf ?_
    obtain rfl:=Option.some.inj H
    exact rtM [some 0,some 1,some 2,none]
  refine Sm.skip ?_
  refine hK11 _ ?_
  refine rA ?_
  refine Sm.cut (fun (x:(List (Int×Bool)))=>fetch_Segment_M1_s1 s s_ at_ n_ m x) (fun x=>fetch_Segment_M1_k1 n s s_ at_ n_ m x=some r) ?_ ?_
  · refine rA ?_
    refine Sm.block ?_
    obtain ⟨y48,hy48,Ho48⟩:=bind_some H
    refine Sm.loopB _ (fun x=>fetch_Segment_M1_t5 s s_ at_ n_ m loaded (loaded.length:Int) x.1 x.2) hy48 (wb [some 0,some 1,some 2,some 96,some 832]) ?_
    rintro ⟨now_4,v55⟩ z48 H
    try dsimp only at H
    unfold fetch_Segment_M1_b5 at H
    refine Sm.st (fetch_Segment_M1_t5.eq_1 ..) ?_
    refine rA ?_
    refine Sm.seqK fun K50 hK50=>?_
    refine cnd H (fun h51 H=>?_) (fun h51 H=>?_)
    · refine Sm.skip ?_
      refine hK50 _ ?_
      refine Sm.seqK fun K52 hK52=>?_
      refine Sm.block ?_
      obtain ⟨hg54,H⟩:=gd_some H
      refine rA ?_
      refine eA ?_
      refine hK52 _ ?_
      refine eA ?_
      refine lf ?_
      exact nx H (wb [some 0,some 1,some 2,some 9023,some 9024])
    refine Sm.exit ?_
    refine lf ?_
    refine lx H fun hyy=>?_
    subst hyy
    have H:=Ho48
    try dsimp only at H
    refine lf ?_
    exact ⟨_,H,wb [some 0,some 1,some 2,some 9023,some 9024]⟩
  rintro now H
  try dsimp only at H
  unfold fetch_Segment_M1_k1 at H
  refine Sm.st (fetch_Segment_M1_s1.eq_1 ..) ?_
  refine sX fun K30 hK30=>?_
  obtain ⟨r6,hr6,H⟩:=bind_some H
  have q:=hr6
  iterate 3 refine oX ?_
  refine oMq (cfetch_loader_M1 n _ _ _ _ r6 hr6) [0,1,2] [1040,1041,1042,1043] ?_
  refine oXq ?_
  refine hK30 _ ?_
  obtain ⟨r7,hr7,H⟩:=bind_some H
  have q:=And.intro @xmodule_CheckLoad.eq_1 (And.intro @xfetch_Size.eq_1 (And.intro @xlink_Path.eq_1 hr7))
  refine rAq ?_
  refine Sm.cut (fun (x:(List Int)×(List (Int×Bool)))=>fetch_Segment_M1_s2 x.1 s_ x.2) (fun x=>fetch_Segment_M1_k2 n x.1 s_ x.2=some r) ?_ ?_
  · refine rA ?_
    refine Sm.block ?_
    obtain ⟨y34,hy34,Ho34⟩:=bind_some H
    refine Sm.loopB _ (fun x=>fetch_Segment_M1_t3 s_ m r6.1 r6.2.1 r6.2.2.1 r6.2.2.2.1 r6.2.2.2.2.1 r6.2.2.2.2.2 r7.1 (r7.1.length:Int) x.1 x.2.1 x.2.2) hy34 (wb [some 0,some 1,some 2,some 9000,some 9001,some 1040,some 1041,some 1042,some 1043]) ?_
    rintro ⟨b0_1,now_2,v74⟩ z34 H
    try dsimp only at H
    unfold fetch_Segment_M1_b3 at H
    refine Sm.st (fetch_Segment_M1_t3.eq_1 ..) ?_
    refine rA ?_
    refine Sm.seqK fun K36 hK36=>?_
    refine cnd H (fun h37 H=>?_) (fun h37 H=>?_)
    · refine Sm.skip ?_
      refine hK36 _ ?_
      refine Sm.cut (fun (x:(List Int)×(List (Int×Bool)))=>fetch_Segment_M1_s4 x.1 s_ m x.2 r6.1 r6.2.1 r6.2.2.1 r6.2.2.2.1 r6.2.2.2.2.1 r6.2.2.2.2.2 r7.1 (r7.1.length:Int) v74) (fun x=>fetch_Segment_M1_k4 n x.1 s_ m x.2 r6.1 r6.2.1 r6.2.2.1 r6.2.2.2.1 r6.2.2.2.2.1 r6.2.2.2.2.2 r7.1 (r7.1.length:Int) v74=some z34) ?_ ?_
      · refine Sm.block ?_
        obtain ⟨hg46,H⟩:=gd_some H
        refine rA ?_
        refine Sm.seqK fun K39 hK39=>?_
        refine rA ?_
        refine cnd H (fun h41 H=>?_) (fun h41 H=>?_)
        · refine Sm.exit ?_
          refine lf ?_
          exact ⟨(b0_1,now_2),H,wb [some 0,some 1,some 2,some 9009,some 9010,some 9011,some 9012,some 9013,some 9014]⟩
        refine Sm.skip ?_
        refine hK39 _ ?_
        refine sX fun K42 hK42=>?_
        obtain ⟨r10,hr10,H⟩:=bind_some H
        have q:=hr10
        iterate 2 refine oX ?_
        refine oMq (cfetch_loader_1_M1 n _ _ _ _ _ _ _ _ _ r10 hr10) [9011,9012,0,1,2,9013,9014] [] ?_
        refine hK42 _ ?_
        obtain ⟨hg45,H⟩:=gd_some H
        refine rA ?_
        refine sX fun K44 hK44=>?_
        obtain ⟨r11,hr11,H⟩:=bind_some H
        have q:=hr11
        refine oX ?_
        refine oY ?_
        refine oMq (cmaps_DeleteFunc_M n _ _ _ _ _ _ _ _ _ r11 hr11) [9010,9009,352] [] ?_
        refine hK44 _ ?_
        refine eA ?_
        refine lf ?_
        exact ⟨(r10,(tset (gt r7.1 (Int.toNat v74)) true r11)),H,wb [some 0,some 1,some 2,some 9009,some 9010,some 9011,some 9012,some 9013,some 9014]⟩
      rintro ⟨b0_2,now_3⟩ H
      try dsimp only at H
      unfold fetch_Segment_M1_k4 at H
      refine Sm.st (fetch_Segment_M1_s4.eq_1 ..) ?_
      refine eA ?_
      refine lf ?_
      exact nx H (wb [some 0,some 1,some 2,some 9015,some 9016,some 9017,some 9018,some 9019,some 9020])
    refine Sm.exit ?_
    refine lf ?_
    refine lx H fun hyy=>?_
    subst hyy
    have H:=Ho34
    try dsimp only at H
    refine lf ?_
    exact ⟨(b0_1,now_2),H,wb [some 0,some 1,some 2,some 9010]⟩
  rintro ⟨b0,now_1⟩ H
  try dsimp only at H
  unfold fetch_Segment_M1_k2 at H
  refine Sm.st (fetch_Segment_M1_s2.eq_1 ..) ?_
  refine sX fun K32 hK32=>?_
  obtain ⟨r8,hr8,H⟩:=bind_some H
  obtain ⟨r9,hr9,H⟩:=bind_some H
  have q:=And.intro hr8 hr9
  refine oX ?_
  refine oMq (cmaps_Keys_f47_M1 n _ r8 hr8) [9002] [1536] ?_
  refine oMq (cslices_Sorted_M n _ r9 hr9) [1536,9002] [1552] ?_
  iterate 2 refine oXq ?_
  refine hK32 _ ?_
  refine Sm.ret ?_
  refine lf ?_
  obtain rfl:=Option.some.inj H
  exact rtM [some 0,some 1,some 2,some 1552]
def law33_works (n:Nat):Option Bool :=
  (store_New_M1 n 8192).bind fun r1 =>
  bif (r1.2.2 != 0) then
    some false
  else
    gd ((!(r1.2.2 != 0))=true) <|
    (law33_module n).bind fun r2 =>
    (fetch_Put_M1 n r1.1 r1.2.1 r2 4096 2048 3).bind fun r3 =>
    (law33_module n).bind fun r4 =>
    (fetch_Segment_M1 n r3.2.2.1 r3.2.2.2 r4 4096 [0] 1).bind fun r5 =>
    (store_Store__KeyOf_M1 n r5.2.2 r3.2.2.2 4096).bind fun r6 =>
    bif (if (if (r3.2.1 == 0)=true then (r3.1 == 4104) else false)=true then (r6.1 == 7) else false) then
      gd ((if (if (r3.2.1 == 0)=true then (r3.1 == 4104) else false)=true then (r6.1 == 7) else false)=true) <|
      (store_Store__Bytes_M1 n r5.2.2 r3.2.2.2 4100 4).bind fun r7 =>
      (law08_SameBytes n r7 [0,0,16,20]).bind fun r8 =>
      gd (((if (if r8=true then (r5.2.1 == 0) else false)=true then (((r5.1.length:Nat):Int) == 2) else false)=true→0 < (r5.1.length:Int))∧((if (if r8=true then (r5.2.1 == 0) else false)=true then (((r5.1.length:Nat):Int) == 2) else false)=true→0 < r5.1.length)∧((if (if (if r8=true then (r5.2.1 == 0) else false)=true then (((r5.1.length:Nat):Int) == 2) else false)=true then ((gt r5.1 0) == 0) else false)=true→1 < (r5.1.length:Int))∧((if (if (if r8=true then (r5.2.1 == 0) else false)=true then (((r5.1.length:Nat):Int) == 2) else false)=true then ((gt r5.1 0) == 0) else false)=true→1 < r5.1.length)) <|
      some (if (if (if (if r8=true then (r5.2.1 == 0) else false)=true then (((r5.1.length:Nat):Int) == 2) else false)=true then ((gt r5.1 0) == 0) else false)=true then ((gt r5.1 1) == 1) else false)
    else
      some false
def xlaw33_works (n:Nat):Go.AE.Fn:=mkFn (A:=Unit) (R:=Bool) 12 [] false (fun xs=>()) (fun a=>[]) (fun a=>law33_works n) (fun r=>[.c .bool (.bool r)]) (fun r=>[])
theorem claw33_works (n:Nat):Contract Try.prog (xlaw33_works n):=by
  have hΓ:=g1 (claw33_module n) (g1 (claw08_SameBytes n) (@g0 (Contract Try.prog)))
  refine contract_f (Try.f12.body.getD .skip) h00 Try.func12 rfl Try.call12 (by decide) (by intro _ r;exact ⟨rfl,by simp⟩) ?_
  rintro ⟨⟩ r H
  try dsimp only at H
  unfold law33_works at H
  simp only [Try.f12,Option.getD]
  refine rA ?_
  refine sX fun K2 hK2=>?_
  obtain ⟨r1,hr1,H⟩:=bind_some H
  have q:=hr1
  refine oMq (cstore_New_M1 n _ r1 hr1) [] [160,161,162] ?_
  iterate 5 refine oXq ?_
  refine hK2 _ ?_
  refine Sm.seqK fun K3 hK3=>?_
  refine sX fun K4 hK4=>?_
  iterate 4 refine oX ?_
  refine bif_cases H (fun hs5 H=>?_) (fun hs5 H=>?_)
  · have q:=hs5
    refine oFq ?_
    refine oPl ?_
    refine hK4 _ ?_
    refine cndT ?_
    refine rA ?_
    refine Sm.ret ?_
    refine lf ?_
    obtain rfl:=Option.some.inj H
    exact rt []
  obtain ⟨hg8,H⟩:=gd_some H
  have q:=hs5
  refine oTE stepPN_ok ?_ (hs:=by intro K hK;simp only [z,seval,q,stepPN,ptT];(repeat first | refine gcI ?_ | intro (_:_≤_));exact hK)
  refine oPr ?_
  refine hK4 _ ?_
  refine cndF ?_
  refine Sm.skip ?_
  refine hK3 _ ?_
  refine sX fun K10 hK10=>?_
  obtain ⟨r2,hr2,H⟩:=bind_some H
  obtain ⟨r3,hr3,H⟩:=bind_some H
  have q:=And.intro @xlaw33_module.eq_1 (And.intro hr2 hr3)
  iterate 2 refine oXq ?_
  refine oMq (cfetch_Put_M1 n _ _ _ _ _ _ r3 hr3) [160,161,162] [] ?_
  iterate 5 refine oXq ?_
  refine hK10 _ ?_
  refine sX fun K11 hK11=>?_
  obtain ⟨r4,hr4,H⟩:=bind_some H
  obtain ⟨r5,hr5,H⟩:=bind_some H
  have q:=And.intro @xlaw33_module.eq_1 (And.intro hr4 hr5)
  iterate 3 refine oXq ?_
  refine oMq (cfetch_Segment_M1 n _ _ _ _ _ _ r5 hr5) [160,161,162] [464] ?_
  iterate 5 refine oXq ?_
  refine hK11 _ ?_
  refine sX fun K12 hK12=>?_
  obtain ⟨r6,hr6,H⟩:=bind_some H
  have q:=hr6
  refine oX ?_
  refine oMq (cstore_Store__KeyOf_M1 n _ _ _ r6 hr6) [160,161,162] [] ?_
  iterate 5 refine oXq ?_
  refine hK12 _ ?_
  refine sX fun K13 hK13=>?_
  have q:=And.intro @xlaw33_module.eq_1 @xlaw08_SameBytes.eq_1
  iterate 12 refine oXq ?_
  refine bif_cases H (fun hs14 H=>?_) (fun hs14 H=>?_)
  · obtain ⟨hg15,H⟩:=gd_some H
    obtain ⟨r7,hr7,H⟩:=bind_some H
    obtain ⟨r8,hr8,H⟩:=bind_some H
    obtain ⟨⟨hg16,hg17,hg18,hg19⟩,H⟩:=gd_some H
    have q:=And.intro @xlaw33_module.eq_1 (And.intro @xlaw08_SameBytes.eq_1 (And.intro hs14 (And.intro hr7 hr8)))
    refine oTM (cstore_Store__Bytes_M1 n _ _ _ _ r7 hr7) [160,161,162] [784] ?_
    refine oTG ?_
    refine oTG ?_
    refine oPl ?_
    iterate 22 refine oXq ?_
    refine hK13 _ ?_
    refine Sm.ret ?_
    refine lf ?_
    obtain rfl:=Option.some.inj H
    exact rt []
  have q:=And.intro @xlaw33_module.eq_1 (And.intro @xlaw08_SameBytes.eq_1 hs14)
  refine oFq ?_
  refine oFq ?_
  refine oFq ?_
  refine oPr ?_
  refine oXq ?_
  refine oFq ?_
  refine oFq ?_
  refine oPr ?_
  refine oXq ?_
  refine oFq ?_
  refine oFq ?_
  refine oFq ?_
  refine oPr ?_
  refine oXq ?_
  refine oFq ?_
  refine oFq ?_
  refine oFq ?_
  refine oFq ?_
  refine oPr ?_
  refine oXq ?_
  refine oFq ?_
  refine oFq ?_
  refine oFq ?_
  refine oFq ?_
  refine oPr ?_
  refine oXq ?_
  refine hK13 _ ?_
  refine Sm.ret ?_
  refine lf ?_
  obtain rfl:=Option.some.inj H
  exact rt []
abbrev law33_FetchLoads_s1:S:=stB [] []
def law33_FetchLoads_k1 (n:Nat):Option Bool :=
  (law33_works n).bind fun r6 =>
  some r6
abbrev law33_FetchLoads_s3 (c:TCase) (s_2:List Int) (s_1:List Int) (x__2:List Int) (x__1:List Int) (n_:Int) (loaded_1:List Int) (i:Int):S:=stB [(1,.box 9015 0),(3,.box 9016 0),(4,.box 9019 0),(5,.c (.int .i64) (.int n_)),(10,.c (.slice 3) (.slice (List.map e_Int loaded_1))),(11,.c (.int .i64) (.int i))] [(9015,.box [.c (.slice 5) (.slice (List.map e_Int c.M.Text)),.c (.slice 58) (.slice (List.map e_TReloc c.M.Relocs)),.c (.slice 52) (.slice (List.map e_TSegment c.M.Segments)),.c (.int .i64) (.int c.M.Entry),.c (.int .i64) (.int c.Blocks),.c (.int .i64) (.int c.At),.c (.int .i64) (.int c.Size),.c (.int .i64) (.int c.Key),.c (.slice 3) (.slice (List.map e_Int c.L)),.c (.slice 3) (.slice (List.map e_Int c.Odd))]),(9016,.box [.own 9017 [.int .u8] 0 s_2.length,.own 9018 [.int .i64] 0 s_1.length]),(9017,.row 5 (List.map e_Int s_2)),(9018,.row 3 (List.map e_Int s_1)),(9019,.box [.own 9020 [.int .u8] 0 x__2.length,.own 9021 [.int .i64] 0 x__1.length]),(9020,.row 5 (List.map e_Int x__2)),(9021,.row 3 (List.map e_Int x__1))]
def law33_FetchLoads_k3 (n:Nat) (c:TCase) (s_2:List Int) (s_1:List Int) (x__2:List Int) (x__1:List Int) (n_:Int) (loaded_1:List Int) (i:Int):Option (((List Int)×(List Int)×(List Int)×Int) ⊕ (((Bool) ⊕ (Unit)))) :=
  some (.inl (s_2,x__2,loaded_1,(IntKind.wrap .i64 (i+1))))
abbrev law33_FetchLoads_t2 (c:TCase) (s_1:List Int) (x__1:List Int) (n_:Int) (s:List Int) (x_:List Int) (loaded:List Int) (i:Int):S:=stB [(1,.box 9008 0),(3,.box 9009 0),(4,.box 9012 0),(5,.c (.int .i64) (.int n_)),(10,.c (.slice 3) (.slice (List.map e_Int loaded))),(11,.c (.int .i64) (.int i))] [(9008,.box [.c (.slice 5) (.slice (List.map e_Int c.M.Text)),.c (.slice 58) (.slice (List.map e_TReloc c.M.Relocs)),.c (.slice 52) (.slice (List.map e_TSegment c.M.Segments)),.c (.int .i64) (.int c.M.Entry),.c (.int .i64) (.int c.Blocks),.c (.int .i64) (.int c.At),.c (.int .i64) (.int c.Size),.c (.int .i64) (.int c.Key),.c (.slice 3) (.slice (List.map e_Int c.L)),.c (.slice 3) (.slice (List.map e_Int c.Odd))]),(9009,.box [.own 9010 [.int .u8] 0 s.length,.own 9011 [.int .i64] 0 s_1.length]),(9010,.row 5 (List.map e_Int s)),(9011,.row 3 (List.map e_Int s_1)),(9012,.box [.own 9013 [.int .u8] 0 x_.length,.own 9014 [.int .i64] 0 x__1.length]),(9013,.row 5 (List.map e_Int x_)),(9014,.row 3 (List.map e_Int x__1))]
def law33_FetchLoads_b2 (n:Nat) (c:TCase) (s_1:List Int) (x__1:List Int) (n_:Int) (s:List Int) (x_:List Int) (loaded:List Int) (i:Int):Option (((List Int)×(List Int)×(List Int)×Int) ⊕ (((Bool) ⊕ (Unit)))) :=
  bif (decide (i < (c.L.length:Int))) then
    gd ((0≤i∧i < (c.L.length:Int))) <|
    (fetch_Segment_M1 n s s_1 c.M c.At loaded (gt c.L (Int.toNat i))).bind fun r7 =>
    gd ((0≤i∧i < (c.L.length:Int))) <|
    (ref33_Segment_M1 n x_ x__1 n_ c.M c.At loaded (gt c.L (Int.toNat i))).bind fun r8 =>
    (law33_sameInts n r7.1 r8.1).bind fun r9 =>
    bif (if (!r9)=true then true else (r7.2.1 != r8.2.1)) then
      some (.inr (.inl false))
    else
      gd ((!(if (!r9)=true then true else (r7.2.1 != r8.2.1)))=true) <|
      (law33_same_M1 n r7.2.2 s_1 r8.2.2 x__1 n_).bind fun r10 =>
      bif (!r10) then
        some (.inr (.inl false))
      else
        bif (r7.2.1 == 0) then
          law33_FetchLoads_k3 n c r7.2.2 s_1 r8.2.2 x__1 n_ r7.1 i
        else
          law33_FetchLoads_k3 n c r7.2.2 s_1 r8.2.2 x__1 n_ loaded i
  else
    some (.inr (.inr ()))
def law33_FetchLoads (n:Nat) (c:TCase):Option Bool :=
  (law33_Case__filled_M1 n c).bind fun r1 =>
  (law33_Case__blocks n c).bind fun r2 =>
  (fetch_Put_M1 n r1.1 r1.2.1 c.M c.At c.Size c.Key).bind fun r3 =>
  (ref33_Put_M1 n r1.2.2.1 r1.2.2.2 r2 c.M c.At c.Size c.Key).bind fun r4 =>
  bif (if (r3.1 != r4.1)=true then true else (r3.2.1 != r4.2.1)) then
    some false
  else
    gd ((!(if (r3.1 != r4.1)=true then true else (r3.2.1 != r4.2.1)))=true) <|
    (law33_same_M1 n r3.2.2.1 r3.2.2.2 r4.2.2.1 r4.2.2.2 r2).bind fun r5 =>
    bif (!r5) then
      some false
    else
      gd ((1+c.Odd.length)≤2147483648) <|
      (loopF (fun (x:(List Int)×(List Int)×(List Int)×Int)=>law33_FetchLoads_b2 n c r3.2.2.2 r4.2.2.2 r2 x.1 x.2.1 x.2.2.1 x.2.2.2) n (r3.2.2.1,r4.2.2.1,([0] ++ c.Odd),0)).bind fun y20 =>
      match y20 with
      | .inl vv =>
        some vv
      | .inr vv =>
        law33_FetchLoads_k1 n
def xlaw33_FetchLoads (n:Nat):Go.AE.Fn:=mkFn (A:=TCase) (R:=Bool) 4 [(true,[.slice 5,.slice 58,.slice 52,.int .i64,.int .i64,.int .i64,.int .i64,.int .i64,.slice 3,.slice 3])] false (fun xs=>(⟨(⟨((cg (xs.getD 0 []) 0).toSl.map d_Int),((cg (xs.getD 0 []) 1).toSl.map d_TReloc),((cg (xs.getD 0 []) 2).toSl.map d_TSegment),(cg (xs.getD 0 []) 3).toInt⟩:TLoad),(cg (xs.getD 0 []) 4).toInt,(cg (xs.getD 0 []) 5).toInt,(cg (xs.getD 0 []) 6).toInt,(cg (xs.getD 0 []) 7).toInt,((cg (xs.getD 0 []) 8).toSl.map d_Int),((cg (xs.getD 0 []) 9).toSl.map d_Int)⟩:TCase)) (fun a=>[[.slice (List.map e_Int a.M.Text),.slice (List.map e_TReloc a.M.Relocs),.slice (List.map e_TSegment a.M.Segments),.int a.M.Entry,.int a.Blocks,.int a.At,.int a.Size,.int a.Key,.slice (List.map e_Int a.L),.slice (List.map e_Int a.Odd)]]) (fun a=>law33_FetchLoads n a) (fun r=>[.c .bool (.bool r)]) (fun r=>[])
theorem claw33_FetchLoads (n:Nat):Contract Try.prog (xlaw33_FetchLoads n):=by
  have hΓ:=g1 (claw33_Case__blocks n) (g1 (claw33_sameInts n) (g1 (claw33_works n) (@g0 (Contract Try.prog))))
  refine contract_f (Try.f4.body.getD .skip) h00 Try.func4 rfl Try.call4 (by decide) (by intro _ r;exact ⟨rfl,by simp⟩) ?_
  rintro c r H
  try dsimp only at H
  unfold law33_FetchLoads at H
  simp only [Try.f4,Option.getD]
  refine rA ?_
  refine sX fun K2 hK2=>?_
  obtain ⟨r1,hr1,H⟩:=bind_some H
  have q:=hr1
  refine oX ?_
  refine oMq (claw33_Case__filled_M1 n _ r1 hr1) [] [288,289,290,291,292,293] ?_
  iterate 5 refine oXq ?_
  refine hK2 _ ?_
  refine Sm.seqK fun K3 hK3=>?_
  refine sX fun K4 hK4=>?_
  refine oX ?_
  refine oE stepPN_ok ?_ (hs:=by intro K hK;simp only [z,seval,stepPN,ptT];(repeat first | refine gcI ?_ | intro (_:_≤_));exact hK)
  refine hK4 _ ?_
  refine cndF ?_
  refine Sm.skip ?_
  refine hK3 _ ?_
  obtain ⟨r2,hr2,H⟩:=bind_some H
  have q:=And.intro @xlaw33_Case__blocks.eq_1 hr2
  refine rAq ?_
  refine sX fun K7 hK7=>?_
  obtain ⟨r3,hr3,H⟩:=bind_some H
  have q:=hr3
  iterate 9 refine oX ?_
  refine oMq (cfetch_Put_M1 n _ _ _ _ _ _ r3 hr3) [288,289,290] [] ?_
  iterate 5 refine oXq ?_
  refine hK7 _ ?_
  refine sX fun K8 hK8=>?_
  obtain ⟨r4,hr4,H⟩:=bind_some H
  have q:=hr4
  iterate 10 refine oX ?_
  refine oMq (cref33_Put_M1 n _ _ _ _ _ _ _ r4 hr4) [291,292,293] [] ?_
  iterate 5 refine oXq ?_
  refine hK8 _ ?_
  refine Sm.seqK fun K9 hK9=>?_
  refine sX fun K10 hK10=>?_
  iterate 12 refine oX ?_
  refine bif_cases H (fun hs11 H=>?_) (fun hs11 H=>?_)
  · have q:=hs11
    refine oFq ?_
    refine oFq ?_
    refine oPl ?_
    refine hK10 _ ?_
    refine cndT ?_
    refine rA ?_
    refine Sm.ret ?_
    refine lf ?_
    obtain rfl:=Option.some.inj H
    exact rt []
  obtain ⟨hg14,H⟩:=gd_some H
  obtain ⟨r5,hr5,H⟩:=bind_some H
  have q:=And.intro hs11 hr5
  refine oTM (claw33_same_M1 n _ _ _ _ _ r5 hr5) [288,289,290,291,292,293] [] ?_
  refine oTG ?_
  refine oPr ?_
  refine hK10 _ ?_
  refine cnd H (fun h15 H=>?_) (fun h15 H=>?_)
  · refine rA ?_
    refine Sm.ret ?_
    refine lf ?_
    obtain rfl:=Option.some.inj H
    exact rt []
  refine Sm.skip ?_
  refine hK9 _ ?_
  obtain ⟨hg38,H⟩:=gd_some H
  refine rA ?_
  refine Sm.cut (fun (x:Unit)=>law33_FetchLoads_s1) (fun x=>law33_FetchLoads_k1 n=some r) ?_ ?_
  · refine rA ?_
    refine Sm.block ?_
    obtain ⟨y20,hy20,Ho20⟩:=bind_some H
    refine Sm.loopB _ (fun x=>law33_FetchLoads_t2 c r3.2.2.2 r4.2.2.2 r2 x.1 x.2.1 x.2.2.1 x.2.2.2) hy20 (wbf [1120] [some 16,some 288,some 289,some 290,some 291,some 292,some 293] (hL:=by (simp only [wk,z,seval];rw [List.take_of_length_le (by simp only [List.length_cons,List.length_map];omega)]))) ?_
    rintro ⟨s,x_,loaded,i⟩ z20 H
    try dsimp only at H
    unfold law33_FetchLoads_b2 at H
    refine Sm.st (law33_FetchLoads_t2.eq_1 ..) ?_
    refine Sm.seqK fun K21 hK21=>?_
    refine rA ?_
    refine cnd H (fun h23 H=>?_) (fun h23 H=>?_)
    · refine Sm.skip ?_
      refine hK21 _ ?_
      refine Sm.cut (fun (x:(List Int)×(List Int)×(List Int))=>law33_FetchLoads_s3 c x.1 r3.2.2.2 x.2.1 r4.2.2.2 r2 x.2.2 i) (fun x=>law33_FetchLoads_k3 n c x.1 r3.2.2.2 x.2.1 r4.2.2.2 r2 x.2.2 i=some z20) ?_ ?_
      · refine Sm.block ?_
        obtain ⟨hg25,H⟩:=gd_some H
        obtain ⟨r7,hr7,H⟩:=bind_some H
        refine sE [0,1,2,3,4,5,6,7,8,9,10,11,12,13,14,15,16] [(none,[],[]),(none,[9008],[]),(none,[9008],[]),(none,[9008],[]),(none,[9008],[]),(none,[],[]),(none,[9008],[]),(none,[9008],[]),(none,[],[]),(none,[],[]),(none,[],[]),(none,[9009],[1440,9009,9010,9011]),(none,[],[]),(none,[],[]),(none,[],[]),(none,[],[]),(none,[],[])] [(11,(⟨_,_,_,_,_,[9009,9010,9011],[1440],cfetch_Segment_M1 n _ _ _ _ _ _ r7 hr7⟩:MT Try.prog))] fun K24 hK24=>?_
        have q:=hr7
        iterate 11 refine eQq ?_
        refine eM ?_
        iterate 5 refine eQq ?_
        refine opsE0 ?_
        refine hK24 _ ?_
        obtain ⟨hg27,H⟩:=gd_some H
        obtain ⟨r8,hr8,H⟩:=bind_some H
        refine sE [0,1,2,3,4,5,6,7,8,9,10,11,12,13,14,15,16,17] [(none,[],[]),(none,[],[]),(none,[9008],[]),(none,[9008],[]),(none,[9008],[]),(none,[9008],[]),(none,[],[]),(none,[9008],[]),(none,[9008],[]),(none,[],[]),(none,[],[]),(none,[],[]),(none,[9012],[1696,9012,9013,9014]),(none,[],[]),(none,[],[]),(none,[],[]),(none,[],[]),(none,[],[])] [(12,(⟨_,_,_,_,_,[9012,9013,9014],[1696],cref33_Segment_M1 n _ _ _ _ _ _ _ r8 hr8⟩:MT Try.prog))] fun K26 hK26=>?_
        have q:=hr8
        iterate 12 refine eQq ?_
        refine eM ?_
        iterate 5 refine eQq ?_
        refine opsE0 ?_
        refine hK26 _ ?_
        refine Sm.seqK fun K28 hK28=>?_
        refine sX fun K29 hK29=>?_
        obtain ⟨r9,hr9,H⟩:=bind_some H
        have q:=And.intro @xlaw33_Case__blocks.eq_1 (And.intro @xlaw33_sameInts.eq_1 hr9)
        iterate 13 refine oXq ?_
        refine bif_cases H (fun hs30 H=>?_) (fun hs30 H=>?_)
        · try simp only [z,seval,hr9] at hs30
          have q:=And.intro @xlaw33_Case__blocks.eq_1 (And.intro @xlaw33_sameInts.eq_1 (And.intro hr9 hs30))
          refine oFq ?_
          refine oFq ?_
          refine oPl ?_
          refine hK29 _ ?_
          refine cndT ?_
          refine rA ?_
          refine Sm.ret ?_
          refine lf ?_
          refine lx H fun hyy=>?_
          subst hyy
          have H:=Ho20
          try dsimp only at H
          refine lf ?_
          obtain rfl:=Option.some.inj H
          exact rt []
        try simp only [z,seval,hr9] at hs30
        obtain ⟨hg33,H⟩:=gd_some H
        obtain ⟨r10,hr10,H⟩:=bind_some H
        have q:=And.intro @xlaw33_Case__blocks.eq_1 (And.intro @xlaw33_sameInts.eq_1 (And.intro hr9 (And.intro hs30 hr10)))
        refine oTM (claw33_same_M1 n _ _ _ _ _ r10 hr10) [9009,9010,9011,9012,9013,9014] [] ?_
        refine oTG ?_
        refine oPr ?_
        refine hK29 _ ?_
        refine cnd H (fun h34 H=>?_) (fun h34 H=>?_)
        · refine rA ?_
          refine Sm.ret ?_
          refine lf ?_
          refine lx H fun hyy=>?_
          subst hyy
          have H:=Ho20
          try dsimp only at H
          refine lf ?_
          obtain rfl:=Option.some.inj H
          exact rt []
        refine Sm.skip ?_
        refine hK28 _ ?_
        refine rA ?_
        refine cnd H (fun h37 H=>?_) (fun h37 H=>?_)
        · refine eA ?_
          refine lf ?_
          exact ⟨(r7.2.2,r8.2.2,r7.1),H,wbf [1440] [some 9008,some 9009,some 9010,some 9011,some 9012,some 9013,some 9014]⟩
        refine Sm.skip ?_
        refine lf ?_
        exact ⟨(r7.2.2,r8.2.2,loaded),H,wb [some 9008,some 9009,some 9010,some 9011,some 9012,some 9013,some 9014]⟩
      rintro ⟨s_2,x__2,loaded_1⟩ H
      try dsimp only at H
      unfold law33_FetchLoads_k3 at H
      refine Sm.st (law33_FetchLoads_s3.eq_1 ..) ?_
      refine eA ?_
      refine lf ?_
      exact nx H (wb [some 9015,some 9016,some 9017,some 9018,some 9019,some 9020,some 9021])
    refine Sm.exit ?_
    refine lf ?_
    refine lx H fun hyy=>?_
    subst hyy
    have H:=Ho20
    try dsimp only at H
    refine lf ?_
    exact ⟨(),H,wb []⟩
  rintro ⟨⟩ H
  try dsimp only at H
  unfold law33_FetchLoads_k1 at H
  refine Sm.st (law33_FetchLoads_s1.eq_1 ..) ?_
  obtain ⟨r6,hr6,H⟩:=bind_some H
  have q:=And.intro @xlaw33_Case__blocks.eq_1 (And.intro @xlaw33_sameInts.eq_1 (And.intro @xlaw33_works.eq_1 hr6))
  refine rAq ?_
  refine Sm.ret ?_
  refine lf ?_
  obtain rfl:=Option.some.inj H
  exact rt []
end Go.Proofs.Ytcbcdjincgclaaa
