/- Text. -/
import Derived.Test.YtfhnelkbiihpiaaGreatDoorT
import Derived.Test.YtfhnelkbiihpiaaGreatDoorN
set_option maxHeartbeats 8000000
set_option linter.unusedVariables false
set_option linter.unusedSimpArgs false
set_option maxRecDepth 100000
namespace Go.Proofs.YtfhnelkbiihpiaaGreatDoor
open Go.AE
abbrev module_validSegments_s1 (m : TLoad) (from_ : Int) : S := stB [(1, .box 9000 0), (3, .c (.int .i64) (.int from_))] [(9000, .box [.c (.slice 5) (.slice (List.map e_Int m.Text)), .c (.slice 85) (.slice (List.map e_TReloc m.Relocs)), .c (.slice 44) (.slice (List.map e_TSegment m.Segments)), .c (.int .i64) (.int m.Entry)])]
def module_validSegments_k1 (n : Nat) (m : TLoad) (from_ : Int) : Option Bool :=
  some (if (if (decide ((m.Segments.length : Int) ≥ 1)) = true then (decide ((m.Segments.length : Int) ≤ 64)) else false) = true then (from_ == (m.Text.length : Int)) else false)
abbrev module_validSegments_s3 (m : TLoad) (from__2 : Int) (v8 : Int) (v9 : Int) : S := stB [(1, .box 9003 0), (3, .c (.int .i64) (.int from__2)), (7, .c (.slice 44) (.slice (List.map e_TSegment m.Segments))), (8, .c (.int .i64) (.int v8)), (9, .c (.int .i64) (.int v9))] [(9003, .box [.c (.slice 5) (.slice (List.map e_Int m.Text)), .c (.slice 85) (.slice (List.map e_TReloc m.Relocs)), .c (.slice 44) (.slice (List.map e_TSegment m.Segments)), .c (.int .i64) (.int m.Entry)])]
def module_validSegments_k3 (n : Nat) (m : TLoad) (from__2 : Int) (v8 : Int) (v9 : Int) : Option ((Int × Int) ⊕ (((Bool) ⊕ (Int)))) :=
  some (.inl (from__2, (IntKind.wrap .i64 (v9 + 1))))
abbrev module_validSegments_s4 (m : TLoad) (from__1 : Int) (s : Int) (s_1 : Int) (s_2 : Int) (s_3 : Int) (v8 : Int) (v9 : Int) : S := stB [(1, .box 9004 0), (3, .c (.int .i64) (.int from__1)), (5, .box 9005 0), (7, .c (.slice 44) (.slice (List.map e_TSegment m.Segments))), (8, .c (.int .i64) (.int v8)), (9, .c (.int .i64) (.int v9))] [(9004, .box [.c (.slice 5) (.slice (List.map e_Int m.Text)), .c (.slice 85) (.slice (List.map e_TReloc m.Relocs)), .c (.slice 44) (.slice (List.map e_TSegment m.Segments)), .c (.int .i64) (.int m.Entry)]), (9005, .box [.c (.int .i64) (.int s), .c (.int .i64) (.int s_1), .c (.int .i64) (.int s_2), .c (.int .i64) (.int s_3)])]
def module_validSegments_k4 (n : Nat) (m : TLoad) (from__1 : Int) (s : Int) (s_1 : Int) (s_2 : Int) (s_3 : Int) (v8 : Int) (v9 : Int) : Option ((Int × Int) ⊕ (((Bool) ⊕ (Int)))) :=
  module_validSegments_k3 n m (IntKind.wrap .i64 (from__1 + s_3)) v8 v9
abbrev module_validSegments_t2 (m : TLoad) (v8 : Int) (from__1 : Int) (v9 : Int) : S := stB [(1, .box 9002 0), (3, .c (.int .i64) (.int from__1)), (7, .c (.slice 44) (.slice (List.map e_TSegment m.Segments))), (8, .c (.int .i64) (.int v8)), (9, .c (.int .i64) (.int v9))] [(9002, .box [.c (.slice 5) (.slice (List.map e_Int m.Text)), .c (.slice 85) (.slice (List.map e_TReloc m.Relocs)), .c (.slice 44) (.slice (List.map e_TSegment m.Segments)), .c (.int .i64) (.int m.Entry)])]
def module_validSegments_b2 (n : Nat) (m : TLoad) (v8 : Int) (from__1 : Int) (v9 : Int) : Option ((Int × Int) ⊕ (((Bool) ⊕ (Int)))) :=
  bif (decide (v9 < v8)) then
    gd ((0 ≤ v9 ∧ v9 < (m.Segments.length : Int))) <|
    bif (if (if (if (if (decide (((gt m.Segments (Int.toNat v9)).Len) < 0)) = true then true else (decide (((gt m.Segments (Int.toNat v9)).Origin) < 0))) = true then true else (decide (((gt m.Segments (Int.toNat v9)).Origin) > 65536))) = true then true else (decide (((gt m.Segments (Int.toNat v9)).Len) > (IntKind.wrap .i64 (65536 - ((gt m.Segments (Int.toNat v9)).Origin)))))) = true then true else (((gt m.Segments (Int.toNat v9)).From) != from__1)) then
      some (.inr (.inl false))
    else
      bif (v9 == 0) then
        bif (if (if (((gt m.Segments (Int.toNat v9)).Parent) != (-1)) = true then true else (((gt m.Segments (Int.toNat v9)).Origin) != 0)) = true then true else (decide (((gt m.Segments (Int.toNat v9)).Len) < 1))) then
          some (.inr (.inl false))
        else
          module_validSegments_k4 n m from__1 ((gt m.Segments (Int.toNat v9)).Parent) ((gt m.Segments (Int.toNat v9)).Origin) ((gt m.Segments (Int.toNat v9)).From) ((gt m.Segments (Int.toNat v9)).Len) v8 v9
      else
        gd (((!(if (decide (((gt m.Segments (Int.toNat v9)).Parent) < 0)) = true then true else (decide (((gt m.Segments (Int.toNat v9)).Parent) ≥ v9)))) = true → (0 ≤ ((gt m.Segments (Int.toNat v9)).Parent) ∧ ((gt m.Segments (Int.toNat v9)).Parent) < (m.Segments.length : Int))) ∧ ((!(if (decide (((gt m.Segments (Int.toNat v9)).Parent) < 0)) = true then true else (decide (((gt m.Segments (Int.toNat v9)).Parent) ≥ v9)))) = true → (0 ≤ ((gt m.Segments (Int.toNat v9)).Parent) ∧ ((gt m.Segments (Int.toNat v9)).Parent) < (m.Segments.length : Int)))) <|
        bif (if (if (decide (((gt m.Segments (Int.toNat v9)).Parent) < 0)) = true then true else (decide (((gt m.Segments (Int.toNat v9)).Parent) ≥ v9))) = true then true else (decide (((gt m.Segments (Int.toNat v9)).Origin) < (IntKind.wrap .i64 (((gt m.Segments (Int.toNat ((gt m.Segments (Int.toNat v9)).Parent))).Origin) + ((gt m.Segments (Int.toNat ((gt m.Segments (Int.toNat v9)).Parent))).Len)))))) then
          some (.inr (.inl false))
        else
          module_validSegments_k4 n m from__1 ((gt m.Segments (Int.toNat v9)).Parent) ((gt m.Segments (Int.toNat v9)).Origin) ((gt m.Segments (Int.toNat v9)).From) ((gt m.Segments (Int.toNat v9)).Len) v8 v9
  else
    some (.inr (.inr from__1))
def module_validSegments (n : Nat) (m : TLoad) : Option Bool :=
  (loopF (fun (x : Int × Int) => module_validSegments_b2 n m (m.Segments.length : Int) x.1 x.2) n (0, 0)).bind fun y5 =>
  match y5 with
  | .inl vv =>
    some vv
  | .inr vv =>
    module_validSegments_k1 n m vv
def xmodule_validSegments (n : Nat) : Go.AE.Fn := mkFn (A := TLoad) (R := Bool) 81 [(true, [.slice 5, .slice 85, .slice 44, .int .i64])] false (fun xs => (⟨((cg (xs.getD 0 []) 0).toSl.map d_Int), ((cg (xs.getD 0 []) 1).toSl.map d_TReloc), ((cg (xs.getD 0 []) 2).toSl.map d_TSegment), (cg (xs.getD 0 []) 3).toInt⟩ : TLoad)) (fun a => [[.slice (List.map e_Int a.Text), .slice (List.map e_TReloc a.Relocs), .slice (List.map e_TSegment a.Segments), .int a.Entry]]) (fun a => module_validSegments n a) (fun r => [.c .bool (.bool r)]) (fun r => [])
theorem cmodule_validSegments (n : Nat) : Contract Tryz.prog (xmodule_validSegments n) := by
  have hΓ := @g0 (Contract Tryz.prog)
  refine contract_f (Tryz.f81.body.getD .skip) h00 Tryz.func81 rfl Tryz.call81 (by decide) (by intro _ r; exact ⟨rfl, by simp⟩) ?_
  rintro m r H
  try dsimp only at H
  unfold module_validSegments at H
  simp only [Tryz.f81, Option.getD]
  refine rA ?_
  refine rA ?_
  refine Sm.cut (fun (x : Int) => module_validSegments_s1 m x) (fun x => module_validSegments_k1 n m x = some r) ?_ ?_
  · refine rA ?_
    refine Sm.block ?_
    obtain ⟨y5, hy5, Ho5⟩ := bind_some H
    refine Sm.loopB _ (fun x => module_validSegments_t2 m (m.Segments.length : Int) x.1 x.2) hy5 (wb [some 16]) ?_
    rintro ⟨from__1, v9⟩ z5 H
    try dsimp only at H
    unfold module_validSegments_b2 at H
    refine Sm.st (module_validSegments_t2.eq_1 ..) ?_
    refine rA ?_
    refine Sm.seqK fun K7 hK7 => ?_
    refine cnd H (fun h8 H => ?_) (fun h8 H => ?_)
    · refine Sm.skip ?_
      refine hK7 _ ?_
      refine Sm.cut (fun (x : Int) => module_validSegments_s3 m x (m.Segments.length : Int) v9) (fun x => module_validSegments_k3 n m x (m.Segments.length : Int) v9 = some z5) ?_ ?_
      · refine Sm.block ?_
        obtain ⟨hg24, H⟩ := gd_some H
        refine rA ?_
        refine Sm.seqK fun K10 hK10 => ?_
        refine rA ?_
        refine cnd H (fun h12 H => ?_) (fun h12 H => ?_)
        · refine rA ?_
          refine Sm.ret ?_
          refine lf ?_
          refine lx H fun hyy => ?_
          subst hyy
          have H := Ho5
          try dsimp only at H
          refine lf ?_
          obtain rfl := Option.some.inj H
          exact rt []
        refine Sm.skip ?_
        refine hK10 _ ?_
        refine Sm.cut (fun (x : Unit) => module_validSegments_s4 m from__1 ((gt m.Segments (Int.toNat v9)).Parent) ((gt m.Segments (Int.toNat v9)).Origin) ((gt m.Segments (Int.toNat v9)).From) ((gt m.Segments (Int.toNat v9)).Len) (m.Segments.length : Int) v9) (fun x => module_validSegments_k4 n m from__1 ((gt m.Segments (Int.toNat v9)).Parent) ((gt m.Segments (Int.toNat v9)).Origin) ((gt m.Segments (Int.toNat v9)).From) ((gt m.Segments (Int.toNat v9)).Len) (m.Segments.length : Int) v9 = some z5) ?_ ?_
        · refine rA ?_
          refine cnd H (fun h15 H => ?_) (fun h15 H => ?_)
          · refine rA ?_
            refine cnd H (fun h17 H => ?_) (fun h17 H => ?_)
            · refine rA ?_
              refine Sm.ret ?_
              refine lf ?_
              refine lx H fun hyy => ?_
              subst hyy
              have H := Ho5
              try dsimp only at H
              refine lf ?_
              obtain rfl := Option.some.inj H
              exact rt []
            refine Sm.skip ?_
            refine lf ?_
            exact ⟨(), H, wb [some 9002, some 80]⟩
          obtain ⟨⟨hg22, hg23⟩, H⟩ := gd_some H
          refine rD ?_
          refine cnd H (fun h20 H => ?_) (fun h20 H => ?_)
          · refine rA ?_
            refine Sm.ret ?_
            refine lf ?_
            refine lx H fun hyy => ?_
            subst hyy
            have H := Ho5
            try dsimp only at H
            refine lf ?_
            obtain rfl := Option.some.inj H
            exact rt []
          refine Sm.skip ?_
          refine lf ?_
          exact ⟨(), H, wb [some 9002, some 80]⟩
        rintro ⟨⟩ H
        try dsimp only at H
        unfold module_validSegments_k4 at H
        refine Sm.st (module_validSegments_s4.eq_1 ..) ?_
        refine eA ?_
        refine lf ?_
        exact ⟨_, H, wb [some 9004]⟩
      rintro from__2 H
      try dsimp only at H
      unfold module_validSegments_k3 at H
      refine Sm.st (module_validSegments_s3.eq_1 ..) ?_
      refine eA ?_
      refine lf ?_
      exact nx H (wb [some 9003])
    refine Sm.exit ?_
    refine lf ?_
    refine lx H fun hyy => ?_
    subst hyy
    have H := Ho5
    try dsimp only at H
    refine lf ?_
    exact ⟨_, H, wb [some 9002]⟩
  rintro from_ H
  try dsimp only at H
  unfold module_validSegments_k1 at H
  refine Sm.st (module_validSegments_s1.eq_1 ..) ?_
  refine rA ?_
  refine Sm.ret ?_
  refine lf ?_
  obtain rfl := Option.some.inj H
  exact rt []
def module_CheckLoad_1_M1 (n : Nat) (s : TSegment) (p1 : Int) (p1_ : Int) (p1__ : Bool) : Option Bool :=
  some (if (decide (p1 ≥ s.From)) = true then (decide ((IntKind.wrap .i64 (p1 + p1_)) ≤ (IntKind.wrap .i64 (s.From + s.Len)))) else false)
theorem cmodule_CheckLoad_1_M1 (n : Nat) (s : TSegment) (p1 : Int) (p1_ : Int) (p1__ : Bool) (r : Bool) (H : module_CheckLoad_1_M1 n s p1 p1_ p1__ = some r) : CallsM Tryz.prog 83 [.dat (true, [.int .i64, .int .i64, .int .i64, .int .i64]) [.int s.Parent, .int s.Origin, .int s.From, .int s.Len], .ref (.box 0 0)] [.box [.c (.int .i64) (.int p1), .c (.int .i64) (.int p1_), .c .bool (.bool p1__)]] [.c .bool (.bool r)] [.box [.c (.int .i64) (.int p1), .c (.int .i64) (.int p1_), .c .bool (.bool p1__)]] := by
  have hΓ := @g0 (Contract Tryz.prog)
  refine callsM_of (Tryz.f83.body.getD .skip) h00 Tryz.func83 rfl Tryz.call83 (Nat.le_of_ble_eq_true rfl) (Nat.le_of_ble_eq_true rfl) ?_
  unfold module_CheckLoad_1_M1 at H
  simp only [Tryz.f83, Option.getD]
  refine rA ?_
  refine rA ?_
  refine Sm.ret ?_
  refine lf ?_
  obtain rfl := Option.some.inj H
  exact rtM [some 0]
abbrev slices_IndexFunc_f105_M1_s1 (f : Int) (f_ : Int) (f__ : Bool) : S := stB [] [(0, .box [.c (.int .i64) (.int f), .c (.int .i64) (.int f_), .c .bool (.bool f__)])]
def slices_IndexFunc_f105_M1_k1 (n : Nat) (f : Int) (f_ : Int) (f__ : Bool) : Option Int :=
  some (-1)
abbrev slices_IndexFunc_f105_M1_t2 (f : Int) (f_ : Int) (f__ : Bool) (s : List TSegment) (v7 : Int) (v8 : Int) : S := stB [(0, .c (.slice 44) (.slice (List.map e_TSegment s))), (1, .fnv 83 [.box 0 0]), (7, .c (.int .i64) (.int v7)), (8, .c (.int .i64) (.int v8))] [(0, .box [.c (.int .i64) (.int f), .c (.int .i64) (.int f_), .c .bool (.bool f__)])]
def slices_IndexFunc_f105_M1_b2 (n : Nat) (f : Int) (f_ : Int) (f__ : Bool) (s : List TSegment) (v7 : Int) (v8 : Int) : Option ((Int) ⊕ (((Int) ⊕ (Unit)))) :=
  bif (decide (v8 < v7)) then
    gd ((0 ≤ v8 ∧ v8 < (s.length : Int))) <|
    (module_CheckLoad_1_M1 n (gt s (Int.toNat v8)) f f_ f__).bind fun r1 =>
    bif r1 then
      some (.inr (.inl v8))
    else
      some (.inl (IntKind.wrap .i64 (v8 + 1)))
  else
    some (.inr (.inr ()))
def slices_IndexFunc_f105_M1 (n : Nat) (s : List TSegment) (f : Int) (f_ : Int) (f__ : Bool) : Option Int :=
  (loopF (fun (x : Int) => slices_IndexFunc_f105_M1_b2 n f f_ f__ s (s.length : Int) x) n 0).bind fun y4 =>
  match y4 with
  | .inl vv =>
    some vv
  | .inr vv =>
    slices_IndexFunc_f105_M1_k1 n f f_ f__
theorem cslices_IndexFunc_f105_M1 (n : Nat) (s : List TSegment) (f : Int) (f_ : Int) (f__ : Bool) (r : Int) (H : slices_IndexFunc_f105_M1 n s f f_ f__ = some r) : CallsM Tryz.prog 105 [.dat (false, [.slice 44]) [.slice (List.map e_TSegment s)], .ref (.fnv 83 [.box 0 0])] [.box [.c (.int .i64) (.int f), .c (.int .i64) (.int f_), .c .bool (.bool f__)]] [.c (.int .i64) (.int r)] [.box [.c (.int .i64) (.int f), .c (.int .i64) (.int f_), .c .bool (.bool f__)]] := by
  have hΓ := @g0 (Contract Tryz.prog)
  refine callsM_of (Tryz.f105.body.getD .skip) h00 Tryz.func105 rfl Tryz.call105 (Nat.le_of_ble_eq_true rfl) (Nat.le_of_ble_eq_true rfl) ?_
  unfold slices_IndexFunc_f105_M1 at H
  simp only [Tryz.f105, Option.getD]
  refine rA ?_
  refine Sm.cut (fun (x : Unit) => slices_IndexFunc_f105_M1_s1 f f_ f__) (fun x => slices_IndexFunc_f105_M1_k1 n f f_ f__ = some r) ?_ ?_
  · refine rA ?_
    refine Sm.block ?_
    obtain ⟨y4, hy4, Ho4⟩ := bind_some H
    refine Sm.loopB _ (fun x => slices_IndexFunc_f105_M1_t2 f f_ f__ s (s.length : Int) x) hy4 (wb [some 0]) ?_
    rintro v8 z4 H
    try dsimp only at H
    unfold slices_IndexFunc_f105_M1_b2 at H
    refine Sm.st (slices_IndexFunc_f105_M1_t2.eq_1 ..) ?_
    refine rA ?_
    refine Sm.seqK fun K6 hK6 => ?_
    refine cnd H (fun h7 H => ?_) (fun h7 H => ?_)
    · refine Sm.skip ?_
      refine hK6 _ ?_
      refine Sm.seqK fun K8 hK8 => ?_
      refine Sm.block ?_
      refine rA ?_
      refine sX fun K10 hK10 => ?_
      obtain ⟨hg11, H⟩ := gd_some H
      obtain ⟨r1, hr1, H⟩ := bind_some H
      have q := hr1
      iterate 5 refine oX ?_
      refine oMq (cmodule_CheckLoad_1_M1 n _ _ _ _ r1 hr1) [0] [] ?_
      refine hK10 _ ?_
      refine cnd H (fun h12 H => ?_) (fun h12 H => ?_)
      · refine rA ?_
        refine Sm.ret ?_
        refine lf ?_
        refine lx H fun hyy => ?_
        subst hyy
        have H := Ho4
        try dsimp only at H
        refine lf ?_
        obtain rfl := Option.some.inj H
        exact rtM [some 0]
      refine Sm.skip ?_
      refine hK8 _ ?_
      refine eA ?_
      refine lf ?_
      exact nx H (wb [some 0])
    refine Sm.exit ?_
    refine lf ?_
    refine lx H fun hyy => ?_
    subst hyy
    have H := Ho4
    try dsimp only at H
    refine lf ?_
    exact ⟨(), H, wb [some 0]⟩
  rintro ⟨⟩ H
  try dsimp only at H
  unfold slices_IndexFunc_f105_M1_k1 at H
  refine Sm.st (slices_IndexFunc_f105_M1_s1.eq_1 ..) ?_
  refine rA ?_
  refine Sm.ret ?_
  refine lf ?_
  obtain rfl := Option.some.inj H
  exact rtM [some 0]
def slices_ContainsFunc_f82_M1 (n : Nat) (s : List TSegment) (f : Int) (f_ : Int) (f__ : Bool) : Option Bool :=
  (slices_IndexFunc_f105_M1 n s f f_ f__).bind fun r1 =>
  some (decide (r1 ≥ 0))
theorem cslices_ContainsFunc_f82_M1 (n : Nat) (s : List TSegment) (f : Int) (f_ : Int) (f__ : Bool) (r : Bool) (H : slices_ContainsFunc_f82_M1 n s f f_ f__ = some r) : CallsM Tryz.prog 82 [.dat (false, [.slice 44]) [.slice (List.map e_TSegment s)], .ref (.fnv 83 [.box 0 0])] [.box [.c (.int .i64) (.int f), .c (.int .i64) (.int f_), .c .bool (.bool f__)]] [.c .bool (.bool r)] [.box [.c (.int .i64) (.int f), .c (.int .i64) (.int f_), .c .bool (.bool f__)]] := by
  have hΓ := @g0 (Contract Tryz.prog)
  refine callsM_of (Tryz.f82.body.getD .skip) h00 Tryz.func82 rfl Tryz.call82 (Nat.le_of_ble_eq_true rfl) (Nat.le_of_ble_eq_true rfl) ?_
  unfold slices_ContainsFunc_f82_M1 at H
  simp only [Tryz.f82, Option.getD]
  refine rA ?_
  refine sX fun K2 hK2 => ?_
  obtain ⟨r1, hr1, H⟩ := bind_some H
  have q := hr1
  iterate 2 refine oX ?_
  refine oMq (cslices_IndexFunc_f105_M1 n _ _ _ _ r1 hr1) [0] [] ?_
  iterate 2 refine oXq ?_
  refine hK2 _ ?_
  refine Sm.ret ?_
  refine lf ?_
  obtain rfl := Option.some.inj H
  exact rtM [some 0]
abbrev module_CheckLoad_s1 : S := stB [] []
def module_CheckLoad_k1 (n : Nat) : Option Int :=
  some 0
abbrev module_CheckLoad_t2 (m : TLoad) (v32 : Int) (free : Int) (v33 : Int) : S := stB [(1, .box 9001 0), (3, .c (.int .i64) (.int free)), (31, .c (.slice 85) (.slice (List.map e_TReloc m.Relocs))), (32, .c (.int .i64) (.int v32)), (33, .c (.int .i64) (.int v33))] [(9001, .box [.c (.slice 5) (.slice (List.map e_Int m.Text)), .c (.slice 85) (.slice (List.map e_TReloc m.Relocs)), .c (.slice 44) (.slice (List.map e_TSegment m.Segments)), .c (.int .i64) (.int m.Entry)])]
def module_CheckLoad_b2 (n : Nat) (m : TLoad) (v32 : Int) (free : Int) (v33 : Int) : Option ((Int × Int) ⊕ (((Int) ⊕ (Unit)))) :=
  bif (decide (v33 < v32)) then
    gd ((0 ≤ v33 ∧ v33 < (m.Relocs.length : Int))) <|
    bif (if (if (if (decide (((gt m.Relocs (Int.toNat v33)).At) < free)) = true then true else (decide (((gt m.Relocs (Int.toNat v33)).At) > (m.Text.length : Int)))) = true then true else (decide (((gt m.Relocs (Int.toNat v33)).Len) < 1))) = true then true else (decide (((gt m.Relocs (Int.toNat v33)).Len) > 4))) then
      some (.inr (.inl 310))
    else
      (slices_ContainsFunc_f82_M1 n m.Segments ((gt m.Relocs (Int.toNat v33)).At) ((gt m.Relocs (Int.toNat v33)).Len) ((gt m.Relocs (Int.toNat v33)).Neg)).bind fun r2 =>
      bif (!r2) then
        some (.inr (.inl 310))
      else
        some (.inl ((IntKind.wrap .i64 (((gt m.Relocs (Int.toNat v33)).At) + ((gt m.Relocs (Int.toNat v33)).Len))), (IntKind.wrap .i64 (v33 + 1))))
  else
    some (.inr (.inr ()))
def module_CheckLoad (n : Nat) (m : TLoad) : Option Int :=
  (module_validSegments n m).bind fun r1 =>
  gd (((!(if (if (!r1) = true then true else (decide ((m.Relocs.length : Int) > 8192))) = true then true else (decide (m.Entry < 0)))) = true → 0 < (m.Segments.length : Int))) <|
  bif (if (if (if (!r1) = true then true else (decide ((m.Relocs.length : Int) > 8192))) = true then true else (decide (m.Entry < 0))) = true then true else (decide (m.Entry ≥ ((gt m.Segments 0).Len)))) then
    some 310
  else
    (loopF (fun (x : Int × Int) => module_CheckLoad_b2 n m (m.Relocs.length : Int) x.1 x.2) n (0, 0)).bind fun y9 =>
    match y9 with
    | .inl vv =>
      some vv
    | .inr vv =>
      module_CheckLoad_k1 n
def xmodule_CheckLoad (n : Nat) : Go.AE.Fn := mkFn (A := TLoad) (R := Int) 47 [(true, [.slice 5, .slice 85, .slice 44, .int .i64])] false (fun xs => (⟨((cg (xs.getD 0 []) 0).toSl.map d_Int), ((cg (xs.getD 0 []) 1).toSl.map d_TReloc), ((cg (xs.getD 0 []) 2).toSl.map d_TSegment), (cg (xs.getD 0 []) 3).toInt⟩ : TLoad)) (fun a => [[.slice (List.map e_Int a.Text), .slice (List.map e_TReloc a.Relocs), .slice (List.map e_TSegment a.Segments), .int a.Entry]]) (fun a => module_CheckLoad n a) (fun r => [.c (.int .i64) (.int r)]) (fun r => [])
theorem cmodule_CheckLoad (n : Nat) : Contract Tryz.prog (xmodule_CheckLoad n) := by
  have hΓ := g1 (cmodule_validSegments n) (@g0 (Contract Tryz.prog))
  refine contract_f (Tryz.f47.body.getD .skip) h00 Tryz.func47 rfl Tryz.call47 (by decide) (by intro _ r; exact ⟨rfl, by simp⟩) ?_
  rintro m r H
  try dsimp only at H
  unfold module_CheckLoad at H
  simp only [Tryz.f47, Option.getD]
  refine rA ?_
  refine Sm.seqK fun K2 hK2 => ?_
  obtain ⟨r1, hr1, H⟩ := bind_some H
  obtain ⟨hg24, H⟩ := gd_some H
  have q := And.intro @xmodule_validSegments.eq_1 hr1
  refine rDq ?_
  refine cnd H (fun h4 H => ?_) (fun h4 H => ?_)
  · refine rA ?_
    refine Sm.ret ?_
    refine lf ?_
    obtain rfl := Option.some.inj H
    exact rt []
  refine Sm.skip ?_
  refine hK2 _ ?_
  refine rA ?_
  refine Sm.cut (fun (x : Unit) => module_CheckLoad_s1) (fun x => module_CheckLoad_k1 n = some r) ?_ ?_
  · refine rA ?_
    refine Sm.block ?_
    obtain ⟨y9, hy9, Ho9⟩ := bind_some H
    refine Sm.loopB _ (fun x => module_CheckLoad_t2 m (m.Relocs.length : Int) x.1 x.2) hy9 (wb [some 16]) ?_
    rintro ⟨free, v33⟩ z9 H
    try dsimp only at H
    unfold module_CheckLoad_b2 at H
    refine Sm.st (module_CheckLoad_t2.eq_1 ..) ?_
    refine rA ?_
    refine Sm.seqK fun K11 hK11 => ?_
    refine cnd H (fun h12 H => ?_) (fun h12 H => ?_)
    · refine Sm.skip ?_
      refine hK11 _ ?_
      refine Sm.seqK fun K13 hK13 => ?_
      refine Sm.block ?_
      obtain ⟨hg23, H⟩ := gd_some H
      refine rA ?_
      refine Sm.seqK fun K15 hK15 => ?_
      refine rA ?_
      refine cnd H (fun h17 H => ?_) (fun h17 H => ?_)
      · refine rA ?_
        refine Sm.ret ?_
        refine lf ?_
        refine lx H fun hyy => ?_
        subst hyy
        have H := Ho9
        try dsimp only at H
        refine lf ?_
        obtain rfl := Option.some.inj H
        exact rt []
      refine Sm.skip ?_
      refine hK15 _ ?_
      refine Sm.seqK fun K19 hK19 => ?_
      refine sX fun K20 hK20 => ?_
      obtain ⟨r2, hr2, H⟩ := bind_some H
      have q := hr2
      iterate 2 refine oX ?_
      refine oY ?_
      refine oMq (cslices_ContainsFunc_f82_M1 n _ _ _ _ r2 hr2) [80] [] ?_
      refine oXq ?_
      refine hK20 _ ?_
      refine cnd H (fun h21 H => ?_) (fun h21 H => ?_)
      · refine rA ?_
        refine Sm.ret ?_
        refine lf ?_
        refine lx H fun hyy => ?_
        subst hyy
        have H := Ho9
        try dsimp only at H
        refine lf ?_
        obtain rfl := Option.some.inj H
        exact rt []
      refine Sm.skip ?_
      refine hK19 _ ?_
      refine eA ?_
      refine hK13 _ ?_
      refine eA ?_
      refine lf ?_
      exact nx H (wb [some 9001])
    refine Sm.exit ?_
    refine lf ?_
    refine lx H fun hyy => ?_
    subst hyy
    have H := Ho9
    try dsimp only at H
    refine lf ?_
    exact ⟨(), H, wb []⟩
  rintro ⟨⟩ H
  try dsimp only at H
  unfold module_CheckLoad_k1 at H
  refine Sm.st (module_CheckLoad_s1.eq_1 ..) ?_
  refine rA ?_
  refine Sm.ret ?_
  refine lf ?_
  obtain rfl := Option.some.inj H
  exact rt []
def slices_Clone_f48 (n : Nat) (s : List Int) : Option (List Int) :=
  uniB s fun nb1 =>
  bif nb1 then
    some []
  else
    gd (s.length ≤ 2147483648) <|
    some s
def xslices_Clone_f48 (n : Nat) : Go.AE.Fn := mkFn (A := (List Int)) (R := (List Int)) 48 [(false, [.slice 5])] false (fun xs => ((cg (xs.getD 0 []) 0).toSl.map d_Int)) (fun a => [[.slice (List.map e_Int a)]]) (fun a => slices_Clone_f48 n a) (fun r => [.own 0 [.int .u8] 0 r.length]) (fun r => [.row 5 (List.map e_Int r)])
theorem cslices_Clone_f48 (n : Nat) : Contract Tryz.prog (xslices_Clone_f48 n) := by
  have hΓ := @g0 (Contract Tryz.prog)
  refine contract_f (Tryz.f48.body.getD .skip) h00 Tryz.func48 rfl Tryz.call48 (by decide) (fun _ r => ⟨rfl, m1 ⟨5, _, _, rfl, ty5, rfl⟩ m0⟩) ?_
  rintro s r H
  try dsimp only at H
  unfold slices_Clone_f48 at H
  simp only [Tryz.f48, Option.getD]
  refine rA ?_
  refine Sm.seqK fun K2 hK2 => ?_
  refine sX fun K3 hK3 => ?_
  refine oX ?_
  refine opsN fun K hK => ?_; simp only [z, seval]; (repeat (first | refine gcI ?_ | refine fun (_ : _ ≤ _) => ?_)); intro nb1 hnb1; refine hK _ ?_; clear hK K
  replace H := uniB_some H nb1 (fun hb => by simpa using hnb1 hb)
  refine hK3 _ ?_
  refine cnd H (fun h4 H => ?_) (fun h4 H => ?_)
  · refine rA ?_
    refine Sm.ret ?_
    refine lf ?_
    obtain rfl := Option.some.inj H
    exact rto [none]
  refine Sm.skip ?_
  refine hK2 _ ?_
  obtain ⟨hg7, H⟩ := gd_some H
  refine rA ?_
  refine Sm.ret ?_
  refine lf ?_
  obtain rfl := Option.some.inj H
  exact rto [some 112]
abbrev link_adjust_1_M1_t1 (at_ : Int) (b0 : List Int) (by__1 : Int) (i : Int) : S := stB [(0, .c (.int .i64) (.int at_)), (2, .c (.int .i64) (.int by__1)), (3, .box 0 0), (7, .c (.int .i64) (.int i))] [(0, .box [.own 1 [.int .u8] 0 b0.length]), (1, .row 5 (List.map e_Int b0))]
def link_adjust_1_M1_b1 (n : Nat) (at_ : Int) (b0 : List Int) (by__1 : Int) (i : Int) : Option (((List Int) × Int × Int) ⊕ ((Nat × (List Int)))) :=
  bif (decide (i ≥ at_)) then
    gd ((0 ≤ i ∧ i < (b0.length : Int)) ∧ (Int.toNat i) < b0.length) <|
    gd ((0 ≤ i ∧ i < (b0.length : Int)) ∧ (Int.toNat i) < b0.length) <|
    some (.inl ((List.set b0 (Int.toNat i) (IntKind.wrap .u8 ((IntKind.wrap .i64 (by__1 + (IntKind.wrap .i64 ((gt b0 (Int.toNat i))))))))), (Int.fdiv (IntKind.wrap .i64 (by__1 + (IntKind.wrap .i64 ((gt b0 (Int.toNat i)))))) (2 ^ min 8 (IntKind.bits .i64))), (IntKind.wrap .i64 (i - 1))))
  else
    some (.inr (b0.length, b0))
def link_adjust_1_M1 (n : Nat) (at_ : Int) (n_ : Int) (by_ : Int) (p3 : List Int) : Option (Nat × (List Int)) :=
  (loopF (fun (x : (List Int) × Int × Int) => link_adjust_1_M1_b1 n at_ x.1 x.2.1 x.2.2) n (p3, by_, (IntKind.wrap .i64 ((IntKind.wrap .i64 (at_ + n_)) - 1)))).bind fun y2 =>
  some (y2.1, y2.2)
theorem clink_adjust_1_M1 (n : Nat) (at_ : Int) (n_ : Int) (by_ : Int) (p3 : List Int) (r : Nat × (List Int)) (H : link_adjust_1_M1 n at_ n_ by_ p3 = some r) : CallsM Tryz.prog 84 [.dat (false, [.int .i64]) [.int at_], .dat (false, [.int .i64]) [.int n_], .dat (false, [.int .i64]) [.int by_], .ref (.box 0 0)] [.box [.own 1 [.int .u8] 0 p3.length], .row 5 (List.map e_Int p3)] [] [.box [.own 1 [.int .u8] 0 r.1], .row 5 (List.map e_Int r.2)] := by
  have hΓ := @g0 (Contract Tryz.prog)
  refine callsM_of (Tryz.f84.body.getD .skip) h00 Tryz.func84 rfl Tryz.call84 (Nat.le_of_ble_eq_true rfl) (Nat.le_of_ble_eq_true rfl) ?_
  unfold link_adjust_1_M1 at H
  simp only [Tryz.f84, Option.getD]
  refine rA ?_
  refine Sm.block ?_
  obtain ⟨y2, hy2, Ho2⟩ := bind_some H
  refine Sm.loopB _ (fun x => link_adjust_1_M1_t1 at_ x.1 x.2.1 x.2.2) hy2 (wb [some 0, some 1]) ?_
  rintro ⟨b0, by__1, i⟩ z2 H
  try dsimp only at H
  unfold link_adjust_1_M1_b1 at H
  refine Sm.st (link_adjust_1_M1_t1.eq_1 ..) ?_
  refine Sm.seqK fun K3 hK3 => ?_
  refine rA ?_
  refine cnd H (fun h5 H => ?_) (fun h5 H => ?_)
  · refine Sm.skip ?_
    refine hK3 _ ?_
    refine Sm.seqK fun K6 hK6 => ?_
    refine Sm.block ?_
    obtain ⟨⟨hg11, hg12⟩, H⟩ := gd_some H
    refine rA ?_
    obtain ⟨⟨hg9, hg10⟩, H⟩ := gd_some H
    refine rA ?_
    refine eX ?_
    refine oX ?_
    refine oE stepV_ok ?_
    refine oX ?_
    refine opsX0 ?_
    refine hK6 _ ?_
    refine eA ?_
    refine lf ?_
    exact nx H (wb [some 0, some 1])
  refine Sm.exit ?_
  refine lf ?_
  refine lx H fun hyy => ?_
  subst hyy
  have H := Ho2
  try dsimp only at H
  refine lf ?_
  obtain rfl := Option.some.inj H
  exact rtM [some 0, some 1]
theorem adjust_M1_len {n : Nat} {a k v : Int} {b : List Int} {r : Nat × (List Int)} (h : link_adjust_1_M1 n a k v b = some r) : r.1 = r.2.length := by
  unfold link_adjust_1_M1 at h
  obtain ⟨z, hz, h⟩ := bind_some h
  have := loop_out (fun _ => True) (fun z : Nat × List Int => z.1 = z.2.length) (fun _ _ _ _ => trivial) (fun x z _ hx => by
    unfold link_adjust_1_M1_b1 at hx
    cases hd : decide (x.2.2 ≥ a) with
    | true =>
      rw [hd, cond_true] at hx
      have hx := (gd_some (gd_some hx).2).2
      cases hx
    | false => rw [hd, cond_false] at hx; cases hx; rfl) _ _ _ trivial hz
  cases h
  exact this
abbrev link_Relocate_s1 (out : List Int) (out_1 : Nat) : S := stB [(7, .own 9000 [.int .u8] 0 out_1)] [(9000, .row 5 (List.map e_Int out))]
def link_Relocate_k1 (n : Nat) (out : List Int) (out_1 : Nat) : Option ((List Int) × Int) :=
  some ((List.take out_1 out), 0)
abbrev link_Relocate_s3 (at_ : Int) (out_4 : List Int) (out_5 : Nat) (add : Nat) (m : TLoad) (v29 : Int) (v30 : Int) : S := stB [(1, .c (.int .i64) (.int at_)), (7, .own 9005 [.int .u8] 0 out_5), (8, .fnv 84 [.box 9006 0]), (28, .c (.slice 85) (.slice (List.map e_TReloc m.Relocs))), (29, .c (.int .i64) (.int v29)), (30, .c (.int .i64) (.int v30))] [(9005, .row 5 (List.map e_Int out_4)), (9006, .box [.own 9005 [.int .u8] 0 add])]
def link_Relocate_k3 (n : Nat) (at_ : Int) (out_4 : List Int) (out_5 : Nat) (add : Nat) (m : TLoad) (v29 : Int) (v30 : Int) : Option (((List Int) × Nat × Int) ⊕ (((List Int) × Nat))) :=
  some (.inl (out_4, out_5, (IntKind.wrap .i64 (v30 + 1))))
abbrev link_Relocate_t2 (at_ : Int) (m : TLoad) (v29 : Int) (out_2 : List Int) (out_3 : Nat) (v30 : Int) : S := stB [(1, .c (.int .i64) (.int at_)), (7, .own 9003 [.int .u8] 0 out_3), (8, .fnv 84 [.box 9004 0]), (28, .c (.slice 85) (.slice (List.map e_TReloc m.Relocs))), (29, .c (.int .i64) (.int v29)), (30, .c (.int .i64) (.int v30))] [(9003, .row 5 (List.map e_Int out_2)), (9004, .box [.own 9003 [.int .u8] 0 out_2.length])]
def link_Relocate_b2 (n : Nat) (at_ : Int) (m : TLoad) (v29 : Int) (out_2 : List Int) (out_3 : Nat) (v30 : Int) : Option (((List Int) × Nat × Int) ⊕ (((List Int) × Nat))) :=
  bif (decide (v30 < v29)) then
    gd ((0 ≤ v30 ∧ v30 < (m.Relocs.length : Int))) <|
    bif (gt m.Relocs (Int.toNat v30)).Neg then
      (link_adjust_1_M1 n ((gt m.Relocs (Int.toNat v30)).At) ((gt m.Relocs (Int.toNat v30)).Len) (IntKind.wrap .i64 (0 - at_)) out_2).bind fun r3 =>
      link_Relocate_k3 n at_ r3.2 out_3 r3.1 m v29 v30
    else
      (link_adjust_1_M1 n ((gt m.Relocs (Int.toNat v30)).At) ((gt m.Relocs (Int.toNat v30)).Len) at_ out_2).bind fun r4 =>
      link_Relocate_k3 n at_ r4.2 out_3 r4.1 m v29 v30
  else
    some (.inr (out_2, out_3))
def link_Relocate (n : Nat) (m : TLoad) (at_ : Int) : Option ((List Int) × Int) :=
  (module_CheckLoad n m).bind fun r1 =>
  bif (r1 != 0) then
    some ([], r1)
  else
    bif (if (decide (at_ < 0)) = true then true else (decide (at_ ≥ 16777216))) then
      some ([], 6)
    else
      (slices_Clone_f48 n m.Text).bind fun r2 =>
      (loopF (fun (x : (List Int) × Nat × Int) => link_Relocate_b2 n at_ m (m.Relocs.length : Int) x.1 x.2.1 x.2.2) n (r2, r2.length, 0)).bind fun y15 =>
      link_Relocate_k1 n y15.1 y15.2
def xlink_Relocate (n : Nat) : Go.AE.Fn := mkFn (A := TLoad × Int) (R := (List Int) × Int) 23 [(true, [.slice 5, .slice 85, .slice 44, .int .i64]), (false, [.int .i64])] true (fun xs => ((⟨((cg (xs.getD 0 []) 0).toSl.map d_Int), ((cg (xs.getD 0 []) 1).toSl.map d_TReloc), ((cg (xs.getD 0 []) 2).toSl.map d_TSegment), (cg (xs.getD 0 []) 3).toInt⟩ : TLoad), (cg (xs.getD 1 []) 0).toInt)) (fun a => [[.slice (List.map e_Int a.1.Text), .slice (List.map e_TReloc a.1.Relocs), .slice (List.map e_TSegment a.1.Segments), .int a.1.Entry], [.int a.2]]) (fun a => link_Relocate n a.1 a.2) (fun r => [.c (.slice 5) (.slice (List.map e_Int r.1)), .c (.int .i64) (.int r.2)]) (fun r => [])
theorem clink_Relocate (n : Nat) : Contract Tryz.prog (xlink_Relocate n) := by
  have hΓ := g1 (cmodule_CheckLoad n) (g1 (cslices_Clone_f48 n) (@g0 (Contract Tryz.prog)))
  refine contract_f (Tryz.f23.body.getD .skip) h00 Tryz.func23 rfl Tryz.call23 (by decide) (by intro h; cases h) ?_
  rintro ⟨m, at_⟩ r H
  try dsimp only at H
  unfold link_Relocate at H
  simp only [Tryz.f23, Option.getD]
  refine rA ?_
  refine Sm.seqK fun K2 hK2 => ?_
  obtain ⟨r1, hr1, H⟩ := bind_some H
  have q := And.intro @xmodule_CheckLoad.eq_1 hr1
  refine rAq ?_
  refine rA ?_
  refine cnd H (fun h5 H => ?_) (fun h5 H => ?_)
  · refine rA ?_
    refine Sm.ret ?_
    refine lf ?_
    obtain rfl := Option.some.inj H
    exact rt []
  refine Sm.skip ?_
  refine hK2 _ ?_
  refine Sm.seqK fun K7 hK7 => ?_
  refine rA ?_
  refine cnd H (fun h9 H => ?_) (fun h9 H => ?_)
  · refine rA ?_
    refine Sm.ret ?_
    refine lf ?_
    obtain rfl := Option.some.inj H
    exact rt []
  refine Sm.skip ?_
  refine hK7 _ ?_
  obtain ⟨r2, hr2, H⟩ := bind_some H
  have q := And.intro @xmodule_CheckLoad.eq_1 (And.intro @xslices_Clone_f48.eq_1 hr2)
  refine rAq ?_
  refine sX fun K12 hK12 => ?_
  refine oX ?_
  refine opsE (stepC_ok maker49) fun K hK => ?_; simp only [z, seval]; (repeat (first | refine gcI ?_ | refine fun (_ : _ ≤ _) => ?_)); refine hK _ ?_; clear hK K
  refine oX ?_
  refine hK12 _ ?_
  refine Sm.cut (fun (x : (List Int) × Nat) => link_Relocate_s1 x.1 x.2) (fun x => link_Relocate_k1 n x.1 x.2 = some r) ?_ ?_
  · refine rA ?_
    refine Sm.block ?_
    obtain ⟨y15, hy15, Ho15⟩ := bind_some H
    refine Sm.loopB _ (fun x => link_Relocate_t2 at_ m (m.Relocs.length : Int) x.1 x.2.1 x.2.2) hy15 (wb [some 384, some 416]) ?_
    rintro ⟨out_2, out_3, v30⟩ z15 H
    try dsimp only at H
    unfold link_Relocate_b2 at H
    refine Sm.st (link_Relocate_t2.eq_1 ..) ?_
    refine rA ?_
    refine Sm.seqK fun K17 hK17 => ?_
    refine cnd H (fun h18 H => ?_) (fun h18 H => ?_)
    · refine Sm.skip ?_
      refine hK17 _ ?_
      refine Sm.cut (fun (x : (List Int) × Nat) => link_Relocate_s3 at_ x.1 out_3 x.2 m (m.Relocs.length : Int) v30) (fun x => link_Relocate_k3 n at_ x.1 out_3 x.2 m (m.Relocs.length : Int) v30 = some z15 ∧ x.2 = x.1.length) ?_ ?_
      · refine Sm.block ?_
        obtain ⟨hg22, H⟩ := gd_some H
        refine rA ?_
        refine rA ?_
        refine cnd H (fun h21 H => ?_) (fun h21 H => ?_)
        · refine eX ?_
          obtain ⟨r3, hr3, H⟩ := bind_some H
          have q := hr3
          iterate 7 refine oX ?_
          refine oMq (clink_adjust_1_M1 n _ _ _ _ r3 hr3) [9004, 9003] [] ?_
          refine opsX0 ?_
          refine lf ?_
          exact ⟨(r3.2, r3.1), ⟨H, adjust_M1_len hr3⟩, wb [some 9003, some 9004]⟩
        refine eX ?_
        obtain ⟨r4, hr4, H⟩ := bind_some H
        have q := hr4
        iterate 6 refine oX ?_
        refine oMq (clink_adjust_1_M1 n _ _ _ _ r4 hr4) [9004, 9003] [] ?_
        refine opsX0 ?_
        refine lf ?_
        exact ⟨(r4.2, r4.1), ⟨H, adjust_M1_len hr4⟩, wb [some 9003, some 9004]⟩
      rintro ⟨out_4, add⟩ ⟨H, hadd⟩
      try dsimp only at H hadd
      subst hadd
      unfold link_Relocate_k3 at H
      refine Sm.st (link_Relocate_s3.eq_1 ..) ?_
      refine eA ?_
      refine lf ?_
      exact nx H (wb [some 9005, some 9006])
    refine Sm.exit ?_
    refine lf ?_
    refine lx H fun hyy => ?_
    subst hyy
    have H := Ho15
    try dsimp only at H
    refine lf ?_
    exact ⟨(out_2, out_3), H, wb [some 9003]⟩
  rintro ⟨out, out_1⟩ H
  try dsimp only at H
  unfold link_Relocate_k1 at H
  refine Sm.st (link_Relocate_s1.eq_1 ..) ?_
  refine rA ?_
  refine Sm.ret ?_
  refine lf ?_
  obtain rfl := Option.some.inj H
  exact rt []
abbrev ref31_segments_s1 (m : TLoad) (from_ : Int) : S := stB [(1, .box 9000 0), (3, .c (.int .i64) (.int from_))] [(9000, .box [.c (.slice 5) (.slice (List.map e_Int m.Text)), .c (.slice 85) (.slice (List.map e_TReloc m.Relocs)), .c (.slice 44) (.slice (List.map e_TSegment m.Segments)), .c (.int .i64) (.int m.Entry)])]
def ref31_segments_k1 (n : Nat) (m : TLoad) (from_ : Int) : Option Bool :=
  some (from_ == (m.Text.length : Int))
abbrev ref31_segments_t2 (m : TLoad) (from__1 : Int) (i : Int) : S := stB [(1, .box 9002 0), (3, .c (.int .i64) (.int from__1)), (4, .c (.int .i64) (.int i))] [(9002, .box [.c (.slice 5) (.slice (List.map e_Int m.Text)), .c (.slice 85) (.slice (List.map e_TReloc m.Relocs)), .c (.slice 44) (.slice (List.map e_TSegment m.Segments)), .c (.int .i64) (.int m.Entry)])]
def ref31_segments_b2 (n : Nat) (m : TLoad) (from__1 : Int) (i : Int) : Option ((Int × Int) ⊕ (((Bool) ⊕ (Int)))) :=
  bif (decide (i < (m.Segments.length : Int))) then
    gd ((0 ≤ i ∧ i < (m.Segments.length : Int))) <|
    bif (if (if (if (if (decide (((gt m.Segments (Int.toNat i)).Len) < 0)) = true then true else (decide (((gt m.Segments (Int.toNat i)).Origin) < 0))) = true then true else (decide (((gt m.Segments (Int.toNat i)).Origin) > 65536))) = true then true else (decide (((gt m.Segments (Int.toNat i)).Len) > (IntKind.wrap .i64 (65536 - ((gt m.Segments (Int.toNat i)).Origin)))))) = true then true else (((gt m.Segments (Int.toNat i)).From) != from__1)) then
      some (.inr (.inl false))
    else
      gd ((((i == 0) && !(((gt m.Segments (Int.toNat i)).Parent) != (-1))) = true → ((i == 0) && (!(((gt m.Segments (Int.toNat i)).Parent) != (-1)))) = true) ∧ (((i == 0) && !(if (((gt m.Segments (Int.toNat i)).Parent) != (-1)) = true then true else (((gt m.Segments (Int.toNat i)).Origin) != 0))) = true → ((i == 0) && (!(if (((gt m.Segments (Int.toNat i)).Parent) != (-1)) = true then true else (((gt m.Segments (Int.toNat i)).Origin) != 0)))) = true)) <|
      bif (if (i == 0) = true then (if (if (((gt m.Segments (Int.toNat i)).Parent) != (-1)) = true then true else (((gt m.Segments (Int.toNat i)).Origin) != 0)) = true then true else (decide (((gt m.Segments (Int.toNat i)).Len) < 1))) else false) then
        some (.inr (.inl false))
      else
        gd ((((decide (i > 0)) && !(decide (((gt m.Segments (Int.toNat i)).Parent) < 0))) = true → ((decide (i > 0)) && (!(decide (((gt m.Segments (Int.toNat i)).Parent) < 0)))) = true) ∧ (((decide (i > 0)) && (!(if (decide (((gt m.Segments (Int.toNat i)).Parent) < 0)) = true then true else (decide (((gt m.Segments (Int.toNat i)).Parent) ≥ i))))) = true → (0 ≤ ((gt m.Segments (Int.toNat i)).Parent) ∧ ((gt m.Segments (Int.toNat i)).Parent) < (m.Segments.length : Int))) ∧ (((decide (i > 0)) && (!(if (decide (((gt m.Segments (Int.toNat i)).Parent) < 0)) = true then true else (decide (((gt m.Segments (Int.toNat i)).Parent) ≥ i))))) = true → (0 ≤ ((gt m.Segments (Int.toNat i)).Parent) ∧ ((gt m.Segments (Int.toNat i)).Parent) < (m.Segments.length : Int))) ∧ (((decide (i > 0)) && !(if (decide (((gt m.Segments (Int.toNat i)).Parent) < 0)) = true then true else (decide (((gt m.Segments (Int.toNat i)).Parent) ≥ i)))) = true → ((decide (i > 0)) && (!(if (decide (((gt m.Segments (Int.toNat i)).Parent) < 0)) = true then true else (decide (((gt m.Segments (Int.toNat i)).Parent) ≥ i))))) = true)) <|
        bif (if (decide (i > 0)) = true then (if (if (decide (((gt m.Segments (Int.toNat i)).Parent) < 0)) = true then true else (decide (((gt m.Segments (Int.toNat i)).Parent) ≥ i))) = true then true else (decide (((gt m.Segments (Int.toNat i)).Origin) < (IntKind.wrap .i64 (((gt m.Segments (Int.toNat ((gt m.Segments (Int.toNat i)).Parent))).Origin) + ((gt m.Segments (Int.toNat ((gt m.Segments (Int.toNat i)).Parent))).Len)))))) else false) then
          some (.inr (.inl false))
        else
          some (.inl ((IntKind.wrap .i64 (from__1 + ((gt m.Segments (Int.toNat i)).Len))), (IntKind.wrap .i64 (i + 1))))
  else
    some (.inr (.inr from__1))
def ref31_segments (n : Nat) (m : TLoad) : Option Bool :=
  bif (if (decide ((m.Segments.length : Int) < 1)) = true then true else (decide ((m.Segments.length : Int) > 64))) then
    some false
  else
    (loopF (fun (x : Int × Int) => ref31_segments_b2 n m x.1 x.2) n (0, 0)).bind fun y9 =>
    match y9 with
    | .inl vv =>
      some vv
    | .inr vv =>
      ref31_segments_k1 n m vv
def xref31_segments (n : Nat) : Go.AE.Fn := mkFn (A := TLoad) (R := Bool) 42 [(true, [.slice 5, .slice 85, .slice 44, .int .i64])] false (fun xs => (⟨((cg (xs.getD 0 []) 0).toSl.map d_Int), ((cg (xs.getD 0 []) 1).toSl.map d_TReloc), ((cg (xs.getD 0 []) 2).toSl.map d_TSegment), (cg (xs.getD 0 []) 3).toInt⟩ : TLoad)) (fun a => [[.slice (List.map e_Int a.Text), .slice (List.map e_TReloc a.Relocs), .slice (List.map e_TSegment a.Segments), .int a.Entry]]) (fun a => ref31_segments n a) (fun r => [.c .bool (.bool r)]) (fun r => [])
theorem cref31_segments (n : Nat) : Contract Tryz.prog (xref31_segments n) := by
  have hΓ := @g0 (Contract Tryz.prog)
  refine contract_f (Tryz.f42.body.getD .skip) h00 Tryz.func42 rfl Tryz.call42 (by decide) (by intro _ r; exact ⟨rfl, by simp⟩) ?_
  rintro m r H
  try dsimp only at H
  unfold ref31_segments at H
  simp only [Tryz.f42, Option.getD]
  refine rA ?_
  refine Sm.seqK fun K2 hK2 => ?_
  refine rA ?_
  refine cnd H (fun h4 H => ?_) (fun h4 H => ?_)
  · refine rA ?_
    refine Sm.ret ?_
    refine lf ?_
    obtain rfl := Option.some.inj H
    exact rt []
  refine Sm.skip ?_
  refine hK2 _ ?_
  refine rA ?_
  refine Sm.cut (fun (x : Int) => ref31_segments_s1 m x) (fun x => ref31_segments_k1 n m x = some r) ?_ ?_
  · refine rA ?_
    refine Sm.block ?_
    obtain ⟨y9, hy9, Ho9⟩ := bind_some H
    refine Sm.loopB _ (fun x => ref31_segments_t2 m x.1 x.2) hy9 (wb [some 16]) ?_
    rintro ⟨from__1, i⟩ z9 H
    try dsimp only at H
    unfold ref31_segments_b2 at H
    refine Sm.st (ref31_segments_t2.eq_1 ..) ?_
    refine Sm.seqK fun K10 hK10 => ?_
    refine rA ?_
    refine cnd H (fun h12 H => ?_) (fun h12 H => ?_)
    · refine Sm.skip ?_
      refine hK10 _ ?_
      refine Sm.seqK fun K13 hK13 => ?_
      refine Sm.block ?_
      obtain ⟨hg33, H⟩ := gd_some H
      refine rA ?_
      refine Sm.seqK fun K15 hK15 => ?_
      refine rA ?_
      refine cnd H (fun h17 H => ?_) (fun h17 H => ?_)
      · refine rA ?_
        refine Sm.ret ?_
        refine lf ?_
        refine lx H fun hyy => ?_
        subst hyy
        have H := Ho9
        try dsimp only at H
        refine lf ?_
        obtain rfl := Option.some.inj H
        exact rt []
      refine Sm.skip ?_
      refine hK15 _ ?_
      refine Sm.seqK fun K19 hK19 => ?_
      obtain ⟨⟨hg31, hg32⟩, H⟩ := gd_some H
      refine rA ?_
      refine cnd H (fun h21 H => ?_) (fun h21 H => ?_)
      · refine rA ?_
        refine Sm.ret ?_
        refine lf ?_
        refine lx H fun hyy => ?_
        subst hyy
        have H := Ho9
        try dsimp only at H
        refine lf ?_
        obtain rfl := Option.some.inj H
        exact rt []
      refine Sm.skip ?_
      refine hK19 _ ?_
      refine Sm.seqK fun K23 hK23 => ?_
      obtain ⟨⟨hg27, hg28, hg29, hg30⟩, H⟩ := gd_some H
      refine rD ?_
      refine cnd H (fun h25 H => ?_) (fun h25 H => ?_)
      · refine rA ?_
        refine Sm.ret ?_
        refine lf ?_
        refine lx H fun hyy => ?_
        subst hyy
        have H := Ho9
        try dsimp only at H
        refine lf ?_
        obtain rfl := Option.some.inj H
        exact rt []
      refine Sm.skip ?_
      refine hK23 _ ?_
      refine eA ?_
      refine hK13 _ ?_
      refine eA ?_
      refine lf ?_
      exact nx H (wb [some 9002])
    refine Sm.exit ?_
    refine lf ?_
    refine lx H fun hyy => ?_
    subst hyy
    have H := Ho9
    try dsimp only at H
    refine lf ?_
    exact ⟨_, H, wb [some 9002]⟩
  rintro from_ H
  try dsimp only at H
  unfold ref31_segments_k1 at H
  refine Sm.st (ref31_segments_s1.eq_1 ..) ?_
  refine rA ?_
  refine Sm.ret ?_
  refine lf ?_
  obtain rfl := Option.some.inj H
  exact rt []
abbrev ref31_CheckLoad_s1 : S := stB [] []
def ref31_CheckLoad_k1 (n : Nat) : Option Bool :=
  some true
abbrev ref31_CheckLoad_s3 (m : TLoad) (i : Int) : S := stB [(1, .box 9002 0), (3, .c (.int .i64) (.int i))] [(9002, .box [.c (.slice 5) (.slice (List.map e_Int m.Text)), .c (.slice 85) (.slice (List.map e_TReloc m.Relocs)), .c (.slice 44) (.slice (List.map e_TSegment m.Segments)), .c (.int .i64) (.int m.Entry)])]
def ref31_CheckLoad_k3 (n : Nat) (m : TLoad) (i : Int) : Option ((Int) ⊕ (((Bool) ⊕ (Unit)))) :=
  some (.inl (IntKind.wrap .i64 (i + 1)))
abbrev ref31_CheckLoad_s4 (m : TLoad) (i : Int) (in_ : Bool) : S := stB [(1, .box 9003 0), (3, .c (.int .i64) (.int i)), (5, .c .bool (.bool in_))] [(9003, .box [.c (.slice 5) (.slice (List.map e_Int m.Text)), .c (.slice 85) (.slice (List.map e_TReloc m.Relocs)), .c (.slice 44) (.slice (List.map e_TSegment m.Segments)), .c (.int .i64) (.int m.Entry)])]
def ref31_CheckLoad_k4 (n : Nat) (m : TLoad) (i : Int) (in_ : Bool) : Option ((Int) ⊕ (((Bool) ⊕ (Unit)))) :=
  bif (!in_) then
    some (.inr (.inl false))
  else
    ref31_CheckLoad_k3 n m i
abbrev ref31_CheckLoad_t5 (m : TLoad) (i : Int) (r : Int) (r_1 : Int) (r_2 : Bool) (in__1 : Bool) (k : Int) : S := stB [(1, .box 9006 0), (3, .c (.int .i64) (.int i)), (4, .box 9007 0), (5, .c .bool (.bool in__1)), (6, .c (.int .i64) (.int k))] [(9006, .box [.c (.slice 5) (.slice (List.map e_Int m.Text)), .c (.slice 85) (.slice (List.map e_TReloc m.Relocs)), .c (.slice 44) (.slice (List.map e_TSegment m.Segments)), .c (.int .i64) (.int m.Entry)]), (9007, .box [.c (.int .i64) (.int r), .c (.int .i64) (.int r_1), .c .bool (.bool r_2)])]
def ref31_CheckLoad_b5 (n : Nat) (m : TLoad) (i : Int) (r : Int) (r_1 : Int) (r_2 : Bool) (in__1 : Bool) (k : Int) : Option ((Bool × Int) ⊕ ((Bool))) :=
  bif (decide (k < (m.Segments.length : Int))) then
    gd ((0 ≤ k ∧ k < (m.Segments.length : Int))) <|
    some (.inl ((if in__1 = true then true else (if (decide (r ≥ ((gt m.Segments (Int.toNat k)).From))) = true then (decide ((IntKind.wrap .i64 (r + r_1)) ≤ (IntKind.wrap .i64 (((gt m.Segments (Int.toNat k)).From) + ((gt m.Segments (Int.toNat k)).Len))))) else false)), (IntKind.wrap .i64 (k + 1))))
  else
    some (.inr in__1)
abbrev ref31_CheckLoad_t2 (m : TLoad) (i : Int) : S := stB [(1, .box 9001 0), (3, .c (.int .i64) (.int i))] [(9001, .box [.c (.slice 5) (.slice (List.map e_Int m.Text)), .c (.slice 85) (.slice (List.map e_TReloc m.Relocs)), .c (.slice 44) (.slice (List.map e_TSegment m.Segments)), .c (.int .i64) (.int m.Entry)])]
def ref31_CheckLoad_b2 (n : Nat) (m : TLoad) (i : Int) : Option ((Int) ⊕ (((Bool) ⊕ (Unit)))) :=
  bif (decide (i < (m.Relocs.length : Int))) then
    gd ((0 ≤ i ∧ i < (m.Relocs.length : Int))) <|
    gd ((((!(if (if (if (decide (((gt m.Relocs (Int.toNat i)).Len) < 1)) = true then true else (decide (((gt m.Relocs (Int.toNat i)).Len) > 4))) = true then true else (decide (((gt m.Relocs (Int.toNat i)).At) < 0))) = true then true else (decide (((gt m.Relocs (Int.toNat i)).At) > (m.Text.length : Int))))) && (decide (i > 0))) = true → (0 ≤ (IntKind.wrap .i64 (i - 1)) ∧ (IntKind.wrap .i64 (i - 1)) < (m.Relocs.length : Int))) ∧ (((!(if (if (if (decide (((gt m.Relocs (Int.toNat i)).Len) < 1)) = true then true else (decide (((gt m.Relocs (Int.toNat i)).Len) > 4))) = true then true else (decide (((gt m.Relocs (Int.toNat i)).At) < 0))) = true then true else (decide (((gt m.Relocs (Int.toNat i)).At) > (m.Text.length : Int))))) && (decide (i > 0))) = true → (0 ≤ (IntKind.wrap .i64 (i - 1)) ∧ (IntKind.wrap .i64 (i - 1)) < (m.Relocs.length : Int)))) <|
    bif (if (if (if (if (decide (((gt m.Relocs (Int.toNat i)).Len) < 1)) = true then true else (decide (((gt m.Relocs (Int.toNat i)).Len) > 4))) = true then true else (decide (((gt m.Relocs (Int.toNat i)).At) < 0))) = true then true else (decide (((gt m.Relocs (Int.toNat i)).At) > (m.Text.length : Int)))) = true then true else (if (decide (i > 0)) = true then (decide (((gt m.Relocs (Int.toNat i)).At) < (IntKind.wrap .i64 (((gt m.Relocs (Int.toNat (IntKind.wrap .i64 (i - 1)))).At) + ((gt m.Relocs (Int.toNat (IntKind.wrap .i64 (i - 1)))).Len))))) else false)) then
      some (.inr (.inl false))
    else
      (loopF (fun (x : Bool × Int) => ref31_CheckLoad_b5 n m i ((gt m.Relocs (Int.toNat i)).At) ((gt m.Relocs (Int.toNat i)).Len) ((gt m.Relocs (Int.toNat i)).Neg) x.1 x.2) n (false, 0)).bind fun y22 =>
      ref31_CheckLoad_k4 n m i y22
  else
    some (.inr (.inr ()))
def ref31_CheckLoad (n : Nat) (m : TLoad) : Option Bool :=
  (ref31_segments n m).bind fun r1 =>
  gd (((!(if (if (!r1) = true then true else (decide ((m.Relocs.length : Int) > 8192))) = true then true else (decide (m.Entry < 0)))) = true → 0 < (m.Segments.length : Int))) <|
  bif (if (if (if (!r1) = true then true else (decide ((m.Relocs.length : Int) > 8192))) = true then true else (decide (m.Entry < 0))) = true then true else (decide (m.Entry ≥ ((gt m.Segments 0).Len)))) then
    some false
  else
    (loopF (fun (x : Int) => ref31_CheckLoad_b2 n m x) n 0).bind fun y8 =>
    match y8 with
    | .inl vv =>
      some vv
    | .inr vv =>
      ref31_CheckLoad_k1 n
def xref31_CheckLoad (n : Nat) : Go.AE.Fn := mkFn (A := TLoad) (R := Bool) 15 [(true, [.slice 5, .slice 85, .slice 44, .int .i64])] false (fun xs => (⟨((cg (xs.getD 0 []) 0).toSl.map d_Int), ((cg (xs.getD 0 []) 1).toSl.map d_TReloc), ((cg (xs.getD 0 []) 2).toSl.map d_TSegment), (cg (xs.getD 0 []) 3).toInt⟩ : TLoad)) (fun a => [[.slice (List.map e_Int a.Text), .slice (List.map e_TReloc a.Relocs), .slice (List.map e_TSegment a.Segments), .int a.Entry]]) (fun a => ref31_CheckLoad n a) (fun r => [.c .bool (.bool r)]) (fun r => [])
theorem cref31_CheckLoad (n : Nat) : Contract Tryz.prog (xref31_CheckLoad n) := by
  have hΓ := g1 (cref31_segments n) (@g0 (Contract Tryz.prog))
  refine contract_f (Tryz.f15.body.getD .skip) h00 Tryz.func15 rfl Tryz.call15 (by decide) (by intro _ r; exact ⟨rfl, by simp⟩) ?_
  rintro m r H
  try dsimp only at H
  unfold ref31_CheckLoad at H
  simp only [Tryz.f15, Option.getD]
  refine rA ?_
  refine Sm.seqK fun K2 hK2 => ?_
  obtain ⟨r1, hr1, H⟩ := bind_some H
  obtain ⟨hg32, H⟩ := gd_some H
  have q := And.intro @xref31_segments.eq_1 hr1
  refine rDq ?_
  refine cnd H (fun h4 H => ?_) (fun h4 H => ?_)
  · refine rA ?_
    refine Sm.ret ?_
    refine lf ?_
    obtain rfl := Option.some.inj H
    exact rt []
  refine Sm.skip ?_
  refine hK2 _ ?_
  refine Sm.cut (fun (x : Unit) => ref31_CheckLoad_s1) (fun x => ref31_CheckLoad_k1 n = some r) ?_ ?_
  · refine rA ?_
    refine Sm.block ?_
    obtain ⟨y8, hy8, Ho8⟩ := bind_some H
    refine Sm.loopB _ (fun x => ref31_CheckLoad_t2 m x) hy8 (wb [some 16]) ?_
    rintro i z8 H
    try dsimp only at H
    unfold ref31_CheckLoad_b2 at H
    refine Sm.st (ref31_CheckLoad_t2.eq_1 ..) ?_
    refine Sm.seqK fun K9 hK9 => ?_
    refine rA ?_
    refine cnd H (fun h11 H => ?_) (fun h11 H => ?_)
    · refine Sm.skip ?_
      refine hK9 _ ?_
      refine Sm.cut (fun (x : Unit) => ref31_CheckLoad_s3 m i) (fun x => ref31_CheckLoad_k3 n m i = some z8) ?_ ?_
      · refine Sm.block ?_
        obtain ⟨hg31, H⟩ := gd_some H
        refine rA ?_
        refine Sm.seqK fun K13 hK13 => ?_
        obtain ⟨⟨hg29, hg30⟩, H⟩ := gd_some H
        refine rD ?_
        refine cnd H (fun h15 H => ?_) (fun h15 H => ?_)
        · refine rA ?_
          refine Sm.ret ?_
          refine lf ?_
          refine lx H fun hyy => ?_
          subst hyy
          have H := Ho8
          try dsimp only at H
          refine lf ?_
          obtain rfl := Option.some.inj H
          exact rt []
        refine Sm.skip ?_
        refine hK13 _ ?_
        refine rA ?_
        refine Sm.cut (fun (x : Bool) => ref31_CheckLoad_s4 m i x) (fun x => ref31_CheckLoad_k4 n m i x = some z8) ?_ ?_
        · refine rA ?_
          refine Sm.block ?_
          obtain ⟨y22, hy22, Ho22⟩ := bind_some H
          refine Sm.loopB _ (fun x => ref31_CheckLoad_t5 m i ((gt m.Relocs (Int.toNat i)).At) ((gt m.Relocs (Int.toNat i)).Len) ((gt m.Relocs (Int.toNat i)).Neg) x.1 x.2) hy22 (wb [some 9001, some 64]) ?_
          rintro ⟨in__1, k⟩ z22 H
          try dsimp only at H
          unfold ref31_CheckLoad_b5 at H
          refine Sm.st (ref31_CheckLoad_t5.eq_1 ..) ?_
          refine Sm.seqK fun K23 hK23 => ?_
          refine rA ?_
          refine cnd H (fun h25 H => ?_) (fun h25 H => ?_)
          · refine Sm.skip ?_
            refine hK23 _ ?_
            refine Sm.seqK fun K26 hK26 => ?_
            refine Sm.block ?_
            obtain ⟨hg28, H⟩ := gd_some H
            refine rA ?_
            refine eA ?_
            refine hK26 _ ?_
            refine eA ?_
            refine lf ?_
            exact nx H (wb [some 9006, some 9007])
          refine Sm.exit ?_
          refine lf ?_
          refine lx H fun hyy => ?_
          subst hyy
          have H := Ho22
          try dsimp only at H
          refine lf ?_
          exact ⟨_, H, wb [some 9006]⟩
        rintro in_ H
        try dsimp only at H
        unfold ref31_CheckLoad_k4 at H
        refine Sm.st (ref31_CheckLoad_s4.eq_1 ..) ?_
        refine rA ?_
        refine cnd H (fun h19 H => ?_) (fun h19 H => ?_)
        · refine rA ?_
          refine Sm.ret ?_
          refine lf ?_
          refine lx H fun hyy => ?_
          subst hyy
          have H := Ho8
          try dsimp only at H
          refine lf ?_
          obtain rfl := Option.some.inj H
          exact rt []
        refine Sm.skip ?_
        refine lf ?_
        exact ⟨(), H, wb [some 9003]⟩
      rintro ⟨⟩ H
      try dsimp only at H
      unfold ref31_CheckLoad_k3 at H
      refine Sm.st (ref31_CheckLoad_s3.eq_1 ..) ?_
      refine eA ?_
      refine lf ?_
      exact nx H (wb [some 9002])
    refine Sm.exit ?_
    refine lf ?_
    refine lx H fun hyy => ?_
    subst hyy
    have H := Ho8
    try dsimp only at H
    refine lf ?_
    exact ⟨(), H, wb []⟩
  rintro ⟨⟩ H
  try dsimp only at H
  unfold ref31_CheckLoad_k1 at H
  refine Sm.st (ref31_CheckLoad_s1.eq_1 ..) ?_
  refine rA ?_
  refine Sm.ret ?_
  refine lf ?_
  obtain rfl := Option.some.inj H
  exact rt []
abbrev ref32_Adjust_M2_s2 (b0_1 : List Int) (b_2 : Nat) (at_ : Int) (v_1 : Int) (i : Int) : S := stB [(0, .own 0 [.int .u8] 0 b_2), (1, .c (.int .i64) (.int at_)), (8, .c (.int .i64) (.int v_1)), (9, .c (.int .i64) (.int i))] [(0, .row 5 (List.map e_Int b0_1))]
def ref32_Adjust_M2_k2 (n : Nat) (b0_1 : List Int) (b_2 : Nat) (at_ : Int) (v_1 : Int) (i : Int) : Option (((List Int) × Nat × Int × Int) ⊕ (((List Int)))) :=
  some (.inl (b0_1, b_2, v_1, (IntKind.wrap .i64 (i - 1))))
abbrev ref32_Adjust_M2_s3 (b0 : List Int) (b_3 : Nat) (at_ : Int) (v_2 : Int) (i : Int) (r : Int) : S := stB [(0, .own 0 [.int .u8] 0 b_3), (1, .c (.int .i64) (.int at_)), (8, .c (.int .i64) (.int v_2)), (9, .c (.int .i64) (.int i)), (10, .c (.int .i64) (.int r))] [(0, .row 5 (List.map e_Int b0))]
def ref32_Adjust_M2_k3 (n : Nat) (b0 : List Int) (b_3 : Nat) (at_ : Int) (v_2 : Int) (i : Int) (r : Int) : Option (((List Int) × Nat × Int × Int) ⊕ (((List Int)))) :=
  gd ((0 ≤ (IntKind.wrap .i64 (at_ + i)) ∧ (IntKind.wrap .i64 (at_ + i)) < (b_3 : Int)) ∧ (Int.toNat (IntKind.wrap .i64 (at_ + i))) < b0.length) <|
  ref32_Adjust_M2_k2 n (List.set b0 (Int.toNat (IntKind.wrap .i64 (at_ + i))) (IntKind.wrap .u8 (r))) b_3 at_ (IntKind.wrap .i64 (Int.tdiv (IntKind.wrap .i64 (v_2 - r)) 256)) i
abbrev ref32_Adjust_M2_t1 (at_ : Int) (b0 : List Int) (b_1 : Nat) (v : Int) (i : Int) : S := stB [(0, .own 0 [.int .u8] 0 b_1), (1, .c (.int .i64) (.int at_)), (8, .c (.int .i64) (.int v)), (9, .c (.int .i64) (.int i))] [(0, .row 5 (List.map e_Int b0))]
def ref32_Adjust_M2_b1 (n : Nat) (at_ : Int) (b0 : List Int) (b_1 : Nat) (v : Int) (i : Int) : Option (((List Int) × Nat × Int × Int) ⊕ (((List Int)))) :=
  bif (decide (i ≥ 0)) then
    gd ((0 ≤ (IntKind.wrap .i64 (at_ + i)) ∧ (IntKind.wrap .i64 (at_ + i)) < (b_1 : Int)) ∧ (Int.toNat (IntKind.wrap .i64 (at_ + i))) < b0.length) <|
    bif (decide ((Int.tmod (IntKind.wrap .i64 (v + (IntKind.wrap .i64 ((gt b0 (Int.toNat (IntKind.wrap .i64 (at_ + i)))))))) 256) < 0)) then
      ref32_Adjust_M2_k3 n b0 b_1 at_ (IntKind.wrap .i64 (v + (IntKind.wrap .i64 ((gt b0 (Int.toNat (IntKind.wrap .i64 (at_ + i)))))))) i (IntKind.wrap .i64 ((Int.tmod (IntKind.wrap .i64 (v + (IntKind.wrap .i64 ((gt b0 (Int.toNat (IntKind.wrap .i64 (at_ + i)))))))) 256) + 256))
    else
      ref32_Adjust_M2_k3 n b0 b_1 at_ (IntKind.wrap .i64 (v + (IntKind.wrap .i64 ((gt b0 (Int.toNat (IntKind.wrap .i64 (at_ + i)))))))) i (Int.tmod (IntKind.wrap .i64 (v + (IntKind.wrap .i64 ((gt b0 (Int.toNat (IntKind.wrap .i64 (at_ + i)))))))) 256)
  else
    some (.inr b0)
def ref32_Adjust_M2 (n : Nat) (b : List Int) (b_l : Nat) (at_ : Int) (n_ : Int) (by_ : Int) : Option (List Int) :=
  (loopF (fun (x : (List Int) × Nat × Int × Int) => ref32_Adjust_M2_b1 n at_ x.1 x.2.1 x.2.2.1 x.2.2.2) n (b, b_l, by_, (IntKind.wrap .i64 (n_ - 1)))).bind fun y3 =>
  some y3
theorem cref32_Adjust_M2 (n : Nat) (b : List Int) (b_l : Nat) (at_ : Int) (n_ : Int) (by_ : Int) (r : (List Int)) (H : ref32_Adjust_M2 n b b_l at_ n_ by_ = some r) : CallsM Tryz.prog 50 [.ref (.own 0 [.int .u8] 0 b_l), .dat (false, [.int .i64]) [.int at_], .dat (false, [.int .i64]) [.int n_], .dat (false, [.int .i64]) [.int by_]] [.row 5 (List.map e_Int b)] [] [.row 5 (List.map e_Int r)] := by
  have hΓ := @g0 (Contract Tryz.prog)
  refine callsM_of (Tryz.f50.body.getD .skip) h00 Tryz.func50 rfl Tryz.call50 (Nat.le_of_ble_eq_true rfl) (Nat.le_of_ble_eq_true rfl) ?_
  unfold ref32_Adjust_M2 at H
  simp only [Tryz.f50, Option.getD]
  refine rA ?_
  refine rA ?_
  refine Sm.block ?_
  obtain ⟨y3, hy3, Ho3⟩ := bind_some H
  refine Sm.loopB _ (fun x => ref32_Adjust_M2_t1 at_ x.1 x.2.1 x.2.2.1 x.2.2.2) hy3 (wb [some 0]) ?_
  rintro ⟨b0, b_1, v, i⟩ z3 H
  try dsimp only at H
  unfold ref32_Adjust_M2_b1 at H
  refine Sm.st (ref32_Adjust_M2_t1.eq_1 ..) ?_
  refine Sm.seqK fun K4 hK4 => ?_
  refine rA ?_
  refine cnd H (fun h6 H => ?_) (fun h6 H => ?_)
  · refine Sm.skip ?_
    refine hK4 _ ?_
    refine Sm.cut (fun (x : (List Int) × Nat × Int) => ref32_Adjust_M2_s2 x.1 x.2.1 at_ x.2.2 i) (fun x => ref32_Adjust_M2_k2 n x.1 x.2.1 at_ x.2.2 i = some z3) ?_ ?_
    · refine Sm.block ?_
      obtain ⟨⟨hg14, hg15⟩, H⟩ := gd_some H
      refine rA ?_
      refine rA ?_
      refine Sm.cut (fun (x : Int) => ref32_Adjust_M2_s3 b0 b_1 at_ (IntKind.wrap .i64 (v + (IntKind.wrap .i64 ((gt b0 (Int.toNat (IntKind.wrap .i64 (at_ + i)))))))) i x) (fun x => ref32_Adjust_M2_k3 n b0 b_1 at_ (IntKind.wrap .i64 (v + (IntKind.wrap .i64 ((gt b0 (Int.toNat (IntKind.wrap .i64 (at_ + i)))))))) i x = some z3) ?_ ?_
      · refine rA ?_
        refine cnd H (fun h13 H => ?_) (fun h13 H => ?_)
        · refine eA ?_
          refine lf ?_
          exact ⟨_, H, wb [some 0]⟩
        refine Sm.skip ?_
        refine lf ?_
        exact ⟨_, H, wb [some 0]⟩
      rintro r H
      try dsimp only at H
      unfold ref32_Adjust_M2_k3 at H
      refine Sm.st (ref32_Adjust_M2_s3.eq_1 ..) ?_
      obtain ⟨⟨hg10, hg11⟩, H⟩ := gd_some H
      refine rA ?_
      refine eA ?_
      refine lf ?_
      exact ⟨((List.set b0 (Int.toNat (IntKind.wrap .i64 (at_ + i))) (IntKind.wrap .u8 (r))), b_1, (IntKind.wrap .i64 (Int.tdiv (IntKind.wrap .i64 ((IntKind.wrap .i64 (v + (IntKind.wrap .i64 ((gt b0 (Int.toNat (IntKind.wrap .i64 (at_ + i)))))))) - r)) 256))), H, wb [some 0]⟩
    rintro ⟨b0_1, b_2, v_1⟩ H
    try dsimp only at H
    unfold ref32_Adjust_M2_k2 at H
    refine Sm.st (ref32_Adjust_M2_s2.eq_1 ..) ?_
    refine eA ?_
    refine lf ?_
    exact nx H (wb [some 0])
  refine Sm.exit ?_
  refine lf ?_
  refine lx H fun hyy => ?_
  subst hyy
  have H := Ho3
  try dsimp only at H
  refine lf ?_
  obtain rfl := Option.some.inj H
  exact rtM [some 0]
abbrev ref32_Relocate_s1 (out : List Int) (out_1 : Nat) : S := stB [(6, .own 9000 [.int .u8] 0 out_1)] [(9000, .row 5 (List.map e_Int out))]
def ref32_Relocate_k1 (n : Nat) (out : List Int) (out_1 : Nat) : Option ((List Int) × Int) :=
  some ((List.take out_1 out), 0)
abbrev ref32_Relocate_s3 (at_ : Int) (m : TLoad) (out_4 : List Int) (out_5 : Nat) (i : Int) : S := stB [(1, .c (.int .i64) (.int at_)), (2, .box 9005 0), (6, .own 9006 [.int .u8] 0 out_5), (7, .c (.int .i64) (.int i))] [(9005, .box [.c (.slice 5) (.slice (List.map e_Int m.Text)), .c (.slice 85) (.slice (List.map e_TReloc m.Relocs)), .c (.slice 44) (.slice (List.map e_TSegment m.Segments)), .c (.int .i64) (.int m.Entry)]), (9006, .row 5 (List.map e_Int out_4))]
def ref32_Relocate_k3 (n : Nat) (at_ : Int) (m : TLoad) (out_4 : List Int) (out_5 : Nat) (i : Int) : Option (((List Int) × Nat × Int) ⊕ (((List Int) × Nat))) :=
  some (.inl (out_4, out_5, (IntKind.wrap .i64 (i + 1))))
abbrev ref32_Relocate_s4 (at_ : Int) (m : TLoad) (out_2 : List Int) (out_6 : Nat) (i : Int) (by_ : Int) : S := stB [(1, .c (.int .i64) (.int at_)), (2, .box 9007 0), (6, .own 9008 [.int .u8] 0 out_6), (7, .c (.int .i64) (.int i)), (8, .c (.int .i64) (.int by_))] [(9007, .box [.c (.slice 5) (.slice (List.map e_Int m.Text)), .c (.slice 85) (.slice (List.map e_TReloc m.Relocs)), .c (.slice 44) (.slice (List.map e_TSegment m.Segments)), .c (.int .i64) (.int m.Entry)]), (9008, .row 5 (List.map e_Int out_2))]
def ref32_Relocate_k4 (n : Nat) (at_ : Int) (m : TLoad) (out_2 : List Int) (out_6 : Nat) (i : Int) (by_ : Int) : Option (((List Int) × Nat × Int) ⊕ (((List Int) × Nat))) :=
  gd ((0 ≤ i ∧ i < (m.Relocs.length : Int)) ∧ (0 ≤ i ∧ i < (m.Relocs.length : Int))) <|
  (ref32_Adjust_M2 n out_2 out_6 ((gt m.Relocs (Int.toNat i)).At) ((gt m.Relocs (Int.toNat i)).Len) by_).bind fun r2 =>
  ref32_Relocate_k3 n at_ m r2 out_6 i
abbrev ref32_Relocate_t2 (at_ : Int) (m : TLoad) (out_2 : List Int) (out_3 : Nat) (i : Int) : S := stB [(1, .c (.int .i64) (.int at_)), (2, .box 9003 0), (6, .own 9004 [.int .u8] 0 out_3), (7, .c (.int .i64) (.int i))] [(9003, .box [.c (.slice 5) (.slice (List.map e_Int m.Text)), .c (.slice 85) (.slice (List.map e_TReloc m.Relocs)), .c (.slice 44) (.slice (List.map e_TSegment m.Segments)), .c (.int .i64) (.int m.Entry)]), (9004, .row 5 (List.map e_Int out_2))]
def ref32_Relocate_b2 (n : Nat) (at_ : Int) (m : TLoad) (out_2 : List Int) (out_3 : Nat) (i : Int) : Option (((List Int) × Nat × Int) ⊕ (((List Int) × Nat))) :=
  bif (decide (i < (m.Relocs.length : Int))) then
    gd ((0 ≤ i ∧ i < (m.Relocs.length : Int))) <|
    bif (gt m.Relocs (Int.toNat i)).Neg then
      ref32_Relocate_k4 n at_ m out_2 out_3 i (IntKind.wrap .i64 (0 - at_))
    else
      ref32_Relocate_k4 n at_ m out_2 out_3 i at_
  else
    some (.inr (out_2, out_3))
def ref32_Relocate (n : Nat) (m : TLoad) (at_ : Int) : Option ((List Int) × Int) :=
  (ref31_CheckLoad n m).bind fun r1 =>
  bif (!r1) then
    some ([], 310)
  else
    bif (if (decide (at_ < 0)) = true then true else (decide (at_ > 16777215))) then
      some ([], 6)
    else
      gd (m.Text.length ≤ 2147483648) <|
      (loopF (fun (x : (List Int) × Nat × Int) => ref32_Relocate_b2 n at_ m x.1 x.2.1 x.2.2) n (m.Text, m.Text.length, 0)).bind fun y13 =>
      ref32_Relocate_k1 n y13.1 y13.2
def xref32_Relocate (n : Nat) : Go.AE.Fn := mkFn (A := TLoad × Int) (R := (List Int) × Int) 25 [(true, [.slice 5, .slice 85, .slice 44, .int .i64]), (false, [.int .i64])] true (fun xs => ((⟨((cg (xs.getD 0 []) 0).toSl.map d_Int), ((cg (xs.getD 0 []) 1).toSl.map d_TReloc), ((cg (xs.getD 0 []) 2).toSl.map d_TSegment), (cg (xs.getD 0 []) 3).toInt⟩ : TLoad), (cg (xs.getD 1 []) 0).toInt)) (fun a => [[.slice (List.map e_Int a.1.Text), .slice (List.map e_TReloc a.1.Relocs), .slice (List.map e_TSegment a.1.Segments), .int a.1.Entry], [.int a.2]]) (fun a => ref32_Relocate n a.1 a.2) (fun r => [.c (.slice 5) (.slice (List.map e_Int r.1)), .c (.int .i64) (.int r.2)]) (fun r => [])
theorem cref32_Relocate (n : Nat) : Contract Tryz.prog (xref32_Relocate n) := by
  have hΓ := g1 (cref31_CheckLoad n) (@g0 (Contract Tryz.prog))
  refine contract_f (Tryz.f25.body.getD .skip) h00 Tryz.func25 rfl Tryz.call25 (by decide) (by intro h; cases h) ?_
  rintro ⟨m, at_⟩ r H
  try dsimp only at H
  unfold ref32_Relocate at H
  simp only [Tryz.f25, Option.getD]
  refine rA ?_
  refine Sm.seqK fun K2 hK2 => ?_
  obtain ⟨r1, hr1, H⟩ := bind_some H
  have q := And.intro @xref31_CheckLoad.eq_1 hr1
  refine rAq ?_
  refine cnd H (fun h4 H => ?_) (fun h4 H => ?_)
  · refine rA ?_
    refine Sm.ret ?_
    refine lf ?_
    obtain rfl := Option.some.inj H
    exact rt []
  refine Sm.skip ?_
  refine hK2 _ ?_
  refine Sm.seqK fun K6 hK6 => ?_
  refine rA ?_
  refine cnd H (fun h8 H => ?_) (fun h8 H => ?_)
  · refine rA ?_
    refine Sm.ret ?_
    refine lf ?_
    obtain rfl := Option.some.inj H
    exact rt []
  refine Sm.skip ?_
  refine hK6 _ ?_
  obtain ⟨hg23, H⟩ := gd_some H
  refine rA ?_
  refine Sm.cut (fun (x : (List Int) × Nat) => ref32_Relocate_s1 x.1 x.2) (fun x => ref32_Relocate_k1 n x.1 x.2 = some r) ?_ ?_
  · refine rA ?_
    refine Sm.block ?_
    obtain ⟨y13, hy13, Ho13⟩ := bind_some H
    refine Sm.loopB _ (fun x => ref32_Relocate_t2 at_ m x.1 x.2.1 x.2.2) hy13 (wb [some 32, some 336]) ?_
    rintro ⟨out_2, out_3, i⟩ z13 H
    try dsimp only at H
    unfold ref32_Relocate_b2 at H
    refine Sm.st (ref32_Relocate_t2.eq_1 ..) ?_
    refine Sm.seqK fun K14 hK14 => ?_
    refine rA ?_
    refine cnd H (fun h16 H => ?_) (fun h16 H => ?_)
    · refine Sm.skip ?_
      refine hK14 _ ?_
      refine Sm.cut (fun (x : (List Int) × Nat) => ref32_Relocate_s3 at_ m x.1 x.2 i) (fun x => ref32_Relocate_k3 n at_ m x.1 x.2 i = some z13) ?_ ?_
      · refine Sm.block ?_
        refine rA ?_
        refine Sm.cut (fun (x : Int) => ref32_Relocate_s4 at_ m out_2 out_3 i x) (fun x => ref32_Relocate_k4 n at_ m out_2 out_3 i x = some z13) ?_ ?_
        · obtain ⟨hg22, H⟩ := gd_some H
          refine rA ?_
          refine cnd H (fun h21 H => ?_) (fun h21 H => ?_)
          · refine eA ?_
            refine lf ?_
            exact ⟨_, H, wb [some 9003, some 9004]⟩
          refine Sm.skip ?_
          refine lf ?_
          exact ⟨_, H, wb [some 9003, some 9004]⟩
        rintro by_ H
        try dsimp only at H
        unfold ref32_Relocate_k4 at H
        refine Sm.st (ref32_Relocate_s4.eq_1 ..) ?_
        obtain ⟨⟨hg18, hg19⟩, H⟩ := gd_some H
        obtain ⟨r2, hr2, H⟩ := bind_some H
        refine eL [0, 1, 2, 3, 4, 5, 6, 7, 8, 9, 10, 11, 12, 13] 14 [(none, [], []), (none, [9007], []), (none, [9007], []), (none, [], []), (none, [], []), (none, [], []), (none, [], []), (none, [9007], []), (none, [9007], []), (none, [], []), (none, [], []), (none, [], []), (none, [], []), (none, [], []), (none, [], [])] ?_
        have q := hr2
        iterate 14 refine oQq ?_
        refine opsQ0 ?_
        refine opsM (cref32_Adjust_M2 n _ _ _ _ _ r2 hr2) [9008] [] (by simp only [z, seval, hr2]; try rfl) (by simp only [z, seval, hr2]) (by simp only [z, seval, hr2]) (by simp only [z, seval, hr2]) (by simp only [z, seval, hr2]) rfl (by simp only [z, seval, hr2]) rfl ?_
        refine opsX0 ?_
        refine lf ?_
        exact ⟨(r2, out_3), H, wb [some 9007, some 9008]⟩
      rintro ⟨out_4, out_5⟩ H
      try dsimp only at H
      unfold ref32_Relocate_k3 at H
      refine Sm.st (ref32_Relocate_s3.eq_1 ..) ?_
      refine eA ?_
      refine lf ?_
      exact nx H (wb [some 9005, some 9006])
    refine Sm.exit ?_
    refine lf ?_
    refine lx H fun hyy => ?_
    subst hyy
    have H := Ho13
    try dsimp only at H
    refine lf ?_
    exact ⟨(out_2, out_3), H, wb [some 9004]⟩
  rintro ⟨out, out_1⟩ H
  try dsimp only at H
  unfold ref32_Relocate_k1 at H
  refine Sm.st (ref32_Relocate_s1.eq_1 ..) ?_
  refine rA ?_
  refine Sm.ret ?_
  refine lf ?_
  obtain rfl := Option.some.inj H
  exact rt []
abbrev ref32_Path_s1 (out : List Int) : S := stB [(6, .own 9000 [.int .i64] 0 out.length)] [(9000, .row 3 (List.map e_Int out))]
def ref32_Path_k1 (n : Nat) (out : List Int) : Option ((List Int) × Bool) :=
  some (out, true)
abbrev ref32_Path_t2 (m : TLoad) (n__1 : Int) (out_1 : List Int) : S := stB [(1, .c (.int .i64) (.int n__1)), (2, .box 9004 0), (6, .own 9005 [.int .i64] 0 out_1.length)] [(9004, .box [.c (.slice 5) (.slice (List.map e_Int m.Text)), .c (.slice 85) (.slice (List.map e_TReloc m.Relocs)), .c (.slice 44) (.slice (List.map e_TSegment m.Segments)), .c (.int .i64) (.int m.Entry)]), (9005, .row 3 (List.map e_Int out_1))]
def ref32_Path_b2 (n : Nat) (m : TLoad) (n__1 : Int) (out_1 : List Int) : Option ((Int × (List Int)) ⊕ (((List Int)))) :=
  bif (decide (n__1 ≥ 0)) then
    gd ((1 + out_1.length) ≤ 2147483648) <|
    gd ((0 ≤ n__1 ∧ n__1 < (m.Segments.length : Int))) <|
    some (.inl ((gt m.Segments (Int.toNat n__1)).Parent, ([n__1] ++ out_1)))
  else
    some (.inr out_1)
def ref32_Path (n : Nat) (m : TLoad) (n_ : Int) : Option ((List Int) × Bool) :=
  (ref31_CheckLoad n m).bind fun r1 =>
  bif (if (if (!r1) = true then true else (decide (n_ < 0))) = true then true else (decide (n_ ≥ (m.Segments.length : Int)))) then
    some ([], false)
  else
    (loopF (fun (x : Int × (List Int)) => ref32_Path_b2 n m x.1 x.2) n (n_, [])).bind fun y8 =>
    ref32_Path_k1 n y8
def xref32_Path (n : Nat) : Go.AE.Fn := mkFn (A := TLoad × Int) (R := (List Int) × Bool) 27 [(true, [.slice 5, .slice 85, .slice 44, .int .i64]), (false, [.int .i64])] false (fun xs => ((⟨((cg (xs.getD 0 []) 0).toSl.map d_Int), ((cg (xs.getD 0 []) 1).toSl.map d_TReloc), ((cg (xs.getD 0 []) 2).toSl.map d_TSegment), (cg (xs.getD 0 []) 3).toInt⟩ : TLoad), (cg (xs.getD 1 []) 0).toInt)) (fun a => [[.slice (List.map e_Int a.1.Text), .slice (List.map e_TReloc a.1.Relocs), .slice (List.map e_TSegment a.1.Segments), .int a.1.Entry], [.int a.2]]) (fun a => ref32_Path n a.1 a.2) (fun r => [.own 0 [.int .i64] 0 r.1.length, .c .bool (.bool r.2)]) (fun r => [.row 3 (List.map e_Int r.1)])
theorem cref32_Path (n : Nat) : Contract Tryz.prog (xref32_Path n) := by
  have hΓ := g1 (cref31_CheckLoad n) (@g0 (Contract Tryz.prog))
  refine contract_f (Tryz.f27.body.getD .skip) h00 Tryz.func27 rfl Tryz.call27 (by decide) (fun _ r => ⟨rfl, m1 ⟨3, _, _, rfl, ty3, rfl⟩ m0⟩) ?_
  rintro ⟨m, n_⟩ r H
  try dsimp only at H
  unfold ref32_Path at H
  simp only [Tryz.f27, Option.getD]
  refine rA ?_
  refine Sm.seqK fun K2 hK2 => ?_
  obtain ⟨r1, hr1, H⟩ := bind_some H
  have q := And.intro @xref31_CheckLoad.eq_1 hr1
  refine rAq ?_
  refine cnd H (fun h4 H => ?_) (fun h4 H => ?_)
  · refine rA ?_
    refine Sm.ret ?_
    refine lf ?_
    obtain rfl := Option.some.inj H
    exact rto [none]
  refine Sm.skip ?_
  refine hK2 _ ?_
  refine rA ?_
  refine Sm.cut (fun (x : (List Int)) => ref32_Path_s1 x) (fun x => ref32_Path_k1 n x = some r) ?_ ?_
  · refine Sm.block ?_
    obtain ⟨y8, hy8, Ho8⟩ := bind_some H
    refine Sm.loopB _ (fun x => ref32_Path_t2 m x.1 x.2) hy8 (wb [some 32, none]) ?_
    rintro ⟨n__1, out_1⟩ z8 H
    try dsimp only at H
    unfold ref32_Path_b2 at H
    refine Sm.st (ref32_Path_t2.eq_1 ..) ?_
    refine Sm.seqK fun K9 hK9 => ?_
    refine rA ?_
    refine cnd H (fun h11 H => ?_) (fun h11 H => ?_)
    · refine Sm.skip ?_
      refine hK9 _ ?_
      refine Sm.block ?_
      obtain ⟨hg14, H⟩ := gd_some H
      refine rA ?_
      obtain ⟨hg13, H⟩ := gd_some H
      refine eA ?_
      refine lf ?_
      exact nx H (wb [some 9004, some 416] (hL := by simp only [wk, z, seval]; omega))
    refine Sm.exit ?_
    refine lf ?_
    refine lx H fun hyy => ?_
    subst hyy
    have H := Ho8
    try dsimp only at H
    refine lf ?_
    exact ⟨_, H, wb [some 9005]⟩
  rintro out H
  try dsimp only at H
  unfold ref32_Path_k1 at H
  refine Sm.st (ref32_Path_s1.eq_1 ..) ?_
  refine rA ?_
  refine Sm.ret ?_
  refine lf ?_
  obtain rfl := Option.some.inj H
  exact rto [some 9000]
abbrev law08_SameBytes_s1 : S := stB [] []
def law08_SameBytes_k1 (n : Nat) : Option Bool :=
  some true
abbrev law08_SameBytes_t2 (a : List Int) (b : List Int) (i : Int) : S := stB [(0, .c (.slice 5) (.slice (List.map e_Int a))), (1, .c (.slice 5) (.slice (List.map e_Int b))), (5, .c (.int .i64) (.int i))] []
def law08_SameBytes_b2 (n : Nat) (a : List Int) (b : List Int) (i : Int) : Option ((Int) ⊕ (((Bool) ⊕ (Unit)))) :=
  bif (decide (i < (a.length : Int))) then
    gd ((0 ≤ i ∧ i < (a.length : Int)) ∧ (0 ≤ i ∧ i < (b.length : Int))) <|
    bif ((gt a (Int.toNat i)) != (gt b (Int.toNat i))) then
      some (.inr (.inl false))
    else
      some (.inl (IntKind.wrap .i64 (i + 1)))
  else
    some (.inr (.inr ()))
def law08_SameBytes (n : Nat) (a : List Int) (b : List Int) : Option Bool :=
  bif ((a.length : Int) != (b.length : Int)) then
    some false
  else
    (loopF (fun (x : Int) => law08_SameBytes_b2 n a b x) n 0).bind fun y8 =>
    match y8 with
    | .inl vv =>
      some vv
    | .inr vv =>
      law08_SameBytes_k1 n
def xlaw08_SameBytes (n : Nat) : Go.AE.Fn := mkFn (A := (List Int) × (List Int)) (R := Bool) 24 [(false, [.slice 5]), (false, [.slice 5])] false (fun xs => (((cg (xs.getD 0 []) 0).toSl.map d_Int), ((cg (xs.getD 1 []) 0).toSl.map d_Int))) (fun a => [[.slice (List.map e_Int a.1)], [.slice (List.map e_Int a.2)]]) (fun a => law08_SameBytes n a.1 a.2) (fun r => [.c .bool (.bool r)]) (fun r => [])
theorem claw08_SameBytes (n : Nat) : Contract Tryz.prog (xlaw08_SameBytes n) := by
  have hΓ := @g0 (Contract Tryz.prog)
  refine contract_f (Tryz.f24.body.getD .skip) h00 Tryz.func24 rfl Tryz.call24 (by decide) (by intro _ r; exact ⟨rfl, by simp⟩) ?_
  rintro ⟨a, b⟩ r H
  try dsimp only at H
  unfold law08_SameBytes at H
  simp only [Tryz.f24, Option.getD]
  refine rA ?_
  refine Sm.seqK fun K2 hK2 => ?_
  refine rA ?_
  refine cnd H (fun h4 H => ?_) (fun h4 H => ?_)
  · refine rA ?_
    refine Sm.ret ?_
    refine lf ?_
    obtain rfl := Option.some.inj H
    exact rt []
  refine Sm.skip ?_
  refine hK2 _ ?_
  refine Sm.cut (fun (x : Unit) => law08_SameBytes_s1) (fun x => law08_SameBytes_k1 n = some r) ?_ ?_
  · refine rA ?_
    refine Sm.block ?_
    obtain ⟨y8, hy8, Ho8⟩ := bind_some H
    refine Sm.loopB _ (fun x => law08_SameBytes_t2 a b x) hy8 (wb []) ?_
    rintro i z8 H
    try dsimp only at H
    unfold law08_SameBytes_b2 at H
    refine Sm.st (law08_SameBytes_t2.eq_1 ..) ?_
    refine Sm.seqK fun K9 hK9 => ?_
    refine rA ?_
    refine cnd H (fun h11 H => ?_) (fun h11 H => ?_)
    · refine Sm.skip ?_
      refine hK9 _ ?_
      refine Sm.seqK fun K12 hK12 => ?_
      refine Sm.block ?_
      obtain ⟨⟨hg16, hg17⟩, H⟩ := gd_some H
      refine rD ?_
      refine cnd H (fun h14 H => ?_) (fun h14 H => ?_)
      · refine rA ?_
        refine Sm.ret ?_
        refine lf ?_
        refine lx H fun hyy => ?_
        subst hyy
        have H := Ho8
        try dsimp only at H
        refine lf ?_
        obtain rfl := Option.some.inj H
        exact rt []
      refine Sm.skip ?_
      refine hK12 _ ?_
      refine eA ?_
      refine lf ?_
      exact nx H (wb [])
    refine Sm.exit ?_
    refine lf ?_
    refine lx H fun hyy => ?_
    subst hyy
    have H := Ho8
    try dsimp only at H
    refine lf ?_
    exact ⟨(), H, wb []⟩
  rintro ⟨⟩ H
  try dsimp only at H
  unfold law08_SameBytes_k1 at H
  refine Sm.st (law08_SameBytes_s1.eq_1 ..) ?_
  refine rA ?_
  refine Sm.ret ?_
  refine lf ?_
  obtain rfl := Option.some.inj H
  exact rt []
end Go.Proofs.YtfhnelkbiihpiaaGreatDoor
