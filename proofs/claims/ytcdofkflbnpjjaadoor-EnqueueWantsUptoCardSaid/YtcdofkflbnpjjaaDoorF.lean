/-
  The functions of the seat, as functions; their contracts.
-/
import Derived.Test.YtcdofkflbnpjjaaDoorF1
set_option maxHeartbeats 8000000
set_option linter.unusedVariables false
set_option linter.unusedSimpArgs false
set_option maxRecDepth 100000
namespace Go.Proofs.YtcdofkflbnpjjaaDoor
open Go.AE
abbrev ref37_Wants_s1 (out : List TWant) : S := stB [(3, .own 9000 [.str, .bool] 0 out.length)] [(9000, .row 64 (List.map e_TWant out))]

def ref37_Wants_k1 (n : Nat) (out : List TWant) : Option (List TWant) :=
  some out

abbrev ref37_Wants_s3 (j : TJob) (out_2 : List TWant) (s : Int) : S := stB [(1, .box 9005 0), (3, .own 9006 [.str, .bool] 0 out_2.length), (4, .c (.int .i64) (.int s))] [(9005, .box [.c .str (.str j.Name), .c .str (.str j.Class), .c (.int .i64) (.int j.Prty), .c (.slice 177) (.slice (List.map e_TCond j.Conds)), .c (.slice 29) (.slice (List.map e_TJobStep j.Steps))]), (9006, .row 64 (List.map e_TWant out_2))]

def ref37_Wants_k3 (n : Nat) (j : TJob) (out_2 : List TWant) (s : Int) : Option (((List TWant) × Int) ⊕ (((List TWant)))) :=
  some (.inl (out_2, (IntKind.wrap .i64 (s + 1))))

abbrev ref37_Wants_s5 (j : TJob) (out_4 : List TWant) (s : Int) (k : Int) : S := stB [(1, .box 9011 0), (3, .own 9012 [.str, .bool] 0 out_4.length), (4, .c (.int .i64) (.int s)), (5, .c (.int .i64) (.int k))] [(9011, .box [.c .str (.str j.Name), .c .str (.str j.Class), .c (.int .i64) (.int j.Prty), .c (.slice 177) (.slice (List.map e_TCond j.Conds)), .c (.slice 29) (.slice (List.map e_TJobStep j.Steps))]), (9012, .row 64 (List.map e_TWant out_4))]

def ref37_Wants_k5 (n : Nat) (j : TJob) (out_4 : List TWant) (s : Int) (k : Int) : Option (((List TWant) × Int) ⊕ (((List TWant)))) :=
  some (.inl (out_4, (IntKind.wrap .i64 (k + 1))))

abbrev ref37_Wants_t4 (j : TJob) (s : Int) (out_3 : List TWant) (k : Int) : S := stB [(1, .box 9009 0), (3, .own 9010 [.str, .bool] 0 out_3.length), (4, .c (.int .i64) (.int s)), (5, .c (.int .i64) (.int k))] [(9009, .box [.c .str (.str j.Name), .c .str (.str j.Class), .c (.int .i64) (.int j.Prty), .c (.slice 177) (.slice (List.map e_TCond j.Conds)), .c (.slice 29) (.slice (List.map e_TJobStep j.Steps))]), (9010, .row 64 (List.map e_TWant out_3))]

def ref37_Wants_b4 (n : Nat) (j : TJob) (s : Int) (out_3 : List TWant) (k : Int) : Option (((List TWant) × Int) ⊕ (((List TWant)))) :=
  gd ((0 ≤ s ∧ s < (j.Steps.length : Int))) <|
  bif (decide (k < (((gt j.Steps (Int.toNat s)).DDs).length : Int))) then
    gd ((0 ≤ s ∧ s < (j.Steps.length : Int)) ∧ (0 ≤ k ∧ k < (((gt j.Steps (Int.toNat s)).DDs).length : Int))) <|
    (ref36_Named n (gt ((gt j.Steps (Int.toNat s)).DDs) (Int.toNat k))).bind fun r1 =>
    bif (!r1) then
      ref37_Wants_k5 n j out_3 s k
    else
      (ref36_Dispositions n ((gt ((gt j.Steps (Int.toNat s)).DDs) (Int.toNat k)).Disp) ((gt ((gt j.Steps (Int.toNat s)).DDs) (Int.toNat k)).Normal) ((gt ((gt j.Steps (Int.toNat s)).DDs) (Int.toNat k)).Abend)).bind fun r2 =>
      (ref36_Exclusive n (gt ((gt j.Steps (Int.toNat s)).DDs) (Int.toNat k))).bind fun r3 =>
      gd (((!r3) = true → (ref37_changes n r2.2.1).isSome = true) ∧ ((!(if r3 = true then true else ((ref37_changes n r2.2.1).getD default))) = true → (ref37_changes n r2.2.2).isSome = true)) <|
      (ref37_with n out_3 (⟨(gt ((gt j.Steps (Int.toNat s)).DDs) (Int.toNat k)).Dsn, (if (if (if r3 = true then true else ((ref37_changes n r2.2.1).getD default)) = true then true else ((ref37_changes n r2.2.2).getD default)) = true then true else (if (gt ((gt j.Steps (Int.toNat s)).DDs) (Int.toNat k)).HasGen = true then (decide (((gt ((gt j.Steps (Int.toNat s)).DDs) (Int.toNat k)).Gen) > 0)) else false))⟩ : TWant)).bind fun r4 =>
      (ref37_generation n ((gt ((gt j.Steps (Int.toNat s)).DDs) (Int.toNat k)).Dsn)).bind fun r5 =>
      bif r5 then
        gd ((0 ≤ (IntKind.wrap .i64 ((((gt ((gt j.Steps (Int.toNat s)).DDs) (Int.toNat k)).Dsn).length : Int) - 9)) ∧ (IntKind.wrap .i64 ((((gt ((gt j.Steps (Int.toNat s)).DDs) (Int.toNat k)).Dsn).length : Int) - 9)) ≤ (((gt ((gt j.Steps (Int.toNat s)).DDs) (Int.toNat k)).Dsn).length : Int))) <|
        (ref37_with n r4 (⟨(List.take (Int.toNat (IntKind.wrap .i64 ((((gt ((gt j.Steps (Int.toNat s)).DDs) (Int.toNat k)).Dsn).length : Int) - 9))) ((gt ((gt j.Steps (Int.toNat s)).DDs) (Int.toNat k)).Dsn)), (if (if (if r3 = true then true else ((ref37_changes n r2.2.1).getD default)) = true then true else ((ref37_changes n r2.2.2).getD default)) = true then true else (if (gt ((gt j.Steps (Int.toNat s)).DDs) (Int.toNat k)).HasGen = true then (decide (((gt ((gt j.Steps (Int.toNat s)).DDs) (Int.toNat k)).Gen) > 0)) else false))⟩ : TWant)).bind fun r6 =>
        ref37_Wants_k5 n j r6 s k
      else
        ref37_Wants_k5 n j r4 s k
  else
    some (.inr out_3)

abbrev ref37_Wants_t2 (j : TJob) (out_1 : List TWant) (s : Int) : S := stB [(1, .box 9003 0), (3, .own 9004 [.str, .bool] 0 out_1.length), (4, .c (.int .i64) (.int s))] [(9003, .box [.c .str (.str j.Name), .c .str (.str j.Class), .c (.int .i64) (.int j.Prty), .c (.slice 177) (.slice (List.map e_TCond j.Conds)), .c (.slice 29) (.slice (List.map e_TJobStep j.Steps))]), (9004, .row 64 (List.map e_TWant out_1))]

def ref37_Wants_b2 (n : Nat) (j : TJob) (out_1 : List TWant) (s : Int) : Option (((List TWant) × Int) ⊕ (((List TWant)))) :=
  bif (decide (s < (j.Steps.length : Int))) then
    (loopF (fun (x : (List TWant) × Int) => ref37_Wants_b4 n j s x.1 x.2) n (out_1, 0)).bind fun y10 =>
    ref37_Wants_k3 n j y10 s
  else
    some (.inr out_1)

def ref37_Wants (n : Nat) (j : TJob) : Option (List TWant) :=
  (loopF (fun (x : (List TWant) × Int) => ref37_Wants_b2 n j x.1 x.2) n ([(⟨[83, 89, 83, 49, 46, 76, 73, 78, 75, 76, 73, 66], false⟩ : TWant)], 0)).bind fun y5 =>
  ref37_Wants_k1 n y5

def xref37_Wants (n : Nat) : Go.AE.Fn := mkFn (A := TJob) (R := (List TWant)) 8 [(true, [.str, .str, .int .i64, .slice 177, .slice 29])] false (fun xs => (⟨(cg (xs.getD 0 []) 0).toStr, (cg (xs.getD 0 []) 1).toStr, (cg (xs.getD 0 []) 2).toInt, ((cg (xs.getD 0 []) 3).toSl.map d_TCond), ((cg (xs.getD 0 []) 4).toSl.map d_TJobStep)⟩ : TJob)) (fun a => [[.str a.Name, .str a.Class, .int a.Prty, .slice (List.map e_TCond a.Conds), .slice (List.map e_TJobStep a.Steps)]]) (fun a => ref37_Wants n a) (fun r => [.own 0 [.str, .bool] 0 r.length]) (fun r => [.row 64 (List.map e_TWant r)])

theorem cref37_Wants (n : Nat) : Contract Tryd.prog (xref37_Wants n) := by
  have hΓ : ∀ g, g ∈ ([xref36_Named n, xref36_Dispositions n, xref36_Exclusive n, xref37_changes n, xref37_with n, xref37_generation n] : List Go.AE.Fn) → Contract Tryd.prog g := by
    intro g hg; simp only [List.mem_cons, List.not_mem_nil, or_false] at hg; rcases hg with rfl | rfl | rfl | rfl | rfl | rfl; exact cref36_Named n; exact cref36_Dispositions n; exact cref36_Exclusive n; exact cref37_changes n; exact cref37_with n; exact cref37_generation n
  refine contract_f (Tryd.f8.body.getD .skip) h00 Tryd.func8 rfl (by intro args w; exact Tryd.call8 args w) (by decide) (by
    intro _ r; refine ⟨rfl, ?_⟩; simp only [List.mem_cons, List.not_mem_nil, or_false]; rintro _ rfl
    · exact ⟨64, _, _, rfl, ty64, rfl⟩) ?_
  rintro j r H
  try dsimp only at H
  unfold ref37_Wants at H
  simp only [Tryd.f8, Option.getD]
  refine Sm.seqA h00 mixed hΓ (by kernel_rfl) fun K1 hK1 => ?_
  simp only [rs]
  repeat (refine opsG fun K hK => ?_; simp only [z, seval]; (repeat (first | refine gcI ?_ | refine fun (_ : _ ≤ _) => ?_)); refine hK _ ?_; clear hK K)
  refine hK1 _ ?_
  refine Sm.seqA h00 mixed hΓ (by kernel_rfl) fun K2 hK2 => ?_
  simp only [rs]
  repeat (refine opsG fun K hK => ?_; simp only [z, seval]; (repeat (first | refine gcI ?_ | refine fun (_ : _ ≤ _) => ?_)); refine hK _ ?_; clear hK K)
  refine hK2 _ ?_
  refine Sm.cut (fun (x : (List TWant)) => ref37_Wants_s1 x) (fun x => ref37_Wants_k1 n x = some r) ?_ ?_
  · refine Sm.seqA h00 mixed hΓ (by kernel_rfl) fun K4 hK4 => ?_
    simp only [rs]
    repeat (refine opsG fun K hK => ?_; simp only [z, seval]; (repeat (first | refine gcI ?_ | refine fun (_ : _ ≤ _) => ?_)); refine hK _ ?_; clear hK K)
    refine hK4 _ ?_
    refine Sm.block ?_
    obtain ⟨y5, hy5, Ho5⟩ := bind_some H
    refine Sm.loopB (fun (x : (List TWant) × Int) => ref37_Wants_b2 n j x.1 x.2) (fun x => ref37_Wants_t2 j x.1 x.2) hy5 ?_ ?_
    · exact weak_b [some 16, some 192] rfl rfl rfl (by simp only [wk, z, seval]) (by simp only [wk, z, seval])
    rintro ⟨out_1, s⟩ z5 H
    try dsimp only at H
    unfold ref37_Wants_b2 at H
    refine Sm.seqK fun K6 hK6 => ?_
    refine Sm.seqA h00 mixed hΓ (by kernel_rfl) fun K7 hK7 => ?_
    simp only [rs]
    repeat (refine opsG fun K hK => ?_; simp only [z, seval, ref37_Wants_t2]; (repeat (first | refine gcI ?_ | refine fun (_ : _ ≤ _) => ?_)); refine hK _ ?_; clear hK K)
    refine hK7 _ ?_
    refine Sm.condK (by rfl) fun Ka Kb ha hb => ?_
    simp only [wpCond, z, seval, ref37_Wants_t2]
    refine ⟨fun h8 => ha ?_, fun h8 => hb ?_⟩
    · first | replace H := bif_t h8 H | replace H := bif_t2 h8 H (by simp only [List.length_append])
      refine Sm.skip ?_
      refine hK6 _ ?_
      refine Sm.cut (fun (x : (List TWant)) => ref37_Wants_s3 j x s) (fun x => ref37_Wants_k3 n j x s = some z5) ?_ ?_
      · refine Sm.block ?_
        refine Sm.seqA h00 mixed hΓ (by kernel_rfl) fun K9 hK9 => ?_
        simp only [rs]
        repeat (refine opsG fun K hK => ?_; simp only [z, seval, ref37_Wants_t2]; (repeat (first | refine gcI ?_ | refine fun (_ : _ ≤ _) => ?_)); refine hK _ ?_; clear hK K)
        refine hK9 _ ?_
        refine Sm.block ?_
        obtain ⟨y10, hy10, Ho10⟩ := bind_some H
        refine Sm.loopB (fun (x : (List TWant) × Int) => ref37_Wants_b4 n j s x.1 x.2) (fun x => ref37_Wants_t4 j s x.1 x.2) hy10 ?_ ?_
        · exact weak_b [some 9003, some 9004] rfl rfl rfl (by simp only [wk, z, seval, ref37_Wants_t2]) (by simp only [wk, z, seval, ref37_Wants_t2])
        rintro ⟨out_3, k⟩ z10 H
        try dsimp only at H
        unfold ref37_Wants_b4 at H
        refine Sm.seqK fun K11 hK11 => ?_
        obtain ⟨hg28, H⟩ := gd_some H
        refine Sm.seqA h00 mixed hΓ (by kernel_rfl) fun K12 hK12 => ?_
        simp only [rs]
        repeat (refine opsG fun K hK => ?_; simp only [z, seval, ref37_Wants_t4]; (repeat (first | refine gcI ?_ | refine fun (_ : _ ≤ _) => ?_)); refine hK _ ?_; clear hK K)
        refine hK12 _ ?_
        refine Sm.condK (by rfl) fun Ka Kb ha hb => ?_
        simp only [wpCond, z, seval, ref37_Wants_t4]
        refine ⟨fun h13 => ha ?_, fun h13 => hb ?_⟩
        · first | replace H := bif_t h13 H | replace H := bif_t2 h13 H (by simp only [List.length_append])
          refine Sm.skip ?_
          refine hK11 _ ?_
          refine Sm.cut (fun (x : (List TWant)) => ref37_Wants_s5 j x s k) (fun x => ref37_Wants_k5 n j x s k = some z10) ?_ ?_
          · refine Sm.block ?_
            obtain ⟨⟨hg26, hg27⟩, H⟩ := gd_some H
            refine Sm.seqA h00 mixed hΓ (by kernel_rfl) fun K14 hK14 => ?_
            simp only [rs]
            repeat (refine opsG fun K hK => ?_; simp only [z, seval, ref37_Wants_t4]; (repeat (first | refine gcI ?_ | refine fun (_ : _ ≤ _) => ?_)); refine hK _ ?_; clear hK K)
            refine hK14 _ ?_
            refine Sm.seqK fun K15 hK15 => ?_
            obtain ⟨r1, hr1, H⟩ := bind_some H
            refine Sm.seqA h00 mixed hΓ (by kernel_rfl) fun K16 hK16 => ?_
            simp only [rs]
            repeat (refine opsG fun K hK => ?_; simp only [z, seval, ref37_Wants_t4, xref36_Named, hr1]; (repeat (first | refine gcI ?_ | refine fun (_ : _ ≤ _) => ?_)); refine hK _ ?_; clear hK K)
            refine hK16 _ ?_
            refine Sm.condK (by rfl) fun Ka Kb ha hb => ?_
            simp only [wpCond, z, seval, ref37_Wants_t4]
            refine ⟨fun h17 => ha ?_, fun h17 => hb ?_⟩
            · first | replace H := bif_t h17 H | replace H := bif_t2 h17 H (by simp only [List.length_append])
              refine Sm.exit ?_
              try simp only [seval, Exit.exit.injEq]
              refine ⟨_, H, ?_⟩
              exact weak_b [some 9009, some 9010] rfl rfl rfl (by simp only [wk, z, seval, ref37_Wants_t4]) (by simp only [wk, z, seval, ref37_Wants_t4])
            first | replace H := bif_f h17 H | replace H := bif_f2 h17 H (by simp only [List.length_append])
            refine Sm.skip ?_
            refine hK15 _ ?_
            obtain ⟨r2, hr2, H⟩ := bind_some H
            refine Sm.seqA h00 mixed hΓ (by kernel_rfl) fun K18 hK18 => ?_
            simp only [rs]
            repeat (refine opsG fun K hK => ?_; simp only [z, seval, ref37_Wants_t4, xref36_Named, xref36_Dispositions, hr2]; (repeat (first | refine gcI ?_ | refine fun (_ : _ ≤ _) => ?_)); refine hK _ ?_; clear hK K)
            refine hK18 _ ?_
            obtain ⟨r3, hr3, H⟩ := bind_some H
            obtain ⟨⟨hg20, hg21⟩, H⟩ := gd_some H
            refine Sm.seqQ h00 mixed hΓ [0, 1, 2, 3, 4, 5, 6, 7, 8, 9, 10, 11, 12, 13, 14, 15, 16, 17, 18, 19, 20, 21, 22, 23] [(none, [96], []), (none, [96], []), (none, [96], []), (none, [], [927, 926, 925, 924, 923, 922, 921, 920, 919, 918, 917, 916, 915, 914, 913, 912]), (none, [], []), (none, [], []), (none, [], [975, 974, 973, 972, 971, 970, 969, 968, 967, 966, 965, 964, 963, 962, 961, 960]), (none, [], []), (none, [], []), (none, [], []), (none, [], [1039, 1038, 1037, 1036, 1035, 1034, 1033, 1032, 1031, 1030, 1029, 1028, 1027, 1026, 1025, 1024]), (none, [], []), (none, [], []), (none, [96], []), (none, [96], []), (none, [], []), (none, [96], []), (none, [96], []), (none, [], []), (none, [], []), (none, [], []), (none, [], []), (none, [], [160]), (none, [160], [160])] (by kernel_rfl) rfl fun K19 hK19 => ?_
            simp only [rs]
            iterate 24 (refine opsQ fun K hK => ?_; simp only [z, seval, ref37_Wants_t4, xref36_Named, xref36_Dispositions, xref36_Exclusive, xref37_changes, hr3]; (repeat (first | refine gcI ?_ | refine fun (_ : _ ≤ _) => ?_)); refine hK _ ?_; clear hK K)
            refine opsQ0 ?_
            refine hK19 _ ?_
            obtain ⟨r4, hr4, H⟩ := bind_some H
            refine Sm.seqA h00 mixed hΓ (by kernel_rfl) fun K22 hK22 => ?_
            simp only [rs]
            repeat (refine opsG fun K hK => ?_; simp only [z, seval, ref37_Wants_t4, xref36_Named, xref36_Dispositions, xref36_Exclusive, xref37_changes, xref37_with, hr4]; (repeat (first | refine gcI ?_ | refine fun (_ : _ ≤ _) => ?_)); refine hK _ ?_; clear hK K)
            refine hK22 _ ?_
            obtain ⟨r5, hr5, H⟩ := bind_some H
            refine Sm.seqA h00 mixed hΓ (by kernel_rfl) fun K23 hK23 => ?_
            simp only [rs]
            repeat (refine opsG fun K hK => ?_; simp only [z, seval, ref37_Wants_t4, xref36_Named, xref36_Dispositions, xref36_Exclusive, xref37_changes, xref37_with, xref37_generation, hr5]; (repeat (first | refine gcI ?_ | refine fun (_ : _ ≤ _) => ?_)); refine hK _ ?_; clear hK K)
            refine hK23 _ ?_
            refine Sm.condK (by rfl) fun Ka Kb ha hb => ?_
            simp only [wpCond, z, seval, ref37_Wants_t4]
            refine ⟨fun h24 => ha ?_, fun h24 => hb ?_⟩
            · first | replace H := bif_t h24 H | replace H := bif_t2 h24 H (by simp only [List.length_append])
              obtain ⟨hg25, H⟩ := gd_some H
              obtain ⟨r6, hr6, H⟩ := bind_some H
              refine Sm.regQ h00 mixed hΓ [0, 1, 2, 3, 4, 5, 6, 7, 8, 9, 10, 11, 12] [(none, [], []), (none, [96], []), (none, [96], []), (none, [96], []), (none, [96], []), (none, [], []), (none, [], []), (none, [], []), (none, [160], []), (none, [160], []), (none, [], []), (none, [1248], [1503, 1502, 1501, 1500, 1499, 1498, 1497, 1496, 1495, 1494, 1493, 1492, 1491, 1490, 1489, 1488, 1248]), (none, [], [])] (by kernel_rfl) rfl ?_
              simp only [rs]
              iterate 13 (refine opsQ fun K hK => ?_; simp only [z, seval, ref37_Wants_t4, xref36_Named, xref36_Dispositions, xref36_Exclusive, xref37_changes, xref37_with, hr6]; (repeat (first | refine gcI ?_ | refine fun (_ : _ ≤ _) => ?_)); refine hK _ ?_; clear hK K)
              refine opsQ0 ?_
              try simp only [seval, Exit.exit.injEq]
              refine ⟨_, H, ?_⟩
              exact weak_b [some 9009, some 1488] rfl rfl rfl (by simp only [wk, z, seval, ref37_Wants_t4]) (by simp only [wk, z, seval, ref37_Wants_t4])
            first | replace H := bif_f h24 H | replace H := bif_f2 h24 H (by simp only [List.length_append])
            refine Sm.skip ?_
            try simp only [seval, Exit.exit.injEq]
            refine ⟨_, H, ?_⟩
            exact weak_b [some 9009, some 1248] rfl rfl rfl (by simp only [wk, z, seval, ref37_Wants_t4]) (by simp only [wk, z, seval, ref37_Wants_t4])
          rintro out_4 H
          try dsimp only at H
          unfold ref37_Wants_k5 at H
          refine Sm.regA h00 mixed hΓ (by kernel_rfl) ?_
          simp only [rs]
          repeat (refine opsG fun K hK => ?_; simp only [z, seval, ref37_Wants_s5]; (repeat (first | refine gcI ?_ | refine fun (_ : _ ≤ _) => ?_)); refine hK _ ?_; clear hK K)
          refine opsG0 ?_
          try simp only [seval, Exit.exit.injEq]
          refine ⟨(_, _), (Option.some.inj H).symm, ?_⟩
          exact weak_b [some 9011, some 9012] rfl rfl rfl (by simp only [wk, z, seval, ref37_Wants_s5]) (by simp only [wk, z, seval, ref37_Wants_s5])
        first | replace H := bif_f h13 H | replace H := bif_f2 h13 H (by simp only [List.length_append])
        refine Sm.exit ?_
        try simp only [seval, Exit.exit.injEq]
        refine ⟨⟨_, (Option.some.inj H).symm⟩, fun hz => ?_⟩
        have hyy := Sum.inr.inj ((Option.some.inj H).trans hz)
        subst hyy
        have H := Ho10
        try dsimp only at H
        try simp only [seval, Exit.exit.injEq]
        refine ⟨_, H, ?_⟩
        exact weak_b [some 9009, some 9010] rfl rfl rfl (by simp only [wk, z, seval, ref37_Wants_t4]) (by simp only [wk, z, seval, ref37_Wants_t4])
      rintro out_2 H
      try dsimp only at H
      unfold ref37_Wants_k3 at H
      refine Sm.regA h00 mixed hΓ (by kernel_rfl) ?_
      simp only [rs]
      repeat (refine opsG fun K hK => ?_; simp only [z, seval, ref37_Wants_s3]; (repeat (first | refine gcI ?_ | refine fun (_ : _ ≤ _) => ?_)); refine hK _ ?_; clear hK K)
      refine opsG0 ?_
      try simp only [seval, Exit.exit.injEq]
      refine ⟨(_, _), (Option.some.inj H).symm, ?_⟩
      exact weak_b [some 9005, some 9006] rfl rfl rfl (by simp only [wk, z, seval, ref37_Wants_s3]) (by simp only [wk, z, seval, ref37_Wants_s3])
    first | replace H := bif_f h8 H | replace H := bif_f2 h8 H (by simp only [List.length_append])
    refine Sm.exit ?_
    try simp only [seval, Exit.exit.injEq]
    refine ⟨⟨_, (Option.some.inj H).symm⟩, fun hz => ?_⟩
    have hyy := Sum.inr.inj ((Option.some.inj H).trans hz)
    subst hyy
    have H := Ho5
    try dsimp only at H
    try simp only [seval, Exit.exit.injEq]
    refine ⟨_, H, ?_⟩
    exact weak_b [some 9004] rfl rfl rfl (by simp only [wk, z, seval, ref37_Wants_t2]) (by simp only [wk, z, seval, ref37_Wants_t2])
  rintro out H
  try dsimp only at H
  unfold ref37_Wants_k1 at H
  refine Sm.seqA h00 mixed hΓ (by kernel_rfl) fun K3 hK3 => ?_
  simp only [rs]
  repeat (refine opsG fun K hK => ?_; simp only [z, seval, ref37_Wants_s1]; (repeat (first | refine gcI ?_ | refine fun (_ : _ ≤ _) => ?_)); refine hK _ ?_; clear hK K)
  refine hK3 _ ?_
  refine Sm.ret ?_
  try simp only [seval, Exit.exit.injEq]
  obtain rfl := Option.some.inj H
  refine Ret.ofR [some 9000] (.inr rfl) ?_
  simp only [z, seval, ref37_Wants_s1]
  try omega

abbrev law37_sameWants_s1 : S := stB [] []

def law37_sameWants_k1 (n : Nat) : Option Bool :=
  some true

abbrev law37_sameWants_t2 (a : List TWant) (b : List TWant) (k : Int) : S := stB [(0, .c (.slice 44) (.slice (List.map e_TWant a))), (1, .c (.slice 64) (.slice (List.map e_TWant b))), (5, .c (.int .i64) (.int k))] []

def law37_sameWants_b2 (n : Nat) (a : List TWant) (b : List TWant) (k : Int) : Option ((Int) ⊕ (((Bool) ⊕ (Unit)))) :=
  bif (decide (k < (a.length : Int))) then
    gd ((0 ≤ k ∧ k < (a.length : Int)) ∧ (0 ≤ k ∧ k < (b.length : Int)) ∧ ((!(((gt a (Int.toNat k)).Name) != ((gt b (Int.toNat k)).Name))) = true → (0 ≤ k ∧ k < (a.length : Int))) ∧ ((!(((gt a (Int.toNat k)).Name) != ((gt b (Int.toNat k)).Name))) = true → (0 ≤ k ∧ k < (b.length : Int)))) <|
    bif (if (((gt a (Int.toNat k)).Name) != ((gt b (Int.toNat k)).Name)) = true then true else (((gt a (Int.toNat k)).Exclusive) != ((gt b (Int.toNat k)).Exclusive))) then
      some (.inr (.inl false))
    else
      some (.inl (IntKind.wrap .i64 (k + 1)))
  else
    some (.inr (.inr ()))

def law37_sameWants (n : Nat) (a : List TWant) (b : List TWant) : Option Bool :=
  bif ((a.length : Int) != (b.length : Int)) then
    some false
  else
    (loopF (fun (x : Int) => law37_sameWants_b2 n a b x) n 0).bind fun y8 =>
    match y8 with
    | .inl v =>
      some v
    | .inr v =>
      law37_sameWants_k1 n

def xlaw37_sameWants (n : Nat) : Go.AE.Fn := mkFn (A := (List TWant) × (List TWant)) (R := Bool) 6 [(false, [.slice 44]), (false, [.slice 64])] false (fun xs => (((cg (xs.getD 0 []) 0).toSl.map d_TWant), ((cg (xs.getD 1 []) 0).toSl.map d_TWant))) (fun a => [[.slice (List.map e_TWant a.1)], [.slice (List.map e_TWant a.2)]]) (fun a => law37_sameWants n a.1 a.2) (fun r => [.c .bool (.bool r)]) (fun r => [])

theorem claw37_sameWants (n : Nat) : Contract Tryd.prog (xlaw37_sameWants n) := by
  have hΓ : ∀ g, g ∈ ([] : List Go.AE.Fn) → Contract Tryd.prog g := by simp
  refine contract_f (Tryd.f6.body.getD .skip) h00 Tryd.func6 rfl (by intro args w; exact Tryd.call6 args w) (by decide) (by intro _ r; exact ⟨rfl, by simp⟩) ?_
  rintro ⟨a, b⟩ r H
  try dsimp only at H
  unfold law37_sameWants at H
  simp only [Tryd.f6, Option.getD]
  refine Sm.seqA h00 mixed hΓ (by kernel_rfl) fun K1 hK1 => ?_
  simp only [rs]
  repeat (refine opsG fun K hK => ?_; simp only [z, seval]; (repeat (first | refine gcI ?_ | refine fun (_ : _ ≤ _) => ?_)); refine hK _ ?_; clear hK K)
  refine hK1 _ ?_
  refine Sm.seqK fun K2 hK2 => ?_
  refine Sm.seqA h00 mixed hΓ (by kernel_rfl) fun K3 hK3 => ?_
  simp only [rs]
  repeat (refine opsG fun K hK => ?_; simp only [z, seval]; (repeat (first | refine gcI ?_ | refine fun (_ : _ ≤ _) => ?_)); refine hK _ ?_; clear hK K)
  refine hK3 _ ?_
  refine Sm.condK (by rfl) fun Ka Kb ha hb => ?_
  simp only [wpCond, z, seval]
  refine ⟨fun h4 => ha ?_, fun h4 => hb ?_⟩
  · first | replace H := bif_t h4 H | replace H := bif_t2 h4 H (by simp only [List.length_append])
    refine Sm.seqA h00 mixed hΓ (by kernel_rfl) fun K5 hK5 => ?_
    simp only [rs]
    repeat (refine opsG fun K hK => ?_; simp only [z, seval]; (repeat (first | refine gcI ?_ | refine fun (_ : _ ≤ _) => ?_)); refine hK _ ?_; clear hK K)
    refine hK5 _ ?_
    refine Sm.ret ?_
    try simp only [seval, Exit.exit.injEq]
    obtain rfl := Option.some.inj H
    refine Ret.ofR [] (.inr rfl) ?_
    simp only [z, seval]
  first | replace H := bif_f h4 H | replace H := bif_f2 h4 H (by simp only [List.length_append])
  refine Sm.skip ?_
  refine hK2 _ ?_
  refine Sm.cut (fun (x : Unit) => law37_sameWants_s1) (fun x => law37_sameWants_k1 n = some r) ?_ ?_
  · refine Sm.seqA h00 mixed hΓ (by kernel_rfl) fun K7 hK7 => ?_
    simp only [rs]
    repeat (refine opsG fun K hK => ?_; simp only [z, seval]; (repeat (first | refine gcI ?_ | refine fun (_ : _ ≤ _) => ?_)); refine hK _ ?_; clear hK K)
    refine hK7 _ ?_
    refine Sm.block ?_
    obtain ⟨y8, hy8, Ho8⟩ := bind_some H
    refine Sm.loopB (fun (x : Int) => law37_sameWants_b2 n a b x) (fun x => law37_sameWants_t2 a b x) hy8 ?_ ?_
    · exact weak_b [] rfl rfl rfl (by simp only [wk, z, seval]) (by simp only [wk, z, seval])
    rintro k z8 H
    try dsimp only at H
    unfold law37_sameWants_b2 at H
    refine Sm.seqK fun K9 hK9 => ?_
    refine Sm.seqA h00 mixed hΓ (by kernel_rfl) fun K10 hK10 => ?_
    simp only [rs]
    repeat (refine opsG fun K hK => ?_; simp only [z, seval, law37_sameWants_t2]; (repeat (first | refine gcI ?_ | refine fun (_ : _ ≤ _) => ?_)); refine hK _ ?_; clear hK K)
    refine hK10 _ ?_
    refine Sm.condK (by rfl) fun Ka Kb ha hb => ?_
    simp only [wpCond, z, seval, law37_sameWants_t2]
    refine ⟨fun h11 => ha ?_, fun h11 => hb ?_⟩
    · first | replace H := bif_t h11 H | replace H := bif_t2 h11 H (by simp only [List.length_append])
      refine Sm.skip ?_
      refine hK9 _ ?_
      refine Sm.seqK fun K12 hK12 => ?_
      refine Sm.block ?_
      obtain ⟨⟨hg16, hg17, hg18, hg19⟩, H⟩ := gd_some H
      refine Sm.seqD h00 mixed hΓ (by kernel_rfl) fun K13 hK13 => ?_
      simp only [rs]
      repeat (refine opsH fun K hK => ?_; simp only [z, seval, law37_sameWants_t2]; (repeat (first | refine gcI ?_ | refine fun (_ : _ ≤ _) => ?_)); refine hK _ ?_; clear hK K)
      refine hK13 _ ?_
      refine Sm.condK (by rfl) fun Ka Kb ha hb => ?_
      simp only [wpCond, z, seval, law37_sameWants_t2]
      refine ⟨fun h14 => ha ?_, fun h14 => hb ?_⟩
      · first | replace H := bif_t h14 H | replace H := bif_t2 h14 H (by simp only [List.length_append])
        refine Sm.seqA h00 mixed hΓ (by kernel_rfl) fun K15 hK15 => ?_
        simp only [rs]
        repeat (refine opsG fun K hK => ?_; simp only [z, seval, law37_sameWants_t2]; (repeat (first | refine gcI ?_ | refine fun (_ : _ ≤ _) => ?_)); refine hK _ ?_; clear hK K)
        refine hK15 _ ?_
        refine Sm.ret ?_
        try simp only [seval, Exit.exit.injEq]
        refine ⟨⟨_, (Option.some.inj H).symm⟩, fun hz => ?_⟩
        have hyy := Sum.inr.inj ((Option.some.inj H).trans hz)
        subst hyy
        have H := Ho8
        try dsimp only at H
        try simp only [seval, Exit.exit.injEq]
        obtain rfl := Option.some.inj H
        refine Ret.ofR [] (.inr rfl) ?_
        simp only [z, seval, law37_sameWants_t2]
      first | replace H := bif_f h14 H | replace H := bif_f2 h14 H (by simp only [List.length_append])
      refine Sm.skip ?_
      refine hK12 _ ?_
      refine Sm.regA h00 mixed hΓ (by kernel_rfl) ?_
      simp only [rs]
      repeat (refine opsG fun K hK => ?_; simp only [z, seval, law37_sameWants_t2]; (repeat (first | refine gcI ?_ | refine fun (_ : _ ≤ _) => ?_)); refine hK _ ?_; clear hK K)
      refine opsG0 ?_
      try simp only [seval, Exit.exit.injEq]
      refine ⟨_, (Option.some.inj H).symm, ?_⟩
      exact weak_b [] rfl rfl rfl (by simp only [wk, z, seval, law37_sameWants_t2]) (by simp only [wk, z, seval, law37_sameWants_t2])
    first | replace H := bif_f h11 H | replace H := bif_f2 h11 H (by simp only [List.length_append])
    refine Sm.exit ?_
    try simp only [seval, Exit.exit.injEq]
    refine ⟨⟨_, (Option.some.inj H).symm⟩, fun hz => ?_⟩
    have hyy := Sum.inr.inj ((Option.some.inj H).trans hz)
    subst hyy
    have H := Ho8
    try dsimp only at H
    try simp only [seval, Exit.exit.injEq]
    refine ⟨(), H, ?_⟩
    exact weak_b [] rfl rfl rfl (by simp only [wk, z, seval, law37_sameWants_t2]) (by simp only [wk, z, seval, law37_sameWants_t2])
  rintro ⟨⟩ H
  try dsimp only at H
  unfold law37_sameWants_k1 at H
  refine Sm.seqA h00 mixed hΓ (by kernel_rfl) fun K6 hK6 => ?_
  simp only [rs]
  repeat (refine opsG fun K hK => ?_; simp only [z, seval, law37_sameWants_s1]; (repeat (first | refine gcI ?_ | refine fun (_ : _ ≤ _) => ?_)); refine hK _ ?_; clear hK K)
  refine hK6 _ ?_
  refine Sm.ret ?_
  try simp only [seval, Exit.exit.injEq]
  obtain rfl := Option.some.inj H
  refine Ret.ofR [] (.inr rfl) ?_
  simp only [z, seval, law37_sameWants_s1]

abbrev law37_EnqueueWants_s1 (j : TJob) : S := stB [(1, .box 9000 0)] [(9000, .box [.c .str (.str j.Name), .c .str (.str j.Class), .c (.int .i64) (.int j.Prty), .c (.slice 177) (.slice (List.map e_TCond j.Conds)), .c (.slice 29) (.slice (List.map e_TJobStep j.Steps))])]

def law37_EnqueueWants_k1 (n : Nat) (j : TJob) : Option Bool :=
  (enqueue_Wants n j).bind fun r2 =>
  (ref37_Wants n j).bind fun r3 =>
  (law37_sameWants n r2 r3).bind fun r4 =>
  some r4

abbrev law37_EnqueueWants_t2 (j : TJob) (k : Int) : S := stB [(1, .box 9002 0), (3, .c (.int .i64) (.int k))] [(9002, .box [.c .str (.str j.Name), .c .str (.str j.Class), .c (.int .i64) (.int j.Prty), .c (.slice 177) (.slice (List.map e_TCond j.Conds)), .c (.slice 29) (.slice (List.map e_TJobStep j.Steps))])]

def law37_EnqueueWants_b2 (n : Nat) (j : TJob) (k : Int) : Option ((Int) ⊕ (((Bool) ⊕ (Unit)))) :=
  bif (decide (k < (j.Steps.length : Int))) then
    gd ((0 ≤ k ∧ k < (j.Steps.length : Int))) <|
    bif (decide ((((gt j.Steps (Int.toNat k)).DDs).length : Int) > 20)) then
      some (.inr (.inl true))
    else
      some (.inl (IntKind.wrap .i64 (k + 1)))
  else
    some (.inr (.inr ()))

def law37_EnqueueWants (n : Nat) (j : TJob) : Option Bool :=
  (law37_works n).bind fun r1 =>
  bif (!r1) then
    some false
  else
    bif (decide ((j.Steps.length : Int) > 10)) then
      some true
    else
      (loopF (fun (x : Int) => law37_EnqueueWants_b2 n j x) n 0).bind fun y12 =>
      match y12 with
      | .inl v =>
        some v
      | .inr v =>
        law37_EnqueueWants_k1 n j

def xlaw37_EnqueueWants (n : Nat) : Go.AE.Fn := mkFn (A := TJob) (R := Bool) 3 [(true, [.str, .str, .int .i64, .slice 177, .slice 29])] false (fun xs => (⟨(cg (xs.getD 0 []) 0).toStr, (cg (xs.getD 0 []) 1).toStr, (cg (xs.getD 0 []) 2).toInt, ((cg (xs.getD 0 []) 3).toSl.map d_TCond), ((cg (xs.getD 0 []) 4).toSl.map d_TJobStep)⟩ : TJob)) (fun a => [[.str a.Name, .str a.Class, .int a.Prty, .slice (List.map e_TCond a.Conds), .slice (List.map e_TJobStep a.Steps)]]) (fun a => law37_EnqueueWants n a) (fun r => [.c .bool (.bool r)]) (fun r => [])

theorem claw37_EnqueueWants (n : Nat) : Contract Tryd.prog (xlaw37_EnqueueWants n) := by
  have hΓ : ∀ g, g ∈ ([xlaw37_works n, xenqueue_Wants n, xref37_Wants n, xlaw37_sameWants n] : List Go.AE.Fn) → Contract Tryd.prog g := by
    intro g hg; simp only [List.mem_cons, List.not_mem_nil, or_false] at hg; rcases hg with rfl | rfl | rfl | rfl; exact claw37_works n; exact cenqueue_Wants n; exact cref37_Wants n; exact claw37_sameWants n
  refine contract_f (Tryd.f3.body.getD .skip) h00 Tryd.func3 rfl (by intro args w; exact Tryd.call3 args w) (by decide) (by intro _ r; exact ⟨rfl, by simp⟩) ?_
  rintro j r H
  try dsimp only at H
  unfold law37_EnqueueWants at H
  simp only [Tryd.f3, Option.getD]
  refine Sm.seqA h00 mixed hΓ (by kernel_rfl) fun K1 hK1 => ?_
  simp only [rs]
  repeat (refine opsG fun K hK => ?_; simp only [z, seval]; (repeat (first | refine gcI ?_ | refine fun (_ : _ ≤ _) => ?_)); refine hK _ ?_; clear hK K)
  refine hK1 _ ?_
  refine Sm.seqK fun K2 hK2 => ?_
  obtain ⟨r1, hr1, H⟩ := bind_some H
  refine Sm.seqA h00 mixed hΓ (by kernel_rfl) fun K3 hK3 => ?_
  simp only [rs]
  repeat (refine opsG fun K hK => ?_; simp only [z, seval, xlaw37_works, hr1]; (repeat (first | refine gcI ?_ | refine fun (_ : _ ≤ _) => ?_)); refine hK _ ?_; clear hK K)
  refine hK3 _ ?_
  refine Sm.condK (by rfl) fun Ka Kb ha hb => ?_
  simp only [wpCond, z, seval]
  refine ⟨fun h4 => ha ?_, fun h4 => hb ?_⟩
  · first | replace H := bif_t h4 H | replace H := bif_t2 h4 H (by simp only [List.length_append])
    refine Sm.seqA h00 mixed hΓ (by kernel_rfl) fun K5 hK5 => ?_
    simp only [rs]
    repeat (refine opsG fun K hK => ?_; simp only [z, seval]; (repeat (first | refine gcI ?_ | refine fun (_ : _ ≤ _) => ?_)); refine hK _ ?_; clear hK K)
    refine hK5 _ ?_
    refine Sm.ret ?_
    try simp only [seval, Exit.exit.injEq]
    obtain rfl := Option.some.inj H
    refine Ret.ofR [] (.inr rfl) ?_
    simp only [z, seval]
  first | replace H := bif_f h4 H | replace H := bif_f2 h4 H (by simp only [List.length_append])
  refine Sm.skip ?_
  refine hK2 _ ?_
  refine Sm.seqK fun K6 hK6 => ?_
  refine Sm.seqA h00 mixed hΓ (by kernel_rfl) fun K7 hK7 => ?_
  simp only [rs]
  repeat (refine opsG fun K hK => ?_; simp only [z, seval]; (repeat (first | refine gcI ?_ | refine fun (_ : _ ≤ _) => ?_)); refine hK _ ?_; clear hK K)
  refine hK7 _ ?_
  refine Sm.condK (by rfl) fun Ka Kb ha hb => ?_
  simp only [wpCond, z, seval]
  refine ⟨fun h8 => ha ?_, fun h8 => hb ?_⟩
  · first | replace H := bif_t h8 H | replace H := bif_t2 h8 H (by simp only [List.length_append])
    refine Sm.seqA h00 mixed hΓ (by kernel_rfl) fun K9 hK9 => ?_
    simp only [rs]
    repeat (refine opsG fun K hK => ?_; simp only [z, seval]; (repeat (first | refine gcI ?_ | refine fun (_ : _ ≤ _) => ?_)); refine hK _ ?_; clear hK K)
    refine hK9 _ ?_
    refine Sm.ret ?_
    try simp only [seval, Exit.exit.injEq]
    obtain rfl := Option.some.inj H
    refine Ret.ofR [] (.inr rfl) ?_
    simp only [z, seval]
  first | replace H := bif_f h8 H | replace H := bif_f2 h8 H (by simp only [List.length_append])
  refine Sm.skip ?_
  refine hK6 _ ?_
  refine Sm.cut (fun (x : Unit) => law37_EnqueueWants_s1 j) (fun x => law37_EnqueueWants_k1 n j = some r) ?_ ?_
  · refine Sm.seqA h00 mixed hΓ (by kernel_rfl) fun K11 hK11 => ?_
    simp only [rs]
    repeat (refine opsG fun K hK => ?_; simp only [z, seval]; (repeat (first | refine gcI ?_ | refine fun (_ : _ ≤ _) => ?_)); refine hK _ ?_; clear hK K)
    refine hK11 _ ?_
    refine Sm.block ?_
    obtain ⟨y12, hy12, Ho12⟩ := bind_some H
    refine Sm.loopB (fun (x : Int) => law37_EnqueueWants_b2 n j x) (fun x => law37_EnqueueWants_t2 j x) hy12 ?_ ?_
    · exact weak_b [some 16] rfl rfl rfl (by simp only [wk, z, seval]) (by simp only [wk, z, seval])
    rintro k z12 H
    try dsimp only at H
    unfold law37_EnqueueWants_b2 at H
    refine Sm.seqK fun K13 hK13 => ?_
    refine Sm.seqA h00 mixed hΓ (by kernel_rfl) fun K14 hK14 => ?_
    simp only [rs]
    repeat (refine opsG fun K hK => ?_; simp only [z, seval, law37_EnqueueWants_t2]; (repeat (first | refine gcI ?_ | refine fun (_ : _ ≤ _) => ?_)); refine hK _ ?_; clear hK K)
    refine hK14 _ ?_
    refine Sm.condK (by rfl) fun Ka Kb ha hb => ?_
    simp only [wpCond, z, seval, law37_EnqueueWants_t2]
    refine ⟨fun h15 => ha ?_, fun h15 => hb ?_⟩
    · first | replace H := bif_t h15 H | replace H := bif_t2 h15 H (by simp only [List.length_append])
      refine Sm.skip ?_
      refine hK13 _ ?_
      refine Sm.seqK fun K16 hK16 => ?_
      refine Sm.block ?_
      obtain ⟨hg20, H⟩ := gd_some H
      refine Sm.seqA h00 mixed hΓ (by kernel_rfl) fun K17 hK17 => ?_
      simp only [rs]
      repeat (refine opsG fun K hK => ?_; simp only [z, seval, law37_EnqueueWants_t2]; (repeat (first | refine gcI ?_ | refine fun (_ : _ ≤ _) => ?_)); refine hK _ ?_; clear hK K)
      refine hK17 _ ?_
      refine Sm.condK (by rfl) fun Ka Kb ha hb => ?_
      simp only [wpCond, z, seval, law37_EnqueueWants_t2]
      refine ⟨fun h18 => ha ?_, fun h18 => hb ?_⟩
      · first | replace H := bif_t h18 H | replace H := bif_t2 h18 H (by simp only [List.length_append])
        refine Sm.seqA h00 mixed hΓ (by kernel_rfl) fun K19 hK19 => ?_
        simp only [rs]
        repeat (refine opsG fun K hK => ?_; simp only [z, seval, law37_EnqueueWants_t2]; (repeat (first | refine gcI ?_ | refine fun (_ : _ ≤ _) => ?_)); refine hK _ ?_; clear hK K)
        refine hK19 _ ?_
        refine Sm.ret ?_
        try simp only [seval, Exit.exit.injEq]
        refine ⟨⟨_, (Option.some.inj H).symm⟩, fun hz => ?_⟩
        have hyy := Sum.inr.inj ((Option.some.inj H).trans hz)
        subst hyy
        have H := Ho12
        try dsimp only at H
        try simp only [seval, Exit.exit.injEq]
        obtain rfl := Option.some.inj H
        refine Ret.ofR [] (.inr rfl) ?_
        simp only [z, seval, law37_EnqueueWants_t2]
      first | replace H := bif_f h18 H | replace H := bif_f2 h18 H (by simp only [List.length_append])
      refine Sm.skip ?_
      refine hK16 _ ?_
      refine Sm.regA h00 mixed hΓ (by kernel_rfl) ?_
      simp only [rs]
      repeat (refine opsG fun K hK => ?_; simp only [z, seval, law37_EnqueueWants_t2]; (repeat (first | refine gcI ?_ | refine fun (_ : _ ≤ _) => ?_)); refine hK _ ?_; clear hK K)
      refine opsG0 ?_
      try simp only [seval, Exit.exit.injEq]
      refine ⟨_, (Option.some.inj H).symm, ?_⟩
      exact weak_b [some 9002] rfl rfl rfl (by simp only [wk, z, seval, law37_EnqueueWants_t2]) (by simp only [wk, z, seval, law37_EnqueueWants_t2])
    first | replace H := bif_f h15 H | replace H := bif_f2 h15 H (by simp only [List.length_append])
    refine Sm.exit ?_
    try simp only [seval, Exit.exit.injEq]
    refine ⟨⟨_, (Option.some.inj H).symm⟩, fun hz => ?_⟩
    have hyy := Sum.inr.inj ((Option.some.inj H).trans hz)
    subst hyy
    have H := Ho12
    try dsimp only at H
    try simp only [seval, Exit.exit.injEq]
    refine ⟨(), H, ?_⟩
    exact weak_b [some 9002] rfl rfl rfl (by simp only [wk, z, seval, law37_EnqueueWants_t2]) (by simp only [wk, z, seval, law37_EnqueueWants_t2])
  rintro ⟨⟩ H
  try dsimp only at H
  unfold law37_EnqueueWants_k1 at H
  obtain ⟨r2, hr2, H⟩ := bind_some H
  obtain ⟨r3, hr3, H⟩ := bind_some H
  obtain ⟨r4, hr4, H⟩ := bind_some H
  refine Sm.seqQ h00 mixed hΓ [0, 1, 2, 3, 4, 5] [(none, [9000], []), (none, [], [431, 430, 429, 428, 427, 426, 425, 424, 423, 422, 421, 420, 419, 418, 417, 416]), (none, [9000], []), (none, [], [463, 462, 461, 460, 459, 458, 457, 456, 455, 454, 453, 452, 451, 450, 449, 448]), (none, [448], [479, 478, 477, 476, 475, 474, 473, 472, 471, 470, 469, 468, 467, 466, 465, 464, 448]), (none, [], [])] (by kernel_rfl) rfl fun K10 hK10 => ?_
  simp only [rs]
  iterate 6 (refine opsQ fun K hK => ?_; simp only [z, seval, law37_EnqueueWants_s1, xlaw37_works, xenqueue_Wants, xref37_Wants, xlaw37_sameWants, hr2, hr3, hr4]; (repeat (first | refine gcI ?_ | refine fun (_ : _ ≤ _) => ?_)); refine hK _ ?_; clear hK K)
  refine opsQ0 ?_
  refine hK10 _ ?_
  refine Sm.ret ?_
  try simp only [seval, Exit.exit.injEq]
  obtain rfl := Option.some.inj H
  refine Ret.ofR [] (.inr rfl) ?_
  simp only [z, seval, law37_EnqueueWants_s1]
end Go.Proofs.YtcdofkflbnpjjaaDoor
