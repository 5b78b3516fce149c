/-
  The functions of the seat, as functions; their contracts.
-/
import Derived.Test.YtkebegfopnlkhaaF1
set_option maxHeartbeats 8000000
set_option linter.unusedVariables false
set_option linter.unusedSimpArgs false
set_option maxRecDepth 100000
namespace Go.Proofs.Ytkebegfopnlkhaa
open Go.AE
abbrev spool_Lines_s1 (t : List (List TRec)) (n_ : Int) (l : List TLine) : S := stB [(0, .c (.slice 57) (.slice (List.map e_LTRec t))), (1, .c (.int .i64) (.int n_)), (6, .own 9000 [.int .i64, .str] 0 l.length)] [(9000, .row 48 (List.map e_TLine l))]

def spool_Lines_k1 (n : Nat) (t : List (List TRec)) (n_ : Int) (l : List TLine) : Option ((List TLine) × Int) :=
  (spool_Tracks n l).bind fun r1 =>
  bif (if (r1.2 != 0) = true then true else (((l.length : Nat) : Int) != n_)) then
    some ([], 390)
  else
    gd ((!(if (r1.2 != 0) = true then true else (((l.length : Nat) : Int) != n_))) = true) <|
    (slices_EqualFunc_f52_M1 n r1.1 t).bind fun r2 =>
    bif (!r2) then
      some ([], 390)
    else
      some (l, 0)

abbrev spool_Lines_s3 (t : List (List TRec)) (n_ : Int) (l_2 : List TLine) (v16 : Int) (v17 : Int) : S := stB [(0, .c (.slice 57) (.slice (List.map e_LTRec t))), (1, .c (.int .i64) (.int n_)), (6, .own 9003 [.int .i64, .str] 0 l_2.length), (15, .c (.slice 57) (.slice (List.map e_LTRec t))), (16, .c (.int .i64) (.int v16)), (17, .c (.int .i64) (.int v17))] [(9003, .row 48 (List.map e_TLine l_2))]

def spool_Lines_k3 (n : Nat) (t : List (List TRec)) (n_ : Int) (l_2 : List TLine) (v16 : Int) (v17 : Int) : Option (((List TLine) × Int) ⊕ ((((List TLine) × Int) ⊕ ((List TLine))))) :=
  some (.inl (l_2, (IntKind.wrap .i64 (v17 + 1))))

abbrev spool_Lines_t4 (t : List (List TRec)) (n_ : Int) (v16 : Int) (v17 : Int) (v21 : List TRec) (v22 : Int) (l_3 : List TLine) (v23 : Int) : S := stB [(0, .c (.slice 57) (.slice (List.map e_LTRec t))), (1, .c (.int .i64) (.int n_)), (6, .own 9005 [.int .i64, .str] 0 l_3.length), (15, .c (.slice 57) (.slice (List.map e_LTRec t))), (16, .c (.int .i64) (.int v16)), (17, .c (.int .i64) (.int v17)), (21, .c (.slice 59) (.slice (List.map e_TRec v21))), (22, .c (.int .i64) (.int v22)), (23, .c (.int .i64) (.int v23))] [(9005, .row 48 (List.map e_TLine l_3))]

def spool_Lines_b4 (n : Nat) (t : List (List TRec)) (n_ : Int) (v16 : Int) (v17 : Int) (v21 : List TRec) (v22 : Int) (l_3 : List TLine) (v23 : Int) : Option (((List TLine) × Int) ⊕ ((((List TLine) × Int) ⊕ ((List TLine))))) :=
  bif (decide (v23 < v22)) then
    gd ((0 ≤ v23 ∧ v23 < (v21.length : Int))) <|
    (spool_group n ((gt v21 (Int.toNat v23)).Data) ((l_3.length : Nat) : Int)).bind fun r3 =>
    bif (if (!r3.2) = true then true else (decide ((IntKind.wrap .i64 (((l_3.length : Nat) : Int) + ((r3.1.length : Nat) : Int))) > (if 0 > n_ then 0 else n_)))) then
      some (.inr (.inl ([], 390)))
    else
      gd ((l_3.length + r3.1.length) ≤ 2147483648) <|
      some (.inl ((l_3 ++ r3.1), (IntKind.wrap .i64 (v23 + 1))))
  else
    some (.inr (.inr l_3))

abbrev spool_Lines_t2 (t : List (List TRec)) (n_ : Int) (v16 : Int) (l_1 : List TLine) (v17 : Int) : S := stB [(0, .c (.slice 57) (.slice (List.map e_LTRec t))), (1, .c (.int .i64) (.int n_)), (6, .own 9002 [.int .i64, .str] 0 l_1.length), (15, .c (.slice 57) (.slice (List.map e_LTRec t))), (16, .c (.int .i64) (.int v16)), (17, .c (.int .i64) (.int v17))] [(9002, .row 48 (List.map e_TLine l_1))]

def spool_Lines_b2 (n : Nat) (t : List (List TRec)) (n_ : Int) (v16 : Int) (l_1 : List TLine) (v17 : Int) : Option (((List TLine) × Int) ⊕ ((((List TLine) × Int) ⊕ ((List TLine))))) :=
  bif (decide (v17 < v16)) then
    gd ((0 ≤ v17 ∧ v17 < (t.length : Int))) <|
    (loopF (fun (x : (List TLine) × Int) => spool_Lines_b4 n t n_ v16 v17 (gt t (Int.toNat v17)) ((gt t (Int.toNat v17)).length : Int) x.1 x.2) n (l_1, 0)).bind fun y20 =>
    match y20 with
    | .inl v =>
      some (.inr (.inl (v.1, v.2)))
    | .inr v =>
      spool_Lines_k3 n t n_ v v16 v17
  else
    some (.inr (.inr l_1))

def spool_Lines (n : Nat) (t : List (List TRec)) (n_ : Int) : Option ((List TLine) × Int) :=
  (loopF (fun (x : (List TLine) × Int) => spool_Lines_b2 n t n_ (t.length : Int) x.1 x.2) n ([], 0)).bind fun y14 =>
  match y14 with
  | .inl v =>
    some (v.1, v.2)
  | .inr v =>
    spool_Lines_k1 n t n_ v

def xspool_Lines (n : Nat) : Go.AE.Fn := mkFn (A := (List (List TRec)) × Int) (R := (List TLine) × Int) 22 [(false, [.slice 57]), (false, [.int .i64])] true (fun xs => (((cg (xs.getD 0 []) 0).toSl.map d_LTRec), (cg (xs.getD 1 []) 0).toInt)) (fun a => [[.slice (List.map e_LTRec a.1)], [.int a.2]]) (fun a => spool_Lines n a.1 a.2) (fun r => [.c (.slice 48) (.slice (List.map e_TLine r.1)), .c (.int .i64) (.int r.2)]) (fun r => [])

theorem cspool_Lines (n : Nat) : Contract Try.prog (xspool_Lines n) := by
  have hΓ : ∀ g, g ∈ ([xspool_group n, xspool_Tracks n] : List Go.AE.Fn) → Contract Try.prog g := by
    intro g hg; simp only [List.mem_cons, List.not_mem_nil, or_false] at hg; rcases hg with rfl | rfl; exact cspool_group n; exact cspool_Tracks n
  refine contract_f (Try.f22.body.getD .skip) h00 Try.func22 rfl (by intro args w; exact Try.call22 args w) (by decide) (by intro h; cases h) ?_
  rintro ⟨t, n_⟩ r H
  try dsimp only at H
  unfold spool_Lines at H
  simp only [Try.f22, Option.getD]
  refine Sm.seqA h00 mixed hΓ (by kernel_rfl) fun K1 hK1 => ?_
  simp only [rs]
  repeat (refine opsG fun K hK => ?_; simp only [z, seval]; (repeat (first | refine gcI ?_ | refine fun (_ : _ ≤ _) => ?_)); refine hK _ ?_; clear hK K)
  refine hK1 _ ?_
  refine Sm.seqA h00 mixed hΓ (by kernel_rfl) fun K2 hK2 => ?_
  simp only [rs]
  repeat (refine opsG fun K hK => ?_; simp only [z, seval]; (repeat (first | refine gcI ?_ | refine fun (_ : _ ≤ _) => ?_)); refine hK _ ?_; clear hK K)
  refine hK2 _ ?_
  refine Sm.cut (fun (x : (List TLine)) => spool_Lines_s1 t n_ x) (fun x => spool_Lines_k1 n t n_ x = some r) ?_ ?_
  · refine Sm.seqA h00 mixed hΓ (by kernel_rfl) fun K13 hK13 => ?_
    simp only [rs]
    repeat (refine opsG fun K hK => ?_; simp only [z, seval]; (repeat (first | refine gcI ?_ | refine fun (_ : _ ≤ _) => ?_)); refine hK _ ?_; clear hK K)
    refine hK13 _ ?_
    refine Sm.block ?_
    obtain ⟨y14, hy14, Ho14⟩ := bind_some H
    refine Sm.loopB (fun (x : (List TLine) × Int) => spool_Lines_b2 n t n_ (t.length : Int) x.1 x.2) (fun x => spool_Lines_t2 t n_ (t.length : Int) x.1 x.2) hy14 ?_ ?_
    · exact weak_b [none] rfl rfl rfl (by simp only [wk, z, seval]) (by simp only [wk, z, seval])
    rintro ⟨l_1, v17⟩ z14 H
    try dsimp only at H
    unfold spool_Lines_b2 at H
    refine Sm.seqA h00 mixed hΓ (by kernel_rfl) fun K15 hK15 => ?_
    simp only [rs]
    repeat (refine opsG fun K hK => ?_; simp only [z, seval, spool_Lines_t2]; (repeat (first | refine gcI ?_ | refine fun (_ : _ ≤ _) => ?_)); refine hK _ ?_; clear hK K)
    refine hK15 _ ?_
    refine Sm.seqK fun K16 hK16 => ?_
    refine Sm.condK (by rfl) fun Ka Kb ha hb => ?_
    simp only [wpCond, z, seval, spool_Lines_t2]
    refine ⟨fun h17 => ha ?_, fun h17 => hb ?_⟩
    · first | replace H := bif_t h17 H | replace H := bif_t2 h17 H (by simp only [List.length_append])
      refine Sm.skip ?_
      refine hK16 _ ?_
      refine Sm.cut (fun (x : (List TLine)) => spool_Lines_s3 t n_ x (t.length : Int) v17) (fun x => spool_Lines_k3 n t n_ x (t.length : Int) v17 = some z14) ?_ ?_
      · refine Sm.block ?_
        obtain ⟨hg33, H⟩ := gd_some H
        refine Sm.seqA h00 mixed hΓ (by kernel_rfl) fun K18 hK18 => ?_
        simp only [rs]
        repeat (refine opsG fun K hK => ?_; simp only [z, seval, spool_Lines_t2]; (repeat (first | refine gcI ?_ | refine fun (_ : _ ≤ _) => ?_)); refine hK _ ?_; clear hK K)
        refine hK18 _ ?_
        refine Sm.seqA h00 mixed hΓ (by kernel_rfl) fun K19 hK19 => ?_
        simp only [rs]
        repeat (refine opsG fun K hK => ?_; simp only [z, seval, spool_Lines_t2]; (repeat (first | refine gcI ?_ | refine fun (_ : _ ≤ _) => ?_)); refine hK _ ?_; clear hK K)
        refine hK19 _ ?_
        refine Sm.block ?_
        obtain ⟨y20, hy20, Ho20⟩ := bind_some H
        refine Sm.loopB (fun (x : (List TLine) × Int) => spool_Lines_b4 n t n_ (t.length : Int) v17 (gt t (Int.toNat v17)) ((gt t (Int.toNat v17)).length : Int) x.1 x.2) (fun x => spool_Lines_t4 t n_ (t.length : Int) v17 (gt t (Int.toNat v17)) ((gt t (Int.toNat v17)).length : Int) x.1 x.2) hy20 ?_ ?_
        · exact weak_b [some 9002] rfl rfl rfl (by simp only [wk, z, seval, spool_Lines_t2]) (by simp only [wk, z, seval, spool_Lines_t2])
        rintro ⟨l_3, v23⟩ z20 H
        try dsimp only at H
        unfold spool_Lines_b4 at H
        refine Sm.seqA h00 mixed hΓ (by kernel_rfl) fun K21 hK21 => ?_
        simp only [rs]
        repeat (refine opsG fun K hK => ?_; simp only [z, seval, spool_Lines_t4]; (repeat (first | refine gcI ?_ | refine fun (_ : _ ≤ _) => ?_)); refine hK _ ?_; clear hK K)
        refine hK21 _ ?_
        refine Sm.seqK fun K22 hK22 => ?_
        refine Sm.condK (by rfl) fun Ka Kb ha hb => ?_
        simp only [wpCond, z, seval, spool_Lines_t4]
        refine ⟨fun h23 => ha ?_, fun h23 => hb ?_⟩
        · first | replace H := bif_t h23 H | replace H := bif_t2 h23 H (by simp only [List.length_append])
          refine Sm.skip ?_
          refine hK22 _ ?_
          refine Sm.seqK fun K24 hK24 => ?_
          refine Sm.block ?_
          obtain ⟨hg32, H⟩ := gd_some H
          refine Sm.seqA h00 mixed hΓ (by kernel_rfl) fun K25 hK25 => ?_
          simp only [rs]
          repeat (refine opsG fun K hK => ?_; simp only [z, seval, spool_Lines_t4]; (repeat (first | refine gcI ?_ | refine fun (_ : _ ≤ _) => ?_)); refine hK _ ?_; clear hK K)
          refine hK25 _ ?_
          obtain ⟨r3, hr3, H⟩ := bind_some H
          refine Sm.seqA h00 mixed hΓ (by kernel_rfl) fun K26 hK26 => ?_
          simp only [rs]
          repeat (refine opsG fun K hK => ?_; simp only [z, seval, spool_Lines_t4, xspool_group, hr3]; (repeat (first | refine gcI ?_ | refine fun (_ : _ ≤ _) => ?_)); refine hK _ ?_; clear hK K)
          refine hK26 _ ?_
          refine Sm.seqK fun K27 hK27 => ?_
          refine Sm.seqA h00 mixed hΓ (by kernel_rfl) fun K28 hK28 => ?_
          simp only [rs]
          repeat (refine opsG fun K hK => ?_; simp only [z, seval, spool_Lines_t4]; (repeat (first | refine gcI ?_ | refine fun (_ : _ ≤ _) => ?_)); refine hK _ ?_; clear hK K)
          refine hK28 _ ?_
          refine Sm.condK (by rfl) fun Ka Kb ha hb => ?_
          simp only [wpCond, z, seval, spool_Lines_t4]
          refine ⟨fun h29 => ha ?_, fun h29 => hb ?_⟩
          · first | replace H := bif_t h29 H | replace H := bif_t2 h29 H (by simp only [List.length_append])
            refine Sm.seqA h00 mixed hΓ (by kernel_rfl) fun K30 hK30 => ?_
            simp only [rs]
            repeat (refine opsG fun K hK => ?_; simp only [z, seval, spool_Lines_t4]; (repeat (first | refine gcI ?_ | refine fun (_ : _ ≤ _) => ?_)); refine hK _ ?_; clear hK K)
            refine hK30 _ ?_
            refine Sm.ret ?_
            try simp only [seval, Exit.exit.injEq]
            refine ⟨⟨_, (Option.some.inj H).symm⟩, fun hz => ?_⟩
            have hyy := Sum.inr.inj ((Option.some.inj H).trans hz)
            subst hyy
            have H := Ho20
            try dsimp only at H
            try simp only [seval, Exit.exit.injEq]
            refine ⟨⟨_, (Option.some.inj H).symm⟩, fun hz => ?_⟩
            have hyy := Sum.inr.inj ((Option.some.inj H).trans hz)
            subst hyy
            have H := Ho14
            try dsimp only at H
            try simp only [seval, Exit.exit.injEq]
            obtain rfl := Option.some.inj H
            refine Ret.ofR [] (.inr rfl) ?_
            simp only [z, seval, spool_Lines_t4]
          first | replace H := bif_f h29 H | replace H := bif_f2 h29 H (by simp only [List.length_append])
          refine Sm.skip ?_
          refine hK27 _ ?_
          obtain ⟨hg31, H⟩ := gd_some H
          refine Sm.regA h00 mixed hΓ (by kernel_rfl) ?_
          simp only [rs]
          repeat (refine opsG fun K hK => ?_; simp only [z, seval, spool_Lines_t4]; (repeat (first | refine gcI ?_ | refine fun (_ : _ ≤ _) => ?_)); refine hK _ ?_; clear hK K)
          refine opsG0 ?_
          refine hK24 _ ?_
          refine Sm.regA h00 mixed hΓ (by kernel_rfl) ?_
          simp only [rs]
          repeat (refine opsG fun K hK => ?_; simp only [z, seval, spool_Lines_t4]; (repeat (first | refine gcI ?_ | refine fun (_ : _ ≤ _) => ?_)); refine hK _ ?_; clear hK K)
          refine opsG0 ?_
          try simp only [seval, Exit.exit.injEq]
          refine ⟨(_, _), (Option.some.inj H).symm, ?_⟩
          exact weak_b [some 784] rfl rfl rfl (by simp only [wk, z, seval, spool_Lines_t4]) (by simp only [wk, z, seval, spool_Lines_t4])
        first | replace H := bif_f h23 H | replace H := bif_f2 h23 H (by simp only [List.length_append])
        refine Sm.exit ?_
        try simp only [seval, Exit.exit.injEq]
        refine ⟨⟨_, (Option.some.inj H).symm⟩, fun hz => ?_⟩
        have hyy := Sum.inr.inj ((Option.some.inj H).trans hz)
        subst hyy
        have H := Ho20
        try dsimp only at H
        try simp only [seval, Exit.exit.injEq]
        refine ⟨_, H, ?_⟩
        exact weak_b [some 9005] rfl rfl rfl (by simp only [wk, z, seval, spool_Lines_t4]) (by simp only [wk, z, seval, spool_Lines_t4])
      rintro l_2 H
      try dsimp only at H
      unfold spool_Lines_k3 at H
      refine Sm.regA h00 mixed hΓ (by kernel_rfl) ?_
      simp only [rs]
      repeat (refine opsG fun K hK => ?_; simp only [z, seval, spool_Lines_s3]; (repeat (first | refine gcI ?_ | refine fun (_ : _ ≤ _) => ?_)); refine hK _ ?_; clear hK K)
      refine opsG0 ?_
      try simp only [seval, Exit.exit.injEq]
      refine ⟨(_, _), (Option.some.inj H).symm, ?_⟩
      exact weak_b [some 9003] rfl rfl rfl (by simp only [wk, z, seval, spool_Lines_s3]) (by simp only [wk, z, seval, spool_Lines_s3])
    first | replace H := bif_f h17 H | replace H := bif_f2 h17 H (by simp only [List.length_append])
    refine Sm.exit ?_
    try simp only [seval, Exit.exit.injEq]
    refine ⟨⟨_, (Option.some.inj H).symm⟩, fun hz => ?_⟩
    have hyy := Sum.inr.inj ((Option.some.inj H).trans hz)
    subst hyy
    have H := Ho14
    try dsimp only at H
    try simp only [seval, Exit.exit.injEq]
    refine ⟨_, H, ?_⟩
    exact weak_b [some 9002] rfl rfl rfl (by simp only [wk, z, seval, spool_Lines_t2]) (by simp only [wk, z, seval, spool_Lines_t2])
  rintro l H
  try dsimp only at H
  unfold spool_Lines_k1 at H
  obtain ⟨r1, hr1, H⟩ := bind_some H
  refine Sm.seqA h00 mixed hΓ (by kernel_rfl) fun K3 hK3 => ?_
  simp only [rs]
  repeat (refine opsG fun K hK => ?_; simp only [z, seval, spool_Lines_s1, xspool_group, xspool_Tracks, hr1]; (repeat (first | refine gcI ?_ | refine fun (_ : _ ≤ _) => ?_)); refine hK _ ?_; clear hK K)
  refine hK3 _ ?_
  refine Sm.seqK fun K4 hK4 => ?_
  refine Sm.seqX h00 mixed hΓ (by kernel_rfl) fun K5 hK5 => ?_
  simp only [rs]
  iterate 11 (refine opsX fun K hK => ?_; simp only [z, seval, spool_Lines_s1]; (repeat (first | refine gcI ?_ | refine fun (_ : _ ≤ _) => ?_)); refine hK _ ?_; clear hK K)
  refine bif_cases H (fun hs6 H => ?_) (fun hs6 H => ?_)
  · refine opsF rfl (by simp only [z, seval, spool_Lines_s1, hs6]) ?_
    refine opsF rfl (by simp only [z, seval, spool_Lines_s1, hs6]) ?_
    refine opsP fun K hK => ?_; simp only [z, seval, spool_Lines_s1, hs6]; (repeat (first | refine gcI ?_ | refine fun (_ : _ ≤ _) => ?_)); refine Or.inl ?_; (repeat (first | refine gcI ?_ | refine fun (_ : _ ≤ _) => ?_)); refine hK _ ?_; clear hK K
    refine hK5 _ ?_
    refine Sm.condK (by rfl) fun Ka Kb ha hb => ?_
    simp only [wpCond, z, seval, spool_Lines_s1]
    refine ha ?_
    refine Sm.seqA h00 mixed hΓ (by kernel_rfl) fun K8 hK8 => ?_
    simp only [rs]
    repeat (refine opsG fun K hK => ?_; simp only [z, seval, spool_Lines_s1]; (repeat (first | refine gcI ?_ | refine fun (_ : _ ≤ _) => ?_)); refine hK _ ?_; clear hK K)
    refine hK8 _ ?_
    refine Sm.ret ?_
    try simp only [seval, Exit.exit.injEq]
    obtain rfl := Option.some.inj H
    refine Ret.ofR [] (.inr rfl) ?_
    simp only [z, seval, spool_Lines_s1]
  obtain ⟨hg9, H⟩ := gd_some H
  obtain ⟨r2, hr2, H⟩ := bind_some H
  refine opsTM (cslices_EqualFunc_f52_M1 n _ _ r2 hr2) [] [] (by simp only [z, seval, spool_Lines_s1, hs6, hr2]) (by simp only [z, seval, spool_Lines_s1, hs6, hr2]; try rfl) (by simp only [z, seval, spool_Lines_s1, hs6, hr2]) (by simp only [z, seval, spool_Lines_s1, hs6, hr2]) (by simp only [z, seval, spool_Lines_s1, hs6, hr2]) (by simp only [z, seval, spool_Lines_s1, hs6, hr2]) rfl (by simp only [z, seval, spool_Lines_s1, hs6, hr2]) rfl ?_
  refine opsTG rfl (by simp only [z, seval, spool_Lines_s1, hs6, hr2]) fun K hK => ?_; simp only [z, seval, spool_Lines_s1, hs6, hr2]; (repeat (first | refine gcI ?_ | refine fun (_ : _ ≤ _) => ?_)); refine hK _ ?_; clear hK K
  refine opsP fun K hK => ?_; simp only [z, seval, spool_Lines_s1, hs6, hr2]; (repeat (first | refine gcI ?_ | refine fun (_ : _ ≤ _) => ?_)); refine Or.inr ?_; (repeat (first | refine gcI ?_ | refine fun (_ : _ ≤ _) => ?_)); refine hK _ ?_; clear hK K
  refine hK5 _ ?_
  refine Sm.condK (by rfl) fun Ka Kb ha hb => ?_
  simp only [wpCond, z, seval, spool_Lines_s1]
  refine ⟨fun h10 => ha ?_, fun h10 => hb ?_⟩
  · first | replace H := bif_t h10 H | replace H := bif_t2 h10 H (by simp only [List.length_append])
    refine Sm.seqA h00 mixed hΓ (by kernel_rfl) fun K11 hK11 => ?_
    simp only [rs]
    repeat (refine opsG fun K hK => ?_; simp only [z, seval, spool_Lines_s1]; (repeat (first | refine gcI ?_ | refine fun (_ : _ ≤ _) => ?_)); refine hK _ ?_; clear hK K)
    refine hK11 _ ?_
    refine Sm.ret ?_
    try simp only [seval, Exit.exit.injEq]
    obtain rfl := Option.some.inj H
    refine Ret.ofR [] (.inr rfl) ?_
    simp only [z, seval, spool_Lines_s1]
  first | replace H := bif_f h10 H | replace H := bif_f2 h10 H (by simp only [List.length_append])
  refine Sm.skip ?_
  refine hK4 _ ?_
  refine Sm.seqA h00 mixed hΓ (by kernel_rfl) fun K12 hK12 => ?_
  simp only [rs]
  repeat (refine opsG fun K hK => ?_; simp only [z, seval, spool_Lines_s1]; (repeat (first | refine gcI ?_ | refine fun (_ : _ ≤ _) => ?_)); refine hK _ ?_; clear hK K)
  refine hK12 _ ?_
  refine Sm.ret ?_
  try simp only [seval, Exit.exit.injEq]
  obtain rfl := Option.some.inj H
  refine Ret.ofR [] (.inr rfl) ?_
  simp only [z, seval, spool_Lines_s1]

abbrev law39_equal_s1 : S := stB [] []

def law39_equal_k1 (n : Nat) : Option Bool :=
  some true

abbrev law39_equal_t2 (a : List TLine) (b : List TLine) (v12 : Int) (v13 : Int) : S := stB [(0, .c (.slice 48) (.slice (List.map e_TLine a))), (1, .c (.slice 48) (.slice (List.map e_TLine b))), (12, .c (.int .i64) (.int v12)), (13, .c (.int .i64) (.int v13))] []

def law39_equal_b2 (n : Nat) (a : List TLine) (b : List TLine) (v12 : Int) (v13 : Int) : Option ((Int) ⊕ (((Bool) ⊕ (Unit)))) :=
  bif (decide (v13 < v12)) then
    gd ((0 ≤ v13 ∧ v13 < (a.length : Int)) ∧ (0 ≤ v13 ∧ v13 < (b.length : Int))) <|
    bif (!((((gt a (Int.toNat v13)).Ctl) == ((gt b (Int.toNat v13)).Ctl)) && (((gt a (Int.toNat v13)).Text) == ((gt b (Int.toNat v13)).Text)))) then
      some (.inr (.inl false))
    else
      some (.inl (IntKind.wrap .i64 (v13 + 1)))
  else
    some (.inr (.inr ()))

def law39_equal (n : Nat) (a : List TLine) (b : List TLine) : Option Bool :=
  bif ((a.length : Int) != (b.length : Int)) then
    some false
  else
    (loopF (fun (x : Int) => law39_equal_b2 n a b (a.length : Int) x) n 0).bind fun y8 =>
    match y8 with
    | .inl v =>
      some v
    | .inr v =>
      law39_equal_k1 n

def xlaw39_equal (n : Nat) : Go.AE.Fn := mkFn (A := (List TLine) × (List TLine)) (R := Bool) 23 [(false, [.slice 48]), (false, [.slice 48])] false (fun xs => (((cg (xs.getD 0 []) 0).toSl.map d_TLine), ((cg (xs.getD 1 []) 0).toSl.map d_TLine))) (fun a => [[.slice (List.map e_TLine a.1)], [.slice (List.map e_TLine a.2)]]) (fun a => law39_equal n a.1 a.2) (fun r => [.c .bool (.bool r)]) (fun r => [])

theorem claw39_equal (n : Nat) : Contract Try.prog (xlaw39_equal n) := by
  have hΓ : ∀ g, g ∈ ([] : List Go.AE.Fn) → Contract Try.prog g := by simp
  refine contract_f (Try.f23.body.getD .skip) h00 Try.func23 rfl (by intro args w; exact Try.call23 args w) (by decide) (by intro _ r; exact ⟨rfl, by simp⟩) ?_
  rintro ⟨a, b⟩ r H
  try dsimp only at H
  unfold law39_equal at H
  simp only [Try.f23, Option.getD]
  refine Sm.seqA h00 mixed hΓ (by kernel_rfl) fun K1 hK1 => ?_
  simp only [rs]
  repeat (refine opsG fun K hK => ?_; simp only [z, seval]; (repeat (first | refine gcI ?_ | refine fun (_ : _ ≤ _) => ?_)); refine hK _ ?_; clear hK K)
  refine hK1 _ ?_
  refine Sm.seqK fun K2 hK2 => ?_
  refine Sm.seqA h00 mixed hΓ (by kernel_rfl) fun K3 hK3 => ?_
  simp only [rs]
  repeat (refine opsG fun K hK => ?_; simp only [z, seval]; (repeat (first | refine gcI ?_ | refine fun (_ : _ ≤ _) => ?_)); refine hK _ ?_; clear hK K)
  refine hK3 _ ?_
  refine Sm.condK (by rfl) fun Ka Kb ha hb => ?_
  simp only [wpCond, z, seval]
  refine ⟨fun h4 => ha ?_, fun h4 => hb ?_⟩
  · first | replace H := bif_t h4 H | replace H := bif_t2 h4 H (by simp only [List.length_append])
    refine Sm.seqA h00 mixed hΓ (by kernel_rfl) fun K5 hK5 => ?_
    simp only [rs]
    repeat (refine opsG fun K hK => ?_; simp only [z, seval]; (repeat (first | refine gcI ?_ | refine fun (_ : _ ≤ _) => ?_)); refine hK _ ?_; clear hK K)
    refine hK5 _ ?_
    refine Sm.ret ?_
    try simp only [seval, Exit.exit.injEq]
    obtain rfl := Option.some.inj H
    refine Ret.ofR [] (.inr rfl) ?_
    simp only [z, seval]
  first | replace H := bif_f h4 H | replace H := bif_f2 h4 H (by simp only [List.length_append])
  refine Sm.skip ?_
  refine hK2 _ ?_
  refine Sm.cut (fun (x : Unit) => law39_equal_s1) (fun x => law39_equal_k1 n = some r) ?_ ?_
  · refine Sm.seqA h00 mixed hΓ (by kernel_rfl) fun K7 hK7 => ?_
    simp only [rs]
    repeat (refine opsG fun K hK => ?_; simp only [z, seval]; (repeat (first | refine gcI ?_ | refine fun (_ : _ ≤ _) => ?_)); refine hK _ ?_; clear hK K)
    refine hK7 _ ?_
    refine Sm.block ?_
    obtain ⟨y8, hy8, Ho8⟩ := bind_some H
    refine Sm.loopB (fun (x : Int) => law39_equal_b2 n a b (a.length : Int) x) (fun x => law39_equal_t2 a b (a.length : Int) x) hy8 ?_ ?_
    · exact weak_b [] rfl rfl rfl (by simp only [wk, z, seval]) (by simp only [wk, z, seval])
    rintro v13 z8 H
    try dsimp only at H
    unfold law39_equal_b2 at H
    refine Sm.seqA h00 mixed hΓ (by kernel_rfl) fun K9 hK9 => ?_
    simp only [rs]
    repeat (refine opsG fun K hK => ?_; simp only [z, seval, law39_equal_t2]; (repeat (first | refine gcI ?_ | refine fun (_ : _ ≤ _) => ?_)); refine hK _ ?_; clear hK K)
    refine hK9 _ ?_
    refine Sm.seqK fun K10 hK10 => ?_
    refine Sm.condK (by rfl) fun Ka Kb ha hb => ?_
    simp only [wpCond, z, seval, law39_equal_t2]
    refine ⟨fun h11 => ha ?_, fun h11 => hb ?_⟩
    · first | replace H := bif_t h11 H | replace H := bif_t2 h11 H (by simp only [List.length_append])
      refine Sm.skip ?_
      refine hK10 _ ?_
      refine Sm.seqK fun K12 hK12 => ?_
      refine Sm.block ?_
      refine Sm.seqA h00 mixed hΓ (by kernel_rfl) fun K13 hK13 => ?_
      simp only [rs]
      repeat (refine opsG fun K hK => ?_; simp only [z, seval, law39_equal_t2]; (repeat (first | refine gcI ?_ | refine fun (_ : _ ≤ _) => ?_)); refine hK _ ?_; clear hK K)
      refine hK13 _ ?_
      obtain ⟨⟨hg17, hg18⟩, H⟩ := gd_some H
      refine Sm.seqD h00 mixed hΓ (by kernel_rfl) fun K14 hK14 => ?_
      simp only [rs]
      repeat (refine opsH fun K hK => ?_; simp only [z, seval, law39_equal_t2]; (repeat (first | refine gcI ?_ | refine fun (_ : _ ≤ _) => ?_)); refine hK _ ?_; clear hK K)
      refine hK14 _ ?_
      refine Sm.condK (by rfl) fun Ka Kb ha hb => ?_
      simp only [wpCond, z, seval, law39_equal_t2]
      refine ⟨fun h15 => ha ?_, fun h15 => hb ?_⟩
      · first | replace H := bif_t h15 H | replace H := bif_t2 h15 H (by simp only [List.length_append])
        refine Sm.seqA h00 mixed hΓ (by kernel_rfl) fun K16 hK16 => ?_
        simp only [rs]
        repeat (refine opsG fun K hK => ?_; simp only [z, seval, law39_equal_t2]; (repeat (first | refine gcI ?_ | refine fun (_ : _ ≤ _) => ?_)); refine hK _ ?_; clear hK K)
        refine hK16 _ ?_
        refine Sm.ret ?_
        try simp only [seval, Exit.exit.injEq]
        refine ⟨⟨_, (Option.some.inj H).symm⟩, fun hz => ?_⟩
        have hyy := Sum.inr.inj ((Option.some.inj H).trans hz)
        subst hyy
        have H := Ho8
        try dsimp only at H
        try simp only [seval, Exit.exit.injEq]
        obtain rfl := Option.some.inj H
        refine Ret.ofR [] (.inr rfl) ?_
        simp only [z, seval, law39_equal_t2]
      first | replace H := bif_f h15 H | replace H := bif_f2 h15 H (by simp only [List.length_append])
      refine Sm.skip ?_
      refine hK12 _ ?_
      refine Sm.regA h00 mixed hΓ (by kernel_rfl) ?_
      simp only [rs]
      repeat (refine opsG fun K hK => ?_; simp only [z, seval, law39_equal_t2]; (repeat (first | refine gcI ?_ | refine fun (_ : _ ≤ _) => ?_)); refine hK _ ?_; clear hK K)
      refine opsG0 ?_
      try simp only [seval, Exit.exit.injEq]
      refine ⟨_, (Option.some.inj H).symm, ?_⟩
      exact weak_b [] rfl rfl rfl (by simp only [wk, z, seval, law39_equal_t2]) (by simp only [wk, z, seval, law39_equal_t2])
    first | replace H := bif_f h11 H | replace H := bif_f2 h11 H (by simp only [List.length_append])
    refine Sm.exit ?_
    try simp only [seval, Exit.exit.injEq]
    refine ⟨⟨_, (Option.some.inj H).symm⟩, fun hz => ?_⟩
    have hyy := Sum.inr.inj ((Option.some.inj H).trans hz)
    subst hyy
    have H := Ho8
    try dsimp only at H
    try simp only [seval, Exit.exit.injEq]
    refine ⟨(), H, ?_⟩
    exact weak_b [] rfl rfl rfl (by simp only [wk, z, seval, law39_equal_t2]) (by simp only [wk, z, seval, law39_equal_t2])
  rintro ⟨⟩ H
  try dsimp only at H
  unfold law39_equal_k1 at H
  refine Sm.seqA h00 mixed hΓ (by kernel_rfl) fun K6 hK6 => ?_
  simp only [rs]
  repeat (refine opsG fun K hK => ?_; simp only [z, seval, law39_equal_s1]; (repeat (first | refine gcI ?_ | refine fun (_ : _ ≤ _) => ?_)); refine hK _ ?_; clear hK K)
  refine hK6 _ ?_
  refine Sm.ret ?_
  try simp only [seval, Exit.exit.injEq]
  obtain rfl := Option.some.inj H
  refine Ret.ofR [] (.inr rfl) ?_
  simp only [z, seval, law39_equal_s1]

def law39_works (n : Nat) : Option Bool :=
  (spool_Tracks n [(⟨1, [65, 66]⟩ : TLine), (⟨9, []⟩ : TLine)]).bind fun r1 =>
  gd (((!(if (r1.2 != 0) = true then true else (((r1.1.length : Nat) : Int) != 1))) = true → 0 < (r1.1.length : Int)) ∧ ((!(if (r1.2 != 0) = true then true else (((r1.1.length : Nat) : Int) != 1))) = true → 0 < r1.1.length) ∧ ((!(if (if (r1.2 != 0) = true then true else (((r1.1.length : Nat) : Int) != 1)) = true then true else (((gt r1.1 0).length : Int) != 1))) = true → 0 < (r1.1.length : Int)) ∧ ((!(if (if (r1.2 != 0) = true then true else (((r1.1.length : Nat) : Int) != 1)) = true then true else (((gt r1.1 0).length : Int) != 1))) = true → 0 < r1.1.length) ∧ ((!(if (if (r1.2 != 0) = true then true else (((r1.1.length : Nat) : Int) != 1)) = true then true else (((gt r1.1 0).length : Int) != 1))) = true → 0 < ((gt r1.1 0).length : Int)) ∧ ((!(if (if (if (r1.2 != 0) = true then true else (((r1.1.length : Nat) : Int) != 1)) = true then true else (((gt r1.1 0).length : Int) != 1)) = true then true else (((gt (gt r1.1 0) 0).R) != 1))) = true → 0 < (r1.1.length : Int)) ∧ ((!(if (if (if (r1.2 != 0) = true then true else (((r1.1.length : Nat) : Int) != 1)) = true then true else (((gt r1.1 0).length : Int) != 1)) = true then true else (((gt (gt r1.1 0) 0).R) != 1))) = true → 0 < r1.1.length) ∧ ((!(if (if (if (r1.2 != 0) = true then true else (((r1.1.length : Nat) : Int) != 1)) = true then true else (((gt r1.1 0).length : Int) != 1)) = true then true else (((gt (gt r1.1 0) 0).R) != 1))) = true → 0 < ((gt r1.1 0).length : Int))) <|
  bif (if (if (if (r1.2 != 0) = true then true else (((r1.1.length : Nat) : Int) != 1)) = true then true else (((gt r1.1 0).length : Int) != 1)) = true then true else (((gt (gt r1.1 0) 0).R) != 1)) then
    some false
  else
    gd ((!(if (if (if (r1.2 != 0) = true then true else (((r1.1.length : Nat) : Int) != 1)) = true then true else (((gt r1.1 0).length : Int) != 1)) = true then true else (((gt (gt r1.1 0) 0).R) != 1))) = true) <|
    bif ((toStr8 ((gt (gt r1.1 0) 0).Data)) != [0, 0, 0, 0, 1, 2, 65, 66, 9, 0]) then
      some false
    else
      (spool_Tracks n []).bind fun r2 =>
      (spool_Tracks n [(⟨256, [65]⟩ : TLine)]).bind fun r3 =>
      gd ((0 ≤ 133 ∧ 133 ≤ 133 ∧ 133 ≤ 2147483648)) <|
      (spool_Tracks n [(⟨0, (toStr8 (zreps 133 0))⟩ : TLine)]).bind fun r4 =>
      (law39_long n 8).bind fun r5 =>
      (spool_Tracks n r5).bind fun r6 =>
      gd (((if (if (if (if (if (r2.2 == 0) = true then (((r2.1.length : Nat) : Int) == 0) else false) = true then (r3.2 == 1) else false) = true then (r4.2 == 2) else false) = true then (r6.2 == 0) else false) = true then (((r6.1.length : Nat) : Int) == 1) else false) = true → 0 < (r6.1.length : Int)) ∧ ((if (if (if (if (if (r2.2 == 0) = true then (((r2.1.length : Nat) : Int) == 0) else false) = true then (r3.2 == 1) else false) = true then (r4.2 == 2) else false) = true then (r6.2 == 0) else false) = true then (((r6.1.length : Nat) : Int) == 1) else false) = true → 0 < r6.1.length) ∧ ((if (if (if (if (if (if (r2.2 == 0) = true then (((r2.1.length : Nat) : Int) == 0) else false) = true then (r3.2 == 1) else false) = true then (r4.2 == 2) else false) = true then (r6.2 == 0) else false) = true then (((r6.1.length : Nat) : Int) == 1) else false) = true then (((gt r6.1 0).length : Int) == 2) else false) = true → 0 < (r6.1.length : Int)) ∧ ((if (if (if (if (if (if (r2.2 == 0) = true then (((r2.1.length : Nat) : Int) == 0) else false) = true then (r3.2 == 1) else false) = true then (r4.2 == 2) else false) = true then (r6.2 == 0) else false) = true then (((r6.1.length : Nat) : Int) == 1) else false) = true then (((gt r6.1 0).length : Int) == 2) else false) = true → 0 < r6.1.length) ∧ ((if (if (if (if (if (if (r2.2 == 0) = true then (((r2.1.length : Nat) : Int) == 0) else false) = true then (r3.2 == 1) else false) = true then (r4.2 == 2) else false) = true then (r6.2 == 0) else false) = true then (((r6.1.length : Nat) : Int) == 1) else false) = true then (((gt r6.1 0).length : Int) == 2) else false) = true → 0 < ((gt r6.1 0).length : Int)) ∧ ((if (if (if (if (if (if (if (r2.2 == 0) = true then (((r2.1.length : Nat) : Int) == 0) else false) = true then (r3.2 == 1) else false) = true then (r4.2 == 2) else false) = true then (r6.2 == 0) else false) = true then (((r6.1.length : Nat) : Int) == 1) else false) = true then (((gt r6.1 0).length : Int) == 2) else false) = true then ((((gt (gt r6.1 0) 0).Data).length : Int) == 942) else false) = true → 0 < (r6.1.length : Int)) ∧ ((if (if (if (if (if (if (if (r2.2 == 0) = true then (((r2.1.length : Nat) : Int) == 0) else false) = true then (r3.2 == 1) else false) = true then (r4.2 == 2) else false) = true then (r6.2 == 0) else false) = true then (((r6.1.length : Nat) : Int) == 1) else false) = true then (((gt r6.1 0).length : Int) == 2) else false) = true then ((((gt (gt r6.1 0) 0).Data).length : Int) == 942) else false) = true → 0 < r6.1.length) ∧ ((if (if (if (if (if (if (if (r2.2 == 0) = true then (((r2.1.length : Nat) : Int) == 0) else false) = true then (r3.2 == 1) else false) = true then (r4.2 == 2) else false) = true then (r6.2 == 0) else false) = true then (((r6.1.length : Nat) : Int) == 1) else false) = true then (((gt r6.1 0).length : Int) == 2) else false) = true then ((((gt (gt r6.1 0) 0).Data).length : Int) == 942) else false) = true → 1 < ((gt r6.1 0).length : Int)) ∧ ((if (if (if (if (if (if (if (if (r2.2 == 0) = true then (((r2.1.length : Nat) : Int) == 0) else false) = true then (r3.2 == 1) else false) = true then (r4.2 == 2) else false) = true then (r6.2 == 0) else false) = true then (((r6.1.length : Nat) : Int) == 1) else false) = true then (((gt r6.1 0).length : Int) == 2) else false) = true then ((((gt (gt r6.1 0) 0).Data).length : Int) == 942) else false) = true then ((((gt (gt r6.1 0) 1).Data).length : Int) == 138) else false) = true → 0 < (r6.1.length : Int)) ∧ ((if (if (if (if (if (if (if (if (r2.2 == 0) = true then (((r2.1.length : Nat) : Int) == 0) else false) = true then (r3.2 == 1) else false) = true then (r4.2 == 2) else false) = true then (r6.2 == 0) else false) = true then (((r6.1.length : Nat) : Int) == 1) else false) = true then (((gt r6.1 0).length : Int) == 2) else false) = true then ((((gt (gt r6.1 0) 0).Data).length : Int) == 942) else false) = true then ((((gt (gt r6.1 0) 1).Data).length : Int) == 138) else false) = true → 0 < r6.1.length) ∧ ((if (if (if (if (if (if (if (if (r2.2 == 0) = true then (((r2.1.length : Nat) : Int) == 0) else false) = true then (r3.2 == 1) else false) = true then (r4.2 == 2) else false) = true then (r6.2 == 0) else false) = true then (((r6.1.length : Nat) : Int) == 1) else false) = true then (((gt r6.1 0).length : Int) == 2) else false) = true then ((((gt (gt r6.1 0) 0).Data).length : Int) == 942) else false) = true then ((((gt (gt r6.1 0) 1).Data).length : Int) == 138) else false) = true → 1 < ((gt r6.1 0).length : Int)) ∧ ((if (if (if (if (if (if (if (if (r2.2 == 0) = true then (((r2.1.length : Nat) : Int) == 0) else false) = true then (r3.2 == 1) else false) = true then (r4.2 == 2) else false) = true then (r6.2 == 0) else false) = true then (((r6.1.length : Nat) : Int) == 1) else false) = true then (((gt r6.1 0).length : Int) == 2) else false) = true then ((((gt (gt r6.1 0) 0).Data).length : Int) == 942) else false) = true then ((((gt (gt r6.1 0) 1).Data).length : Int) == 138) else false) = true → 3 < (((gt (gt r6.1 0) 1).Data).length : Int))) <|
      (spool_New n 4).bind fun r7 =>
      (spool_Put n r7.1 [(⟨1, [65, 66]⟩ : TLine), (⟨9, []⟩ : TLine)]).bind fun r8 =>
      (spool_Drop n r8.1 r8.2.1).bind fun r9 =>
      gd (((if (if (r7.2 == 0) = true then (r8.2.2.2 == 0) else false) = true then (r9.2 == 0) else false) = true → (law39_row n r8.2.1.Extents 0 1).isSome = true) ∧ ((if (if (if (if (r7.2 == 0) = true then (r8.2.2.2 == 0) else false) = true then (r9.2 == 0) else false) = true then ((law39_row n r8.2.1.Extents 0 1).getD default) else false) = true then (r8.2.1.Lines == 2) else false) = true → (law39_row n r8.1.Free 1 3).isSome = true) ∧ ((if (if (if (if (if (r7.2 == 0) = true then (r8.2.2.2 == 0) else false) = true then (r9.2 == 0) else false) = true then ((law39_row n r8.2.1.Extents 0 1).getD default) else false) = true then (r8.2.1.Lines == 2) else false) = true then ((law39_row n r8.1.Free 1 3).getD default) else false) = true → (law39_row n r9.1.Free 0 4).isSome = true)) <|
      (spool_New n 0).bind fun r10 =>
      (law39_long n 8).bind fun r11 =>
      (spool_Put n r10.1 r11).bind fun r12 =>
      (spool_Lines n r1.1 2).bind fun r13 =>
      (spool_Lines n r1.1 1).bind fun r14 =>
      (spool_Lines n [] 0).bind fun r15 =>
      gd (((if (if (if (if (if (if (if (if (if (if (if (if (if (r2.2 == 0) = true then (((r2.1.length : Nat) : Int) == 0) else false) = true then (r3.2 == 1) else false) = true then (r4.2 == 2) else false) = true then (r6.2 == 0) else false) = true then (((r6.1.length : Nat) : Int) == 1) else false) = true then (((gt r6.1 0).length : Int) == 2) else false) = true then ((((gt (gt r6.1 0) 0).Data).length : Int) == 942) else false) = true then ((((gt (gt r6.1 0) 1).Data).length : Int) == 138) else false) = true then ((gt ((gt (gt r6.1 0) 1).Data) 3) == 7) else false) = true then (if (if (if (if (if (if (if (r7.2 == 0) = true then (r8.2.2.2 == 0) else false) = true then (r9.2 == 0) else false) = true then ((law39_row n r8.2.1.Extents 0 1).getD default) else false) = true then (r8.2.1.Lines == 2) else false) = true then ((law39_row n r8.1.Free 1 3).getD default) else false) = true then ((law39_row n r9.1.Free 0 4).getD default) else false) = true then (((r8.2.2.1.length : Nat) : Int) == 1) else false) else false) = true then (r10.2 == 0) else false) = true then (r12.2.2.2 == 7) else false) = true then (r13.2 == 0) else false) = true → (law39_equal n r13.1 [(⟨1, [65, 66]⟩ : TLine), (⟨9, []⟩ : TLine)]).isSome = true)) <|
      some (if (if (if (if (if (if (if (if (if (if (if (if (if (if (if (if (if (r2.2 == 0) = true then (((r2.1.length : Nat) : Int) == 0) else false) = true then (r3.2 == 1) else false) = true then (r4.2 == 2) else false) = true then (r6.2 == 0) else false) = true then (((r6.1.length : Nat) : Int) == 1) else false) = true then (((gt r6.1 0).length : Int) == 2) else false) = true then ((((gt (gt r6.1 0) 0).Data).length : Int) == 942) else false) = true then ((((gt (gt r6.1 0) 1).Data).length : Int) == 138) else false) = true then ((gt ((gt (gt r6.1 0) 1).Data) 3) == 7) else false) = true then (if (if (if (if (if (if (if (r7.2 == 0) = true then (r8.2.2.2 == 0) else false) = true then (r9.2 == 0) else false) = true then ((law39_row n r8.2.1.Extents 0 1).getD default) else false) = true then (r8.2.1.Lines == 2) else false) = true then ((law39_row n r8.1.Free 1 3).getD default) else false) = true then ((law39_row n r9.1.Free 0 4).getD default) else false) = true then (((r8.2.2.1.length : Nat) : Int) == 1) else false) else false) = true then (r10.2 == 0) else false) = true then (r12.2.2.2 == 7) else false) = true then (r13.2 == 0) else false) = true then ((law39_equal n r13.1 [(⟨1, [65, 66]⟩ : TLine), (⟨9, []⟩ : TLine)]).getD default) else false) = true then (r14.2 == 390) else false) = true then (r15.2 == 0) else false) = true then ((r15.1.length : Int) == 0) else false)

def xlaw39_works (n : Nat) : Go.AE.Fn := mkFn (A := Unit) (R := Bool) 12 [] false (fun xs => ()) (fun a => []) (fun a => law39_works n) (fun r => [.c .bool (.bool r)]) (fun r => [])

theorem claw39_works (n : Nat) : Contract Try.prog (xlaw39_works n) := by
  have hΓ : ∀ g, g ∈ ([xspool_Tracks n, xlaw39_long n, xspool_New n, xspool_Put n, xspool_Drop n, xlaw39_row n, xspool_Lines n, xlaw39_equal n] : List Go.AE.Fn) → Contract Try.prog g := by
    intro g hg; simp only [List.mem_cons, List.not_mem_nil, or_false] at hg; rcases hg with rfl | rfl | rfl | rfl | rfl | rfl | rfl | rfl; exact cspool_Tracks n; exact claw39_long n; exact cspool_New n; exact cspool_Put n; exact cspool_Drop n; exact claw39_row n; exact cspool_Lines n; exact claw39_equal n
  refine contract_f (Try.f12.body.getD .skip) h00 Try.func12 rfl (by intro args w; exact Try.call12 args w) (by decide) (by intro _ r; exact ⟨rfl, by simp⟩) ?_
  rintro ⟨⟩ r H
  try dsimp only at H
  unfold law39_works at H
  simp only [Try.f12, Option.getD]
  refine Sm.seqA h00 mixed hΓ (by kernel_rfl) fun K1 hK1 => ?_
  simp only [rs]
  repeat (refine opsG fun K hK => ?_; simp only [z, seval]; (repeat (first | refine gcI ?_ | refine fun (_ : _ ≤ _) => ?_)); refine hK _ ?_; clear hK K)
  refine hK1 _ ?_
  refine Sm.seqA h00 mixed hΓ (by kernel_rfl) fun K2 hK2 => ?_
  simp only [rs]
  repeat (refine opsG fun K hK => ?_; simp only [z, seval]; (repeat (first | refine gcI ?_ | refine fun (_ : _ ≤ _) => ?_)); refine hK _ ?_; clear hK K)
  refine hK2 _ ?_
  obtain ⟨r1, hr1, H⟩ := bind_some H
  refine Sm.seqA h00 mixed hΓ (by kernel_rfl) fun K3 hK3 => ?_
  simp only [rs]
  repeat (refine opsG fun K hK => ?_; simp only [z, seval, xspool_Tracks, hr1]; (repeat (first | refine gcI ?_ | refine fun (_ : _ ≤ _) => ?_)); refine hK _ ?_; clear hK K)
  refine hK3 _ ?_
  refine Sm.seqK fun K4 hK4 => ?_
  refine Sm.seqX h00 mixed hΓ (by kernel_rfl) fun K5 hK5 => ?_
  simp only [rs]
  obtain ⟨⟨hg6, hg7, hg8, hg9, hg10, hg11, hg12, hg13⟩, H⟩ := gd_some H
  iterate 30 (refine opsX fun K hK => ?_; simp only [z, seval]; (repeat (first | refine gcI ?_ | refine fun (_ : _ ≤ _) => ?_)); refine hK _ ?_; clear hK K)
  refine bif_cases H (fun hs14 H => ?_) (fun hs14 H => ?_)
  · try simp only [hs14, Bool.not_false, Bool.not_true, Bool.false_eq_true, true_implies, false_implies, forall_const] at hg6
    try simp only [hs14, Bool.not_false, Bool.not_true, Bool.false_eq_true, true_implies, false_implies, forall_const] at hg7
    try simp only [hs14, Bool.not_false, Bool.not_true, Bool.false_eq_true, true_implies, false_implies, forall_const] at hg8
    try simp only [hs14, Bool.not_false, Bool.not_true, Bool.false_eq_true, true_implies, false_implies, forall_const] at hg9
    try simp only [hs14, Bool.not_false, Bool.not_true, Bool.false_eq_true, true_implies, false_implies, forall_const] at hg10
    try simp only [hs14, Bool.not_false, Bool.not_true, Bool.false_eq_true, true_implies, false_implies, forall_const] at hg11
    try simp only [hs14, Bool.not_false, Bool.not_true, Bool.false_eq_true, true_implies, false_implies, forall_const] at hg12
    try simp only [hs14, Bool.not_false, Bool.not_true, Bool.false_eq_true, true_implies, false_implies, forall_const] at hg13
    refine opsF rfl (by simp only [z, seval, hs14]) ?_
    refine opsF rfl (by simp only [z, seval, hs14]) ?_
    refine opsP fun K hK => ?_; simp only [z, seval, hs14]; (repeat (first | refine gcI ?_ | refine fun (_ : _ ≤ _) => ?_)); refine Or.inl ?_; (repeat (first | refine gcI ?_ | refine fun (_ : _ ≤ _) => ?_)); refine hK _ ?_; clear hK K
    refine hK5 _ ?_
    refine Sm.condK (by rfl) fun Ka Kb ha hb => ?_
    simp only [wpCond, z, seval]
    refine ha ?_
    refine Sm.seqA h00 mixed hΓ (by kernel_rfl) fun K16 hK16 => ?_
    simp only [rs]
    repeat (refine opsG fun K hK => ?_; simp only [z, seval]; (repeat (first | refine gcI ?_ | refine fun (_ : _ ≤ _) => ?_)); refine hK _ ?_; clear hK K)
    refine hK16 _ ?_
    refine Sm.ret ?_
    try simp only [seval, Exit.exit.injEq]
    obtain rfl := Option.some.inj H
    refine Ret.ofR [] (.inr rfl) ?_
    simp only [z, seval]
  try simp only [hs14, Bool.not_false, Bool.not_true, Bool.false_eq_true, true_implies, false_implies, forall_const] at hg6
  try simp only [hs14, Bool.not_false, Bool.not_true, Bool.false_eq_true, true_implies, false_implies, forall_const] at hg7
  try simp only [hs14, Bool.not_false, Bool.not_true, Bool.false_eq_true, true_implies, false_implies, forall_const] at hg8
  try simp only [hs14, Bool.not_false, Bool.not_true, Bool.false_eq_true, true_implies, false_implies, forall_const] at hg9
  try simp only [hs14, Bool.not_false, Bool.not_true, Bool.false_eq_true, true_implies, false_implies, forall_const] at hg10
  try simp only [hs14, Bool.not_false, Bool.not_true, Bool.false_eq_true, true_implies, false_implies, forall_const] at hg11
  try simp only [hs14, Bool.not_false, Bool.not_true, Bool.false_eq_true, true_implies, false_implies, forall_const] at hg12
  try simp only [hs14, Bool.not_false, Bool.not_true, Bool.false_eq_true, true_implies, false_implies, forall_const] at hg13
  obtain ⟨hg17, H⟩ := gd_some H
  refine opsTE stepV_ok rfl (by simp only [z, seval, hs14])  fun K hK => ?_; simp only [z, seval, hs14]; (repeat (first | refine gcI ?_ | refine fun (_ : _ ≤ _) => ?_)); refine hK _ ?_; clear hK K
  refine opsTG rfl (by simp only [z, seval, hs14]) fun K hK => ?_; simp only [z, seval, hs14]; (repeat (first | refine gcI ?_ | refine fun (_ : _ ≤ _) => ?_)); refine hK _ ?_; clear hK K
  refine opsP fun K hK => ?_; simp only [z, seval, hs14]; (repeat (first | refine gcI ?_ | refine fun (_ : _ ≤ _) => ?_)); refine Or.inr ?_; (repeat (first | refine gcI ?_ | refine fun (_ : _ ≤ _) => ?_)); refine hK _ ?_; clear hK K
  refine hK5 _ ?_
  refine Sm.condK (by rfl) fun Ka Kb ha hb => ?_
  simp only [wpCond, z, seval]
  refine ⟨fun h18 => ha ?_, fun h18 => hb ?_⟩
  · first | replace H := bif_t h18 H | replace H := bif_t2 h18 H (by simp only [List.length_append])
    refine Sm.seqA h00 mixed hΓ (by kernel_rfl) fun K19 hK19 => ?_
    simp only [rs]
    repeat (refine opsG fun K hK => ?_; simp only [z, seval]; (repeat (first | refine gcI ?_ | refine fun (_ : _ ≤ _) => ?_)); refine hK _ ?_; clear hK K)
    refine hK19 _ ?_
    refine Sm.ret ?_
    try simp only [seval, Exit.exit.injEq]
    obtain rfl := Option.some.inj H
    refine Ret.ofR [] (.inr rfl) ?_
    simp only [z, seval]
  first | replace H := bif_f h18 H | replace H := bif_f2 h18 H (by simp only [List.length_append])
  refine Sm.skip ?_
  refine hK4 _ ?_
  obtain ⟨r2, hr2, H⟩ := bind_some H
  refine Sm.seqA h00 mixed hΓ (by kernel_rfl) fun K20 hK20 => ?_
  simp only [rs]
  repeat (refine opsG fun K hK => ?_; simp only [z, seval, xspool_Tracks, hr2]; (repeat (first | refine gcI ?_ | refine fun (_ : _ ≤ _) => ?_)); refine hK _ ?_; clear hK K)
  refine hK20 _ ?_
  obtain ⟨r3, hr3, H⟩ := bind_some H
  refine Sm.seqA h00 mixed hΓ (by kernel_rfl) fun K21 hK21 => ?_
  simp only [rs]
  repeat (refine opsG fun K hK => ?_; simp only [z, seval, xspool_Tracks, hr3]; (repeat (first | refine gcI ?_ | refine fun (_ : _ ≤ _) => ?_)); refine hK _ ?_; clear hK K)
  refine hK21 _ ?_
  refine Sm.seqX h00 mixed hΓ (by kernel_rfl) fun K22 hK22 => ?_
  simp only [rs]
  obtain ⟨hg23, H⟩ := gd_some H
  obtain ⟨r4, hr4, H⟩ := bind_some H
  refine opsY fun K hK => ?_; simp only [z, seval, xspool_Tracks]; (repeat (first | refine gcI ?_ | refine fun (_ : _ ≤ _) => ?_)); refine hK _ ?_; clear hK K
  refine opsE stepV_ok fun K hK => ?_; simp only [z, seval, xspool_Tracks]; (repeat (first | refine gcI ?_ | refine fun (_ : _ ≤ _) => ?_)); refine hK _ ?_; clear hK K
  iterate 2 (refine opsX fun K hK => ?_; simp only [z, seval, xspool_Tracks]; (repeat (first | refine gcI ?_ | refine fun (_ : _ ≤ _) => ?_)); refine hK _ ?_; clear hK K)
  iterate 6 (refine opsX fun K hK => ?_; simp only [z, seval, xspool_Tracks, hr4]; (repeat (first | refine gcI ?_ | refine fun (_ : _ ≤ _) => ?_)); refine hK _ ?_; clear hK K)
  refine hK22 _ ?_
  obtain ⟨r5, hr5, H⟩ := bind_some H
  obtain ⟨r6, hr6, H⟩ := bind_some H
  refine Sm.seqA h00 mixed hΓ (by kernel_rfl) fun K24 hK24 => ?_
  simp only [rs]
  repeat (refine opsG fun K hK => ?_; simp only [z, seval, xspool_Tracks, xlaw39_long, hr5, hr6]; (repeat (first | refine gcI ?_ | refine fun (_ : _ ≤ _) => ?_)); refine hK _ ?_; clear hK K)
  refine hK24 _ ?_
  obtain ⟨⟨hg40, hg41, hg42, hg43, hg44, hg45, hg46, hg47, hg48, hg49, hg50, hg51⟩, H⟩ := gd_some H
  refine Sm.seqA h00 mixed hΓ (by kernel_rfl) fun K25 hK25 => ?_
  simp only [rs]
  repeat (refine opsG fun K hK => ?_; simp only [z, seval]; (repeat (first | refine gcI ?_ | refine fun (_ : _ ≤ _) => ?_)); refine hK _ ?_; clear hK K)
  refine hK25 _ ?_
  obtain ⟨r7, hr7, H⟩ := bind_some H
  refine Sm.seqA h00 mixed hΓ (by kernel_rfl) fun K26 hK26 => ?_
  simp only [rs]
  repeat (refine opsG fun K hK => ?_; simp only [z, seval, xspool_Tracks, xlaw39_long, xspool_New, hr7]; (repeat (first | refine gcI ?_ | refine fun (_ : _ ≤ _) => ?_)); refine hK _ ?_; clear hK K)
  refine hK26 _ ?_
  obtain ⟨r8, hr8, H⟩ := bind_some H
  refine Sm.seqA h00 mixed hΓ (by kernel_rfl) fun K27 hK27 => ?_
  simp only [rs]
  repeat (refine opsG fun K hK => ?_; simp only [z, seval, xspool_Tracks, xlaw39_long, xspool_New, xspool_Put, hr8]; (repeat (first | refine gcI ?_ | refine fun (_ : _ ≤ _) => ?_)); refine hK _ ?_; clear hK K)
  refine hK27 _ ?_
  obtain ⟨r9, hr9, H⟩ := bind_some H
  refine Sm.seqA h00 mixed hΓ (by kernel_rfl) fun K28 hK28 => ?_
  simp only [rs]
  repeat (refine opsG fun K hK => ?_; simp only [z, seval, xspool_Tracks, xlaw39_long, xspool_New, xspool_Put, xspool_Drop, hr9]; (repeat (first | refine gcI ?_ | refine fun (_ : _ ≤ _) => ?_)); refine hK _ ?_; clear hK K)
  refine hK28 _ ?_
  obtain ⟨⟨hg37, hg38, hg39⟩, H⟩ := gd_some H
  refine Sm.seqA h00 mixed hΓ (by kernel_rfl) fun K29 hK29 => ?_
  simp only [rs]
  repeat (refine opsG fun K hK => ?_; simp only [z, seval, xspool_Tracks, xlaw39_long, xspool_New, xspool_Put, xspool_Drop, xlaw39_row]; (repeat (first | refine gcI ?_ | refine fun (_ : _ ≤ _) => ?_)); refine hK _ ?_; clear hK K)
  refine hK29 _ ?_
  obtain ⟨r10, hr10, H⟩ := bind_some H
  refine Sm.seqA h00 mixed hΓ (by kernel_rfl) fun K30 hK30 => ?_
  simp only [rs]
  repeat (refine opsG fun K hK => ?_; simp only [z, seval, xspool_Tracks, xlaw39_long, xspool_New, hr10]; (repeat (first | refine gcI ?_ | refine fun (_ : _ ≤ _) => ?_)); refine hK _ ?_; clear hK K)
  refine hK30 _ ?_
  obtain ⟨r11, hr11, H⟩ := bind_some H
  obtain ⟨r12, hr12, H⟩ := bind_some H
  refine Sm.seqQ h00 mixed hΓ [0, 1, 2, 3, 4, 5, 6, 7, 8, 9, 10, 11, 12, 13] [(none, [352], []), (none, [], [3519, 3518, 3517, 3516, 3515, 3514, 3513, 3512, 3511, 3510, 3509, 3508, 3507, 3506, 3505, 3504]), (none, [3424, 3504], [3535, 3534, 3533, 3532, 3531, 3530, 3529, 3528, 3527, 3526, 3525, 3524, 3523, 3522, 3521, 3520, 3424, 3504]), (none, [], []), (none, [], []), (none, [], []), (none, [], []), (none, [], []), (none, [], [384]), (none, [], [400]), (none, [384], [384]), (none, [400, 3520], [400]), (none, [], []), (none, [], [])] (by kernel_rfl) rfl fun K31 hK31 => ?_
  simp only [rs]
  iterate 14 (refine opsQ fun K hK => ?_; simp only [z, seval, xspool_Tracks, xlaw39_long, xspool_New, xspool_Put, hr11, hr12]; (repeat (first | refine gcI ?_ | refine fun (_ : _ ≤ _) => ?_)); refine hK _ ?_; clear hK K)
  refine opsQ0 ?_
  refine hK31 _ ?_
  obtain ⟨r13, hr13, H⟩ := bind_some H
  refine Sm.seqA h00 mixed hΓ (by kernel_rfl) fun K32 hK32 => ?_
  simp only [rs]
  repeat (refine opsG fun K hK => ?_; simp only [z, seval, xspool_Tracks, xlaw39_long, xspool_New, xspool_Put, xspool_Drop, xlaw39_row, xspool_Lines, hr13]; (repeat (first | refine gcI ?_ | refine fun (_ : _ ≤ _) => ?_)); refine hK _ ?_; clear hK K)
  refine hK32 _ ?_
  obtain ⟨r14, hr14, H⟩ := bind_some H
  refine Sm.seqA h00 mixed hΓ (by kernel_rfl) fun K33 hK33 => ?_
  simp only [rs]
  repeat (refine opsG fun K hK => ?_; simp only [z, seval, xspool_Tracks, xlaw39_long, xspool_New, xspool_Put, xspool_Drop, xlaw39_row, xspool_Lines, hr14]; (repeat (first | refine gcI ?_ | refine fun (_ : _ ≤ _) => ?_)); refine hK _ ?_; clear hK K)
  refine hK33 _ ?_
  obtain ⟨r15, hr15, H⟩ := bind_some H
  refine Sm.seqA h00 mixed hΓ (by kernel_rfl) fun K34 hK34 => ?_
  simp only [rs]
  repeat (refine opsG fun K hK => ?_; simp only [z, seval, xspool_Tracks, xlaw39_long, xspool_New, xspool_Put, xspool_Drop, xlaw39_row, xspool_Lines, hr15]; (repeat (first | refine gcI ?_ | refine fun (_ : _ ≤ _) => ?_)); refine hK _ ?_; clear hK K)
  refine hK34 _ ?_
  obtain ⟨hg36, H⟩ := gd_some H
  refine Sm.seqA h00 mixed hΓ (by kernel_rfl) fun K35 hK35 => ?_
  simp only [rs]
  repeat (refine opsG fun K hK => ?_; simp only [z, seval, xspool_Tracks, xlaw39_long, xspool_New, xspool_Put, xspool_Drop, xlaw39_row, xspool_Lines, xlaw39_equal]; (repeat (first | refine gcI ?_ | refine fun (_ : _ ≤ _) => ?_)); refine hK _ ?_; clear hK K)
  refine hK35 _ ?_
  refine Sm.ret ?_
  try simp only [seval, Exit.exit.injEq]
  obtain rfl := Option.some.inj H
  refine Ret.ofR [] (.inr rfl) ?_
  simp only [z, seval]

abbrev law39_whole_s3 (s : TSpace) : S := stB [(2, .box 9005 0)] [(9005, .box [.c (.int .i64) (.int s.Tracks), .c (.slice 52) (.slice (List.map e_TExtent s.Free))])]

def law39_whole_k3 (n : Nat) (s : TSpace) : Option Bool :=
  (spool_Check n s).bind fun r1 =>
  some (r1 == 0)

abbrev law39_whole_t4 (s : TSpace) (in__1 : List Int) (v76 : Int) (v77 : Int) : S := stB [(2, .box 9008 0), (75, .own 9009 [.int .i64] 0 in__1.length), (76, .c (.int .i64) (.int v76)), (77, .c (.int .i64) (.int v77))] [(9008, .box [.c (.int .i64) (.int s.Tracks), .c (.slice 52) (.slice (List.map e_TExtent s.Free))]), (9009, .row 3 (List.map e_Int in__1))]

def law39_whole_b4 (n : Nat) (s : TSpace) (in__1 : List Int) (v76 : Int) (v77 : Int) : Option ((Int) ⊕ (((Bool) ⊕ (Unit)))) :=
  bif (decide (v77 < v76)) then
    gd ((0 ≤ v77 ∧ v77 < (in__1.length : Int)) ∧ (Int.toNat v77) < in__1.length) <|
    bif (if (((gt in__1 (Int.toNat v77)) == 1) != (decide (v77 < s.Tracks))) = true then true else (decide ((gt in__1 (Int.toNat v77)) > 1))) then
      some (.inr (.inl false))
    else
      some (.inl (IntKind.wrap .i64 (v77 + 1)))
  else
    some (.inr (.inr ()))

abbrev law39_whole_s2 (s : TSpace) (in__1 : List Int) : S := stB [(2, .box 9003 0), (5, .own 9004 [.int .i64] 0 in__1.length)] [(9003, .box [.c (.int .i64) (.int s.Tracks), .c (.slice 52) (.slice (List.map e_TExtent s.Free))]), (9004, .row 3 (List.map e_Int in__1))]

def law39_whole_k2 (n : Nat) (s : TSpace) (in__1 : List Int) : Option Bool :=
  (loopF (fun (x : Int) => law39_whole_b4 n s in__1 ((in__1.length : Nat) : Int) x) n 0).bind fun y7 =>
  match y7 with
  | .inl v =>
    some v
  | .inr v =>
    law39_whole_k3 n s

abbrev law39_whole_s6 (s : TSpace) (in__3 : List Int) (lists : List (List TExtent)) (v33 : Int) (v34 : Int) : S := stB [(2, .box 9016 0), (5, .own 9017 [.int .i64] 0 in__3.length), (32, .own 9018 [.slice 52] 0 lists.length), (33, .c (.int .i64) (.int v33)), (34, .c (.int .i64) (.int v34))] [(9016, .box [.c (.int .i64) (.int s.Tracks), .c (.slice 52) (.slice (List.map e_TExtent s.Free))]), (9017, .row 3 (List.map e_Int in__3)), (9018, .row 34 (List.map e_LTExtent lists))]

def law39_whole_k6 (n : Nat) (s : TSpace) (in__3 : List Int) (lists : List (List TExtent)) (v33 : Int) (v34 : Int) : Option (((List Int) × Int) ⊕ (((Bool) ⊕ ((List Int))))) :=
  some (.inl (in__3, (IntKind.wrap .i64 (v34 + 1))))

abbrev law39_whole_s8 (s : TSpace) (in__5 : List Int) (lists : List (List TExtent)) (v33 : Int) (v34 : Int) (v38 : List TExtent) (v39 : Int) (v40 : Int) : S := stB [(2, .box 9025 0), (5, .own 9026 [.int .i64] 0 in__5.length), (32, .own 9027 [.slice 52] 0 lists.length), (33, .c (.int .i64) (.int v33)), (34, .c (.int .i64) (.int v34)), (38, .c (.slice 52) (.slice (List.map e_TExtent v38))), (39, .c (.int .i64) (.int v39)), (40, .c (.int .i64) (.int v40))] [(9025, .box [.c (.int .i64) (.int s.Tracks), .c (.slice 52) (.slice (List.map e_TExtent s.Free))]), (9026, .row 3 (List.map e_Int in__5)), (9027, .row 34 (List.map e_LTExtent lists))]

def law39_whole_k8 (n : Nat) (s : TSpace) (in__5 : List Int) (lists : List (List TExtent)) (v33 : Int) (v34 : Int) (v38 : List TExtent) (v39 : Int) (v40 : Int) : Option (((List Int) × Int) ⊕ (((Bool) ⊕ ((List Int))))) :=
  some (.inl (in__5, (IntKind.wrap .i64 (v40 + 1))))

abbrev law39_whole_t9 (s : TSpace) (x : Int) (x_1 : Int) (lists : List (List TExtent)) (v33 : Int) (v34 : Int) (v38 : List TExtent) (v39 : Int) (v40 : Int) (in__6 : List Int) (k : Int) : S := stB [(2, .box 9032 0), (5, .own 9033 [.int .i64] 0 in__6.length), (12, .box 9034 0), (13, .c (.int .i64) (.int k)), (32, .own 9035 [.slice 52] 0 lists.length), (33, .c (.int .i64) (.int v33)), (34, .c (.int .i64) (.int v34)), (38, .c (.slice 52) (.slice (List.map e_TExtent v38))), (39, .c (.int .i64) (.int v39)), (40, .c (.int .i64) (.int v40))] [(9032, .box [.c (.int .i64) (.int s.Tracks), .c (.slice 52) (.slice (List.map e_TExtent s.Free))]), (9033, .row 3 (List.map e_Int in__6)), (9034, .box [.c (.int .i64) (.int x), .c (.int .i64) (.int x_1)]), (9035, .row 34 (List.map e_LTExtent lists))]

def law39_whole_b9 (n : Nat) (s : TSpace) (x : Int) (x_1 : Int) (lists : List (List TExtent)) (v33 : Int) (v34 : Int) (v38 : List TExtent) (v39 : Int) (v40 : Int) (in__6 : List Int) (k : Int) : Option (((List Int) × Int) ⊕ (((Bool) ⊕ ((List Int))))) :=
  bif (if (decide (k < x_1)) = true then (decide (k < 600)) else false) then
    bif (if (decide (x < 0)) = true then true else (decide ((IntKind.wrap .i64 (x + k)) ≥ 600))) then
      some (.inr (.inl false))
    else
      gd ((0 ≤ (IntKind.wrap .i64 (x + k)) ∧ (IntKind.wrap .i64 (x + k)) < (in__6.length : Int)) ∧ (Int.toNat (IntKind.wrap .i64 (x + k))) < in__6.length ∧ (0 ≤ (IntKind.wrap .i64 (x + k)) ∧ (IntKind.wrap .i64 (x + k)) < (in__6.length : Int)) ∧ (Int.toNat (IntKind.wrap .i64 (x + k))) < in__6.length) <|
      some (.inl ((List.set in__6 (Int.toNat (IntKind.wrap .i64 (x + k))) (IntKind.wrap .i64 ((gt in__6 (Int.toNat (IntKind.wrap .i64 (x + k)))) + 1))), (IntKind.wrap .i64 (k + 1))))
  else
    some (.inr (.inr in__6))

abbrev law39_whole_t7 (s : TSpace) (lists : List (List TExtent)) (v33 : Int) (v34 : Int) (v38 : List TExtent) (v39 : Int) (in__4 : List Int) (v40 : Int) : S := stB [(2, .box 9022 0), (5, .own 9023 [.int .i64] 0 in__4.length), (32, .own 9024 [.slice 52] 0 lists.length), (33, .c (.int .i64) (.int v33)), (34, .c (.int .i64) (.int v34)), (38, .c (.slice 52) (.slice (List.map e_TExtent v38))), (39, .c (.int .i64) (.int v39)), (40, .c (.int .i64) (.int v40))] [(9022, .box [.c (.int .i64) (.int s.Tracks), .c (.slice 52) (.slice (List.map e_TExtent s.Free))]), (9023, .row 3 (List.map e_Int in__4)), (9024, .row 34 (List.map e_LTExtent lists))]

def law39_whole_b7 (n : Nat) (s : TSpace) (lists : List (List TExtent)) (v33 : Int) (v34 : Int) (v38 : List TExtent) (v39 : Int) (in__4 : List Int) (v40 : Int) : Option (((List Int) × Int) ⊕ (((Bool) ⊕ ((List Int))))) :=
  bif (decide (v40 < v39)) then
    gd ((0 ≤ v40 ∧ v40 < (v38.length : Int))) <|
    (loopF (fun (x : (List Int) × Int) => law39_whole_b9 n s ((gt v38 (Int.toNat v40)).At) ((gt v38 (Int.toNat v40)).Len) lists v33 v34 v38 v39 v40 x.1 x.2) n (in__4, 0)).bind fun y31 =>
    match y31 with
    | .inl v =>
      some (.inr (.inl v))
    | .inr v =>
      law39_whole_k8 n s v lists v33 v34 v38 v39 v40
  else
    some (.inr (.inr in__4))

abbrev law39_whole_t5 (s : TSpace) (lists : List (List TExtent)) (v33 : Int) (in__2 : List Int) (v34 : Int) : S := stB [(2, .box 9013 0), (5, .own 9014 [.int .i64] 0 in__2.length), (32, .own 9015 [.slice 52] 0 lists.length), (33, .c (.int .i64) (.int v33)), (34, .c (.int .i64) (.int v34))] [(9013, .box [.c (.int .i64) (.int s.Tracks), .c (.slice 52) (.slice (List.map e_TExtent s.Free))]), (9014, .row 3 (List.map e_Int in__2)), (9015, .row 34 (List.map e_LTExtent lists))]

def law39_whole_b5 (n : Nat) (s : TSpace) (lists : List (List TExtent)) (v33 : Int) (in__2 : List Int) (v34 : Int) : Option (((List Int) × Int) ⊕ (((Bool) ⊕ ((List Int))))) :=
  bif (decide (v34 < v33)) then
    gd ((0 ≤ v34 ∧ v34 < (lists.length : Int)) ∧ (Int.toNat v34) < lists.length) <|
    (loopF (fun (x : (List Int) × Int) => law39_whole_b7 n s lists v33 v34 (gt lists (Int.toNat v34)) ((gt lists (Int.toNat v34)).length : Int) x.1 x.2) n (in__2, 0)).bind fun y25 =>
    match y25 with
    | .inl v =>
      some (.inr (.inl v))
    | .inr v =>
      law39_whole_k6 n s v lists v33 v34
  else
    some (.inr (.inr in__2))

abbrev law39_whole_s1 (s : TSpace) (in_ : List Int) (lists : List (List TExtent)) : S := stB [(2, .box 9000 0), (5, .own 9001 [.int .i64] 0 in_.length), (6, .own 9002 [.slice 52] 0 lists.length)] [(9000, .box [.c (.int .i64) (.int s.Tracks), .c (.slice 52) (.slice (List.map e_TExtent s.Free))]), (9001, .row 3 (List.map e_Int in_)), (9002, .row 34 (List.map e_LTExtent lists))]

def law39_whole_k1 (n : Nat) (s : TSpace) (in_ : List Int) (lists : List (List TExtent)) : Option Bool :=
  (loopF (fun (x : (List Int) × Int) => law39_whole_b5 n s lists ((lists.length : Nat) : Int) x.1 x.2) n (in_, 0)).bind fun y19 =>
  match y19 with
  | .inl v =>
    some v
  | .inr v =>
    law39_whole_k2 n s v

abbrev law39_whole_t10 (s : TSpace) (in__7 : List Int) (files : List TFile) (v21 : Int) (lists_1 : List (List TExtent)) (v22 : Int) : S := stB [(2, .box 9039 0), (5, .own 9040 [.int .i64] 0 in__7.length), (6, .own 9041 [.slice 52] 0 lists_1.length), (20, .c (.slice 45) (.slice (List.map e_TFile files))), (21, .c (.int .i64) (.int v21)), (22, .c (.int .i64) (.int v22))] [(9039, .box [.c (.int .i64) (.int s.Tracks), .c (.slice 52) (.slice (List.map e_TExtent s.Free))]), (9040, .row 3 (List.map e_Int in__7)), (9041, .row 34 (List.map e_LTExtent lists_1))]

def law39_whole_b10 (n : Nat) (s : TSpace) (in__7 : List Int) (files : List TFile) (v21 : Int) (lists_1 : List (List TExtent)) (v22 : Int) : Option (((List (List TExtent)) × Int) ⊕ (((List (List TExtent))))) :=
  bif (decide (v22 < v21)) then
    gd ((0 ≤ v22 ∧ v22 < (files.length : Int))) <|
    gd ((lists_1.length + 1) ≤ 2147483648) <|
    some (.inl ((lists_1 ++ [(gt files (Int.toNat v22)).Extents]), (IntKind.wrap .i64 (v22 + 1))))
  else
    some (.inr lists_1)

def law39_whole (n : Nat) (s : TSpace) (files : List TFile) : Option Bool :=
  gd ((0 ≤ 600 ∧ 600 ≤ 600 ∧ 600 ≤ 2147483648)) <|
  (loopF (fun (x : (List (List TExtent)) × Int) => law39_whole_b10 n s (zreps 600 0) files (files.length : Int) x.1 x.2) n ([s.Free], 0)).bind fun y48 =>
  law39_whole_k1 n s (zreps 600 0) y48

def xlaw39_whole (n : Nat) : Go.AE.Fn := mkFn (A := TSpace × (List TFile)) (R := Bool) 20 [(true, [.int .i64, .slice 52]), (false, [.slice 45])] false (fun xs => ((⟨(cg (xs.getD 0 []) 0).toInt, ((cg (xs.getD 0 []) 1).toSl.map d_TExtent)⟩ : TSpace), ((cg (xs.getD 1 []) 0).toSl.map d_TFile))) (fun a => [[.int a.1.Tracks, .slice (List.map e_TExtent a.1.Free)], [.slice (List.map e_TFile a.2)]]) (fun a => law39_whole n a.1 a.2) (fun r => [.c .bool (.bool r)]) (fun r => [])

theorem claw39_whole (n : Nat) : Contract Try.prog (xlaw39_whole n) := by
  have hΓ : ∀ g, g ∈ ([xspool_Check n] : List Go.AE.Fn) → Contract Try.prog g := by
    intro g hg; simp only [List.mem_cons, List.not_mem_nil, or_false] at hg; subst hg; exact cspool_Check n
  refine contract_f (Try.f20.body.getD .skip) h00 Try.func20 rfl (by intro args w; exact Try.call20 args w) (by decide) (by intro _ r; exact ⟨rfl, by simp⟩) ?_
  rintro ⟨s, files⟩ r H
  try dsimp only at H
  unfold law39_whole at H
  simp only [Try.f20, Option.getD]
  refine Sm.seqA h00 mixed hΓ (by kernel_rfl) fun K1 hK1 => ?_
  simp only [rs]
  repeat (refine opsG fun K hK => ?_; simp only [z, seval]; (repeat (first | refine gcI ?_ | refine fun (_ : _ ≤ _) => ?_)); refine hK _ ?_; clear hK K)
  refine hK1 _ ?_
  refine Sm.seqX h00 mixed hΓ (by kernel_rfl) fun K2 hK2 => ?_
  simp only [rs]
  obtain ⟨hg3, H⟩ := gd_some H
  refine opsY fun K hK => ?_; simp only [z, seval]; (repeat (first | refine gcI ?_ | refine fun (_ : _ ≤ _) => ?_)); refine hK _ ?_; clear hK K
  (refine opsX fun K hK => ?_; simp only [z, seval]; (repeat (first | refine gcI ?_ | refine fun (_ : _ ≤ _) => ?_)); refine hK _ ?_; clear hK K)
  refine hK2 _ ?_
  refine Sm.seqA h00 mixed hΓ (by kernel_rfl) fun K4 hK4 => ?_
  simp only [rs]
  repeat (refine opsG fun K hK => ?_; simp only [z, seval]; (repeat (first | refine gcI ?_ | refine fun (_ : _ ≤ _) => ?_)); refine hK _ ?_; clear hK K)
  refine hK4 _ ?_
  refine Sm.cut (fun (x : (List Int) × (List (List TExtent))) => law39_whole_s1 s x.1 x.2) (fun x => law39_whole_k1 n s x.1 x.2 = some r) ?_ ?_
  · refine Sm.seqA h00 mixed hΓ (by kernel_rfl) fun K47 hK47 => ?_
    simp only [rs]
    repeat (refine opsG fun K hK => ?_; simp only [z, seval]; (repeat (first | refine gcI ?_ | refine fun (_ : _ ≤ _) => ?_)); refine hK _ ?_; clear hK K)
    refine hK47 _ ?_
    refine Sm.block ?_
    obtain ⟨y48, hy48, Ho48⟩ := bind_some H
    refine Sm.loopB (fun (x : (List (List TExtent)) × Int) => law39_whole_b10 n s (zreps 600 0) files (files.length : Int) x.1 x.2) (fun x => law39_whole_t10 s (zreps 600 0) files (files.length : Int) x.1 x.2) hy48 ?_ ?_
    · exact weak_b [some 32, some 256, some 304] rfl rfl rfl (by simp only [wk, z, seval]) (by simp only [wk, z, seval])
    rintro ⟨lists_1, v22⟩ z48 H
    try dsimp only at H
    unfold law39_whole_b10 at H
    refine Sm.seqA h00 mixed hΓ (by kernel_rfl) fun K49 hK49 => ?_
    simp only [rs]
    repeat (refine opsG fun K hK => ?_; simp only [z, seval, law39_whole_t10]; (repeat (first | refine gcI ?_ | refine fun (_ : _ ≤ _) => ?_)); refine hK _ ?_; clear hK K)
    refine hK49 _ ?_
    refine Sm.seqK fun K50 hK50 => ?_
    refine Sm.condK (by rfl) fun Ka Kb ha hb => ?_
    simp only [wpCond, z, seval, law39_whole_t10]
    refine ⟨fun h51 => ha ?_, fun h51 => hb ?_⟩
    · first | replace H := bif_t h51 H | replace H := bif_t2 h51 H (by simp only [List.length_append])
      refine Sm.skip ?_
      refine hK50 _ ?_
      refine Sm.seqK fun K52 hK52 => ?_
      refine Sm.block ?_
      obtain ⟨hg55, H⟩ := gd_some H
      refine Sm.seqA h00 mixed hΓ (by kernel_rfl) fun K53 hK53 => ?_
      simp only [rs]
      repeat (refine opsG fun K hK => ?_; simp only [z, seval, law39_whole_t10]; (repeat (first | refine gcI ?_ | refine fun (_ : _ ≤ _) => ?_)); refine hK _ ?_; clear hK K)
      refine hK53 _ ?_
      obtain ⟨hg54, H⟩ := gd_some H
      refine Sm.regA h00 mixed hΓ (by kernel_rfl) ?_
      simp only [rs]
      repeat (refine opsG fun K hK => ?_; simp only [z, seval, law39_whole_t10]; (repeat (first | refine gcI ?_ | refine fun (_ : _ ≤ _) => ?_)); refine hK _ ?_; clear hK K)
      refine opsG0 ?_
      refine hK52 _ ?_
      refine Sm.regA h00 mixed hΓ (by kernel_rfl) ?_
      simp only [rs]
      repeat (refine opsG fun K hK => ?_; simp only [z, seval, law39_whole_t10]; (repeat (first | refine gcI ?_ | refine fun (_ : _ ≤ _) => ?_)); refine hK _ ?_; clear hK K)
      refine opsG0 ?_
      try simp only [seval, Exit.exit.injEq]
      refine ⟨(_, _), (Option.some.inj H).symm, ?_⟩
      exact weak_b [some 9039, some 9040, some 480] rfl rfl rfl (by simp only [wk, z, seval, law39_whole_t10]) (by simp only [wk, z, seval, law39_whole_t10])
    first | replace H := bif_f h51 H | replace H := bif_f2 h51 H (by simp only [List.length_append])
    refine Sm.exit ?_
    try simp only [seval, Exit.exit.injEq]
    refine ⟨⟨_, (Option.some.inj H).symm⟩, fun hz => ?_⟩
    have hyy := Sum.inr.inj ((Option.some.inj H).trans hz)
    subst hyy
    have H := Ho48
    try dsimp only at H
    try simp only [seval, Exit.exit.injEq]
    refine ⟨((zreps 600 0), lists_1), H, ?_⟩
    exact weak_b [some 9039, some 9040, some 9041] rfl rfl rfl (by simp only [wk, z, seval, law39_whole_t10]) (by simp only [wk, z, seval, law39_whole_t10])
  rintro ⟨in_, lists⟩ H
  try dsimp only at H
  unfold law39_whole_k1 at H
  refine Sm.cut (fun (x : (List Int)) => law39_whole_s2 s x) (fun x => law39_whole_k2 n s x = some r) ?_ ?_
  · refine Sm.seqA h00 mixed hΓ (by kernel_rfl) fun K18 hK18 => ?_
    simp only [rs]
    repeat (refine opsG fun K hK => ?_; simp only [z, seval, law39_whole_s1]; (repeat (first | refine gcI ?_ | refine fun (_ : _ ≤ _) => ?_)); refine hK _ ?_; clear hK K)
    refine hK18 _ ?_
    refine Sm.block ?_
    obtain ⟨y19, hy19, Ho19⟩ := bind_some H
    refine Sm.loopB (fun (x : (List Int) × Int) => law39_whole_b5 n s lists ((lists.length : Nat) : Int) x.1 x.2) (fun x => law39_whole_t5 s lists ((lists.length : Nat) : Int) x.1 x.2) hy19 ?_ ?_
    · exact weak_b [some 9000, some 9001, some 9002] rfl rfl rfl (by simp only [wk, z, seval, law39_whole_s1]) (by simp only [wk, z, seval, law39_whole_s1])
    rintro ⟨in__2, v34⟩ z19 H
    try dsimp only at H
    unfold law39_whole_b5 at H
    refine Sm.seqA h00 mixed hΓ (by kernel_rfl) fun K20 hK20 => ?_
    simp only [rs]
    repeat (refine opsG fun K hK => ?_; simp only [z, seval, law39_whole_t5]; (repeat (first | refine gcI ?_ | refine fun (_ : _ ≤ _) => ?_)); refine hK _ ?_; clear hK K)
    refine hK20 _ ?_
    refine Sm.seqK fun K21 hK21 => ?_
    refine Sm.condK (by rfl) fun Ka Kb ha hb => ?_
    simp only [wpCond, z, seval, law39_whole_t5]
    refine ⟨fun h22 => ha ?_, fun h22 => hb ?_⟩
    · first | replace H := bif_t h22 H | replace H := bif_t2 h22 H (by simp only [List.length_append])
      refine Sm.skip ?_
      refine hK21 _ ?_
      refine Sm.cut (fun (x : (List Int)) => law39_whole_s6 s x lists ((lists.length : Nat) : Int) v34) (fun x => law39_whole_k6 n s x lists ((lists.length : Nat) : Int) v34 = some z19) ?_ ?_
      · refine Sm.block ?_
        obtain ⟨⟨hg45, hg46⟩, H⟩ := gd_some H
        refine Sm.seqA h00 mixed hΓ (by kernel_rfl) fun K23 hK23 => ?_
        simp only [rs]
        repeat (refine opsG fun K hK => ?_; simp only [z, seval, law39_whole_t5]; (repeat (first | refine gcI ?_ | refine fun (_ : _ ≤ _) => ?_)); refine hK _ ?_; clear hK K)
        refine hK23 _ ?_
        refine Sm.seqA h00 mixed hΓ (by kernel_rfl) fun K24 hK24 => ?_
        simp only [rs]
        repeat (refine opsG fun K hK => ?_; simp only [z, seval, law39_whole_t5]; (repeat (first | refine gcI ?_ | refine fun (_ : _ ≤ _) => ?_)); refine hK _ ?_; clear hK K)
        refine hK24 _ ?_
        refine Sm.block ?_
        obtain ⟨y25, hy25, Ho25⟩ := bind_some H
        refine Sm.loopB (fun (x : (List Int) × Int) => law39_whole_b7 n s lists ((lists.length : Nat) : Int) v34 (gt lists (Int.toNat v34)) ((gt lists (Int.toNat v34)).length : Int) x.1 x.2) (fun x => law39_whole_t7 s lists ((lists.length : Nat) : Int) v34 (gt lists (Int.toNat v34)) ((gt lists (Int.toNat v34)).length : Int) x.1 x.2) hy25 ?_ ?_
        · exact weak_b [some 9013, some 9014, some 9015] rfl rfl rfl (by simp only [wk, z, seval, law39_whole_t5]) (by simp only [wk, z, seval, law39_whole_t5])
        rintro ⟨in__4, v40⟩ z25 H
        try dsimp only at H
        unfold law39_whole_b7 at H
        refine Sm.seqA h00 mixed hΓ (by kernel_rfl) fun K26 hK26 => ?_
        simp only [rs]
        repeat (refine opsG fun K hK => ?_; simp only [z, seval, law39_whole_t7]; (repeat (first | refine gcI ?_ | refine fun (_ : _ ≤ _) => ?_)); refine hK _ ?_; clear hK K)
        refine hK26 _ ?_
        refine Sm.seqK fun K27 hK27 => ?_
        refine Sm.condK (by rfl) fun Ka Kb ha hb => ?_
        simp only [wpCond, z, seval, law39_whole_t7]
        refine ⟨fun h28 => ha ?_, fun h28 => hb ?_⟩
        · first | replace H := bif_t h28 H | replace H := bif_t2 h28 H (by simp only [List.length_append])
          refine Sm.skip ?_
          refine hK27 _ ?_
          refine Sm.cut (fun (x : (List Int)) => law39_whole_s8 s x lists ((lists.length : Nat) : Int) v34 (gt lists (Int.toNat v34)) ((gt lists (Int.toNat v34)).length : Int) v40) (fun x => law39_whole_k8 n s x lists ((lists.length : Nat) : Int) v34 (gt lists (Int.toNat v34)) ((gt lists (Int.toNat v34)).length : Int) v40 = some z25) ?_ ?_
          · refine Sm.block ?_
            obtain ⟨hg44, H⟩ := gd_some H
            refine Sm.seqA h00 mixed hΓ (by kernel_rfl) fun K29 hK29 => ?_
            simp only [rs]
            repeat (refine opsG fun K hK => ?_; simp only [z, seval, law39_whole_t7]; (repeat (first | refine gcI ?_ | refine fun (_ : _ ≤ _) => ?_)); refine hK _ ?_; clear hK K)
            refine hK29 _ ?_
            refine Sm.seqA h00 mixed hΓ (by kernel_rfl) fun K30 hK30 => ?_
            simp only [rs]
            repeat (refine opsG fun K hK => ?_; simp only [z, seval, law39_whole_t7]; (repeat (first | refine gcI ?_ | refine fun (_ : _ ≤ _) => ?_)); refine hK _ ?_; clear hK K)
            refine hK30 _ ?_
            refine Sm.block ?_
            obtain ⟨y31, hy31, Ho31⟩ := bind_some H
            refine Sm.loopB (fun (x : (List Int) × Int) => law39_whole_b9 n s ((gt (gt lists (Int.toNat v34)) (Int.toNat v40)).At) ((gt (gt lists (Int.toNat v34)) (Int.toNat v40)).Len) lists ((lists.length : Nat) : Int) v34 (gt lists (Int.toNat v34)) ((gt lists (Int.toNat v34)).length : Int) v40 x.1 x.2) (fun x => law39_whole_t9 s ((gt (gt lists (Int.toNat v34)) (Int.toNat v40)).At) ((gt (gt lists (Int.toNat v34)) (Int.toNat v40)).Len) lists ((lists.length : Nat) : Int) v34 (gt lists (Int.toNat v34)) ((gt lists (Int.toNat v34)).length : Int) v40 x.1 x.2) hy31 ?_ ?_
            · exact weak_b [some 9022, some 9023, some 192, some 9024] rfl rfl rfl (by simp only [wk, z, seval, law39_whole_t7]) (by simp only [wk, z, seval, law39_whole_t7])
            rintro ⟨in__6, k⟩ z31 H
            try dsimp only at H
            unfold law39_whole_b9 at H
            refine Sm.seqK fun K32 hK32 => ?_
            refine Sm.seqA h00 mixed hΓ (by kernel_rfl) fun K33 hK33 => ?_
            simp only [rs]
            repeat (refine opsG fun K hK => ?_; simp only [z, seval, law39_whole_t9]; (repeat (first | refine gcI ?_ | refine fun (_ : _ ≤ _) => ?_)); refine hK _ ?_; clear hK K)
            refine hK33 _ ?_
            refine Sm.condK (by rfl) fun Ka Kb ha hb => ?_
            simp only [wpCond, z, seval, law39_whole_t9]
            refine ⟨fun h34 => ha ?_, fun h34 => hb ?_⟩
            · first | replace H := bif_t h34 H | replace H := bif_t2 h34 H (by simp only [List.length_append])
              refine Sm.skip ?_
              refine hK32 _ ?_
              refine Sm.seqK fun K35 hK35 => ?_
              refine Sm.block ?_
              refine Sm.seqK fun K36 hK36 => ?_
              refine Sm.seqA h00 mixed hΓ (by kernel_rfl) fun K37 hK37 => ?_
              simp only [rs]
              repeat (refine opsG fun K hK => ?_; simp only [z, seval, law39_whole_t9]; (repeat (first | refine gcI ?_ | refine fun (_ : _ ≤ _) => ?_)); refine hK _ ?_; clear hK K)
              refine hK37 _ ?_
              refine Sm.condK (by rfl) fun Ka Kb ha hb => ?_
              simp only [wpCond, z, seval, law39_whole_t9]
              refine ⟨fun h38 => ha ?_, fun h38 => hb ?_⟩
              · first | replace H := bif_t h38 H | replace H := bif_t2 h38 H (by simp only [List.length_append])
                refine Sm.seqA h00 mixed hΓ (by kernel_rfl) fun K39 hK39 => ?_
                simp only [rs]
                repeat (refine opsG fun K hK => ?_; simp only [z, seval, law39_whole_t9]; (repeat (first | refine gcI ?_ | refine fun (_ : _ ≤ _) => ?_)); refine hK _ ?_; clear hK K)
                refine hK39 _ ?_
                refine Sm.ret ?_
                try simp only [seval, Exit.exit.injEq]
                refine ⟨⟨_, (Option.some.inj H).symm⟩, fun hz => ?_⟩
                have hyy := Sum.inr.inj ((Option.some.inj H).trans hz)
                subst hyy
                have H := Ho31
                try dsimp only at H
                try simp only [seval, Exit.exit.injEq]
                refine ⟨⟨_, (Option.some.inj H).symm⟩, fun hz => ?_⟩
                have hyy := Sum.inr.inj ((Option.some.inj H).trans hz)
                subst hyy
                have H := Ho25
                try dsimp only at H
                try simp only [seval, Exit.exit.injEq]
                refine ⟨⟨_, (Option.some.inj H).symm⟩, fun hz => ?_⟩
                have hyy := Sum.inr.inj ((Option.some.inj H).trans hz)
                subst hyy
                have H := Ho19
                try dsimp only at H
                try simp only [seval, Exit.exit.injEq]
                obtain rfl := Option.some.inj H
                refine Ret.ofR [] (.inr rfl) ?_
                simp only [z, seval, law39_whole_t9]
              first | replace H := bif_f h38 H | replace H := bif_f2 h38 H (by simp only [List.length_append])
              refine Sm.skip ?_
              refine hK36 _ ?_
              obtain ⟨⟨hg40, hg41, hg42, hg43⟩, H⟩ := gd_some H
              refine Sm.regA h00 mixed hΓ (by kernel_rfl) ?_
              simp only [rs]
              repeat (refine opsG fun K hK => ?_; simp only [z, seval, law39_whole_t9]; (repeat (first | refine gcI ?_ | refine fun (_ : _ ≤ _) => ?_)); refine hK _ ?_; clear hK K)
              refine opsG0 ?_
              refine hK35 _ ?_
              refine Sm.regA h00 mixed hΓ (by kernel_rfl) ?_
              simp only [rs]
              repeat (refine opsG fun K hK => ?_; simp only [z, seval, law39_whole_t9]; (repeat (first | refine gcI ?_ | refine fun (_ : _ ≤ _) => ?_)); refine hK _ ?_; clear hK K)
              refine opsG0 ?_
              try simp only [seval, Exit.exit.injEq]
              refine ⟨(_, _), (Option.some.inj H).symm, ?_⟩
              exact weak_b [some 9032, some 9033, some 9034, some 9035] rfl rfl rfl (by simp only [wk, z, seval, law39_whole_t9]) (by simp only [wk, z, seval, law39_whole_t9])
            first | replace H := bif_f h34 H | replace H := bif_f2 h34 H (by simp only [List.length_append])
            refine Sm.exit ?_
            try simp only [seval, Exit.exit.injEq]
            refine ⟨⟨_, (Option.some.inj H).symm⟩, fun hz => ?_⟩
            have hyy := Sum.inr.inj ((Option.some.inj H).trans hz)
            subst hyy
            have H := Ho31
            try dsimp only at H
            try simp only [seval, Exit.exit.injEq]
            refine ⟨_, H, ?_⟩
            exact weak_b [some 9032, some 9033, some 9035] rfl rfl rfl (by simp only [wk, z, seval, law39_whole_t9]) (by simp only [wk, z, seval, law39_whole_t9])
          rintro in__5 H
          try dsimp only at H
          unfold law39_whole_k8 at H
          refine Sm.regA h00 mixed hΓ (by kernel_rfl) ?_
          simp only [rs]
          repeat (refine opsG fun K hK => ?_; simp only [z, seval, law39_whole_s8]; (repeat (first | refine gcI ?_ | refine fun (_ : _ ≤ _) => ?_)); refine hK _ ?_; clear hK K)
          refine opsG0 ?_
          try simp only [seval, Exit.exit.injEq]
          refine ⟨(_, _), (Option.some.inj H).symm, ?_⟩
          exact weak_b [some 9025, some 9026, some 9027] rfl rfl rfl (by simp only [wk, z, seval, law39_whole_s8]) (by simp only [wk, z, seval, law39_whole_s8])
        first | replace H := bif_f h28 H | replace H := bif_f2 h28 H (by simp only [List.length_append])
        refine Sm.exit ?_
        try simp only [seval, Exit.exit.injEq]
        refine ⟨⟨_, (Option.some.inj H).symm⟩, fun hz => ?_⟩
        have hyy := Sum.inr.inj ((Option.some.inj H).trans hz)
        subst hyy
        have H := Ho25
        try dsimp only at H
        try simp only [seval, Exit.exit.injEq]
        refine ⟨_, H, ?_⟩
        exact weak_b [some 9022, some 9023, some 9024] rfl rfl rfl (by simp only [wk, z, seval, law39_whole_t7]) (by simp only [wk, z, seval, law39_whole_t7])
      rintro in__3 H
      try dsimp only at H
      unfold law39_whole_k6 at H
      refine Sm.regA h00 mixed hΓ (by kernel_rfl) ?_
      simp only [rs]
      repeat (refine opsG fun K hK => ?_; simp only [z, seval, law39_whole_s6]; (repeat (first | refine gcI ?_ | refine fun (_ : _ ≤ _) => ?_)); refine hK _ ?_; clear hK K)
      refine opsG0 ?_
      try simp only [seval, Exit.exit.injEq]
      refine ⟨(_, _), (Option.some.inj H).symm, ?_⟩
      exact weak_b [some 9016, some 9017, some 9018] rfl rfl rfl (by simp only [wk, z, seval, law39_whole_s6]) (by simp only [wk, z, seval, law39_whole_s6])
    first | replace H := bif_f h22 H | replace H := bif_f2 h22 H (by simp only [List.length_append])
    refine Sm.exit ?_
    try simp only [seval, Exit.exit.injEq]
    refine ⟨⟨_, (Option.some.inj H).symm⟩, fun hz => ?_⟩
    have hyy := Sum.inr.inj ((Option.some.inj H).trans hz)
    subst hyy
    have H := Ho19
    try dsimp only at H
    try simp only [seval, Exit.exit.injEq]
    refine ⟨_, H, ?_⟩
    exact weak_b [some 9013, some 9014] rfl rfl rfl (by simp only [wk, z, seval, law39_whole_t5]) (by simp only [wk, z, seval, law39_whole_t5])
  rintro in__1 H
  try dsimp only at H
  unfold law39_whole_k2 at H
  refine Sm.cut (fun (x : Unit) => law39_whole_s3 s) (fun x => law39_whole_k3 n s = some r) ?_ ?_
  · refine Sm.seqA h00 mixed hΓ (by kernel_rfl) fun K6 hK6 => ?_
    simp only [rs]
    repeat (refine opsG fun K hK => ?_; simp only [z, seval, law39_whole_s2]; (repeat (first | refine gcI ?_ | refine fun (_ : _ ≤ _) => ?_)); refine hK _ ?_; clear hK K)
    refine hK6 _ ?_
    refine Sm.block ?_
    obtain ⟨y7, hy7, Ho7⟩ := bind_some H
    refine Sm.loopB (fun (x : Int) => law39_whole_b4 n s in__1 ((in__1.length : Nat) : Int) x) (fun x => law39_whole_t4 s in__1 ((in__1.length : Nat) : Int) x) hy7 ?_ ?_
    · exact weak_b [some 9003, some 9004] rfl rfl rfl (by simp only [wk, z, seval, law39_whole_s2]) (by simp only [wk, z, seval, law39_whole_s2])
    rintro v77 z7 H
    try dsimp only at H
    unfold law39_whole_b4 at H
    refine Sm.seqA h00 mixed hΓ (by kernel_rfl) fun K8 hK8 => ?_
    simp only [rs]
    repeat (refine opsG fun K hK => ?_; simp only [z, seval, law39_whole_t4]; (repeat (first | refine gcI ?_ | refine fun (_ : _ ≤ _) => ?_)); refine hK _ ?_; clear hK K)
    refine hK8 _ ?_
    refine Sm.seqK fun K9 hK9 => ?_
    refine Sm.condK (by rfl) fun Ka Kb ha hb => ?_
    simp only [wpCond, z, seval, law39_whole_t4]
    refine ⟨fun h10 => ha ?_, fun h10 => hb ?_⟩
    · first | replace H := bif_t h10 H | replace H := bif_t2 h10 H (by simp only [List.length_append])
      refine Sm.skip ?_
      refine hK9 _ ?_
      refine Sm.seqK fun K11 hK11 => ?_
      refine Sm.block ?_
      obtain ⟨⟨hg16, hg17⟩, H⟩ := gd_some H
      refine Sm.seqA h00 mixed hΓ (by kernel_rfl) fun K12 hK12 => ?_
      simp only [rs]
      repeat (refine opsG fun K hK => ?_; simp only [z, seval, law39_whole_t4]; (repeat (first | refine gcI ?_ | refine fun (_ : _ ≤ _) => ?_)); refine hK _ ?_; clear hK K)
      refine hK12 _ ?_
      refine Sm.seqA h00 mixed hΓ (by kernel_rfl) fun K13 hK13 => ?_
      simp only [rs]
      repeat (refine opsG fun K hK => ?_; simp only [z, seval, law39_whole_t4]; (repeat (first | refine gcI ?_ | refine fun (_ : _ ≤ _) => ?_)); refine hK _ ?_; clear hK K)
      refine hK13 _ ?_
      refine Sm.condK (by rfl) fun Ka Kb ha hb => ?_
      simp only [wpCond, z, seval, law39_whole_t4]
      refine ⟨fun h14 => ha ?_, fun h14 => hb ?_⟩
      · first | replace H := bif_t h14 H | replace H := bif_t2 h14 H (by simp only [List.length_append])
        refine Sm.seqA h00 mixed hΓ (by kernel_rfl) fun K15 hK15 => ?_
        simp only [rs]
        repeat (refine opsG fun K hK => ?_; simp only [z, seval, law39_whole_t4]; (repeat (first | refine gcI ?_ | refine fun (_ : _ ≤ _) => ?_)); refine hK _ ?_; clear hK K)
        refine hK15 _ ?_
        refine Sm.ret ?_
        try simp only [seval, Exit.exit.injEq]
        refine ⟨⟨_, (Option.some.inj H).symm⟩, fun hz => ?_⟩
        have hyy := Sum.inr.inj ((Option.some.inj H).trans hz)
        subst hyy
        have H := Ho7
        try dsimp only at H
        try simp only [seval, Exit.exit.injEq]
        obtain rfl := Option.some.inj H
        refine Ret.ofR [] (.inr rfl) ?_
        simp only [z, seval, law39_whole_t4]
      first | replace H := bif_f h14 H | replace H := bif_f2 h14 H (by simp only [List.length_append])
      refine Sm.skip ?_
      refine hK11 _ ?_
      refine Sm.regA h00 mixed hΓ (by kernel_rfl) ?_
      simp only [rs]
      repeat (refine opsG fun K hK => ?_; simp only [z, seval, law39_whole_t4]; (repeat (first | refine gcI ?_ | refine fun (_ : _ ≤ _) => ?_)); refine hK _ ?_; clear hK K)
      refine opsG0 ?_
      try simp only [seval, Exit.exit.injEq]
      refine ⟨_, (Option.some.inj H).symm, ?_⟩
      exact weak_b [some 9008, some 9009] rfl rfl rfl (by simp only [wk, z, seval, law39_whole_t4]) (by simp only [wk, z, seval, law39_whole_t4])
    first | replace H := bif_f h10 H | replace H := bif_f2 h10 H (by simp only [List.length_append])
    refine Sm.exit ?_
    try simp only [seval, Exit.exit.injEq]
    refine ⟨⟨_, (Option.some.inj H).symm⟩, fun hz => ?_⟩
    have hyy := Sum.inr.inj ((Option.some.inj H).trans hz)
    subst hyy
    have H := Ho7
    try dsimp only at H
    try simp only [seval, Exit.exit.injEq]
    refine ⟨(), H, ?_⟩
    exact weak_b [some 9008] rfl rfl rfl (by simp only [wk, z, seval, law39_whole_t4]) (by simp only [wk, z, seval, law39_whole_t4])
  rintro ⟨⟩ H
  try dsimp only at H
  unfold law39_whole_k3 at H
  obtain ⟨r1, hr1, H⟩ := bind_some H
  refine Sm.seqA h00 mixed hΓ (by kernel_rfl) fun K5 hK5 => ?_
  simp only [rs]
  repeat (refine opsG fun K hK => ?_; simp only [z, seval, law39_whole_s3, xspool_Check, hr1]; (repeat (first | refine gcI ?_ | refine fun (_ : _ ≤ _) => ?_)); refine hK _ ?_; clear hK K)
  refine hK5 _ ?_
  refine Sm.ret ?_
  try simp only [seval, Exit.exit.injEq]
  obtain rfl := Option.some.inj H
  refine Ret.ofR [] (.inr rfl) ?_
  simp only [z, seval, law39_whole_s3]

abbrev law39_SpoolKeeps_s1 (s : Int) (s_1 : List TExtent) (files : List TFile) : S := stB [(5, .box 9000 0), (7, .own 9001 [.slice 52, .int .i64] 0 files.length)] [(9000, .box [.c (.int .i64) (.int s), .c (.slice 52) (.slice (List.map e_TExtent s_1))]), (9001, .row 45 (List.map e_TFile files))]

def law39_SpoolKeeps_k1 (n : Nat) (s : Int) (s_1 : List TExtent) (files : List TFile) : Option Bool :=
  (law39_whole n (⟨s, s_1⟩ : TSpace) files).bind fun r3 =>
  some r3

abbrev law39_SpoolKeeps_s3 (l : List TAct) (s_4 : Int) (s_5 : List TExtent) (files_2 : List TFile) (i : Int) : S := stB [(1, .c (.slice 42) (.slice (List.map e_TAct l))), (5, .box 9009 0), (7, .own 9010 [.slice 52, .int .i64] 0 files_2.length), (8, .c (.int .i64) (.int i))] [(9009, .box [.c (.int .i64) (.int s_4), .c (.slice 52) (.slice (List.map e_TExtent s_5))]), (9010, .row 45 (List.map e_TFile files_2))]

def law39_SpoolKeeps_k3 (n : Nat) (l : List TAct) (s_4 : Int) (s_5 : List TExtent) (files_2 : List TFile) (i : Int) : Option ((Int × (List TExtent) × (List TFile) × Int) ⊕ (((Bool) ⊕ (Int × (List TExtent) × (List TFile))))) :=
  some (.inl (s_4, s_5, files_2, (IntKind.wrap .i64 (i + 1))))

abbrev law39_SpoolKeeps_s5 (l : List TAct) (s_2 : Int) (s_3 : List TExtent) (files_1 : List TFile) (i : Int) (lines : List TLine) (t : Int) (t_1 : List TExtent) (file : List TExtent) (file_1 : Int) (tracks : List (List TRec)) (many : Int) : S := stB [(1, .c (.slice 42) (.slice (List.map e_TAct l))), (5, .box 9014 0), (7, .own 9015 [.slice 52, .int .i64] 0 files_1.length), (8, .c (.int .i64) (.int i)), (12, .own 9016 [.int .i64, .str] 0 lines.length), (14, .box 9017 0), (15, .box 9018 0), (16, .own 9020 [.slice 59] 0 tracks.length), (18, .c (.int .i64) (.int many))] [(9014, .box [.c (.int .i64) (.int s_2), .c (.slice 52) (.slice (List.map e_TExtent s_3))]), (9015, .row 45 (List.map e_TFile files_1)), (9016, .frz 48 (List.map e_TLine lines)), (9017, .box [.c (.int .i64) (.int t), .c (.slice 52) (.slice (List.map e_TExtent t_1))]), (9018, .box [.own 9019 [.int .i64, .int .i64] 0 file.length, .c (.int .i64) (.int file_1)]), (9019, .row 52 (List.map e_TExtent file)), (9020, .row 57 (List.map e_LTRec tracks))]

def law39_SpoolKeeps_k5 (n : Nat) (l : List TAct) (s_2 : Int) (s_3 : List TExtent) (files_1 : List TFile) (i : Int) (lines : List TLine) (t : Int) (t_1 : List TExtent) (file : List TExtent) (file_1 : Int) (tracks : List (List TRec)) (many : Int) : Option ((Int × (List TExtent) × (List TFile) × Int) ⊕ (((Bool) ⊕ (Int × (List TExtent) × (List TFile))))) :=
  bif (if (if (many != ((tracks.length : Nat) : Int)) = true then true else (file_1 != ((lines.length : Nat) : Int))) = true then true else (decide (((file.length : Nat) : Int) > 8))) then
    some (.inr (.inl false))
  else
    gd ((files_1.length + 1) ≤ 2147483648) <|
    (law39_whole n (⟨t, t_1⟩ : TSpace) (files_1 ++ [(⟨file, file_1⟩ : TFile)])).bind fun r6 =>
    bif (!r6) then
      some (.inr (.inl false))
    else
      law39_SpoolKeeps_k3 n l t t_1 (files_1 ++ [(⟨file, file_1⟩ : TFile)]) i

abbrev law39_SpoolKeeps_t6 (l : List TAct) (s_2 : Int) (s_3 : List TExtent) (files_1 : List TFile) (i : Int) (lines : List TLine) (t_2 : Int) (t_3 : List TExtent) (file_2 : List TExtent) (file_3 : Int) (tracks_1 : List (List TRec)) (v122 : Int) (many_1 : Int) (v123 : Int) : S := stB [(1, .c (.slice 42) (.slice (List.map e_TAct l))), (5, .box 9028 0), (7, .own 9029 [.slice 52, .int .i64] 0 files_1.length), (8, .c (.int .i64) (.int i)), (12, .own 9030 [.int .i64, .str] 0 lines.length), (14, .box 9031 0), (15, .box 9032 0), (16, .own 9034 [.slice 59] 0 tracks_1.length), (18, .c (.int .i64) (.int many_1)), (121, .own 9033 [.int .i64, .int .i64] 0 file_2.length), (122, .c (.int .i64) (.int v122)), (123, .c (.int .i64) (.int v123))] [(9028, .box [.c (.int .i64) (.int s_2), .c (.slice 52) (.slice (List.map e_TExtent s_3))]), (9029, .row 45 (List.map e_TFile files_1)), (9030, .frz 48 (List.map e_TLine lines)), (9031, .box [.c (.int .i64) (.int t_2), .c (.slice 52) (.slice (List.map e_TExtent t_3))]), (9032, .box [.own 9033 [.int .i64, .int .i64] 0 file_2.length, .c (.int .i64) (.int file_3)]), (9033, .row 52 (List.map e_TExtent file_2)), (9034, .row 57 (List.map e_LTRec tracks_1))]

def law39_SpoolKeeps_b6 (n : Nat) (l : List TAct) (s_2 : Int) (s_3 : List TExtent) (files_1 : List TFile) (i : Int) (lines : List TLine) (t_2 : Int) (t_3 : List TExtent) (file_2 : List TExtent) (file_3 : Int) (tracks_1 : List (List TRec)) (v122 : Int) (many_1 : Int) (v123 : Int) : Option ((Int × Int) ⊕ ((Int))) :=
  bif (decide (v123 < v122)) then
    gd ((0 ≤ v123 ∧ v123 < (file_2.length : Int)) ∧ (Int.toNat v123) < file_2.length) <|
    some (.inl ((IntKind.wrap .i64 (many_1 + ((gt file_2 (Int.toNat v123)).Len))), (IntKind.wrap .i64 (v123 + 1))))
  else
    some (.inr many_1)

abbrev law39_SpoolKeeps_s4 (l : List TAct) (s_2 : Int) (s_3 : List TExtent) (files_1 : List TFile) (i : Int) (lines : List TLine) : S := stB [(1, .c (.slice 42) (.slice (List.map e_TAct l))), (5, .box 9011 0), (7, .own 9012 [.slice 52, .int .i64] 0 files_1.length), (8, .c (.int .i64) (.int i)), (12, .own 9013 [.int .i64, .str] 0 lines.length)] [(9011, .box [.c (.int .i64) (.int s_2), .c (.slice 52) (.slice (List.map e_TExtent s_3))]), (9012, .row 45 (List.map e_TFile files_1)), (9013, .row 48 (List.map e_TLine lines))]

def law39_SpoolKeeps_k4 (n : Nat) (l : List TAct) (s_2 : Int) (s_3 : List TExtent) (files_1 : List TFile) (i : Int) (lines : List TLine) : Option ((Int × (List TExtent) × (List TFile) × Int) ⊕ (((Bool) ⊕ (Int × (List TExtent) × (List TFile))))) :=
  (spool_Put n (⟨s_2, s_3⟩ : TSpace) lines).bind fun r5 =>
  bif (r5.2.2.2 != 0) then
    bif (r5.2.2.2 != 7) then
      some (.inr (.inl false))
    else
      law39_SpoolKeeps_k3 n l s_2 s_3 files_1 i
  else
    (loopF (fun (x : Int × Int) => law39_SpoolKeeps_b6 n l s_2 s_3 files_1 i lines r5.1.Tracks r5.1.Free r5.2.1.Extents r5.2.1.Lines r5.2.2.1 ((r5.2.1.Extents.length : Nat) : Int) x.1 x.2) n (0, 0)).bind fun y58 =>
    law39_SpoolKeeps_k5 n l s_2 s_3 files_1 i lines r5.1.Tracks r5.1.Free r5.2.1.Extents r5.2.1.Lines r5.2.2.1 y58

abbrev law39_SpoolKeeps_t7 (l : List TAct) (s_2 : Int) (s_3 : List TExtent) (files_1 : List TFile) (i : Int) (lines_1 : List TLine) (k : Int) : S := stB [(1, .c (.slice 42) (.slice (List.map e_TAct l))), (5, .box 9040 0), (7, .own 9041 [.slice 52, .int .i64] 0 files_1.length), (8, .c (.int .i64) (.int i)), (12, .own 9042 [.int .i64, .str] 0 lines_1.length), (13, .c (.int .i64) (.int k))] [(9040, .box [.c (.int .i64) (.int s_2), .c (.slice 52) (.slice (List.map e_TExtent s_3))]), (9041, .row 45 (List.map e_TFile files_1)), (9042, .row 48 (List.map e_TLine lines_1))]

def law39_SpoolKeeps_b7 (n : Nat) (l : List TAct) (s_2 : Int) (s_3 : List TExtent) (files_1 : List TFile) (i : Int) (lines_1 : List TLine) (k : Int) : Option (((List TLine) × Int) ⊕ (((List TLine)))) :=
  gd ((0 ≤ i ∧ i < (l.length : Int))) <|
  bif (decide (k < (Int.tmod (IntKind.wrap .i64 ((gt l (Int.toNat i)).N)) 60))) then
    gd ((0 ≤ i ∧ i < (l.length : Int)) ∧ (0 ≤ (Int.tmod (IntKind.wrap .i64 ((gt l (Int.toNat i)).Size)) 133) ∧ (Int.tmod (IntKind.wrap .i64 ((gt l (Int.toNat i)).Size)) 133) ≤ (Int.tmod (IntKind.wrap .i64 ((gt l (Int.toNat i)).Size)) 133) ∧ (Int.tmod (IntKind.wrap .i64 ((gt l (Int.toNat i)).Size)) 133) ≤ 2147483648) ∧ (lines_1.length + 1) ≤ 2147483648) <|
    some (.inl ((lines_1 ++ [(⟨k, (toStr8 (zreps (Int.toNat (Int.tmod (IntKind.wrap .i64 ((gt l (Int.toNat i)).Size)) 133)) 0))⟩ : TLine)]), (IntKind.wrap .i64 (k + 1))))
  else
    some (.inr lines_1)

abbrev law39_SpoolKeeps_t2 (l : List TAct) (s_2 : Int) (s_3 : List TExtent) (files_1 : List TFile) (i : Int) : S := stB [(1, .c (.slice 42) (.slice (List.map e_TAct l))), (5, .box 9007 0), (7, .own 9008 [.slice 52, .int .i64] 0 files_1.length), (8, .c (.int .i64) (.int i))] [(9007, .box [.c (.int .i64) (.int s_2), .c (.slice 52) (.slice (List.map e_TExtent s_3))]), (9008, .row 45 (List.map e_TFile files_1))]

def law39_SpoolKeeps_b2 (n : Nat) (l : List TAct) (s_2 : Int) (s_3 : List TExtent) (files_1 : List TFile) (i : Int) : Option ((Int × (List TExtent) × (List TFile) × Int) ⊕ (((Bool) ⊕ (Int × (List TExtent) × (List TFile))))) :=
  bif (if (decide (i < (l.length : Int))) = true then (decide (i < 40)) else false) then
    gd ((0 ≤ i ∧ i < (l.length : Int))) <|
    bif (if (gt l (Int.toNat i)).Drop = true then (decide (((files_1.length : Nat) : Int) > 0)) else false) then
      gd ((0 ≤ i ∧ i < (l.length : Int)) ∧ ((files_1.length : Nat) : Int) ≠ 0) <|
      gd ((0 ≤ (Int.tmod (IntKind.wrap .i64 ((gt l (Int.toNat i)).N)) ((files_1.length : Nat) : Int)) ∧ (Int.tmod (IntKind.wrap .i64 ((gt l (Int.toNat i)).N)) ((files_1.length : Nat) : Int)) < (files_1.length : Int)) ∧ (Int.toNat (Int.tmod (IntKind.wrap .i64 ((gt l (Int.toNat i)).N)) ((files_1.length : Nat) : Int))) < files_1.length) <|
      (spool_Drop n (⟨s_2, s_3⟩ : TSpace) (gt files_1 (Int.toNat (Int.tmod (IntKind.wrap .i64 ((gt l (Int.toNat i)).N)) ((files_1.length : Nat) : Int))))).bind fun r4 =>
      bif (r4.2 != 0) then
        some (.inr (.inl false))
      else
        gd ((0 ≤ (Int.tmod (IntKind.wrap .i64 ((gt l (Int.toNat i)).N)) ((files_1.length : Nat) : Int)) ∧ (Int.tmod (IntKind.wrap .i64 ((gt l (Int.toNat i)).N)) ((files_1.length : Nat) : Int)) ≤ (files_1.length : Int)) ∧ (List.take (Int.toNat ((Int.tmod (IntKind.wrap .i64 ((gt l (Int.toNat i)).N)) ((files_1.length : Nat) : Int)) - 0)) files_1).length ≤ 2147483648 ∧ (0 ≤ (IntKind.wrap .i64 ((Int.tmod (IntKind.wrap .i64 ((gt l (Int.toNat i)).N)) ((files_1.length : Nat) : Int)) + 1)) ∧ (IntKind.wrap .i64 ((Int.tmod (IntKind.wrap .i64 ((gt l (Int.toNat i)).N)) ((files_1.length : Nat) : Int)) + 1)) ≤ (files_1.length : Int) ∧ (files_1.length : Int) ≤ (files_1.length : Int)) ∧ ((List.take (Int.toNat ((Int.tmod (IntKind.wrap .i64 ((gt l (Int.toNat i)).N)) ((files_1.length : Nat) : Int)) - 0)) files_1).length + (List.take (Int.toNat ((files_1.length : Int) - (IntKind.wrap .i64 ((Int.tmod (IntKind.wrap .i64 ((gt l (Int.toNat i)).N)) ((files_1.length : Nat) : Int)) + 1)))) (List.drop (Int.toNat (IntKind.wrap .i64 ((Int.tmod (IntKind.wrap .i64 ((gt l (Int.toNat i)).N)) ((files_1.length : Nat) : Int)) + 1))) files_1)).length) ≤ 2147483648) <|
        law39_SpoolKeeps_k3 n l r4.1.Tracks r4.1.Free ((List.take (Int.toNat ((Int.tmod (IntKind.wrap .i64 ((gt l (Int.toNat i)).N)) ((files_1.length : Nat) : Int)) - 0)) files_1) ++ (List.take (Int.toNat ((files_1.length : Int) - (IntKind.wrap .i64 ((Int.tmod (IntKind.wrap .i64 ((gt l (Int.toNat i)).N)) ((files_1.length : Nat) : Int)) + 1)))) (List.drop (Int.toNat (IntKind.wrap .i64 ((Int.tmod (IntKind.wrap .i64 ((gt l (Int.toNat i)).N)) ((files_1.length : Nat) : Int)) + 1))) files_1))) i
    else
      (loopF (fun (x : (List TLine) × Int) => law39_SpoolKeeps_b7 n l s_2 s_3 files_1 i x.1 x.2) n ([], 0)).bind fun y67 =>
      law39_SpoolKeeps_k4 n l s_2 s_3 files_1 i y67
  else
    some (.inr (.inr (s_2, s_3, files_1)))

def law39_SpoolKeeps (n : Nat) (n_ : Int) (l : List TAct) : Option Bool :=
  (law39_works n).bind fun r1 =>
  bif (!r1) then
    some false
  else
    (spool_New n (Int.tmod (IntKind.wrap .i64 (n_)) 513)).bind fun r2 =>
    bif (r2.2 != 0) then
      some false
    else
      (loopF (fun (x : Int × (List TExtent) × (List TFile) × Int) => law39_SpoolKeeps_b2 n l x.1 x.2.1 x.2.2.1 x.2.2.2) n (r2.1.Tracks, r2.1.Free, [], 0)).bind fun y14 =>
      match y14 with
      | .inl v =>
        some v
      | .inr v =>
        law39_SpoolKeeps_k1 n v.1 v.2.1 v.2.2

def xlaw39_SpoolKeeps (n : Nat) : Go.AE.Fn := mkFn (A := Int × (List TAct)) (R := Bool) 5 [(false, [.int .u16]), (false, [.slice 42])] false (fun xs => ((cg (xs.getD 0 []) 0).toInt, ((cg (xs.getD 1 []) 0).toSl.map d_TAct))) (fun a => [[.int a.1], [.slice (List.map e_TAct a.2)]]) (fun a => law39_SpoolKeeps n a.1 a.2) (fun r => [.c .bool (.bool r)]) (fun r => [])

theorem claw39_SpoolKeeps (n : Nat) : Contract Try.prog (xlaw39_SpoolKeeps n) := by
  have hΓ : ∀ g, g ∈ ([xlaw39_works n, xspool_New n, xspool_Drop n, xspool_Put n, xlaw39_whole n] : List Go.AE.Fn) → Contract Try.prog g := by
    intro g hg; simp only [List.mem_cons, List.not_mem_nil, or_false] at hg; rcases hg with rfl | rfl | rfl | rfl | rfl; exact claw39_works n; exact cspool_New n; exact cspool_Drop n; exact cspool_Put n; exact claw39_whole n
  refine contract_f (Try.f5.body.getD .skip) h00 Try.func5 rfl (by intro args w; exact Try.call5 args w) (by decide) (by intro _ r; exact ⟨rfl, by simp⟩) ?_
  rintro ⟨n_, l⟩ r H
  try dsimp only at H
  unfold law39_SpoolKeeps at H
  simp only [Try.f5, Option.getD]
  refine Sm.seqA h00 mixed hΓ (by kernel_rfl) fun K1 hK1 => ?_
  simp only [rs]
  repeat (refine opsG fun K hK => ?_; simp only [z, seval]; (repeat (first | refine gcI ?_ | refine fun (_ : _ ≤ _) => ?_)); refine hK _ ?_; clear hK K)
  refine hK1 _ ?_
  refine Sm.seqK fun K2 hK2 => ?_
  obtain ⟨r1, hr1, H⟩ := bind_some H
  refine Sm.seqA h00 mixed hΓ (by kernel_rfl) fun K3 hK3 => ?_
  simp only [rs]
  repeat (refine opsG fun K hK => ?_; simp only [z, seval, xlaw39_works, hr1]; (repeat (first | refine gcI ?_ | refine fun (_ : _ ≤ _) => ?_)); refine hK _ ?_; clear hK K)
  refine hK3 _ ?_
  refine Sm.condK (by rfl) fun Ka Kb ha hb => ?_
  simp only [wpCond, z, seval]
  refine ⟨fun h4 => ha ?_, fun h4 => hb ?_⟩
  · first | replace H := bif_t h4 H | replace H := bif_t2 h4 H (by simp only [List.length_append])
    refine Sm.seqA h00 mixed hΓ (by kernel_rfl) fun K5 hK5 => ?_
    simp only [rs]
    repeat (refine opsG fun K hK => ?_; simp only [z, seval]; (repeat (first | refine gcI ?_ | refine fun (_ : _ ≤ _) => ?_)); refine hK _ ?_; clear hK K)
    refine hK5 _ ?_
    refine Sm.ret ?_
    try simp only [seval, Exit.exit.injEq]
    obtain rfl := Option.some.inj H
    refine Ret.ofR [] (.inr rfl) ?_
    simp only [z, seval]
  first | replace H := bif_f h4 H | replace H := bif_f2 h4 H (by simp only [List.length_append])
  refine Sm.skip ?_
  refine hK2 _ ?_
  obtain ⟨r2, hr2, H⟩ := bind_some H
  refine Sm.seqA h00 mixed hΓ (by kernel_rfl) fun K6 hK6 => ?_
  simp only [rs]
  repeat (refine opsG fun K hK => ?_; simp only [z, seval, xlaw39_works, xspool_New, hr2]; (repeat (first | refine gcI ?_ | refine fun (_ : _ ≤ _) => ?_)); refine hK _ ?_; clear hK K)
  refine hK6 _ ?_
  refine Sm.seqK fun K7 hK7 => ?_
  refine Sm.seqA h00 mixed hΓ (by kernel_rfl) fun K8 hK8 => ?_
  simp only [rs]
  repeat (refine opsG fun K hK => ?_; simp only [z, seval]; (repeat (first | refine gcI ?_ | refine fun (_ : _ ≤ _) => ?_)); refine hK _ ?_; clear hK K)
  refine hK8 _ ?_
  refine Sm.condK (by rfl) fun Ka Kb ha hb => ?_
  simp only [wpCond, z, seval]
  refine ⟨fun h9 => ha ?_, fun h9 => hb ?_⟩
  · first | replace H := bif_t h9 H | replace H := bif_t2 h9 H (by simp only [List.length_append])
    refine Sm.seqA h00 mixed hΓ (by kernel_rfl) fun K10 hK10 => ?_
    simp only [rs]
    repeat (refine opsG fun K hK => ?_; simp only [z, seval]; (repeat (first | refine gcI ?_ | refine fun (_ : _ ≤ _) => ?_)); refine hK _ ?_; clear hK K)
    refine hK10 _ ?_
    refine Sm.ret ?_
    try simp only [seval, Exit.exit.injEq]
    obtain rfl := Option.some.inj H
    refine Ret.ofR [] (.inr rfl) ?_
    simp only [z, seval]
  first | replace H := bif_f h9 H | replace H := bif_f2 h9 H (by simp only [List.length_append])
  refine Sm.skip ?_
  refine hK7 _ ?_
  refine Sm.seqA h00 mixed hΓ (by kernel_rfl) fun K11 hK11 => ?_
  simp only [rs]
  repeat (refine opsG fun K hK => ?_; simp only [z, seval]; (repeat (first | refine gcI ?_ | refine fun (_ : _ ≤ _) => ?_)); refine hK _ ?_; clear hK K)
  refine hK11 _ ?_
  refine Sm.cut (fun (x : Int × (List TExtent) × (List TFile)) => law39_SpoolKeeps_s1 x.1 x.2.1 x.2.2) (fun x => law39_SpoolKeeps_k1 n x.1 x.2.1 x.2.2 = some r) ?_ ?_
  · refine Sm.seqA h00 mixed hΓ (by kernel_rfl) fun K13 hK13 => ?_
    simp only [rs]
    repeat (refine opsG fun K hK => ?_; simp only [z, seval]; (repeat (first | refine gcI ?_ | refine fun (_ : _ ≤ _) => ?_)); refine hK _ ?_; clear hK K)
    refine hK13 _ ?_
    refine Sm.block ?_
    obtain ⟨y14, hy14, Ho14⟩ := bind_some H
    refine Sm.loopB (fun (x : Int × (List TExtent) × (List TFile) × Int) => law39_SpoolKeeps_b2 n l x.1 x.2.1 x.2.2.1 x.2.2.2) (fun x => law39_SpoolKeeps_t2 l x.1 x.2.1 x.2.2.1 x.2.2.2) hy14 ?_ ?_
    · exact weak_bf [432] [some 80, none] rfl rfl rfl (by simp only [wk, z, seval]) (by simp only [wk, z, seval])
    rintro ⟨s_2, s_3, files_1, i⟩ z14 H
    try dsimp only at H
    unfold law39_SpoolKeeps_b2 at H
    refine Sm.seqK fun K15 hK15 => ?_
    refine Sm.seqA h00 mixed hΓ (by kernel_rfl) fun K16 hK16 => ?_
    simp only [rs]
    repeat (refine opsG fun K hK => ?_; simp only [z, seval, law39_SpoolKeeps_t2]; (repeat (first | refine gcI ?_ | refine fun (_ : _ ≤ _) => ?_)); refine hK _ ?_; clear hK K)
    refine hK16 _ ?_
    refine Sm.condK (by rfl) fun Ka Kb ha hb => ?_
    simp only [wpCond, z, seval, law39_SpoolKeeps_t2]
    refine ⟨fun h17 => ha ?_, fun h17 => hb ?_⟩
    · first | replace H := bif_t h17 H | replace H := bif_t2 h17 H (by simp only [List.length_append])
      refine Sm.skip ?_
      refine hK15 _ ?_
      refine Sm.cut (fun (x : Int × (List TExtent) × (List TFile)) => law39_SpoolKeeps_s3 l x.1 x.2.1 x.2.2 i) (fun x => law39_SpoolKeeps_k3 n l x.1 x.2.1 x.2.2 i = some z14) ?_ ?_
      · refine Sm.block ?_
        refine Sm.seqK fun K18 hK18 => ?_
        obtain ⟨hg76, H⟩ := gd_some H
        refine Sm.seqA h00 mixed hΓ (by kernel_rfl) fun K19 hK19 => ?_
        simp only [rs]
        repeat (refine opsG fun K hK => ?_; simp only [z, seval, law39_SpoolKeeps_t2]; (repeat (first | refine gcI ?_ | refine fun (_ : _ ≤ _) => ?_)); refine hK _ ?_; clear hK K)
        refine hK19 _ ?_
        refine Sm.condK (by rfl) fun Ka Kb ha hb => ?_
        simp only [wpCond, z, seval, law39_SpoolKeeps_t2]
        refine ⟨fun h20 => ha ?_, fun h20 => hb ?_⟩
        · first | replace H := bif_t h20 H | replace H := bif_t2 h20 H (by simp only [List.length_append])
          obtain ⟨⟨hg35, hg36⟩, H⟩ := gd_some H
          refine Sm.seqA h00 mixed hΓ (by kernel_rfl) fun K21 hK21 => ?_
          simp only [rs]
          repeat (refine opsG fun K hK => ?_; simp only [z, seval, law39_SpoolKeeps_t2]; (repeat (first | refine gcI ?_ | refine fun (_ : _ ≤ _) => ?_)); refine hK _ ?_; clear hK K)
          refine hK21 _ ?_
          obtain ⟨⟨hg23, hg24⟩, H⟩ := gd_some H
          obtain ⟨r4, hr4, H⟩ := bind_some H
          refine Sm.seqQ h00 mixed hΓ [0, 1, 2, 3, 4, 5, 6, 7, 8, 9, 10, 11] [(none, [9007], []), (none, [], []), (none, [], []), (none, [9008], []), (none, [9008], []), (none, [], [1087, 1086, 1085, 1084, 1083, 1082, 1081, 1080, 1079, 1078, 1077, 1076, 1075, 1074, 1073, 1072]), (none, [], []), (none, [], []), (none, [], []), (none, [], [160]), (none, [160, 1072], [160]), (none, [], [])] (by kernel_rfl) rfl fun K22 hK22 => ?_
          simp only [rs]
          iterate 12 (refine opsQ fun K hK => ?_; simp only [z, seval, law39_SpoolKeeps_t2, xlaw39_works, xspool_New, xspool_Drop, hr4]; (repeat (first | refine gcI ?_ | refine fun (_ : _ ≤ _) => ?_)); refine hK _ ?_; clear hK K)
          refine opsQ0 ?_
          refine hK22 _ ?_
          refine Sm.seqK fun K25 hK25 => ?_
          refine Sm.seqA h00 mixed hΓ (by kernel_rfl) fun K26 hK26 => ?_
          simp only [rs]
          repeat (refine opsG fun K hK => ?_; simp only [z, seval, law39_SpoolKeeps_t2]; (repeat (first | refine gcI ?_ | refine fun (_ : _ ≤ _) => ?_)); refine hK _ ?_; clear hK K)
          refine hK26 _ ?_
          refine Sm.condK (by rfl) fun Ka Kb ha hb => ?_
          simp only [wpCond, z, seval, law39_SpoolKeeps_t2]
          refine ⟨fun h27 => ha ?_, fun h27 => hb ?_⟩
          · first | replace H := bif_t h27 H | replace H := bif_t2 h27 H (by simp only [List.length_append])
            refine Sm.seqA h00 mixed hΓ (by kernel_rfl) fun K28 hK28 => ?_
            simp only [rs]
            repeat (refine opsG fun K hK => ?_; simp only [z, seval, law39_SpoolKeeps_t2]; (repeat (first | refine gcI ?_ | refine fun (_ : _ ≤ _) => ?_)); refine hK _ ?_; clear hK K)
            refine hK28 _ ?_
            refine Sm.ret ?_
            try simp only [seval, Exit.exit.injEq]
            refine ⟨⟨_, (Option.some.inj H).symm⟩, fun hz => ?_⟩
            have hyy := Sum.inr.inj ((Option.some.inj H).trans hz)
            subst hyy
            have H := Ho14
            try dsimp only at H
            try simp only [seval, Exit.exit.injEq]
            obtain rfl := Option.some.inj H
            refine Ret.ofR [] (.inr rfl) ?_
            simp only [z, seval, law39_SpoolKeeps_t2]
          first | replace H := bif_f h27 H | replace H := bif_f2 h27 H (by simp only [List.length_append])
          refine Sm.skip ?_
          refine hK25 _ ?_
          refine Sm.seqA h00 mixed hΓ (by kernel_rfl) fun K29 hK29 => ?_
          simp only [rs]
          repeat (refine opsG fun K hK => ?_; simp only [z, seval, law39_SpoolKeeps_t2]; (repeat (first | refine gcI ?_ | refine fun (_ : _ ≤ _) => ?_)); refine hK _ ?_; clear hK K)
          refine hK29 _ ?_
          obtain ⟨⟨hg31, hg32, hg33, hg34⟩, H⟩ := gd_some H
          refine Sm.seqQ h00 mixed hΓ [0, 1, 2, 3, 4, 5, 6, 7, 8, 9, 10] [(none, [], [1168]), (none, [], []), (none, [], []), (none, [9008], []), (none, [1168, 9008], [1232, 1168]), (none, [], []), (none, [], []), (none, [], []), (none, [9008], []), (none, [1232, 9008], [1312, 1232]), (none, [], [])] (by kernel_rfl) rfl fun K30 hK30 => ?_
          simp only [rs]
          iterate 11 (refine opsQ fun K hK => ?_; simp only [z, seval, law39_SpoolKeeps_t2]; (repeat (first | refine gcI ?_ | refine fun (_ : _ ≤ _) => ?_)); refine hK _ ?_; clear hK K)
          refine opsQ0 ?_
          refine hK30 _ ?_
          refine Sm.exit ?_
          try simp only [seval, Exit.exit.injEq]
          refine ⟨(r4.1.Tracks, r4.1.Free, ((List.take (Int.toNat ((Int.tmod (IntKind.wrap .i64 ((gt l (Int.toNat i)).N)) ((files_1.length : Nat) : Int)) - 0)) files_1) ++ (List.take (Int.toNat ((files_1.length : Int) - (IntKind.wrap .i64 ((Int.tmod (IntKind.wrap .i64 ((gt l (Int.toNat i)).N)) ((files_1.length : Nat) : Int)) + 1)))) (List.drop (Int.toNat (IntKind.wrap .i64 ((Int.tmod (IntKind.wrap .i64 ((gt l (Int.toNat i)).N)) ((files_1.length : Nat) : Int)) + 1))) files_1)))), H, ?_⟩
          exact weak_bf [1072] [some 9007, some 1312] rfl rfl rfl (by simp only [wk, z, seval, law39_SpoolKeeps_t2]) (by simp only [wk, z, seval, law39_SpoolKeeps_t2])
        first | replace H := bif_f h20 H | replace H := bif_f2 h20 H (by simp only [List.length_append])
        refine Sm.skip ?_
        refine hK18 _ ?_
        refine Sm.seqA h00 mixed hΓ (by kernel_rfl) fun K37 hK37 => ?_
        simp only [rs]
        repeat (refine opsG fun K hK => ?_; simp only [z, seval, law39_SpoolKeeps_t2]; (repeat (first | refine gcI ?_ | refine fun (_ : _ ≤ _) => ?_)); refine hK _ ?_; clear hK K)
        refine hK37 _ ?_
        refine Sm.cut (fun (x : (List TLine)) => law39_SpoolKeeps_s4 l s_2 s_3 files_1 i x) (fun x => law39_SpoolKeeps_k4 n l s_2 s_3 files_1 i x = some z14) ?_ ?_
        · refine Sm.seqA h00 mixed hΓ (by kernel_rfl) fun K66 hK66 => ?_
          simp only [rs]
          repeat (refine opsG fun K hK => ?_; simp only [z, seval, law39_SpoolKeeps_t2]; (repeat (first | refine gcI ?_ | refine fun (_ : _ ≤ _) => ?_)); refine hK _ ?_; clear hK K)
          refine hK66 _ ?_
          refine Sm.block ?_
          obtain ⟨y67, hy67, Ho67⟩ := bind_some H
          refine Sm.loopB (fun (x : (List TLine) × Int) => law39_SpoolKeeps_b7 n l s_2 s_3 files_1 i x.1 x.2) (fun x => law39_SpoolKeeps_t7 l s_2 s_3 files_1 i x.1 x.2) hy67 ?_ ?_
          · exact weak_b [some 9007, some 9008, none] rfl rfl rfl (by simp only [wk, z, seval, law39_SpoolKeeps_t2]) (by simp only [wk, z, seval, law39_SpoolKeeps_t2])
          rintro ⟨lines_1, k⟩ z67 H
          try dsimp only at H
          unfold law39_SpoolKeeps_b7 at H
          refine Sm.seqK fun K68 hK68 => ?_
          obtain ⟨hg75, H⟩ := gd_some H
          refine Sm.seqA h00 mixed hΓ (by kernel_rfl) fun K69 hK69 => ?_
          simp only [rs]
          repeat (refine opsG fun K hK => ?_; simp only [z, seval, law39_SpoolKeeps_t7]; (repeat (first | refine gcI ?_ | refine fun (_ : _ ≤ _) => ?_)); refine hK _ ?_; clear hK K)
          refine hK69 _ ?_
          refine Sm.condK (by rfl) fun Ka Kb ha hb => ?_
          simp only [wpCond, z, seval, law39_SpoolKeeps_t7]
          refine ⟨fun h70 => ha ?_, fun h70 => hb ?_⟩
          · first | replace H := bif_t h70 H | replace H := bif_t2 h70 H (by simp only [List.length_append])
            refine Sm.skip ?_
            refine hK68 _ ?_
            refine Sm.seqK fun K71 hK71 => ?_
            refine Sm.block ?_
            refine Sm.rgX h00 mixed hΓ (by kernel_rfl) ?_
            simp only [rs]
            obtain ⟨⟨hg72, hg73, hg74⟩, H⟩ := gd_some H
            iterate 9 (refine opsX fun K hK => ?_; simp only [z, seval, law39_SpoolKeeps_t7]; (repeat (first | refine gcI ?_ | refine fun (_ : _ ≤ _) => ?_)); refine hK _ ?_; clear hK K)
            refine opsY fun K hK => ?_; simp only [z, seval, law39_SpoolKeeps_t7]; (repeat (first | refine gcI ?_ | refine fun (_ : _ ≤ _) => ?_)); refine hK _ ?_; clear hK K
            refine opsE stepV_ok fun K hK => ?_; simp only [z, seval, law39_SpoolKeeps_t7]; (repeat (first | refine gcI ?_ | refine fun (_ : _ ≤ _) => ?_)); refine hK _ ?_; clear hK K
            iterate 4 (refine opsX fun K hK => ?_; simp only [z, seval, law39_SpoolKeeps_t7]; (repeat (first | refine gcI ?_ | refine fun (_ : _ ≤ _) => ?_)); refine hK _ ?_; clear hK K)
            refine opsX0 ?_
            refine hK71 _ ?_
            refine Sm.regA h00 mixed hΓ (by kernel_rfl) ?_
            simp only [rs]
            repeat (refine opsG fun K hK => ?_; simp only [z, seval, law39_SpoolKeeps_t7]; (repeat (first | refine gcI ?_ | refine fun (_ : _ ≤ _) => ?_)); refine hK _ ?_; clear hK K)
            refine opsG0 ?_
            try simp only [seval, Exit.exit.injEq]
            refine ⟨(_, _), (Option.some.inj H).symm, ?_⟩
            exact weak_b [some 9040, some 9041, some 1712] rfl rfl rfl (by simp only [wk, z, seval, law39_SpoolKeeps_t7]) (by simp only [wk, z, seval, law39_SpoolKeeps_t7])
          first | replace H := bif_f h70 H | replace H := bif_f2 h70 H (by simp only [List.length_append])
          refine Sm.exit ?_
          try simp only [seval, Exit.exit.injEq]
          refine ⟨⟨_, (Option.some.inj H).symm⟩, fun hz => ?_⟩
          have hyy := Sum.inr.inj ((Option.some.inj H).trans hz)
          subst hyy
          have H := Ho67
          try dsimp only at H
          try simp only [seval, Exit.exit.injEq]
          refine ⟨_, H, ?_⟩
          exact weak_b [some 9040, some 9041, some 9042] rfl rfl rfl (by simp only [wk, z, seval, law39_SpoolKeeps_t7]) (by simp only [wk, z, seval, law39_SpoolKeeps_t7])
        rintro lines H
        try dsimp only at H
        unfold law39_SpoolKeeps_k4 at H
        obtain ⟨r5, hr5, H⟩ := bind_some H
        refine Sm.seqA h00 mixed hΓ (by kernel_rfl) fun K38 hK38 => ?_
        simp only [rs]
        repeat (refine opsG fun K hK => ?_; simp only [z, seval, law39_SpoolKeeps_s4, xlaw39_works, xspool_New, xspool_Drop, xspool_Put, hr5]; (repeat (first | refine gcI ?_ | refine fun (_ : _ ≤ _) => ?_)); refine hK _ ?_; clear hK K)
        refine hK38 _ ?_
        refine Sm.seqK fun K39 hK39 => ?_
        refine Sm.seqA h00 mixed hΓ (by kernel_rfl) fun K40 hK40 => ?_
        simp only [rs]
        repeat (refine opsG fun K hK => ?_; simp only [z, seval, law39_SpoolKeeps_s4]; (repeat (first | refine gcI ?_ | refine fun (_ : _ ≤ _) => ?_)); refine hK _ ?_; clear hK K)
        refine hK40 _ ?_
        refine Sm.condK (by rfl) fun Ka Kb ha hb => ?_
        simp only [wpCond, z, seval, law39_SpoolKeeps_s4]
        refine ⟨fun h41 => ha ?_, fun h41 => hb ?_⟩
        · first | replace H := bif_t h41 H | replace H := bif_t2 h41 H (by simp only [List.length_append])
          refine Sm.seqK fun K42 hK42 => ?_
          refine Sm.seqA h00 mixed hΓ (by kernel_rfl) fun K43 hK43 => ?_
          simp only [rs]
          repeat (refine opsG fun K hK => ?_; simp only [z, seval, law39_SpoolKeeps_s4]; (repeat (first | refine gcI ?_ | refine fun (_ : _ ≤ _) => ?_)); refine hK _ ?_; clear hK K)
          refine hK43 _ ?_
          refine Sm.condK (by rfl) fun Ka Kb ha hb => ?_
          simp only [wpCond, z, seval, law39_SpoolKeeps_s4]
          refine ⟨fun h44 => ha ?_, fun h44 => hb ?_⟩
          · first | replace H := bif_t h44 H | replace H := bif_t2 h44 H (by simp only [List.length_append])
            refine Sm.seqA h00 mixed hΓ (by kernel_rfl) fun K45 hK45 => ?_
            simp only [rs]
            repeat (refine opsG fun K hK => ?_; simp only [z, seval, law39_SpoolKeeps_s4]; (repeat (first | refine gcI ?_ | refine fun (_ : _ ≤ _) => ?_)); refine hK _ ?_; clear hK K)
            refine hK45 _ ?_
            refine Sm.ret ?_
            try simp only [seval, Exit.exit.injEq]
            refine ⟨⟨_, (Option.some.inj H).symm⟩, fun hz => ?_⟩
            have hyy := Sum.inr.inj ((Option.some.inj H).trans hz)
            subst hyy
            have H := Ho14
            try dsimp only at H
            try simp only [seval, Exit.exit.injEq]
            obtain rfl := Option.some.inj H
            refine Ret.ofR [] (.inr rfl) ?_
            simp only [z, seval, law39_SpoolKeeps_s4]
          first | replace H := bif_f h44 H | replace H := bif_f2 h44 H (by simp only [List.length_append])
          refine Sm.skip ?_
          refine hK42 _ ?_
          refine Sm.exit ?_
          try simp only [seval, Exit.exit.injEq]
          refine ⟨(s_2, s_3, files_1), H, ?_⟩
          exact weak_b [some 9011, some 9012] rfl rfl rfl (by simp only [wk, z, seval, law39_SpoolKeeps_s4]) (by simp only [wk, z, seval, law39_SpoolKeeps_s4])
        first | replace H := bif_f h41 H | replace H := bif_f2 h41 H (by simp only [List.length_append])
        refine Sm.skip ?_
        refine hK39 _ ?_
        refine Sm.seqA h00 mixed hΓ (by kernel_rfl) fun K46 hK46 => ?_
        simp only [rs]
        repeat (refine opsG fun K hK => ?_; simp only [z, seval, law39_SpoolKeeps_s4]; (repeat (first | refine gcI ?_ | refine fun (_ : _ ≤ _) => ?_)); refine hK _ ?_; clear hK K)
        refine hK46 _ ?_
        refine Sm.cut (fun (x : Int × (List TExtent) × (List TExtent) × Int × (List (List TRec)) × Int) => law39_SpoolKeeps_s5 l s_2 s_3 files_1 i lines x.1 x.2.1 x.2.2.1 x.2.2.2.1 x.2.2.2.2.1 x.2.2.2.2.2) (fun x => law39_SpoolKeeps_k5 n l s_2 s_3 files_1 i lines x.1 x.2.1 x.2.2.1 x.2.2.2.1 x.2.2.2.2.1 x.2.2.2.2.2 = some z14) ?_ ?_
        · refine Sm.seqA h00 mixed hΓ (by kernel_rfl) fun K57 hK57 => ?_
          simp only [rs]
          repeat (refine opsG fun K hK => ?_; simp only [z, seval, law39_SpoolKeeps_s4]; (repeat (first | refine gcI ?_ | refine fun (_ : _ ≤ _) => ?_)); refine hK _ ?_; clear hK K)
          refine hK57 _ ?_
          refine Sm.block ?_
          obtain ⟨y58, hy58, Ho58⟩ := bind_some H
          refine Sm.loopB (fun (x : Int × Int) => law39_SpoolKeeps_b6 n l s_2 s_3 files_1 i lines r5.1.Tracks r5.1.Free r5.2.1.Extents r5.2.1.Lines r5.2.2.1 ((r5.2.1.Extents.length : Nat) : Int) x.1 x.2) (fun x => law39_SpoolKeeps_t6 l s_2 s_3 files_1 i lines r5.1.Tracks r5.1.Free r5.2.1.Extents r5.2.1.Lines r5.2.2.1 ((r5.2.1.Extents.length : Nat) : Int) x.1 x.2) hy58 ?_ ?_
          · exact weak_b [some 9011, some 9012, some 9013, some 224, some 240, some 1776, some 1777] rfl rfl rfl (by simp only [wk, z, seval, law39_SpoolKeeps_s4]) (by simp only [wk, z, seval, law39_SpoolKeeps_s4])
          rintro ⟨many_1, v123⟩ z58 H
          try dsimp only at H
          unfold law39_SpoolKeeps_b6 at H
          refine Sm.seqA h00 mixed hΓ (by kernel_rfl) fun K59 hK59 => ?_
          simp only [rs]
          repeat (refine opsG fun K hK => ?_; simp only [z, seval, law39_SpoolKeeps_t6]; (repeat (first | refine gcI ?_ | refine fun (_ : _ ≤ _) => ?_)); refine hK _ ?_; clear hK K)
          refine hK59 _ ?_
          refine Sm.seqK fun K60 hK60 => ?_
          refine Sm.condK (by rfl) fun Ka Kb ha hb => ?_
          simp only [wpCond, z, seval, law39_SpoolKeeps_t6]
          refine ⟨fun h61 => ha ?_, fun h61 => hb ?_⟩
          · first | replace H := bif_t h61 H | replace H := bif_t2 h61 H (by simp only [List.length_append])
            refine Sm.skip ?_
            refine hK60 _ ?_
            refine Sm.seqK fun K62 hK62 => ?_
            refine Sm.block ?_
            obtain ⟨⟨hg64, hg65⟩, H⟩ := gd_some H
            refine Sm.seqA h00 mixed hΓ (by kernel_rfl) fun K63 hK63 => ?_
            simp only [rs]
            repeat (refine opsG fun K hK => ?_; simp only [z, seval, law39_SpoolKeeps_t6]; (repeat (first | refine gcI ?_ | refine fun (_ : _ ≤ _) => ?_)); refine hK _ ?_; clear hK K)
            refine hK63 _ ?_
            refine Sm.regA h00 mixed hΓ (by kernel_rfl) ?_
            simp only [rs]
            repeat (refine opsG fun K hK => ?_; simp only [z, seval, law39_SpoolKeeps_t6]; (repeat (first | refine gcI ?_ | refine fun (_ : _ ≤ _) => ?_)); refine hK _ ?_; clear hK K)
            refine opsG0 ?_
            refine hK62 _ ?_
            refine Sm.regA h00 mixed hΓ (by kernel_rfl) ?_
            simp only [rs]
            repeat (refine opsG fun K hK => ?_; simp only [z, seval, law39_SpoolKeeps_t6]; (repeat (first | refine gcI ?_ | refine fun (_ : _ ≤ _) => ?_)); refine hK _ ?_; clear hK K)
            refine opsG0 ?_
            try simp only [seval, Exit.exit.injEq]
            refine ⟨(_, _), (Option.some.inj H).symm, ?_⟩
            exact weak_b [some 9028, some 9029, some 9030, some 9031, some 9032, some 9033, some 9034] rfl rfl rfl (by simp only [wk, z, seval, law39_SpoolKeeps_t6]) (by simp only [wk, z, seval, law39_SpoolKeeps_t6])
          first | replace H := bif_f h61 H | replace H := bif_f2 h61 H (by simp only [List.length_append])
          refine Sm.exit ?_
          try simp only [seval, Exit.exit.injEq]
          refine ⟨⟨_, (Option.some.inj H).symm⟩, fun hz => ?_⟩
          have hyy := Sum.inr.inj ((Option.some.inj H).trans hz)
          subst hyy
          have H := Ho58
          try dsimp only at H
          try simp only [seval, Exit.exit.injEq]
          refine ⟨(r5.1.Tracks, r5.1.Free, r5.2.1.Extents, r5.2.1.Lines, r5.2.2.1, many_1), H, ?_⟩
          exact weak_b [some 9028, some 9029, some 9030, some 9031, some 9032, some 9033, some 9034] rfl rfl rfl (by simp only [wk, z, seval, law39_SpoolKeeps_t6]) (by simp only [wk, z, seval, law39_SpoolKeeps_t6])
        rintro ⟨t, t_1, file, file_1, tracks, many⟩ H
        try dsimp only at H
        unfold law39_SpoolKeeps_k5 at H
        refine Sm.seqK fun K47 hK47 => ?_
        refine Sm.seqA h00 mixed hΓ (by kernel_rfl) fun K48 hK48 => ?_
        simp only [rs]
        repeat (refine opsG fun K hK => ?_; simp only [z, seval, law39_SpoolKeeps_s5]; (repeat (first | refine gcI ?_ | refine fun (_ : _ ≤ _) => ?_)); refine hK _ ?_; clear hK K)
        refine hK48 _ ?_
        refine Sm.condK (by rfl) fun Ka Kb ha hb => ?_
        simp only [wpCond, z, seval, law39_SpoolKeeps_s5]
        refine ⟨fun h49 => ha ?_, fun h49 => hb ?_⟩
        · first | replace H := bif_t h49 H | replace H := bif_t2 h49 H (by simp only [List.length_append])
          refine Sm.seqA h00 mixed hΓ (by kernel_rfl) fun K50 hK50 => ?_
          simp only [rs]
          repeat (refine opsG fun K hK => ?_; simp only [z, seval, law39_SpoolKeeps_s5]; (repeat (first | refine gcI ?_ | refine fun (_ : _ ≤ _) => ?_)); refine hK _ ?_; clear hK K)
          refine hK50 _ ?_
          refine Sm.ret ?_
          try simp only [seval, Exit.exit.injEq]
          refine ⟨⟨_, (Option.some.inj H).symm⟩, fun hz => ?_⟩
          have hyy := Sum.inr.inj ((Option.some.inj H).trans hz)
          subst hyy
          have H := Ho14
          try dsimp only at H
          try simp only [seval, Exit.exit.injEq]
          obtain rfl := Option.some.inj H
          refine Ret.ofR [] (.inr rfl) ?_
          simp only [z, seval, law39_SpoolKeeps_s5]
        first | replace H := bif_f h49 H | replace H := bif_f2 h49 H (by simp only [List.length_append])
        refine Sm.skip ?_
        refine hK47 _ ?_
        refine Sm.seqA h00 mixed hΓ (by kernel_rfl) fun K51 hK51 => ?_
        simp only [rs]
        repeat (refine opsG fun K hK => ?_; simp only [z, seval, law39_SpoolKeeps_s5]; (repeat (first | refine gcI ?_ | refine fun (_ : _ ≤ _) => ?_)); refine hK _ ?_; clear hK K)
        refine hK51 _ ?_
        obtain ⟨hg56, H⟩ := gd_some H
        refine Sm.seqA h00 mixed hΓ (by kernel_rfl) fun K52 hK52 => ?_
        simp only [rs]
        repeat (refine opsG fun K hK => ?_; simp only [z, seval, law39_SpoolKeeps_s5]; (repeat (first | refine gcI ?_ | refine fun (_ : _ ≤ _) => ?_)); refine hK _ ?_; clear hK K)
        refine hK52 _ ?_
        obtain ⟨r6, hr6, H⟩ := bind_some H
        refine Sm.seqA h00 mixed hΓ (by kernel_rfl) fun K53 hK53 => ?_
        simp only [rs]
        repeat (refine opsG fun K hK => ?_; simp only [z, seval, law39_SpoolKeeps_s5, xlaw39_works, xspool_New, xspool_Drop, xspool_Put, xlaw39_whole, hr6]; (repeat (first | refine gcI ?_ | refine fun (_ : _ ≤ _) => ?_)); refine hK _ ?_; clear hK K)
        refine hK53 _ ?_
        refine Sm.condK (by rfl) fun Ka Kb ha hb => ?_
        simp only [wpCond, z, seval, law39_SpoolKeeps_s5]
        refine ⟨fun h54 => ha ?_, fun h54 => hb ?_⟩
        · first | replace H := bif_t h54 H | replace H := bif_t2 h54 H (by simp only [List.length_append])
          refine Sm.seqA h00 mixed hΓ (by kernel_rfl) fun K55 hK55 => ?_
          simp only [rs]
          repeat (refine opsG fun K hK => ?_; simp only [z, seval, law39_SpoolKeeps_s5]; (repeat (first | refine gcI ?_ | refine fun (_ : _ ≤ _) => ?_)); refine hK _ ?_; clear hK K)
          refine hK55 _ ?_
          refine Sm.ret ?_
          try simp only [seval, Exit.exit.injEq]
          refine ⟨⟨_, (Option.some.inj H).symm⟩, fun hz => ?_⟩
          have hyy := Sum.inr.inj ((Option.some.inj H).trans hz)
          subst hyy
          have H := Ho14
          try dsimp only at H
          try simp only [seval, Exit.exit.injEq]
          obtain rfl := Option.some.inj H
          refine Ret.ofR [] (.inr rfl) ?_
          simp only [z, seval, law39_SpoolKeeps_s5]
        first | replace H := bif_f h54 H | replace H := bif_f2 h54 H (by simp only [List.length_append])
        refine Sm.skip ?_
        try simp only [seval, Exit.exit.injEq]
        refine ⟨(t, t_1, (files_1 ++ [(⟨file, file_1⟩ : TFile)])), H, ?_⟩
        exact weak_b [some 9014, some 2448] rfl rfl rfl (by simp only [wk, z, seval, law39_SpoolKeeps_s5]) (by simp only [wk, z, seval, law39_SpoolKeeps_s5])
      rintro ⟨s_4, s_5, files_2⟩ H
      try dsimp only at H
      unfold law39_SpoolKeeps_k3 at H
      refine Sm.regA h00 mixed hΓ (by kernel_rfl) ?_
      simp only [rs]
      repeat (refine opsG fun K hK => ?_; simp only [z, seval, law39_SpoolKeeps_s3]; (repeat (first | refine gcI ?_ | refine fun (_ : _ ≤ _) => ?_)); refine hK _ ?_; clear hK K)
      refine opsG0 ?_
      try simp only [seval, Exit.exit.injEq]
      refine ⟨(_, _, _, _), (Option.some.inj H).symm, ?_⟩
      exact weak_b [some 9009, some 9010] rfl rfl rfl (by simp only [wk, z, seval, law39_SpoolKeeps_s3]) (by simp only [wk, z, seval, law39_SpoolKeeps_s3])
    first | replace H := bif_f h17 H | replace H := bif_f2 h17 H (by simp only [List.length_append])
    refine Sm.exit ?_
    try simp only [seval, Exit.exit.injEq]
    refine ⟨⟨_, (Option.some.inj H).symm⟩, fun hz => ?_⟩
    have hyy := Sum.inr.inj ((Option.some.inj H).trans hz)
    subst hyy
    have H := Ho14
    try dsimp only at H
    try simp only [seval, Exit.exit.injEq]
    refine ⟨(s_2, s_3, files_1), H, ?_⟩
    exact weak_b [some 9007, some 9008] rfl rfl rfl (by simp only [wk, z, seval, law39_SpoolKeeps_t2]) (by simp only [wk, z, seval, law39_SpoolKeeps_t2])
  rintro ⟨s, s_1, files⟩ H
  try dsimp only at H
  unfold law39_SpoolKeeps_k1 at H
  obtain ⟨r3, hr3, H⟩ := bind_some H
  refine Sm.seqA h00 mixed hΓ (by kernel_rfl) fun K12 hK12 => ?_
  simp only [rs]
  repeat (refine opsG fun K hK => ?_; simp only [z, seval, law39_SpoolKeeps_s1, xlaw39_works, xspool_New, xspool_Drop, xspool_Put, xlaw39_whole, hr3]; (repeat (first | refine gcI ?_ | refine fun (_ : _ ≤ _) => ?_)); refine hK _ ?_; clear hK K)
  refine hK12 _ ?_
  refine Sm.ret ?_
  try simp only [seval, Exit.exit.injEq]
  obtain rfl := Option.some.inj H
  refine Ret.ofR [] (.inr rfl) ?_
  simp only [z, seval, law39_SpoolKeeps_s1]
end Go.Proofs.Ytkebegfopnlkhaa
