/-
  The functions of the seat, as functions; their contracts.
-/
import Derived.Test.YtkebegfopnlkhaaF1
set_option maxHeartbeats 8000000
set_option linter.unusedVariables false
set_option linter.unusedSimpArgs false
set_option maxRecDepth 100000
namespace Go.Proofs.Ytkebegfopnlkhaa
open Go.AE
abbrev spool_Lines_s1 (t : List (List TRec)) (n_ : Int) (l : List TLine) : S := stB [(0, .c (.slice 57) (.slice (List.map e_LTRec t))), (1, .c (.int .i64) (.int n_)), (6, .own 9000 [.int .i64, .str] 0 l.length)] [(9000, .row 48 (List.map e_TLine l))]

def spool_Lines_k1 (n : Nat) (t : List (List TRec)) (n_ : Int) (l : List TLine) : Option ((List TLine) × Int) :=
  (spool_Tracks n l).bind fun r1 =>
  bif (if (r1.2 != 0) = true then true else (((l.length : Nat) : Int) != n_)) then
    some ([], 390)
  else
    gd ((!(if (r1.2 != 0) = true then true else (((l.length : Nat) : Int) != n_))) = true) <|
    (slices_EqualFunc_f52_M1 n r1.1 t).bind fun r2 =>
    bif (!r2) then
      some ([], 390)
    else
      some (l, 0)

abbrev spool_Lines_s3 (t : List (List TRec)) (n_ : Int) (l_2 : List TLine) (v16 : Int) (v17 : Int) : S := stB [(0, .c (.slice 57) (.slice (List.map e_LTRec t))), (1, .c (.int .i64) (.int n_)), (6, .own 9003 [.int .i64, .str] 0 l_2.length), (15, .c (.slice 57) (.slice (List.map e_LTRec t))), (16, .c (.int .i64) (.int v16)), (17, .c (.int .i64) (.int v17))] [(9003, .row 48 (List.map e_TLine l_2))]

def spool_Lines_k3 (n : Nat) (t : List (List TRec)) (n_ : Int) (l_2 : List TLine) (v16 : Int) (v17 : Int) : Option (((List TLine) × Int) ⊕ ((((List TLine) × Int) ⊕ ((List TLine))))) :=
  some (.inl (l_2, (IntKind.wrap .i64 (v17 + 1))))

abbrev spool_Lines_t4 (t : List (List TRec)) (n_ : Int) (v16 : Int) (v17 : Int) (v21 : List TRec) (v22 : Int) (l_3 : List TLine) (v23 : Int) : S := stB [(0, .c (.slice 57) (.slice (List.map e_LTRec t))), (1, .c (.int .i64) (.int n_)), (6, .own 9005 [.int .i64, .str] 0 l_3.length), (15, .c (.slice 57) (.slice (List.map e_LTRec t))), (16, .c (.int .i64) (.int v16)), (17, .c (.int .i64) (.int v17)), (21, .c (.slice 59) (.slice (List.map e_TRec v21))), (22, .c (.int .i64) (.int v22)), (23, .c (.int .i64) (.int v23))] [(9005, .row 48 (List.map e_TLine l_3))]

def spool_Lines_b4 (n : Nat) (t : List (List TRec)) (n_ : Int) (v16 : Int) (v17 : Int) (v21 : List TRec) (v22 : Int) (l_3 : List TLine) (v23 : Int) : Option (((List TLine) × Int) ⊕ ((((List TLine) × Int) ⊕ ((List TLine))))) :=
  bif (decide (v23 < v22)) then
    gd ((0 ≤ v23 ∧ v23 < (v21.length : Int))) <|
    (spool_group n ((gt v21 (Int.toNat v23)).Data) ((l_3.length : Nat) : Int)).bind fun r3 =>
    bif (if (!r3.2) = true then true else (decide ((IntKind.wrap .i64 (((l_3.length : Nat) : Int) + ((r3.1.length : Nat) : Int))) > (if 0 > n_ then 0 else n_)))) then
      some (.inr (.inl ([], 390)))
    else
      gd ((l_3.length + r3.1.length) ≤ 2147483648) <|
      some (.inl ((l_3 ++ r3.1), (IntKind.wrap .i64 (v23 + 1))))
  else
    some (.inr (.inr l_3))

abbrev spool_Lines_t2 (t : List (List TRec)) (n_ : Int) (v16 : Int) (l_1 : List TLine) (v17 : Int) : S := stB [(0, .c (.slice 57) (.slice (List.map e_LTRec t))), (1, .c (.int .i64) (.int n_)), (6, .own 9002 [.int .i64, .str] 0 l_1.length), (15, .c (.slice 57) (.slice (List.map e_LTRec t))), (16, .c (.int .i64) (.int v16)), (17, .c (.int .i64) (.int v17))] [(9002, .row 48 (List.map e_TLine l_1))]

def spool_Lines_b2 (n : Nat) (t : List (List TRec)) (n_ : Int) (v16 : Int) (l_1 : List TLine) (v17 : Int) : Option (((List TLine) × Int) ⊕ ((((List TLine) × Int) ⊕ ((List TLine))))) :=
  bif (decide (v17 < v16)) then
    gd ((0 ≤ v17 ∧ v17 < (t.length : Int))) <|
    (loopF (fun (x : (List TLine) × Int) => spool_Lines_b4 n t n_ v16 v17 (gt t (Int.toNat v17)) ((gt t (Int.toNat v17)).length : Int) x.1 x.2) n (l_1, 0)).bind fun y20 =>
    match y20 with
    | .inl v =>
      some (.inr (.inl (v.1, v.2)))
    | .inr v =>
      spool_Lines_k3 n t n_ v v16 v17
  else
    some (.inr (.inr l_1))

def spool_Lines (n : Nat) (t : List (List TRec)) (n_ : Int) : Option ((List TLine) × Int) :=
  (loopF (fun (x : (List TLine) × Int) => spool_Lines_b2 n t n_ (t.length : Int) x.1 x.2) n ([], 0)).bind fun y14 =>
  match y14 with
  | .inl v =>
    some (v.1, v.2)
  | .inr v =>
    spool_Lines_k1 n t n_ v

def xspool_Lines (n : Nat) : Go.AE.Fn := mkFn (A := (List (List TRec)) × Int) (R := (List TLine) × Int) 22 [(false, [.slice 57]), (false, [.int .i64])] true (fun xs => (((cg (xs.getD 0 []) 0).toSl.map d_LTRec), (cg (xs.getD 1 []) 0).toInt)) (fun a => [[.slice (List.map e_LTRec a.1)], [.int a.2]]) (fun a => spool_Lines n a.1 a.2) (fun r => [.c (.slice 48) (.slice (List.map e_TLine r.1)), .c (.int .i64) (.int r.2)]) (fun r => [])

theorem cspool_Lines (n : Nat) : Contract Try.prog (xspool_Lines n) := by
  have hΓ : ∀ g, g ∈ ([xspool_group n, xspool_Tracks n] : List Go.AE.Fn) → Contract Try.prog g := by
    intro g hg; simp only [List.mem_cons, List.not_mem_nil, or_false] at hg; rcases hg with rfl | rfl; exact cspool_group n; exact cspool_Tracks n
  refine contract_f (Try.f22.body.getD .skip) h00 Try.func22 rfl (by intro args w; exact Try.call22 args w) (by decide) (by intro h; cases h) ?_
  rintro ⟨t, n_⟩ r H
  try dsimp only at H
  unfold spool_Lines at H
  simp only [Try.f22, Option.getD]
  refine Sm.seqA h00 mixed hΓ (by kernel_rfl) fun K1 hK1 => ?_
  simp only [rs]
  repeat (refine opsG fun K hK => ?_; simp only [z, seval]; (repeat (first | refine gcI ?_ | refine fun (_ : _ ≤ _) => ?_)); refine hK _ ?_; clear hK K)
  refine hK1 _ ?_
  refine Sm.seqA h00 mixed hΓ (by kernel_rfl) fun K2 hK2 => ?_
  simp only [rs]
  repeat (refine opsG fun K hK => ?_; simp only [z, seval]; (repeat (first | refine gcI ?_ | refine fun (_ : _ ≤ _) => ?_)); refine hK _ ?_; clear hK K)
  refine hK2 _ ?_
  refine Sm.cut (fun (x : (List TLine)) => spool_Lines_s1 t n_ x) (fun x => spool_Lines_k1 n t n_ x = some r) ?_ ?_
  · refine Sm.seqA h00 mixed hΓ (by kernel_rfl) fun K13 hK13 => ?_
    simp only [rs]
    repeat (refine opsG fun K hK => ?_; simp only [z, seval]; (repeat (first | refine gcI ?_ | refine fun (_ : _ ≤ _) => ?_)); refine hK _ ?_; clear hK K)
    refine hK13 _ ?_
    refine Sm.block ?_
    obtain ⟨y14, hy14, Ho14⟩ := bind_some H
    refine Sm.loopB (fun (x : (List TLine) × Int) => spool_Lines_b2 n t n_ (t.length : Int) x.1 x.2) (fun x => spool_Lines_t2 t n_ (t.length : Int) x.1 x.2) hy14 ?_ ?_
    · exact weak_b [none] rfl rfl rfl (by simp only [wk, z, seval]) (by simp only [wk, z, seval])
    rintro ⟨l_1, v17⟩ z14 H
    try dsimp only at H
    unfold spool_Lines_b2 at H
    refine Sm.seqA h00 mixed hΓ (by kernel_rfl) fun K15 hK15 => ?_
    simp only [rs]
    repeat (refine opsG fun K hK => ?_; simp only [z, seval, spool_Lines_t2]; (repeat (first | refine gcI ?_ | refine fun (_ : _ ≤ _) => ?_)); refine hK _ ?_; clear hK K)
    refine hK15 _ ?_
    refine Sm.seqK fun K16 hK16 => ?_
    refine Sm.condK (by rfl) fun Ka Kb ha hb => ?_
    simp only [wpCond, z, seval, spool_Lines_t2]
    refine ⟨fun h17 => ha ?_, fun h17 => hb ?_⟩
    · first | replace H := bif_t h17 H | replace H := bif_t2 h17 H (by simp only [List.length_append])
      refine Sm.skip ?_
      refine hK16 _ ?_
      refine Sm.cut (fun (x : (List TLine)) => spool_Lines_s3 t n_ x (t.length : Int) v17) (fun x => spool_Lines_k3 n t n_ x (t.length : Int) v17 = some z14) ?_ ?_
      · refine Sm.block ?_
        obtain ⟨hg33, H⟩ := gd_some H
        refine Sm.seqA h00 mixed hΓ (by kernel_rfl) fun K18 hK18 => ?_
        simp only [rs]
        repeat (refine opsG fun K hK => ?_; simp only [z, seval, spool_Lines_t2]; (repeat (first | refine gcI ?_ | refine fun (_ : _ ≤ _) => ?_)); refine hK _ ?_; clear hK K)
        refine hK18 _ ?_
        refine Sm.seqA h00 mixed hΓ (by kernel_rfl) fun K19 hK19 => ?_
        simp only [rs]
        repeat (refine opsG fun K hK => ?_; simp only [z, seval, spool_Lines_t2]; (repeat (first | refine gcI ?_ | refine fun (_ : _ ≤ _) => ?_)); refine hK _ ?_; clear hK K)
        refine hK19 _ ?_
        refine Sm.block ?_
        obtain ⟨y20, hy20, Ho20⟩ := bind_some H
        refine Sm.loopB (fun (x : (List TLine) × Int) => spool_Lines_b4 n t n_ (t.length : Int) v17 (gt t (Int.toNat v17)) ((gt t (Int.toNat v17)).length : Int) x.1 x.2) (fun x => spool_Lines_t4 t n_ (t.length : Int) v17 (gt t (Int.toNat v17)) ((gt t (Int.toNat v17)).length : Int) x.1 x.2) hy20 ?_ ?_
        · exact weak_b [some 9002] rfl rfl rfl (by simp only [wk, z, seval, spool_Lines_t2]) (by simp only [wk, z, seval, spool_Lines_t2])
        rintro ⟨l_3, v23⟩ z20 H
        try dsimp only at H
        unfold spool_Lines_b4 at H
        refine Sm.seqA h00 mixed hΓ (by kernel_rfl) fun K21 hK21 => ?_
        simp only [rs]
        repeat (refine opsG fun K hK => ?_; simp only [z, seval, spool_Lines_t4]; (repeat (first | refine gcI ?_ | refine fun (_ : _ ≤ _) => ?_)); refine hK _ ?_; clear hK K)
        refine hK21 _ ?_
        refine Sm.seqK fun K22 hK22 => ?_
        refine Sm.condK (by rfl) fun Ka Kb ha hb => ?_
        simp only [wpCond, z, seval, spool_Lines_t4]
        refine ⟨fun h23 => ha ?_, fun h23 => hb ?_⟩
        · first | replace H := bif_t h23 H | replace H := bif_t2 h23 H (by simp only [List.length_append])
          refine Sm.skip ?_
          refine hK22 _ ?_
          refine Sm.seqK fun K24 hK24 => ?_
          refine Sm.block ?_
          obtain ⟨hg32, H⟩ := gd_some H
          refine Sm.seqA h00 mixed hΓ (by kernel_rfl) fun K25 hK25 => ?_
          simp only [rs]
          repeat (refine opsG fun K hK => ?_; simp only [z, seval, spool_Lines_t4]; (repeat (first | refine gcI ?_ | refine fun (_ : _ ≤ _) => ?_)); refine hK _ ?_; clear hK K)
          refine hK25 _ ?_
          obtain ⟨r3, hr3, H⟩ := bind_some H
          refine Sm.seqA h00 mixed hΓ (by kernel_rfl) fun K26 hK26 => ?_
          simp only [rs]
          repeat (refine opsG fun K hK => ?_; simp only [z, seval, spool_Lines_t4, xspool_group, hr3]; (repeat (first | refine gcI ?_ | refine fun (_ : _ ≤ _) => ?_)); refine hK _ ?_; clear hK K)
          refine hK26 _ ?_
          refine Sm.seqK fun K27 hK27 => ?_
          refine Sm.seqA h00 mixed hΓ (by kernel_rfl) fun K28 hK28 => ?_
          simp only [rs]
          repeat (refine opsG fun K hK => ?_; simp only [z, seval, spool_Lines_t4]; (repeat (first | refine gcI ?_ | refine fun (_ : _ ≤ _) => ?_)); refine hK _ ?_; clear hK K)
          refine hK28 _ ?_
          refine Sm.condK (by rfl) fun Ka Kb ha hb => ?_
          simp only [wpCond, z, seval, spool_Lines_t4]
          refine ⟨fun h29 => ha ?_, fun h29 => hb ?_⟩
          · first | replace H := bif_t h29 H | replace H := bif_t2 h29 H (by simp only [List.length_append])
            refine Sm.seqA h00 mixed hΓ (by kernel_rfl) fun K30 hK30 => ?_
            simp only [rs]
            repeat (refine opsG fun K hK => ?_; simp only [z, seval, spool_Lines_t4]; (repeat (first | refine gcI ?_ | refine fun (_ : _ ≤ _) => ?_)); refine hK _ ?_; clear hK K)
            refine hK30 _ ?_
            refine Sm.ret ?_
            try simp only [seval, Exit.exit.injEq]
            refine ⟨⟨_, (Option.some.inj H).symm⟩, fun hz => ?_⟩
            have hyy := Sum.inr.inj ((Option.some.inj H).trans hz)
            subst hyy
            have H := Ho20
            try dsimp only at H
            try simp only [seval, Exit.exit.injEq]
            refine ⟨⟨_, (Option.some.inj H).symm⟩, fun hz => ?_⟩
            have hyy := Sum.inr.inj ((Option.some.inj H).trans hz)
            subst hyy
            have H := Ho14
            try dsimp only at H
            try simp only [seval, Exit.exit.injEq]
            obtain rfl := Option.some.inj H
            refine Ret.ofR [] (.inr rfl) ?_
            simp only [z, seval, spool_Lines_t4]
          first | replace H := bif_f h29 H | replace H := bif_f2 h29 H (by simp only [List.length_append])
          refine Sm.skip ?_
          refine hK27 _ ?_
          obtain ⟨hg31, H⟩ := gd_some H
          refine Sm.regA h00 mixed hΓ (by kernel_rfl) ?_
          simp only [rs]
          repeat (refine opsG fun K hK => ?_; simp only [z, seval, spool_Lines_t4]; (repeat (first | refine gcI ?_ | refine fun (_ : _ ≤ _) => ?_)); refine hK _ ?_; clear hK K)
          refine opsG0 ?_
          refine hK24 _ ?_
          refine Sm.regA h00 mixed hΓ (by kernel_rfl) ?_
          simp only [rs]
          repeat (refine opsG fun K hK => ?_; simp only [z, seval, spool_Lines_t4]; (repeat (first | refine gcI ?_ | refine fun (_ : _ ≤ _) => ?_)); refine hK _ ?_; clear hK K)
          refine opsG0 ?_
          try simp only [seval, Exit.exit.injEq]
          refine ⟨(_, _), (Option.some.inj H).symm, ?_⟩
          exact weak_b [some 784] rfl rfl rfl (by simp only [wk, z, seval, spool_Lines_t4]) (by simp only [wk, z, seval, spool_Lines_t4])
        first | replace H := bif_f h23 H | replace H := bif_f2 h23 H (by simp only [List.length_append])
        refine Sm.exit ?_
        try simp only [seval, Exit.exit.injEq]
        refine ⟨⟨_, (Option.some.inj H).symm⟩, fun hz => ?_⟩
        have hyy := Sum.inr.inj ((Option.some.inj H).trans hz)
        subst hyy
        have H := Ho20
        try dsimp only at H
        try simp only [seval, Exit.exit.injEq]
        refine ⟨_, H, ?_⟩
        exact weak_b [some 9005] rfl rfl rfl (by simp only [wk, z, seval, spool_Lines_t4]) (by simp only [wk, z, seval, spool_Lines_t4])
      rintro l_2 H
      try dsimp only at H
      unfold spool_Lines_k3 at H
      refine Sm.regA h00 mixed hΓ (by kernel_rfl) ?_
      simp only [rs]
      repeat (refine opsG fun K hK => ?_; simp only [z, seval, spool_Lines_s3]; (repeat (first | refine gcI ?_ | refine fun (_ : _ ≤ _) => ?_)); refine hK _ ?_; clear hK K)
      refine opsG0 ?_
      try simp only [seval, Exit.exit.injEq]
      refine ⟨(_, _), (Option.some.inj H).symm, ?_⟩
      exact weak_b [some 9003] rfl rfl rfl (by simp only [wk, z, seval, spool_Lines_s3]) (by simp only [wk, z, seval, spool_Lines_s3])
    first | replace H := bif_f h17 H | replace H := bif_f2 h17 H (by simp only [List.length_append])
    refine Sm.exit ?_
    try simp only [seval, Exit.exit.injEq]
    refine ⟨⟨_, (Option.some.inj H).symm⟩, fun hz => ?_⟩
    have hyy := Sum.inr.inj ((Option.some.inj H).trans hz)
    subst hyy
    have H := Ho14
    try dsimp only at H
    try simp only [seval, Exit.exit.injEq]
    refine ⟨_, H, ?_⟩
    exact weak_b [some 9002] rfl rfl rfl (by simp only [wk, z, seval, spool_Lines_t2]) (by simp only [wk, z, seval, spool_Lines_t2])
  rintro l H
  try dsimp only at H
  unfold spool_Lines_k1 at H
  obtain ⟨r1, hr1, H⟩ := bind_some H
  refine Sm.seqA h00 mixed hΓ (by kernel_rfl) fun K3 hK3 => ?_
  simp only [rs]
  repeat (refine opsG fun K hK => ?_; simp only [z, seval, spool_Lines_s1, xspool_group, xspool_Tracks, hr1]; (repeat (first | refine gcI ?_ | refine fun (_ : _ ≤ _) => ?_)); refine hK _ ?_; clear hK K)
  refine hK3 _ ?_
  refine Sm.seqK fun K4 hK4 => ?_
  refine Sm.seqX h00 mixed hΓ (by kernel_rfl) fun K5 hK5 => ?_
  simp only [rs]
  iterate 11 (refine opsX fun K hK => ?_; simp only [z, seval, spool_Lines_s1]; (repeat (first | refine gcI ?_ | refine fun (_ : _ ≤ _) => ?_)); refine hK _ ?_; clear hK K)
  refine bif_cases H (fun hs6 H => ?_) (fun hs6 H => ?_)
  · refine opsF rfl (by simp only [z, seval, spool_Lines_s1, hs6]) ?_
    refine opsF rfl (by simp only [z, seval, spool_Lines_s1, hs6]) ?_
    refine opsP fun K hK => ?_; simp only [z, seval, spool_Lines_s1, hs6]; (repeat (first | refine gcI ?_ | refine fun (_ : _ ≤ _) => ?_)); refine Or.inl ?_; (repeat (first | refine gcI ?_ | refine fun (_ : _ ≤ _) => ?_)); refine hK _ ?_; clear hK K
    refine hK5 _ ?_
    refine Sm.condK (by rfl) fun Ka Kb ha hb => ?_
    simp only [wpCond, z, seval, spool_Lines_s1]
    refine ha ?_
    refine Sm.seqA h00 mixed hΓ (by kernel_rfl) fun K8 hK8 => ?_
    simp only [rs]
    repeat (refine opsG fun K hK => ?_; simp only [z, seval, spool_Lines_s1]; (repeat (first | refine gcI ?_ | refine fun (_ : _ ≤ _) => ?_)); refine hK _ ?_; clear hK K)
    refine hK8 _ ?_
    refine Sm.ret ?_
    try simp only [seval, Exit.exit.injEq]
    obtain rfl := Option.some.inj H
    refine Ret.ofR [] (.inr rfl) ?_
    simp only [z, seval, spool_Lines_s1]
  obtain ⟨hg9, H⟩ := gd_some H
  obtain ⟨r2, hr2, H⟩ := bind_some H
  refine opsTM (cslices_EqualFunc_f52_M1 n _ _ r2 hr2) [] [] (by simp only [z, seval, spool_Lines_s1, hs6, hr2]) (by simp only [z, seval, spool_Lines_s1, hs6, hr2]; try rfl) (by simp only [z, seval, spool_Lines_s1, hs6, hr2]) (by simp only [z, seval, spool_Lines_s1, hs6, hr2]) (by simp only [z, seval, spool_Lines_s1, hs6, hr2]) (by simp only [z, seval, spool_Lines_s1, hs6, hr2]) rfl (by simp only [z, seval, spool_Lines_s1, hs6, hr2]) rfl ?_
  refine opsTG rfl (by simp only [z, seval, spool_Lines_s1, hs6, hr2]) fun K hK => ?_; simp only [z, seval, spool_Lines_s1, hs6, hr2]; (repeat (first | refine gcI ?_ | refine fun (_ : _ ≤ _) => ?_)); refine hK _ ?_; clear hK K
  refine opsP fun K hK => ?_; simp only [z, seval, spool_Lines_s1, hs6, hr2]; (repeat (first | refine gcI ?_ | refine fun (_ : _ ≤ _) => ?_)); refine Or.inr ?_; (repeat (first | refine gcI ?_ | refine fun (_ : _ ≤ _) => ?_)); refine hK _ ?_; clear hK K
  refine hK5 _ ?_
  refine Sm.condK (by rfl) fun Ka Kb ha hb => ?_
  simp only [wpCond, z, seval, spool_Lines_s1]
  refine ⟨fun h10 => ha ?_, fun h10 => hb ?_⟩
  · first | replace H := bif_t h10 H | replace H := bif_t2 h10 H (by simp only [List.length_append])
    refine Sm.seqA h00 mixed hΓ (by kernel_rfl) fun K11 hK11 => ?_
    simp only [rs]
    repeat (refine opsG fun K hK => ?_; simp only [z, seval, spool_Lines_s1]; (repeat (first | refine gcI ?_ | refine fun (_ : _ ≤ _) => ?_)); refine hK _ ?_; clear hK K)
    refine hK11 _ ?_
    refine Sm.ret ?_
    try simp only [seval, Exit.exit.injEq]
    obtain rfl := Option.some.inj H
    refine Ret.ofR [] (.inr rfl) ?_
    simp only [z, seval, spool_Lines_s1]
  first | replace H := bif_f h10 H | replace H := bif_f2 h10 H (by simp only [List.length_append])
  refine Sm.skip ?_
  refine hK4 _ ?_
  refine Sm.seqA h00 mixed hΓ (by kernel_rfl) fun K12 hK12 => ?_
  simp only [rs]
  repeat (refine opsG fun K hK => ?_; simp only [z, seval, spool_Lines_s1]; (repeat (first | refine gcI ?_ | refine fun (_ : _ ≤ _) => ?_)); refine hK _ ?_; clear hK K)
  refine hK12 _ ?_
  refine Sm.ret ?_
  try simp only [seval, Exit.exit.injEq]
  obtain rfl := Option.some.inj H
  refine Ret.ofR [] (.inr rfl) ?_
  simp only [z, seval, spool_Lines_s1]

abbrev law39_equal_s1 : S := stB [] []

def law39_equal_k1 (n : Nat) : Option Bool :=
  some true

abbrev law39_equal_t2 (a : List TLine) (b : List TLine) (v12 : Int) (v13 : Int) : S := stB [(0, .c (.slice 48) (.slice (List.map e_TLine a))), (1, .c (.slice 48) (.slice (List.map e_TLine b))), (12, .c (.int .i64) (.int v12)), (13, .c (.int .i64) (.int v13))] []

def law39_equal_b2 (n : Nat) (a : List TLine) (b : List TLine) (v12 : Int) (v13 : Int) : Option ((Int) ⊕ (((Bool) ⊕ (Unit)))) :=
  bif (decide (v13 < v12)) then
    gd ((0 ≤ v13 ∧ v13 < (a.length : Int)) ∧ (0 ≤ v13 ∧ v13 < (b.length : Int))) <|
    bif (!((((gt a (Int.toNat v13)).Ctl) == ((gt b (Int.toNat v13)).Ctl)) && (((gt a (Int.toNat v13)).Text) == ((gt b (Int.toNat v13)).Text)))) then
      some (.inr (.inl false))
    else
      some (.inl (IntKind.wrap .i64 (v13 + 1)))
  else
    some (.inr (.inr ()))

def law39_equal (n : Nat) (a : List TLine) (b : List TLine) : Option Bool :=
  bif ((a.length : Int) != (b.length : Int)) then
    some false
  else
    (loopF (fun (x : Int) => law39_equal_b2 n a b (a.length : Int) x) n 0).bind fun y8 =>
    match y8 with
    | .inl v =>
      some v
    | .inr v =>
      law39_equal_k1 n

def xlaw39_equal (n : Nat) : Go.AE.Fn := mkFn (A := (List TLine) × (List TLine)) (R := Bool) 23 [(false, [.slice 48]), (false, [.slice 48])] false (fun xs => (((cg (xs.getD 0 []) 0).toSl.map d_TLine), ((cg (xs.getD 1 []) 0).toSl.map d_TLine))) (fun a => [[.slice (List.map e_TLine a.1)], [.slice (List.map e_TLine a.2)]]) (fun a => law39_equal n a.1 a.2) (fun r => [.c .bool (.bool r)]) (fun r => [])

theorem claw39_equal (n : Nat) : Contract Try.prog (xlaw39_equal n) := by
  have hΓ : ∀ g, g ∈ ([] : List Go.AE.Fn) → Contract Try.prog g := by simp
  refine contract_f (Try.f23.body.getD .skip) h00 Try.func23 rfl (by intro args w; exact Try.call23 args w) (by decide) (by intro _ r; exact ⟨rfl, by simp⟩) ?_
  rintro ⟨a, b⟩ r H
  try dsimp only at H
  unfold law39_equal at H
  simp only [Try.f23, Option.getD]
  refine Sm.seqA h00 mixed hΓ (by kernel_rfl) fun K1 hK1 => ?_
  simp only [rs]
  repeat (refine opsG fun K hK => ?_; simp only [z, seval]; (repeat (first | refine gcI ?_ | refine fun (_ : _ ≤ _) => ?_)); refine hK _ ?_; clear hK K)
  refine hK1 _ ?_
  refine Sm.seqK fun K2 hK2 => ?_
  refine Sm.seqA h00 mixed hΓ (by kernel_rfl) fun K3 hK3 => ?_
  simp only [rs]
  repeat (refine opsG fun K hK => ?_; simp only [z, seval]; (repeat (first | refine gcI ?_ | refine fun (_ : _ ≤ _) => ?_)); refine hK _ ?_; clear hK K)
  refine hK3 _ ?_
  refine Sm.condK (by rfl) fun Ka Kb ha hb => ?_
  simp only [wpCond, z, seval]
  refine ⟨fun h4 => ha ?_, fun h4 => hb ?_⟩
  · first | replace H := bif_t h4 H | replace H := bif_t2 h4 H (by simp only [List.length_append])
    refine Sm.seqA h00 mixed hΓ (by kernel_rfl) fun K5 hK5 => ?_
    simp only [rs]
    repeat (refine opsG fun K hK => ?_; simp only [z, seval]; (repeat (first | refine gcI ?_ | refine fun (_ : _ ≤ _) => ?_)); refine hK _ ?_; clear hK K)
    refine hK5 _ ?_
    refine Sm.ret ?_
    try simp only [seval, Exit.exit.injEq]
    obtain rfl := Option.some.inj H
    refine Ret.ofR [] (.inr rfl) ?_
    simp only [z, seval]
  first | replace H := bif_f h4 H | replace H := bif_f2 h4 H (by simp only [List.length_append])
  refine Sm.skip ?_
  refine hK2 _ ?_
  refine Sm.cut (fun (x : Unit) => law39_equal_s1) (fun x => law39_equal_k1 n = some r) ?_ ?_
  · refine Sm.seqA h00 mixed hΓ (by kernel_rfl) fun K7 hK7 => ?_
    simp only [rs]
    repeat (refine opsG fun K hK => ?_; simp only [z, seval]; (repeat (first | refine gcI ?_ | refine fun (_ : _ ≤ _) => ?_)); refine hK _ ?_; clear hK K)
    refine hK7 _ ?_
    refine Sm.block ?_
    obtain ⟨y8, hy8, Ho8⟩ := bind_some H
    refine Sm.loopB (fun (x : Int) => law39_equal_b2 n a b (a.length : Int) x) (fun x => law39_equal_t2 a b (a.length : Int) x) hy8 ?_ ?_
    · exact weak_b [] rfl rfl rfl (by simp only [wk, z, seval]) (by simp only [wk, z, seval])
    rintro v13 z8 H
    try dsimp only at H
    unfold law39_equal_b2 at H
    refine Sm.seqA h00 mixed hΓ (by kernel_rfl) fun K9 hK9 => ?_
    simp only [rs]
    repeat (refine opsG fun K hK => ?_; simp only [z, seval, law39_equal_t2]; (repeat (first | refine gcI ?_ | refine fun (_ : _ ≤ _) => ?_)); refine hK _ ?_; clear hK K)
    refine hK9 _ ?_
    refine Sm.seqK fun K10 hK10 => ?_
    refine Sm.condK (by rfl) fun Ka Kb ha hb => ?_
    simp only [wpCond, z, seval, law39_equal_t2]
    refine ⟨fun h11 => ha ?_, fun h11 => hb ?_⟩
    · first | replace H := bif_t h11 H | replace H := bif_t2 h11 H (by simp only [List.length_append])
      refine Sm.skip ?_
      refine hK10 _ ?_
      refine Sm.seqK fun K12 hK12 => ?_
      refine Sm.block ?_
      refine Sm.seqA h00 mixed hΓ (by kernel_rfl) fun K13 hK13 => ?_
      simp only [rs]
      repeat (refine opsG fun K hK => ?_; simp only [z, seval, law39_equal_t2]; (repeat (first | refine gcI ?_ | refine fun (_ : _ ≤ _) => ?_)); refine hK _ ?_; clear hK K)
      refine hK13 _ ?_
      obtain ⟨⟨hg17, hg18⟩, H⟩ := gd_some H
      refine Sm.seqD h00 mixed hΓ (by kernel_rfl) fun K14 hK14 => ?_
      simp only [rs]
      repeat (refine opsH fun K hK => ?_; simp only [z, seval, law39_equal_t2]; (repeat (first | refine gcI ?_ | refine fun (_ : _ ≤ _) => ?_)); refine hK _ ?_; clear hK K)
      refine hK14 _ ?_
      refine Sm.condK (by rfl) fun Ka Kb ha hb => ?_
      simp only [wpCond, z, seval, law39_equal_t2]
      refine ⟨fun h15 => ha ?_, fun h15 => hb ?_⟩
      · first | replace H := bif_t h15 H | replace H := bif_t2 h15 H (by simp only [List.length_append])
        refine Sm.seqA h00 mixed hΓ (by kernel_rfl) fun K16 hK16 => ?_
        simp only [rs]
        repeat (refine opsG fun K hK => ?_; simp only [z, seval, law39_equal_t2]; (repeat (first | refine gcI ?_ | refine fun (_ : _ ≤ _) => ?_)); refine hK _ ?_; clear hK K)
        refine hK16 _ ?_
        refine Sm.ret ?_
        try simp only [seval, Exit.exit.injEq]
        refine ⟨⟨_, (Option.some.inj H).symm⟩, fun hz => ?_⟩
        have hyy := Sum.inr.inj ((Option.some.inj H).trans hz)
        subst hyy
        have H := Ho8
        try dsimp only at H
        try simp only [seval, Exit.exit.injEq]
        obtain rfl := Option.some.inj H
        refine Ret.ofR [] (.inr rfl) ?_
        simp only [z, seval, law39_equal_t2]
      first | replace H := bif_f h15 H | replace H := bif_f2 h15 H (by simp only [List.length_append])
      refine Sm.skip ?_
      refine hK12 _ ?_
      refine Sm.regA h00 mixed hΓ (by kernel_rfl) ?_
      simp only [rs]
      repeat (refine opsG fun K hK => ?_; simp only [z, seval, law39_equal_t2]; (repeat (first | refine gcI ?_ | refine fun (_ : _ ≤ _) => ?_)); refine hK _ ?_; clear hK K)
      refine opsG0 ?_
      try simp only [seval, Exit.exit.injEq]
      refine ⟨_, (Option.some.inj H).symm, ?_⟩
      exact weak_b [] rfl rfl rfl (by simp only [wk, z, seval, law39_equal_t2]) (by simp only [wk, z, seval, law39_equal_t2])
    first | replace H := bif_f h11 H | replace H := bif_f2 h11 H (by simp only [List.length_append])
    refine Sm.exit ?_
    try simp only [seval, Exit.exit.injEq]
    refine ⟨⟨_, (Option.some.inj H).symm⟩, fun hz => ?_⟩
    have hyy := Sum.inr.inj ((Option.some.inj H).trans hz)
    subst hyy
    have H := Ho8
    try dsimp only at H
    try simp only [seval, Exit.exit.injEq]
    refine ⟨(), H, ?_⟩
    exact weak_b [] rfl rfl rfl (by simp only [wk, z, seval, law39_equal_t2]) (by simp only [wk, z, seval, law39_equal_t2])
  rintro ⟨⟩ H
  try dsimp only at H
  unfold law39_equal_k1 at H
  refine Sm.seqA h00 mixed hΓ (by kernel_rfl) fun K6 hK6 => ?_
  simp only [rs]
  repeat (refine opsG fun K hK => ?_; simp only [z, seval, law39_equal_s1]; (repeat (first | refine gcI ?_ | refine fun (_ : _ ≤ _) => ?_)); refine hK _ ?_; clear hK K)
  refine hK6 _ ?_
  refine Sm.ret ?_
  try simp only [seval, Exit.exit.injEq]
  obtain rfl := Option.some.inj H
  refine Ret.ofR [] (.inr rfl) ?_
  simp only [z, seval, law39_equal_s1]

def law39_works (n : Nat) : Option Bool :=
  (spool_Tracks n [(⟨1, [65, 66]⟩ : TLine), (⟨9, []⟩ : TLine)]).bind fun r1 =>
  gd (((!(if (r1.2 != 0) = true then true else (((r1.1.length : Nat) : Int) != 1))) = true → 0 < (r1.1.length : Int)) ∧ ((!(if (r1.2 != 0) = true then true else (((r1.1.length : Nat) : Int) != 1))) = true → 0 < r1.1.length) ∧ ((!(if (if (r1.2 != 0) = true then true else (((r1.1.length : Nat) : Int) != 1)) = true then true else (((gt r1.1 0).length : Int) != 1))) = true → 0 < (r1.1.length : Int)) ∧ ((!(if (if (r1.2 != 0) = true then true else (((r1.1.length : Nat) : Int) != 1)) = true then true else (((gt r1.1 0).length : Int) != 1))) = true → 0 < r1.1.length) ∧ ((!(if (if (r1.2 != 0) = true then true else (((r1.1.length : Nat) : Int) != 1)) = true then true else (((gt r1.1 0).length : Int) != 1))) = true → 0 < ((gt r1.1 0).length : Int)) ∧ ((!(if (if (if (r1.2 != 0) = true then true else (((r1.1.length : Nat) : Int) != 1)) = true then true else (((gt r1.1 0).length : Int) != 1)) = true then true else (((gt (gt r1.1 0) 0).R) != 1))) = true → 0 < (r1.1.length : Int)) ∧ ((!(if (if (if (r1.2 != 0) = true then true else (((r1.1.length : Nat) : Int) != 1)) = true then true else (((gt r1.1 0).length : Int) != 1)) = true then true else (((gt (gt r1.1 0) 0).R) != 1))) = true → 0 < r1.1.length) ∧ ((!(if (if (if (r1.2 != 0) = true then true else (((r1.1.length : Nat) : Int) != 1)) = true then true else (((gt r1.1 0).length : Int) != 1)) = true then true else (((gt (gt r1.1 0) 0).R) != 1))) = true → 0 < ((gt r1.1 0).length : Int))) <|
  bif (if (if (if (r1.2 != 0) = true then true else (((r1.1.length : Nat) : Int) != 1)) = true then true else (((gt r1.1 0).length : Int) != 1)) = true then true else (((gt (gt r1.1 0) 0).R) != 1)) then
    some false
  else
    gd ((!(if (if (if (r1.2 != 0) = true then true else (((r1.1.length : Nat) : Int) != 1)) = true then true else (((gt r1.1 0).length : Int) != 1)) = true then true else (((gt (gt r1.1 0) 0).R) != 1))) = true) <|
    bif ((toStr8 ((gt (gt r1.1 0) 0).Data)) != [0, 0, 0, 0, 1, 2, 65, 66, 9, 0]) then
      some false
    else
      (spool_Tracks n []).bind fun r2 =>
      (spool_Tracks n [(⟨256, [65]⟩ : TLine)]).bind fun r3 =>
      gd ((0 ≤ 133 ∧ 133 ≤ 133 ∧ 133 ≤ 2147483648)) <|
      (spool_Tracks n [(⟨0, (toStr8 (zreps 133 0))⟩ : TLine)]).bind fun r4 =>
      (law39_long n 8).bind fun r5 =>
      (spool_Tracks n r5).bind fun r6 =>
      gd (((if (if (if (if (if (r2.2 == 0) = true then (((r2.1.length : Nat) : Int) == 0) else false) = true then (r3.2 == 1) else false) = true then (r4.2 == 2) else false) = true then (r6.2 == 0) else false) = true then (((r6.1.length : Nat) : Int) == 1) else false) = true → 0 < (r6.1.length : Int)) ∧ ((if (if (if (if (if (r2.2 == 0) = true then (((r2.1.length : Nat) : Int) == 0) else false) = true then (r3.2 == 1) else false) = true then (r4.2 == 2) else false) = true then (r6.2 == 0) else false) = true then (((r6.1.length : Nat) : Int) == 1) else false) = true → 0 < r6.1.length) ∧ ((if (if (if (if (if (if (r2.2 == 0) = true then (((r2.1.length : Nat) : Int) == 0) else false) = true then (r3.2 == 1) else false) = true then (r4.2 == 2) else false) = true then (r6.2 == 0) else false) = true then (((r6.1.length : Nat) : Int) == 1) else false) = true then (((gt r6.1 0).length : Int) == 2) else false) = true → 0 < (r6.1.length : Int)) ∧ ((if (if (if (if (if (if (r2.2 == 0) = true then (((r2.1.length : Nat) : Int) == 0) else false) = true then (r3.2 == 1) else false) = true then (r4.2 == 2) else false) = true then (r6.2 == 0) else false) = true then (((r6.1.length : Nat) : Int) == 1) else false) = true then (((gt r6.1 0).length : Int) == 2) else false) = true → 0 < r6.1.length) ∧ ((if (if (if (if (if (if (r2.2 == 0) = true then (((r2.1.length : Nat) : Int) == 0) else false) = true then (r3.2 == 1) else false) = true then (r4.2 == 2) else false) = true then (r6.2 == 0) else false) = true then (((r6.1.length : Nat) : Int) == 1) else false) = true then (((gt r6.1 0).length : Int) == 2) else false) = true → 0 < ((gt r6.1 0).length : Int)) ∧ ((if (if (if (if (if (if (if (r2.2 == 0) = true then (((r2.1.length : Nat) : Int) == 0) else false) = true then (r3.2 == 1) else false) = true then (r4.2 == 2) else false) = true then (r6.2 == 0) else false) = true then (((r6.1.length : Nat) : Int) == 1) else false) = true then (((gt r6.1 0).length : Int) == 2) else false) = true then ((((gt (gt r6.1 0) 0).Data).length : Int) == 942) else false) = true → 0 < (r6.1.length : Int)) ∧ ((if (if (if (if (if (if (if (r2.2 == 0) = true then (((r2.1.length : Nat) : Int) == 0) else false) = true then (r3.2 == 1) else false) = true then (r4.2 == 2) else false) = true then (r6.2 == 0) else false) = true then (((r6.1.length : Nat) : Int) == 1) else false) = true then (((gt r6.1 0).length : Int) == 2) else false) = true then ((((gt (gt r6.1 0) 0).Data).length : Int) == 942) else false) = true → 0 < r6.1.length) ∧ ((if (if (if (if (if (if (if (r2.2 == 0) = true then (((r2.1.length : Nat) : Int) == 0) else false) = true then (r3.2 == 1) else false) = true then (r4.2 == 2) else false) = true then (r6.2 == 0) else false) = true then (((r6.1.length : Nat) : Int) == 1) else false) = true then (((gt r6.1 0).length : Int) == 2) else false) = true then ((((gt (gt r6.1 0) 0).Data).length : Int) == 942) else false) = true → 1 < ((gt r6.1 0).length : Int)) ∧ ((if (if (if (if (if (if (if (if (r2.2 == 0) = true then (((r2.1.length : Nat) : Int) == 0) else false) = true then (r3.2 == 1) else false) = true then (r4.2 == 2) else false) = true then (r6.2 == 0) else false) = true then (((r6.1.length : Nat) : Int) == 1) else false) = true then (((gt r6.1 0).length : Int) == 2) else false) = true then ((((gt (gt r6.1 0) 0).Data).length : Int) == 942) else false) = true then ((((gt (gt r6.1 0) 1).Data).length : Int) == 138) else false) = true → 0 < (r6.1.length : Int)) ∧ ((if (if (if (if (if (if (if (if (r2.2 == 0) = true then (((r2.1.length : Nat) : Int) == 0) else false) = true then (r3.2 == 1) else false) = true then (r4.2 == 2) else false) = true then (r6.2 == 0) else false) = true then (((r6.1.length : Nat) : Int) == 1) else false) = true then (((gt r6.1 0).length : Int) == 2) else false) = true then ((((gt (gt r6.1 0) 0).Data).length : Int) == 942) else false) = true then ((((gt (gt r6.1 0) 1).Data).length : Int) == 138) else false) = true → 0 < r6.1.length) ∧ ((if (if (if (if (if (if (if (if (r2.2 == 0) = true then (((r2.1.length : Nat) : Int) == 0) else false) = true then (r3.2 == 1) else false) = true then (r4.2 == 2) else false) = true then (r6.2 == 0) else false) = true then (((r6.1.length : Nat) : Int) == 1) else false) = true then (((gt r6.1 0).length : Int) == 2) else false) = true then ((((gt (gt r6.1 0) 0).Data).length : Int) == 942) else false) = true then ((((gt (gt r6.1 0) 1).Data).length : Int) == 138) else false) = true → 1 < ((gt r6.1 0).length : Int)) ∧ ((if (if (if (if (if (if (if (if (r2.2 == 0) = true then (((r2.1.length : Nat) : Int) == 0) else false) = true then (r3.2 == 1) else false) = true then (r4.2 == 2) else false) = true then (r6.2 == 0) else false) = true then (((r6.1.length : Nat) : Int) == 1) else false) = true then (((gt r6.1 0).length : Int) == 2) else false) = true then ((((gt (gt r6.1 0) 0).Data).length : Int) == 942) else false) = true then ((((gt (gt r6.1 0) 1).Data).length : Int) == 138) else false) = true → 3 < (((gt (gt r6.1 0) 1).Data).length : Int))) <|
      (spool_New n 4).bind fun r7 =>
      (spool_Put n r7.1 [(⟨1, [65, 66]⟩ : TLine), (⟨9, []⟩ : TLine)]).bind fun r8 =>
      (spool_Drop n r8.1 r8.2.1).bind fun r9 =>
      gd (((if (if (r7.2 == 0) = true then (r8.2.2.2 == 0) else false) = true then (r9.2 == 0) else false) = true → (law39_row n r8.2.1.Extents 0 1).isSome = true) ∧ ((if (if (if (if (r7.2 == 0) = true then (r8.2.2.2 == 0) else false) = true then (r9.2 == 0) else false) = true then ((law39_row n r8.2.1.Extents 0 1).getD default) else false) = true then (r8.2.1.Lines == 2) else false) = true → (law39_row n r8.1.Free 1 3).isSome = true) ∧ ((if (if (if (if (if (r7.2 == 0) = true then (r8.2.2.2 == 0) else false) = true then (r9.2 == 0) else false) = true then ((law39_row n r8.2.1.Extents 0 1).getD default) else false) = true then (r8.2.1.Lines == 2) else false) = true then ((law39_row n r8.1.Free 1 3).getD default) else false) = true → (law39_row n r9.1.Free 0 4).isSome = true)) <|
      (spool_New n 0).bind fun r10 =>
      (law39_long n 8).bind fun r11 =>
      (spool_Put n r10.1 r11).bind fun r12 =>
      (spool_Lines n r1.1 2).bind fun r13 =>
      (spool_Lines n r1.1 1).bind fun r14 =>
      (spool_Lines n [] 0).bind fun r15 =>
      gd (((if (if (if (if (if (if (if (if (if (if (if (if (if (r2.2 == 0) = true then (((r2.1.length : Nat) : Int) == 0) else false) = true then (r3.2 == 1) else false) = true then (r4.2 == 2) else false) = true then (r6.2 == 0) else false) = true then (((r6.1.length : Nat) : Int) == 1) else false) = true then (((gt r6.1 0).length : Int) == 2) else false) = true then ((((gt (gt r6.1 0) 0).Data).length : Int) == 942) else false) = true then ((((gt (gt r6.1 0) 1).Data).length : Int) == 138) else false) = true then ((gt ((gt (gt r6.1 0) 1).Data) 3) == 7) else false) = true then (if (if (if (if (if (if (if (r7.2 == 0) = true then (r8.2.2.2 == 0) else false) = true then (r9.2 == 0) else false) = true then ((law39_row n r8.2.1.Extents 0 1).getD default) else false) = true then (r8.2.1.Lines == 2) else false) = true then ((law39_row n r8.1.Free 1 3).getD default) else false) = true then ((law39_row n r9.1.Free 0 4).getD default) else false) = true then (((r8.2.2.1.length : Nat) : Int) == 1) else false) else false) = true then (r10.2 == 0) else false) = true then (r12.2.2.2 == 7) else false) = true then (r13.2 == 0) else false) = true → (law39_equal n r13.1 [(⟨1, [65, 66]⟩ : TLine), (⟨9, []⟩ : TLine)]).isSome = true)) <|
      some (if (if (if (if (if (if (if (if (if (if (if (if (if (if (if (if (if (r2.2 == 0) = true then (((r2.1.length : Nat) : Int) == 0) else false) = true then (r3.2 == 1) else false) = true then (r4.2 == 2) else false) = true then (r6.2 == 0) else false) = true then (((r6.1.length : Nat) : Int) == 1) else false) = true then (((gt r6.1 0).length : Int) == 2) else false) = true then ((((gt (gt r6.1 0) 0).Data).length : Int) == 942) else false) = true then ((((gt (gt r6.1 0) 1).Data).length : Int) == 138) else false) = true then ((gt ((gt (gt r6.1 0) 1).Data) 3) == 7) else false) = true then (if (if (if (if (if (if (if (r7.2 == 0) = true then (r8.2.2.2 == 0) else false) = true then (r9.2 == 0) else false) = true then ((law39_row n r8.2.1.Extents 0 1).getD default) else false) = true then (r8.2.1.Lines == 2) else false) = true then ((law39_row n r8.1.Free 1 3).getD default) else false) = true then ((law39_row n r9.1.Free 0 4).getD default) else false) = true then (((r8.2.2.1.length : Nat) : Int) == 1) else false) else false) = true then (r10.2 == 0) else false) = true then (r12.2.2.2 == 7) else false) = true then (r13.2 == 0) else false) = true then ((law39_equal n r13.1 [(⟨1, [65, 66]⟩ : TLine), (⟨9, []⟩ : TLine)]).getD default) else false) = true then (r14.2 == 390) else false) = true then (r15.2 == 0) else false) = true then ((r15.1.length : Int) == 0) else false)

def xlaw39_works (n : Nat) : Go.AE.Fn := mkFn (A := Unit) (R := Bool) 12 [] false (fun xs => ()) (fun a => []) (fun a => law39_works n) (fun r => [.c .bool (.bool r)]) (fun r => [])

theorem claw39_works (n : Nat) : Contract Try.prog (xlaw39_works n) := by
  have hΓ : ∀ g, g ∈ ([xspool_Tracks n, xlaw39_long n, xspool_New n, xspool_Put n, xspool_Drop n, xlaw39_row n, xspool_Lines n, xlaw39_equal n] : List Go.AE.Fn) → Contract Try.prog g := by
    intro g hg; simp only [List.mem_cons, List.not_mem_nil, or_false] at hg; rcases hg with rfl | rfl | rfl | rfl | rfl | rfl | rfl | rfl; exact cspool_Tracks n; exact claw39_long n; exact cspool_New n; exact cspool_Put n; exact cspool_Drop n; exact claw39_row n; exact cspool_Lines n; exact claw39_equal n
  refine contract_f (Try.f12.body.getD .skip) h00 Try.func12 rfl (by intro args w; exact Try.call12 args w) (by decide) (by intro _ r; exact ⟨rfl, by simp⟩) ?_
  rintro ⟨⟩ r H
  try dsimp only at H
  unfold law39_works at H
  simp only [Try.f12, Option.getD]
  refine Sm.seqA h00 mixed hΓ (by kernel_rfl) fun K1 hK1 => ?_
  simp only [rs]
  repeat (refine opsG fun K hK => ?_; simp only [z, seval]; (repeat (first | refine gcI ?_ | refine fun (_ : _ ≤ _) => ?_)); refine hK _ ?_; clear hK K)
  refine hK1 _ ?_
  refine Sm.seqA h00 mixed hΓ (by kernel_rfl) fun K2 hK2 => ?_
  simp only [rs]
  repeat (refine opsG fun K hK => ?_; simp only [z, seval]; (repeat (first | refine gcI ?_ | refine fun (_ : _ ≤ _) => ?_)); refine hK _ ?_; clear hK K)
  refine hK2 _ ?_
  obtain ⟨r1, hr1, H⟩ := bind_some H
  refine Sm.seqA h00 mixed hΓ (by kernel_rfl) fun K3 hK3 => ?_
  simp only [rs]
  repeat (refine opsG fun K hK => ?_; simp only [z, seval, xspool_Tracks, hr1]; (repeat (first | refine gcI ?_ | refine fun (_ : _ ≤ _) => ?_)); refine hK _ ?_; clear hK K)
  refine hK3 _ ?_
  refine Sm.seqK fun K4 hK4 => ?_
  refine Sm.seqX h00 mixed hΓ (by kernel_rfl) fun K5 hK5 => ?_
  simp only [rs]
  obtain ⟨⟨hg6, hg7, hg8, hg9, hg10, hg11, hg12, hg13⟩, H⟩ := gd_some H
  iterate 30 (refine opsX fun K hK => ?_; simp only [z, seval]; (repeat (first | refine gcI ?_ | refine fun (_ : _ ≤ _) => ?_)); refine hK _ ?_; clear hK K)
  refine bif_cases H (fun hs14 H => ?_) (fun hs14 H => ?_)
  · try simp only [hs14, Bool.not_false, Bool.not_true, Bool.false_eq_true, true_implies, false_implies, forall_const] at hg6
    try simp only [hs14, Bool.not_false, Bool.not_true, Bool.false_eq_true, true_implies, false_implies, forall_const] at hg7
    try simp only [hs14, Bool.not_false, Bool.not_true, Bool.false_eq_true, true_implies, false_implies, forall_const] at hg8
    try simp only [hs14, Bool.not_false, Bool.not_true, Bool.false_eq_true, true_implies, false_implies, forall_const] at hg9
    try simp only [hs14, Bool.not_false, Bool.not_true, Bool.false_eq_true, true_implies, false_implies, forall_const] at hg10
    try simp only [hs14, Bool.not_false, Bool.not_true, Bool.false_eq_true, true_implies, false_implies, forall_const] at hg11
    try simp only [hs14, Bool.not_false, Bool.not_true, Bool.false_eq_true, true_implies, false_implies, forall_const] at hg12
    try simp only [hs14, Bool.not_false, Bool.not_true, Bool.false_eq_true, true_implies, false_implies, forall_const] at hg13
    refine opsF rfl (by simp only [z, seval, hs14]) ?_
    refine opsF rfl (by simp only [z, seval, hs14]) ?_
    refine opsP fun K hK => ?_; simp only [z, seval, hs14]; (repeat (first | refine gcI ?_ | refine fun (_ : _ ≤ _) => ?_)); refine Or.inl ?_; (repeat (first | refine gcI ?_ | refine fun (_ : _ ≤ _) => ?_)); refine hK _ ?_; clear hK K
    refine hK5 _ ?_
    refine Sm.condK (by rfl) fun Ka Kb ha hb => ?_
    simp only [wpCond, z, seval]
    refine ha ?_
    refine Sm.seqA h00 mixed hΓ (by kernel_rfl) fun K16 hK16 => ?_
    simp only [rs]
    repeat (refine opsG fun K hK => ?_; simp only [z, seval]; (repeat (first | refine gcI ?_ | refine fun (_ : _ ≤ _) => ?_)); refine hK _ ?_; clear hK K)
    refine hK16 _ ?_
    refine Sm.ret ?_
    try simp only [seval, Exit.exit.injEq]
    obtain rfl := Option.some.inj H
    refine Ret.ofR [] (.inr rfl) ?_
    simp only [z, seval]
  try simp only [hs14, Bool.not_false, Bool.not_true, Bool.false_eq_true, true_implies, false_implies, forall_const] at hg6
  try simp only [hs14, Bool.not_false, Bool.not_true, Bool.false_eq_true, true_implies, false_implies, forall_const] at hg7
  try simp only [hs14, Bool.not_false, Bool.not_true, Bool.false_eq_true, true_implies, false_implies, forall_const] at hg8
  try simp only [hs14, Bool.not_false, Bool.not_true, Bool.false_eq_true, true_implies, false_implies, forall_const] at hg9
  try simp only [hs14, Bool.not_false, Bool.not_true, Bool.false_eq_true, true_implies, false_implies, forall_const] at hg10
  try simp only [hs14, Bool.not_false, Bool.not_true, Bool.false_eq_true, true_implies, false_implies, forall_const] at hg11
  try simp only [hs14, Bool.not_false, Bool.not_true, Bool.false_eq_true, true_implies, false_implies, forall_const] at hg12
  try simp only [hs14, Bool.not_false, Bool.not_true, Bool.false_eq_true, true_implies, false_implies, forall_const] at hg13
  obtain ⟨hg17, H⟩ := gd_some H
  refine opsTE stepV_ok rfl (by simp only [z, seval, hs14])  fun K hK => ?_; simp only [z, seval, hs14]; (repeat (first | refine gcI ?_ | refine fun (_ : _ ≤ _) => ?_)); refine hK _ ?_; clear hK K
  refine opsTG rfl (by simp only [z, seval, hs14]) fun K hK => ?_; simp only [z, seval, hs14]; (repeat (first | refine gcI ?_ | refine fun (_ : _ ≤ _) => ?_)); refine hK _ ?_; clear hK K
  refine opsP fun K hK => ?_; simp only [z, seval, hs14]; (repeat (first | refine gcI ?_ | refine fun (_ : _ ≤ _) => ?_)); refine Or.inr ?_; (repeat (first | refine gcI ?_ | refine fun (_ : _ ≤ _) => ?_)); refine hK _ ?_; clear hK K
  refine hK5 _ ?_
  refine Sm.condK (by rfl) fun Ka Kb ha hb => ?_
  simp only [wpCond, z, seval]
  refine ⟨fun h18 => ha ?_, fun h18 => hb ?_⟩
  · first | replace H := bif_t h18 H | replace H := bif_t2 h18 H (by simp only [List.length_append])
    refine Sm.seqA h00 mixed hΓ (by kernel_rfl) fun K19 hK19 => ?_
    simp only [rs]
    repeat (refine opsG fun K hK => ?_; simp only [z, seval]; (repeat (first | refine gcI ?_ | refine fun (_ : _ ≤ _) => ?_)); refine hK _ ?_; clear hK K)
    refine hK19 _ ?_
    refine Sm.ret ?_
    try simp only [seval, Exit.exit.injEq]
    obtain rfl := Option.some.inj H
    refine Ret.ofR [] (.inr rfl) ?_
    simp only [z, seval]
  first | replace H := bif_f h18 H | replace H := bif_f2 h18 H (by simp only [List.length_append])
  refine Sm.skip ?_
  refine hK4 _ ?_
  obtain ⟨r2, hr2, H⟩ := bind_some H
  refine Sm.seqA h00 mixed hΓ (by kernel_rfl) fun K20 hK20 => ?_
  simp only [rs]
  repeat (refine opsG fun K hK => ?_; simp only [z, seval, xspool_Tracks, hr2]; (repeat (first | refine gcI ?_ | refine fun (_ : _ ≤ _) => ?_)); refine hK _ ?_; clear hK K)
  refine hK20 _ ?_
  obtain ⟨r3, hr3, H⟩ := bind_some H
  refine Sm.seqA h00 mixed hΓ (by kernel_rfl) fun K21 hK21 => ?_
  simp only [rs]
  repeat (refine opsG fun K hK => ?_; simp only [z, seval, xspool_Tracks, hr3]; (repeat (first | refine gcI ?_ | refine fun (_ : _ ≤ _) => ?_)); refine hK _ ?_; clear hK K)
  refine hK21 _ ?_
  refine Sm.seqX h00 mixed hΓ (by kernel_rfl) fun K22 hK22 => ?_
  simp only [rs]
  obtain ⟨hg23, H⟩ := gd_some H
  obtain ⟨r4, hr4, H⟩ := bind_some H
  refine opsY fun K hK => ?_; simp only [z, seval, xspool_Tracks]; (repeat (first | refine gcI ?_ | refine fun (_ : _ ≤ _) => ?_)); refine hK _ ?_; clear hK K
  refine opsE stepV_ok fun K hK => ?_; simp only [z, seval, xspool_Tracks]; (repeat (first | refine gcI ?_ | refine fun (_ : _ ≤ _) => ?_)); refine hK _ ?_; clear hK K
  iterate 2 (refine opsX fun K hK => ?_; simp only [z, seval, xspool_Tracks]; (repeat (first | refine gcI ?_ | refine fun (_ : _ ≤ _) => ?_)); refine hK _ ?_; clear hK K)
  iterate 6 (refine opsX fun K hK => ?_; simp only [z, seval, xspool_Tracks, hr4]; (repeat (first | refine gcI ?_ | refine fun (_ : _ ≤ _) => ?_)); refine hK _ ?_; clear hK K)
  refine hK22 _ ?_
  obtain ⟨r5, hr5, H⟩ := bind_some H
  obtain ⟨r6, hr6, H⟩ := bind_some H
  refine Sm.seqA h00 mixed hΓ (by kernel_rfl) fun K24 hK24 => ?_
  simp only [rs]
  repeat (refine opsG fun K hK => ?_; simp only [z, seval, xspool_Tracks, xlaw39_long, hr5, hr6]; (repeat (first | refine gcI ?_ | refine fun (_ : _ ≤ _) => ?_)); refine hK _ ?_; clear hK K)
  refine hK24 _ ?_
  obtain ⟨⟨hg40, hg41, hg42, hg43, hg44, hg45, hg46, hg47, hg48, hg49, hg50, hg51⟩, H⟩ := gd_some H
  refine Sm.seqA h00 mixed hΓ (by kernel_rfl) fun K25 hK25 => ?_
  simp only [rs]
  repeat (refine opsG fun K hK => ?_; simp only [z, seval]; (repeat (first | refine gcI ?_ | refine fun (_ : _ ≤ _) => ?_)); refine hK _ ?_; clear hK K)
  refine hK25 _ ?_
  obtain ⟨r7, hr7, H⟩ := bind_some H
  refine Sm.seqA h00 mixed hΓ (by kernel_rfl) fun K26 hK26 => ?_
  simp only [rs]
  repeat (refine opsG fun K hK => ?_; simp only [z, seval, xspool_Tracks, xlaw39_long, xspool_New, hr7]; (repeat (first | refine gcI ?_ | refine fun (_ : _ ≤ _) => ?_)); refine hK _ ?_; clear hK K)
  refine hK26 _ ?_
  obtain ⟨r8, hr8, H⟩ := bind_some H
  refine Sm.seqA h00 mixed hΓ (by kernel_rfl) fun K27 hK27 => ?_
  simp only [rs]
  repeat (refine opsG fun K hK => ?_; simp only [z, seval, xspool_Tracks, xlaw39_long, xspool_New, xspool_Put, hr8]; (repeat (first | refine gcI ?_ | refine fun (_ : _ ≤ _) => ?_)); refine hK _ ?_; clear hK K)
  refine hK27 _ ?_
  obtain ⟨r9, hr9, H⟩ := bind_some H
  refine Sm.seqA h00 mixed hΓ (by kernel_rfl) fun K28 hK28 => ?_
  simp only [rs]
  repeat (refine opsG fun K hK => ?_; simp only [z, seval, xspool_Tracks, xlaw39_long, xspool_New, xspool_Put, xspool_Drop, hr9]; (repeat (first | refine gcI ?_ | refine fun (_ : _ ≤ _) => ?_)); refine hK _ ?_; clear hK K)
  refine hK28 _ ?_
  obtain ⟨⟨hg37, hg38, hg39⟩, H⟩ := gd_some H
  refine Sm.seqA h00 mixed hΓ (by kernel_rfl) fun K29 hK29 => ?_
  simp only [rs]
  repeat (refine opsG fun K hK => ?_; simp only [z, seval, xspool_Tracks, xlaw39_long, xspool_New, xspool_Put, xspool_Drop, xlaw39_row]; (repeat (first | refine gcI ?_ | refine fun (_ : _ ≤ _) => ?_)); refine hK _ ?_; clear hK K)
  refine hK29 _ ?_
  obtain ⟨r10, hr10, H⟩ := bind_some H
  refine Sm.seqA h00 mixed hΓ (by kernel_rfl) fun K30 hK30 => ?_
  simp only [rs]
  repeat (refine opsG fun K hK => ?_; simp only [z, seval, xspool_Tracks, xlaw39_long, xspool_New, hr10]; (repeat (first | refine gcI ?_ | refine fun (_ : _ ≤ _) => ?_)); refine hK _ ?_; clear hK K)
  refine hK30 _ ?_
  obtain ⟨r11, hr11, H⟩ := bind_some H
  obtain ⟨r12, hr12, H⟩ := bind_some H
  refine Sm.seqQ h00 mixed hΓ [0, 1, 2, 3, 4, 5, 6, 7, 8, 9, 10, 11, 12, 13] [(none, [352], []), (none, [], [3519, 3518, 3517, 3516, 3515, 3514, 3513, 3512, 3511, 3510, 3509, 3508, 3507, 3506, 3505, 3504]), (none, [3424, 3504], [3535, 3534, 3533, 3532, 3531, 3530, 3529, 3528, 3527, 3526, 3525, 3524, 3523, 3522, 3521, 3520, 3424, 3504]), (none, [], []), (none, [], []), (none, [], []), (none, [], []), (none, [], []), (none, [], [384]), (none, [], [400]), (none, [384], [384]), (none, [400, 3520], [400]), (none, [], []), (none, [], [])] (by kernel_rfl) rfl fun K31 hK31 => ?_
  simp only [rs]
  iterate 14 (refine opsQ fun K hK => ?_; simp only [z, seval, xspool_Tracks, xlaw39_long, xspool_New, xspool_Put, hr11, hr12]; (repeat (first | refine gcI ?_ | refine fun (_ : _ ≤ _) => ?_)); refine hK _ ?_; clear hK K)
  refine opsQ0 ?_
  refine hK31 _ ?_
  obtain ⟨r13, hr13, H⟩ := bind_some H
  refine Sm.seqA h00 mixed hΓ (by kernel_rfl) fun K32 hK32 => ?_
  simp only [rs]
  repeat (refine opsG fun K hK => ?_; simp only [z, seval, xspool_Tracks, xlaw39_long, xspool_New, xspool_Put, xspool_Drop, xlaw39_row, xspool_Lines, hr13]; (repeat (first | refine gcI ?_ | refine fun (_ : _ ≤ _) => ?_)); refine hK _ ?_; clear hK K)
  refine hK32 _ ?_
  obtain ⟨r14, hr14, H⟩ := bind_some H
  refine Sm.seqA h00 mixed hΓ (by kernel_rfl) fun K33 hK33 => ?_
  simp only [rs]
  repeat (refine opsG fun K hK => ?_; simp only [z, seval, xspool_Tracks, xlaw39_long, xspool_New, xspool_Put, xspool_Drop, xlaw39_row, xspool_Lines, hr14]; (repeat (first | refine gcI ?_ | refine fun (_ : _ ≤ _) => ?_)); refine hK _ ?_; clear hK K)
  refine hK33 _ ?_
  obtain ⟨r15, hr15, H⟩ := bind_some H
  refine Sm.seqA h00 mixed hΓ (by kernel_rfl) fun K34 hK34 => ?_
  simp only [rs]
  repeat (refine opsG fun K hK => ?_; simp only [z, seval, xspool_Tracks, xlaw39_long, xspool_New, xspool_Put, xspool_Drop, xlaw39_row, xspool_Lines, hr15]; (repeat (first | refine gcI ?_ | refine fun (_ : _ ≤ _) => ?_)); refine hK _ ?_; clear hK K)
  refine hK34 _ ?_
  obtain ⟨hg36, H⟩ := gd_some H
  refine Sm.seqA h00 mixed hΓ (by kernel_rfl) fun K35 hK35 => ?_
  simp only [rs]
  repeat (refine opsG fun K hK => ?_; simp only [z, seval, xspool_Tracks, xlaw39_long, xspool_New, xspool_Put, xspool_Drop, xlaw39_row, xspool_Lines, xlaw39_equal]; (repeat (first | refine gcI ?_ | refine fun (_ : _ ≤ _) => ?_)); refine hK _ ?_; clear hK K)
  refine hK35 _ ?_
  refine Sm.ret ?_
  try simp only [seval, Exit.exit.injEq]
  obtain rfl := Option.some.inj H
  refine Ret.ofR [] (.inr rfl) ?_
  simp only [z, seval]

def law39_SpoolKnown (n : Nat) : Option Bool :=
  gd ((0 ≤ 4097 ∧ 4097 ≤ 4097 ∧ 4097 ≤ 2147483648)) <|
  (spool_Tracks n (zreps 4097 (⟨0, []⟩ : TLine))).bind fun r1 =>
  gd (4096 ≤ (4097 : Int)) <|
  (spool_Tracks n (List.take 4096 (zreps 4097 (⟨0, []⟩ : TLine)))).bind fun r2 =>
  gd (((if (if (r1.2 == 2) = true then (r2.2 == 0) else false) = true then (((r2.1.length : Nat) : Int) == 8) else false) = true → 7 < (r2.1.length : Int)) ∧ ((if (if (r1.2 == 2) = true then (r2.2 == 0) else false) = true then (((r2.1.length : Nat) : Int) == 8) else false) = true → 7 < r2.1.length) ∧ ((if (if (if (r1.2 == 2) = true then (r2.2 == 0) else false) = true then (((r2.1.length : Nat) : Int) == 8) else false) = true then (((gt r2.1 7).length : Int) == 2) else false) = true → 7 < (r2.1.length : Int)) ∧ ((if (if (if (r1.2 == 2) = true then (r2.2 == 0) else false) = true then (((r2.1.length : Nat) : Int) == 8) else false) = true then (((gt r2.1 7).length : Int) == 2) else false) = true → 7 < r2.1.length) ∧ ((if (if (if (r1.2 == 2) = true then (r2.2 == 0) else false) = true then (((r2.1.length : Nat) : Int) == 8) else false) = true then (((gt r2.1 7).length : Int) == 2) else false) = true → 1 < ((gt r2.1 7).length : Int)) ∧ ((if (if (if (if (r1.2 == 2) = true then (r2.2 == 0) else false) = true then (((r2.1.length : Nat) : Int) == 8) else false) = true then (((gt r2.1 7).length : Int) == 2) else false) = true then ((((gt (gt r2.1 7) 1).Data).length : Int) == 36) else false) = true → 0 < (r2.1.length : Int)) ∧ ((if (if (if (if (r1.2 == 2) = true then (r2.2 == 0) else false) = true then (((r2.1.length : Nat) : Int) == 8) else false) = true then (((gt r2.1 7).length : Int) == 2) else false) = true then ((((gt (gt r2.1 7) 1).Data).length : Int) == 36) else false) = true → 0 < r2.1.length) ∧ ((if (if (if (if (if (r1.2 == 2) = true then (r2.2 == 0) else false) = true then (((r2.1.length : Nat) : Int) == 8) else false) = true then (((gt r2.1 7).length : Int) == 2) else false) = true then ((((gt (gt r2.1 7) 1).Data).length : Int) == 36) else false) = true then (((gt r2.1 0).length : Int) == 1) else false) = true → 0 < (r2.1.length : Int)) ∧ ((if (if (if (if (if (r1.2 == 2) = true then (r2.2 == 0) else false) = true then (((r2.1.length : Nat) : Int) == 8) else false) = true then (((gt r2.1 7).length : Int) == 2) else false) = true then ((((gt (gt r2.1 7) 1).Data).length : Int) == 36) else false) = true then (((gt r2.1 0).length : Int) == 1) else false) = true → 0 < r2.1.length) ∧ ((if (if (if (if (if (r1.2 == 2) = true then (r2.2 == 0) else false) = true then (((r2.1.length : Nat) : Int) == 8) else false) = true then (((gt r2.1 7).length : Int) == 2) else false) = true then ((((gt (gt r2.1 7) 1).Data).length : Int) == 36) else false) = true then (((gt r2.1 0).length : Int) == 1) else false) = true → 0 < ((gt r2.1 0).length : Int))) <|
  (spool_Put n (⟨513, []⟩ : TSpace) []).bind fun r3 =>
  (spool_Put n (⟨4, [(⟨2, 3⟩ : TExtent)]⟩ : TSpace) []).bind fun r4 =>
  (spool_Drop n (⟨4, []⟩ : TSpace) (⟨[(⟨3, 2⟩ : TExtent)], 0⟩ : TFile)).bind fun r5 =>
  (spool_Drop n (⟨4, [(⟨3, 1⟩ : TExtent)]⟩ : TSpace) (⟨[(⟨2, 2⟩ : TExtent)], 0⟩ : TFile)).bind fun r6 =>
  (spool_Drop n (⟨4, []⟩ : TSpace) (⟨[(⟨4611686018427387904, 4611686018427387904⟩ : TExtent)], 0⟩ : TFile)).bind fun r7 =>
  (spool_Put n (⟨4, []⟩ : TSpace) []).bind fun r8 =>
  (spool_New n (-1)).bind fun r9 =>
  (spool_New n 513).bind fun r10 =>
  gd ((0 ≤ 133 ∧ 133 ≤ 133 ∧ 133 ≤ 2147483648)) <|
  (spool_Tracks n [(⟨(-1), []⟩ : TLine), (⟨0, (toStr8 (zreps 133 0))⟩ : TLine)]).bind fun r11 =>
  gd (((if (if (if (if (if (if (if (if (if (if (if (if (if (if (if (if (if (if (if (r1.2 == 2) = true then (r2.2 == 0) else false) = true then (((r2.1.length : Nat) : Int) == 8) else false) = true then (((gt r2.1 7).length : Int) == 2) else false) = true then ((((gt (gt r2.1 7) 1).Data).length : Int) == 36) else false) = true then (((gt r2.1 0).length : Int) == 1) else false) = true then ((((gt (gt r2.1 0) 0).Data).length : Int) == 1024) else false) = true then (r3.2.2.2 == 1) else false) = true then (r4.2.2.2 == 1) else false) = true then (r5.2 == 1) else false) = true then (r6.2 == 1) else false) = true then (r7.2 == 1) else false) = true then (r8.2.2.2 == 0) else false) = true then (r8.1.Tracks == 4) else false) = true then (((r8.2.1.Extents.length : Nat) : Int) == 0) else false) = true then (r8.2.1.Lines == 0) else false) = true then (((r8.2.2.1.length : Nat) : Int) == 0) else false) = true then (r9.2 == 6) else false) = true then (r10.2 == 6) else false) = true then (r11.2 == 2) else false) = true → (law39_works n).isSome = true)) <|
  some (if (if (if (if (if (if (if (if (if (if (if (if (if (if (if (if (if (if (if (if (r1.2 == 2) = true then (r2.2 == 0) else false) = true then (((r2.1.length : Nat) : Int) == 8) else false) = true then (((gt r2.1 7).length : Int) == 2) else false) = true then ((((gt (gt r2.1 7) 1).Data).length : Int) == 36) else false) = true then (((gt r2.1 0).length : Int) == 1) else false) = true then ((((gt (gt r2.1 0) 0).Data).length : Int) == 1024) else false) = true then (r3.2.2.2 == 1) else false) = true then (r4.2.2.2 == 1) else false) = true then (r5.2 == 1) else false) = true then (r6.2 == 1) else false) = true then (r7.2 == 1) else false) = true then (r8.2.2.2 == 0) else false) = true then (r8.1.Tracks == 4) else false) = true then (((r8.2.1.Extents.length : Nat) : Int) == 0) else false) = true then (r8.2.1.Lines == 0) else false) = true then (((r8.2.2.1.length : Nat) : Int) == 0) else false) = true then (r9.2 == 6) else false) = true then (r10.2 == 6) else false) = true then (r11.2 == 2) else false) = true then ((law39_works n).getD default) else false)

def xlaw39_SpoolKnown (n : Nat) : Go.AE.Fn := mkFn (A := Unit) (R := Bool) 7 [] false (fun xs => ()) (fun a => []) (fun a => law39_SpoolKnown n) (fun r => [.c .bool (.bool r)]) (fun r => [])

theorem claw39_SpoolKnown (n : Nat) : Contract Try.prog (xlaw39_SpoolKnown n) := by
  have hΓ : ∀ g, g ∈ ([xspool_Tracks n, xspool_Put n, xspool_Drop n, xspool_New n, xlaw39_works n] : List Go.AE.Fn) → Contract Try.prog g := by
    intro g hg; simp only [List.mem_cons, List.not_mem_nil, or_false] at hg; rcases hg with rfl | rfl | rfl | rfl | rfl; exact cspool_Tracks n; exact cspool_Put n; exact cspool_Drop n; exact cspool_New n; exact claw39_works n
  refine contract_f (Try.f7.body.getD .skip) h00 Try.func7 rfl (by intro args w; exact Try.call7 args w) (by decide) (by intro _ r; exact ⟨rfl, by simp⟩) ?_
  rintro ⟨⟩ r H
  try dsimp only at H
  unfold law39_SpoolKnown at H
  simp only [Try.f7, Option.getD]
  refine Sm.seqA h00 mixed hΓ (by kernel_rfl) fun K1 hK1 => ?_
  simp only [rs]
  repeat (refine opsG fun K hK => ?_; simp only [z, seval]; (repeat (first | refine gcI ?_ | refine fun (_ : _ ≤ _) => ?_)); refine hK _ ?_; clear hK K)
  refine hK1 _ ?_
  refine Sm.seqX h00 mixed hΓ (by kernel_rfl) fun K2 hK2 => ?_
  simp only [rs]
  obtain ⟨hg3, H⟩ := gd_some H
  refine opsY fun K hK => ?_; simp only [z, seval]; (repeat (first | refine gcI ?_ | refine fun (_ : _ ≤ _) => ?_)); refine hK _ ?_; clear hK K
  (refine opsX fun K hK => ?_; simp only [z, seval]; (repeat (first | refine gcI ?_ | refine fun (_ : _ ≤ _) => ?_)); refine hK _ ?_; clear hK K)
  refine hK2 _ ?_
  obtain ⟨r1, hr1, H⟩ := bind_some H
  refine Sm.seqA h00 mixed hΓ (by kernel_rfl) fun K4 hK4 => ?_
  simp only [rs]
  repeat (refine opsG fun K hK => ?_; simp only [z, seval, xspool_Tracks, hr1]; (repeat (first | refine gcI ?_ | refine fun (_ : _ ≤ _) => ?_)); refine hK _ ?_; clear hK K)
  refine hK4 _ ?_
  obtain ⟨hg29, H⟩ := gd_some H
  obtain ⟨r2, hr2, H⟩ := bind_some H
  refine Sm.seqA h00 mixed hΓ (by kernel_rfl) fun K5 hK5 => ?_
  simp only [rs]
  repeat (refine opsG fun K hK => ?_; simp only [z, seval, xspool_Tracks, hr2]; (repeat (first | refine gcI ?_ | refine fun (_ : _ ≤ _) => ?_)); refine hK _ ?_; clear hK K)
  refine hK5 _ ?_
  obtain ⟨⟨hg19, hg20, hg21, hg22, hg23, hg24, hg25, hg26, hg27, hg28⟩, H⟩ := gd_some H
  refine Sm.seqA h00 mixed hΓ (by kernel_rfl) fun K6 hK6 => ?_
  simp only [rs]
  repeat (refine opsG fun K hK => ?_; simp only [z, seval]; (repeat (first | refine gcI ?_ | refine fun (_ : _ ≤ _) => ?_)); refine hK _ ?_; clear hK K)
  refine hK6 _ ?_
  obtain ⟨r3, hr3, H⟩ := bind_some H
  refine Sm.seqA h00 mixed hΓ (by kernel_rfl) fun K7 hK7 => ?_
  simp only [rs]
  repeat (refine opsG fun K hK => ?_; simp only [z, seval, xspool_Tracks, xspool_Put, hr3]; (repeat (first | refine gcI ?_ | refine fun (_ : _ ≤ _) => ?_)); refine hK _ ?_; clear hK K)
  refine hK7 _ ?_
  obtain ⟨r4, hr4, H⟩ := bind_some H
  refine Sm.seqA h00 mixed hΓ (by kernel_rfl) fun K8 hK8 => ?_
  simp only [rs]
  repeat (refine opsG fun K hK => ?_; simp only [z, seval, xspool_Tracks, xspool_Put, hr4]; (repeat (first | refine gcI ?_ | refine fun (_ : _ ≤ _) => ?_)); refine hK _ ?_; clear hK K)
  refine hK8 _ ?_
  obtain ⟨r5, hr5, H⟩ := bind_some H
  refine Sm.seqA h00 mixed hΓ (by kernel_rfl) fun K9 hK9 => ?_
  simp only [rs]
  repeat (refine opsG fun K hK => ?_; simp only [z, seval, xspool_Tracks, xspool_Put, xspool_Drop, hr5]; (repeat (first | refine gcI ?_ | refine fun (_ : _ ≤ _) => ?_)); refine hK _ ?_; clear hK K)
  refine hK9 _ ?_
  obtain ⟨r6, hr6, H⟩ := bind_some H
  refine Sm.seqA h00 mixed hΓ (by kernel_rfl) fun K10 hK10 => ?_
  simp only [rs]
  repeat (refine opsG fun K hK => ?_; simp only [z, seval, xspool_Tracks, xspool_Put, xspool_Drop, hr6]; (repeat (first | refine gcI ?_ | refine fun (_ : _ ≤ _) => ?_)); refine hK _ ?_; clear hK K)
  refine hK10 _ ?_
  obtain ⟨r7, hr7, H⟩ := bind_some H
  refine Sm.seqA h00 mixed hΓ (by kernel_rfl) fun K11 hK11 => ?_
  simp only [rs]
  repeat (refine opsG fun K hK => ?_; simp only [z, seval, xspool_Tracks, xspool_Put, xspool_Drop, hr7]; (repeat (first | refine gcI ?_ | refine fun (_ : _ ≤ _) => ?_)); refine hK _ ?_; clear hK K)
  refine hK11 _ ?_
  obtain ⟨r8, hr8, H⟩ := bind_some H
  refine Sm.seqA h00 mixed hΓ (by kernel_rfl) fun K12 hK12 => ?_
  simp only [rs]
  repeat (refine opsG fun K hK => ?_; simp only [z, seval, xspool_Tracks, xspool_Put, hr8]; (repeat (first | refine gcI ?_ | refine fun (_ : _ ≤ _) => ?_)); refine hK _ ?_; clear hK K)
  refine hK12 _ ?_
  obtain ⟨r9, hr9, H⟩ := bind_some H
  refine Sm.seqA h00 mixed hΓ (by kernel_rfl) fun K13 hK13 => ?_
  simp only [rs]
  repeat (refine opsG fun K hK => ?_; simp only [z, seval, xspool_Tracks, xspool_Put, xspool_Drop, xspool_New, hr9]; (repeat (first | refine gcI ?_ | refine fun (_ : _ ≤ _) => ?_)); refine hK _ ?_; clear hK K)
  refine hK13 _ ?_
  obtain ⟨r10, hr10, H⟩ := bind_some H
  refine Sm.seqA h00 mixed hΓ (by kernel_rfl) fun K14 hK14 => ?_
  simp only [rs]
  repeat (refine opsG fun K hK => ?_; simp only [z, seval, xspool_Tracks, xspool_Put, xspool_Drop, xspool_New, hr10]; (repeat (first | refine gcI ?_ | refine fun (_ : _ ≤ _) => ?_)); refine hK _ ?_; clear hK K)
  refine hK14 _ ?_
  refine Sm.seqX h00 mixed hΓ (by kernel_rfl) fun K15 hK15 => ?_
  simp only [rs]
  obtain ⟨hg16, H⟩ := gd_some H
  obtain ⟨r11, hr11, H⟩ := bind_some H
  (refine opsX fun K hK => ?_; simp only [z, seval, xspool_Tracks]; (repeat (first | refine gcI ?_ | refine fun (_ : _ ≤ _) => ?_)); refine hK _ ?_; clear hK K)
  refine opsY fun K hK => ?_; simp only [z, seval, xspool_Tracks]; (repeat (first | refine gcI ?_ | refine fun (_ : _ ≤ _) => ?_)); refine hK _ ?_; clear hK K
  refine opsE stepV_ok fun K hK => ?_; simp only [z, seval, xspool_Tracks]; (repeat (first | refine gcI ?_ | refine fun (_ : _ ≤ _) => ?_)); refine hK _ ?_; clear hK K
  iterate 2 (refine opsX fun K hK => ?_; simp only [z, seval, xspool_Tracks]; (repeat (first | refine gcI ?_ | refine fun (_ : _ ≤ _) => ?_)); refine hK _ ?_; clear hK K)
  iterate 6 (refine opsX fun K hK => ?_; simp only [z, seval, xspool_Tracks, hr11]; (repeat (first | refine gcI ?_ | refine fun (_ : _ ≤ _) => ?_)); refine hK _ ?_; clear hK K)
  refine hK15 _ ?_
  obtain ⟨hg18, H⟩ := gd_some H
  refine Sm.seqA h00 mixed hΓ (by kernel_rfl) fun K17 hK17 => ?_
  simp only [rs]
  repeat (refine opsG fun K hK => ?_; simp only [z, seval, xspool_Tracks, xspool_Put, xspool_Drop, xspool_New, xlaw39_works]; (repeat (first | refine gcI ?_ | refine fun (_ : _ ≤ _) => ?_)); refine hK _ ?_; clear hK K)
  refine hK17 _ ?_
  refine Sm.ret ?_
  try simp only [seval, Exit.exit.injEq]
  obtain rfl := Option.some.inj H
  refine Ret.ofR [] (.inr rfl) ?_
  simp only [z, seval]
end Go.Proofs.Ytkebegfopnlkhaa
