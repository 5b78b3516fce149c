/- Text. -/
import Derived.Test.YtkebegfopnlkhaaF1
set_option maxHeartbeats 8000000
set_option linter.unusedVariables false
set_option linter.unusedSimpArgs false
set_option maxRecDepth 100000
namespace Go.Proofs.Ytkebegfopnlkhaa
open Go.AE
def bytes_Equal (n : Nat) (a : List Int) (b : List Int) : Option Bool :=
  some ((toStr8 a) == (toStr8 b))
def xbytes_Equal (n : Nat) : Go.AE.Fn := mkFn (A := (List Int) × (List Int)) (R := Bool) 72 [(false, [.slice 5]), (false, [.slice 5])] false (fun xs => (((cg (xs.getD 0 []) 0).toSl.map d_Int), ((cg (xs.getD 1 []) 0).toSl.map d_Int))) (fun a => [[.slice (List.map e_Int a.1)], [.slice (List.map e_Int a.2)]]) (fun a => bytes_Equal n a.1 a.2) (fun r => [.c .bool (.bool r)]) (fun r => [])
theorem cbytes_Equal (n : Nat) : Contract Try.prog (xbytes_Equal n) := by
  have hΓ : ∀ g, g ∈ ([] : List Go.AE.Fn) → Contract Try.prog g := by simp
  refine contract_f (Try.f72.body.getD .skip) h00 Try.func72 rfl (by intro args w; exact Try.call72 args w) (by decide) (by intro _ r; exact ⟨rfl, by simp⟩) ?_
  rintro ⟨a, b⟩ r H
  try dsimp only at H
  unfold bytes_Equal at H
  simp only [Try.f72, Option.getD]
  refine Sm.seqA h00 mixed hΓ (by kernel_rfl) fun K1 hK1 => ?_
  simp only [rs]
  repeat (refine opsG fun K hK => ?_; simp only [z, seval]; (repeat first | refine gcI ?_ | intro (_ : _ ≤ _)); refine hK _ ?_; clear hK K)
  refine hK1 _ ?_
  refine Sm.seqX h00 mixed hΓ (by kernel_rfl) fun K2 hK2 => ?_
  simp only [rs]
  (refine opsX fun K hK => ?_; simp only [z, seval]; (repeat first | refine gcI ?_ | intro (_ : _ ≤ _)); refine hK _ ?_; clear hK K)
  refine opsE stepV_ok fun K hK => ?_; simp only [z, seval]; (repeat first | refine gcI ?_ | intro (_ : _ ≤ _)); refine hK _ ?_; clear hK K
  (refine opsX fun K hK => ?_; simp only [z, seval]; (repeat first | refine gcI ?_ | intro (_ : _ ≤ _)); refine hK _ ?_; clear hK K)
  refine opsE stepV_ok fun K hK => ?_; simp only [z, seval]; (repeat first | refine gcI ?_ | intro (_ : _ ≤ _)); refine hK _ ?_; clear hK K
  iterate 2 (refine opsX fun K hK => ?_; simp only [z, seval]; (repeat first | refine gcI ?_ | intro (_ : _ ≤ _)); refine hK _ ?_; clear hK K)
  refine hK2 _ ?_
  refine Sm.ret ?_
  try simp only [seval, Exit.exit.injEq]
  obtain rfl := Option.some.inj H
  refine Ret.ofR [] (.inr rfl) ?_
  simp only [z, seval]
abbrev spool_group_s1 (l : List TLine) : S := stB [(6, .own 9000 [.int .i64, .str] 0 l.length)] [(9000, .row 48 (List.map e_TLine l))]
def spool_group_k1 (n : Nat) (l : List TLine) : Option ((List TLine) × Bool) :=
  some (l, true)
abbrev spool_group_t2 (b_1 : List Int) (l_1 : List TLine) : S := stB [(0, .c (.slice 5) (.slice (List.map e_Int b_1))), (6, .own 9002 [.int .i64, .str] 0 l_1.length)] [(9002, .row 48 (List.map e_TLine l_1))]
def spool_group_b2 (n : Nat) (b_1 : List Int) (l_1 : List TLine) : Option (((List Int) × (List TLine)) ⊕ ((((List TLine) × Bool) ⊕ ((List TLine))))) :=
  bif (decide ((b_1.length : Int) > 0)) then
    gd (((!(decide ((b_1.length : Int) < 2))) = true → 1 < (b_1.length : Int))) <|
    bif (if (decide ((b_1.length : Int) < 2)) = true then true else (decide ((b_1.length : Int) < (IntKind.wrap .i64 (2 + (IntKind.wrap .i64 ((gt b_1 1)))))))) then
      some (.inr (.inl ([], false)))
    else
      gd (1 < (b_1.length : Int)) <|
      gd (0 < (b_1.length : Int) ∧ (0 ≤ 2 ∧ 2 ≤ (IntKind.wrap .i64 (2 + (IntKind.wrap .i64 ((gt b_1 1))))) ∧ (IntKind.wrap .i64 (2 + (IntKind.wrap .i64 ((gt b_1 1))))) ≤ (b_1.length : Int)) ∧ (l_1.length + 1) ≤ 2147483648) <|
      gd ((0 ≤ (IntKind.wrap .i64 (2 + (IntKind.wrap .i64 ((gt b_1 1))))) ∧ (IntKind.wrap .i64 (2 + (IntKind.wrap .i64 ((gt b_1 1))))) ≤ (b_1.length : Int) ∧ (b_1.length : Int) ≤ (b_1.length : Int))) <|
      some (.inl ((List.drop (Int.toNat (IntKind.wrap .i64 (2 + (IntKind.wrap .i64 ((gt b_1 1)))))) b_1), (l_1 ++ [(⟨(IntKind.wrap .i64 ((gt b_1 0))), (toStr8 (List.drop 2 (List.take (Int.toNat (IntKind.wrap .i64 (2 + (IntKind.wrap .i64 ((gt b_1 1)))))) b_1)))⟩ : TLine)])))
  else
    some (.inr (.inr l_1))
def spool_group (n : Nat) (b : List Int) (at_ : Int) : Option ((List TLine) × Bool) :=
  gd (((!(decide ((b.length : Int) < 4))) = true → 4 ≤ (b.length : Int))) <|
  bif (decide ((b.length : Int) < 4)) then
    some ([], false)
  else
    gd ((!(decide ((b.length : Int) < 4))) = true) <|
    (spool_index n at_).bind fun r1 =>
    gd ((!(decide ((b.length : Int) < 4))) = true) <|
    (bytes_Equal n (List.take 4 b) r1).bind fun r2 =>
    bif (!r2) then
      some ([], false)
    else
      gd ((0 ≤ 4 ∧ 4 ≤ (b.length : Int) ∧ (b.length : Int) ≤ (b.length : Int))) <|
      (loopF (fun (x : (List Int) × (List TLine)) => spool_group_b2 n x.1 x.2) n ((List.drop 4 b), [])).bind fun y15 =>
      match y15 with
      | .inl v =>
        some (v.1, v.2)
      | .inr v =>
        spool_group_k1 n v
def xspool_group (n : Nat) : Go.AE.Fn := mkFn (A := (List Int) × Int) (R := (List TLine) × Bool) 51 [(false, [.slice 5]), (false, [.int .i64])] false (fun xs => (((cg (xs.getD 0 []) 0).toSl.map d_Int), (cg (xs.getD 1 []) 0).toInt)) (fun a => [[.slice (List.map e_Int a.1)], [.int a.2]]) (fun a => spool_group n a.1 a.2) (fun r => [.own 0 [.int .i64, .str] 0 r.1.length, .c .bool (.bool r.2)]) (fun r => [.row 48 (List.map e_TLine r.1)])
theorem cspool_group (n : Nat) : Contract Try.prog (xspool_group n) := by
  have hΓ : ∀ g, g ∈ ([xspool_index n, xbytes_Equal n] : List Go.AE.Fn) → Contract Try.prog g := by
    intro g hg; simp only [List.mem_cons, List.not_mem_nil, or_false] at hg; rcases hg with rfl | rfl; exact cspool_index n; exact cbytes_Equal n
  refine contract_f (Try.f51.body.getD .skip) h00 Try.func51 rfl (by intro args w; exact Try.call51 args w) (by decide) (by
    intro _ r; refine ⟨rfl, ?_⟩; simp only [List.mem_cons, List.not_mem_nil, or_false]; rintro _ rfl
    · exact ⟨48, _, _, rfl, ty48, rfl⟩) ?_
  rintro ⟨b, at_⟩ r H
  try dsimp only at H
  unfold spool_group at H
  simp only [Try.f51, Option.getD]
  refine Sm.seqA h00 mixed hΓ (by kernel_rfl) fun K1 hK1 => ?_
  simp only [rs]
  repeat (refine opsG fun K hK => ?_; simp only [z, seval]; (repeat first | refine gcI ?_ | intro (_ : _ ≤ _)); refine hK _ ?_; clear hK K)
  refine hK1 _ ?_
  refine Sm.seqK fun K2 hK2 => ?_
  obtain ⟨hg4, H⟩ := gd_some H
  refine bif_cases H (fun hs5 H => ?_) (fun hs5 H => ?_)
  · try simp only [hs5, Bool.not_false, Bool.not_true, Bool.false_eq_true, true_implies, false_implies, forall_const] at hg4
    refine Sm.seqQ h00 mixed hΓ [0, 1, 2, 3, 4, 5, 6, 7, 8, 9, 10] [(none, [], []), (none, [], []), (none, [], []), (none, [], []), (none, [], []), (none, [], []), (none, [], []), (some false, [], []), (some false, [], []), (some false, [], []), (some true, [], [])] (by kernel_rfl) rfl fun K3 hK3 => ?_
    simp only [rs]
    iterate 11 (refine opsQ fun K hK => ?_; simp only [z, seval, xspool_index, xbytes_Equal, hs5]; (repeat first | refine gcI ?_ | intro (_ : _ ≤ _)); refine hK _ ?_; clear hK K)
    refine opsQ0 ?_
    refine hK3 _ ?_
    refine Sm.condK (by rfl) fun Ka Kb ha hb => ?_
    simp only [wpCond, z, seval]
    refine ha ?_
    refine Sm.seqA h00 mixed hΓ (by kernel_rfl) fun K7 hK7 => ?_
    simp only [rs]
    repeat (refine opsG fun K hK => ?_; simp only [z, seval]; (repeat first | refine gcI ?_ | intro (_ : _ ≤ _)); refine hK _ ?_; clear hK K)
    refine hK7 _ ?_
    refine Sm.ret ?_
    try simp only [seval, Exit.exit.injEq]
    obtain rfl := Option.some.inj H
    refine Ret.ofR [none] (.inr rfl) ?_
    simp only [z, seval]
    try omega
  try simp only [hs5, Bool.not_false, Bool.not_true, Bool.false_eq_true, true_implies, false_implies, forall_const] at hg4
  obtain ⟨hg8, H⟩ := gd_some H
  obtain ⟨r1, hr1, H⟩ := bind_some H
  obtain ⟨hg9, H⟩ := gd_some H
  obtain ⟨r2, hr2, H⟩ := bind_some H
  refine Sm.seqQ h00 mixed hΓ [0, 1, 2, 3, 4, 5, 6, 7, 8, 9, 10] [(none, [], []), (none, [], []), (none, [], []), (none, [], []), (none, [], []), (none, [], []), (none, [], []), (some true, [], [255, 254, 253, 252, 251, 250, 249, 248, 247, 246, 245, 244, 243, 242, 241, 240]), (some true, [240], [271, 270, 269, 268, 267, 266, 265, 264, 263, 262, 261, 260, 259, 258, 257, 256, 240]), (some true, [], []), (some false, [], [])] (by kernel_rfl) rfl fun K3 hK3 => ?_
  simp only [rs]
  iterate 11 (refine opsQ fun K hK => ?_; simp only [z, seval, xspool_index, xbytes_Equal, hs5, hr1, hr2]; (repeat first | refine gcI ?_ | intro (_ : _ ≤ _)); refine hK _ ?_; clear hK K)
  refine opsQ0 ?_
  refine hK3 _ ?_
  refine Sm.condK (by rfl) fun Ka Kb ha hb => ?_
  simp only [wpCond, z, seval]
  refine ⟨fun h10 => ha ?_, fun h10 => hb ?_⟩
  · replace H := bt h10 H
    refine Sm.seqA h00 mixed hΓ (by kernel_rfl) fun K11 hK11 => ?_
    simp only [rs]
    repeat (refine opsG fun K hK => ?_; simp only [z, seval]; (repeat first | refine gcI ?_ | intro (_ : _ ≤ _)); refine hK _ ?_; clear hK K)
    refine hK11 _ ?_
    refine Sm.ret ?_
    try simp only [seval, Exit.exit.injEq]
    obtain rfl := Option.some.inj H
    refine Ret.ofR [none] (.inr rfl) ?_
    simp only [z, seval]
    try omega
  replace H := bf h10 H
  refine Sm.skip ?_
  refine hK2 _ ?_
  refine Sm.seqA h00 mixed hΓ (by kernel_rfl) fun K12 hK12 => ?_
  simp only [rs]
  repeat (refine opsG fun K hK => ?_; simp only [z, seval]; (repeat first | refine gcI ?_ | intro (_ : _ ≤ _)); refine hK _ ?_; clear hK K)
  refine hK12 _ ?_
  refine Sm.cut (fun (x : (List TLine)) => spool_group_s1 x) (fun x => spool_group_k1 n x = some r) ?_ ?_
  · obtain ⟨hg31, H⟩ := gd_some H
    refine Sm.seqA h00 mixed hΓ (by kernel_rfl) fun K14 hK14 => ?_
    simp only [rs]
    repeat (refine opsG fun K hK => ?_; simp only [z, seval]; (repeat first | refine gcI ?_ | intro (_ : _ ≤ _)); refine hK _ ?_; clear hK K)
    refine hK14 _ ?_
    refine Sm.block ?_
    obtain ⟨y15, hy15, Ho15⟩ := bind_some H
    refine Sm.loopB (fun (x : (List Int) × (List TLine)) => spool_group_b2 n x.1 x.2) (fun x => spool_group_t2 x.1 x.2) hy15 ?_ ?_
    · exact weak_b [none] rfl rfl rfl (by simp only [wk, z, seval]) (by simp only [wk, z, seval])
    rintro ⟨b_1, l_1⟩ z15 H
    try dsimp only at H
    unfold spool_group_b2 at H
    refine Sm.seqK fun K16 hK16 => ?_
    refine Sm.seqA h00 mixed hΓ (by kernel_rfl) fun K17 hK17 => ?_
    simp only [rs]
    repeat (refine opsG fun K hK => ?_; simp only [z, seval, spool_group_t2]; (repeat first | refine gcI ?_ | intro (_ : _ ≤ _)); refine hK _ ?_; clear hK K)
    refine hK17 _ ?_
    refine Sm.condK (by rfl) fun Ka Kb ha hb => ?_
    simp only [wpCond, z, seval, spool_group_t2]
    refine ⟨fun h18 => ha ?_, fun h18 => hb ?_⟩
    · replace H := bt h18 H
      refine Sm.skip ?_
      refine hK16 _ ?_
      refine Sm.block ?_
      refine Sm.seqK fun K19 hK19 => ?_
      obtain ⟨hg30, H⟩ := gd_some H
      refine Sm.seqA h00 mixed hΓ (by kernel_rfl) fun K20 hK20 => ?_
      simp only [rs]
      repeat (refine opsG fun K hK => ?_; simp only [z, seval, spool_group_t2]; (repeat first | refine gcI ?_ | intro (_ : _ ≤ _)); refine hK _ ?_; clear hK K)
      refine hK20 _ ?_
      refine Sm.condK (by rfl) fun Ka Kb ha hb => ?_
      simp only [wpCond, z, seval, spool_group_t2]
      refine ⟨fun h21 => ha ?_, fun h21 => hb ?_⟩
      · replace H := bt h21 H
        refine Sm.seqA h00 mixed hΓ (by kernel_rfl) fun K22 hK22 => ?_
        simp only [rs]
        repeat (refine opsG fun K hK => ?_; simp only [z, seval, spool_group_t2]; (repeat first | refine gcI ?_ | intro (_ : _ ≤ _)); refine hK _ ?_; clear hK K)
        refine hK22 _ ?_
        refine Sm.ret ?_
        try simp only [seval, Exit.exit.injEq]
        refine ⟨⟨_, (Option.some.inj H).symm⟩, fun hz => ?_⟩
        have hyy := Sum.inr.inj ((Option.some.inj H).trans hz)
        subst hyy
        have H := Ho15
        try dsimp only at H
        try simp only [seval, Exit.exit.injEq]
        obtain rfl := Option.some.inj H
        refine Ret.ofR [none] (.inr rfl) ?_
        simp only [z, seval, spool_group_t2]
        try omega
      replace H := bf h21 H
      refine Sm.skip ?_
      refine hK19 _ ?_
      obtain ⟨hg29, H⟩ := gd_some H
      refine Sm.seqA h00 mixed hΓ (by kernel_rfl) fun K23 hK23 => ?_
      simp only [rs]
      repeat (refine opsG fun K hK => ?_; simp only [z, seval, spool_group_t2]; (repeat first | refine gcI ?_ | intro (_ : _ ≤ _)); refine hK _ ?_; clear hK K)
      refine hK23 _ ?_
      obtain ⟨⟨hg25, hg26, hg27⟩, H⟩ := gd_some H
      refine Sm.seqQ h00 mixed hΓ [0, 1, 2, 3, 4, 5, 6, 7, 8, 9, 10, 11, 12] [(none, [], []), (none, [], []), (none, [], []), (none, [], []), (none, [], []), (none, [], []), (none, [], []), (none, [], []), (none, [1000001], []), (none, [], []), (none, [], [832]), (none, [832, 9002], [848, 9002]), (none, [], [])] (by kernel_rfl) rfl fun K24 hK24 => ?_
      simp only [rs]
      iterate 8 (refine opsQ fun K hK => ?_; simp only [z, seval, spool_group_t2]; (repeat first | refine gcI ?_ | intro (_ : _ ≤ _)); refine hK _ ?_; clear hK K)
      iterate 1 (refine opsQV (by rfl) fun K hK => ?_; simp only [z, seval, spool_group_t2]; (repeat first | refine gcI ?_ | intro (_ : _ ≤ _)); refine hK _ ?_; clear hK K)
      iterate 4 (refine opsQ fun K hK => ?_; simp only [z, seval, spool_group_t2]; (repeat first | refine gcI ?_ | intro (_ : _ ≤ _)); refine hK _ ?_; clear hK K)
      refine opsQ0 ?_
      refine hK24 _ ?_
      obtain ⟨hg28, H⟩ := gd_some H
      refine Sm.regA h00 mixed hΓ (by kernel_rfl) ?_
      simp only [rs]
      repeat (refine opsG fun K hK => ?_; simp only [z, seval, spool_group_t2]; (repeat first | refine gcI ?_ | intro (_ : _ ≤ _)); refine hK _ ?_; clear hK K)
      refine opsG0 ?_
      try simp only [seval, Exit.exit.injEq]
      refine ⟨(_, _), (Option.some.inj H).symm, ?_⟩
      exact weak_b [some 848] rfl rfl rfl (by simp only [wk, z, seval, spool_group_t2]) (by simp only [wk, z, seval, spool_group_t2])
    replace H := bf h18 H
    refine Sm.exit ?_
    try simp only [seval, Exit.exit.injEq]
    refine ⟨⟨_, (Option.some.inj H).symm⟩, fun hz => ?_⟩
    have hyy := Sum.inr.inj ((Option.some.inj H).trans hz)
    subst hyy
    have H := Ho15
    try dsimp only at H
    try simp only [seval, Exit.exit.injEq]
    refine ⟨_, H, ?_⟩
    exact weak_b [some 9002] rfl rfl rfl (by simp only [wk, z, seval, spool_group_t2]) (by simp only [wk, z, seval, spool_group_t2])
  rintro l H
  try dsimp only at H
  unfold spool_group_k1 at H
  refine Sm.seqA h00 mixed hΓ (by kernel_rfl) fun K13 hK13 => ?_
  simp only [rs]
  repeat (refine opsG fun K hK => ?_; simp only [z, seval, spool_group_s1]; (repeat first | refine gcI ?_ | intro (_ : _ ≤ _)); refine hK _ ?_; clear hK K)
  refine hK13 _ ?_
  refine Sm.ret ?_
  try simp only [seval, Exit.exit.injEq]
  obtain rfl := Option.some.inj H
  refine Ret.ofR [some 9000] (.inr rfl) ?_
  simp only [z, seval, spool_group_s1]
  try omega
def spool_same (n : Nat) (a : TRec) (b : TRec) : Option Bool :=
  gd (((if (a.R == b.R) = true then (a.Bad == b.Bad) else false) = true → (bytes_Equal n a.Key b.Key).isSome = true) ∧ ((if (if (a.R == b.R) = true then (a.Bad == b.Bad) else false) = true then ((bytes_Equal n a.Key b.Key).getD default) else false) = true → (bytes_Equal n a.Data b.Data).isSome = true)) <|
  some (if (if (if (a.R == b.R) = true then (a.Bad == b.Bad) else false) = true then ((bytes_Equal n a.Key b.Key).getD default) else false) = true then ((bytes_Equal n a.Data b.Data).getD default) else false)
def xspool_same (n : Nat) : Go.AE.Fn := mkFn (A := TRec × TRec) (R := Bool) 55 [(true, [.int .i64, .slice 5, .slice 5, .bool]), (true, [.int .i64, .slice 5, .slice 5, .bool])] false (fun xs => ((⟨(cg (xs.getD 0 []) 0).toInt, ((cg (xs.getD 0 []) 1).toSl.map d_Int), ((cg (xs.getD 0 []) 2).toSl.map d_Int), (cg (xs.getD 0 []) 3).toBool⟩ : TRec), (⟨(cg (xs.getD 1 []) 0).toInt, ((cg (xs.getD 1 []) 1).toSl.map d_Int), ((cg (xs.getD 1 []) 2).toSl.map d_Int), (cg (xs.getD 1 []) 3).toBool⟩ : TRec))) (fun a => [[.int a.1.R, .slice (List.map e_Int a.1.Key), .slice (List.map e_Int a.1.Data), .bool a.1.Bad], [.int a.2.R, .slice (List.map e_Int a.2.Key), .slice (List.map e_Int a.2.Data), .bool a.2.Bad]]) (fun a => spool_same n a.1 a.2) (fun r => [.c .bool (.bool r)]) (fun r => [])
theorem cspool_same (n : Nat) : Contract Try.prog (xspool_same n) := by
  have hΓ : ∀ g, g ∈ ([xbytes_Equal n] : List Go.AE.Fn) → Contract Try.prog g := by
    intro g hg; simp only [List.mem_cons, List.not_mem_nil, or_false] at hg; subst hg; exact cbytes_Equal n
  refine contract_f (Try.f55.body.getD .skip) h00 Try.func55 rfl (by intro args w; exact Try.call55 args w) (by decide) (by intro _ r; exact ⟨rfl, by simp⟩) ?_
  rintro ⟨a, b⟩ r H
  try dsimp only at H
  unfold spool_same at H
  simp only [Try.f55, Option.getD]
  refine Sm.seqA h00 mixed hΓ (by kernel_rfl) fun K1 hK1 => ?_
  simp only [rs]
  repeat (refine opsG fun K hK => ?_; simp only [z, seval]; (repeat first | refine gcI ?_ | intro (_ : _ ≤ _)); refine hK _ ?_; clear hK K)
  refine hK1 _ ?_
  obtain ⟨⟨hg3, hg4⟩, H⟩ := gd_some H
  refine Sm.seqA h00 mixed hΓ (by kernel_rfl) fun K2 hK2 => ?_
  simp only [rs]
  repeat (refine opsG fun K hK => ?_; simp only [z, seval, xbytes_Equal]; (repeat first | refine gcI ?_ | intro (_ : _ ≤ _)); refine hK _ ?_; clear hK K)
  refine hK2 _ ?_
  refine Sm.ret ?_
  try simp only [seval, Exit.exit.injEq]
  obtain rfl := Option.some.inj H
  refine Ret.ofR [] (.inr rfl) ?_
  simp only [z, seval]
abbrev slices_EqualFunc_f54_M1_s1 : S := stB [] []
def slices_EqualFunc_f54_M1_k1 (n : Nat) : Option Bool :=
  some true
abbrev slices_EqualFunc_f54_M1_t2 (s2 : List TRec) (s1 : List TRec) (v16 : Int) (v17 : Int) : S := stB [(1, .c (.slice 59) (.slice (List.map e_TRec s2))), (2, .fnv 55 []), (15, .c (.slice 59) (.slice (List.map e_TRec s1))), (16, .c (.int .i64) (.int v16)), (17, .c (.int .i64) (.int v17))] []
def slices_EqualFunc_f54_M1_b2 (n : Nat) (s2 : List TRec) (s1 : List TRec) (v16 : Int) (v17 : Int) : Option ((Int) ⊕ (((Bool) ⊕ (Unit)))) :=
  bif (decide (v17 < v16)) then
    gd ((0 ≤ v17 ∧ v17 < (s1.length : Int))) <|
    gd ((0 ≤ v17 ∧ v17 < (s2.length : Int))) <|
    (spool_same n (gt s1 (Int.toNat v17)) (gt s2 (Int.toNat v17))).bind fun r1 =>
    bif (!r1) then
      some (.inr (.inl false))
    else
      some (.inl (IntKind.wrap .i64 (v17 + 1)))
  else
    some (.inr (.inr ()))
def slices_EqualFunc_f54_M1 (n : Nat) (s1 : List TRec) (s2 : List TRec) : Option Bool :=
  bif ((s1.length : Int) != (s2.length : Int)) then
    some false
  else
    (loopF (fun (x : Int) => slices_EqualFunc_f54_M1_b2 n s2 s1 (s1.length : Int) x) n 0).bind fun y8 =>
    match y8 with
    | .inl v =>
      some v
    | .inr v =>
      slices_EqualFunc_f54_M1_k1 n
theorem cslices_EqualFunc_f54_M1 (n : Nat) (s1 : List TRec) (s2 : List TRec) (r : Bool) (H : slices_EqualFunc_f54_M1 n s1 s2 = some r) : CallsM Try.prog 54 [.dat (false, [.slice 59]) [.slice (List.map e_TRec s1)], .dat (false, [.slice 59]) [.slice (List.map e_TRec s2)], .ref (.fnv 55 [])] [] [.c .bool (.bool r)] [] := by
  have hΓ : ∀ g, g ∈ ([xspool_same n] : List Go.AE.Fn) → Contract Try.prog g := by
    intro g hg; simp only [List.mem_cons, List.not_mem_nil, or_false] at hg; subst hg; exact cspool_same n
  refine callsM_of (Try.f54.body.getD .skip) h00 Try.func54 rfl (by intro args w; exact Try.call54 args w) (Nat.le_of_ble_eq_true rfl) (Nat.le_of_ble_eq_true rfl) ?_
  unfold slices_EqualFunc_f54_M1 at H
  simp only [Try.f54, Option.getD]
  refine Sm.seqA h00 mixed hΓ (by kernel_rfl) fun K1 hK1 => ?_
  simp only [rs]
  repeat (refine opsG fun K hK => ?_; simp only [z, seval]; (repeat first | refine gcI ?_ | intro (_ : _ ≤ _)); refine hK _ ?_; clear hK K)
  refine hK1 _ ?_
  refine Sm.seqK fun K2 hK2 => ?_
  refine Sm.seqA h00 mixed hΓ (by kernel_rfl) fun K3 hK3 => ?_
  simp only [rs]
  repeat (refine opsG fun K hK => ?_; simp only [z, seval]; (repeat first | refine gcI ?_ | intro (_ : _ ≤ _)); refine hK _ ?_; clear hK K)
  refine hK3 _ ?_
  refine Sm.condK (by rfl) fun Ka Kb ha hb => ?_
  simp only [wpCond, z, seval]
  refine ⟨fun h4 => ha ?_, fun h4 => hb ?_⟩
  · replace H := bt h4 H
    refine Sm.seqA h00 mixed hΓ (by kernel_rfl) fun K5 hK5 => ?_
    simp only [rs]
    repeat (refine opsG fun K hK => ?_; simp only [z, seval]; (repeat first | refine gcI ?_ | intro (_ : _ ≤ _)); refine hK _ ?_; clear hK K)
    refine hK5 _ ?_
    refine Sm.ret ?_
    try simp only [seval, Exit.exit.injEq]
    obtain rfl := Option.some.inj H
    refine RetM.mk (.inr rfl) [] rfl ?_
    simp only [z, seval]
  replace H := bf h4 H
  refine Sm.skip ?_
  refine hK2 _ ?_
  refine Sm.cut (fun (x : Unit) => slices_EqualFunc_f54_M1_s1) (fun x => slices_EqualFunc_f54_M1_k1 n = some r) ?_ ?_
  · refine Sm.seqA h00 mixed hΓ (by kernel_rfl) fun K7 hK7 => ?_
    simp only [rs]
    repeat (refine opsG fun K hK => ?_; simp only [z, seval]; (repeat first | refine gcI ?_ | intro (_ : _ ≤ _)); refine hK _ ?_; clear hK K)
    refine hK7 _ ?_
    refine Sm.block ?_
    obtain ⟨y8, hy8, Ho8⟩ := bind_some H
    refine Sm.loopB (fun (x : Int) => slices_EqualFunc_f54_M1_b2 n s2 s1 (s1.length : Int) x) (fun x => slices_EqualFunc_f54_M1_t2 s2 s1 (s1.length : Int) x) hy8 ?_ ?_
    · exact weak_b [] rfl rfl rfl (by simp only [wk, z, seval]) (by simp only [wk, z, seval])
    rintro v17 z8 H
    try dsimp only at H
    unfold slices_EqualFunc_f54_M1_b2 at H
    refine Sm.seqA h00 mixed hΓ (by kernel_rfl) fun K9 hK9 => ?_
    simp only [rs]
    repeat (refine opsG fun K hK => ?_; simp only [z, seval, slices_EqualFunc_f54_M1_t2]; (repeat first | refine gcI ?_ | intro (_ : _ ≤ _)); refine hK _ ?_; clear hK K)
    refine hK9 _ ?_
    refine Sm.seqK fun K10 hK10 => ?_
    refine Sm.condK (by rfl) fun Ka Kb ha hb => ?_
    simp only [wpCond, z, seval, slices_EqualFunc_f54_M1_t2]
    refine ⟨fun h11 => ha ?_, fun h11 => hb ?_⟩
    · replace H := bt h11 H
      refine Sm.skip ?_
      refine hK10 _ ?_
      refine Sm.seqK fun K12 hK12 => ?_
      refine Sm.block ?_
      obtain ⟨hg19, H⟩ := gd_some H
      refine Sm.seqA h00 mixed hΓ (by kernel_rfl) fun K13 hK13 => ?_
      simp only [rs]
      repeat (refine opsG fun K hK => ?_; simp only [z, seval, slices_EqualFunc_f54_M1_t2]; (repeat first | refine gcI ?_ | intro (_ : _ ≤ _)); refine hK _ ?_; clear hK K)
      refine hK13 _ ?_
      obtain ⟨hg18, H⟩ := gd_some H
      refine Sm.seqA h00 mixed hΓ (by kernel_rfl) fun K14 hK14 => ?_
      simp only [rs]
      repeat (refine opsG fun K hK => ?_; simp only [z, seval, slices_EqualFunc_f54_M1_t2]; (repeat first | refine gcI ?_ | intro (_ : _ ≤ _)); refine hK _ ?_; clear hK K)
      refine hK14 _ ?_
      obtain ⟨r1, hr1, H⟩ := bind_some H
      refine Sm.seqA h00 mixed hΓ (by kernel_rfl) fun K15 hK15 => ?_
      simp only [rs]
      repeat (refine opsG fun K hK => ?_; simp only [z, seval, slices_EqualFunc_f54_M1_t2, xspool_same, hr1]; (repeat first | refine gcI ?_ | intro (_ : _ ≤ _)); refine hK _ ?_; clear hK K)
      refine hK15 _ ?_
      refine Sm.condK (by rfl) fun Ka Kb ha hb => ?_
      simp only [wpCond, z, seval, slices_EqualFunc_f54_M1_t2]
      refine ⟨fun h16 => ha ?_, fun h16 => hb ?_⟩
      · replace H := bt h16 H
        refine Sm.seqA h00 mixed hΓ (by kernel_rfl) fun K17 hK17 => ?_
        simp only [rs]
        repeat (refine opsG fun K hK => ?_; simp only [z, seval, slices_EqualFunc_f54_M1_t2]; (repeat first | refine gcI ?_ | intro (_ : _ ≤ _)); refine hK _ ?_; clear hK K)
        refine hK17 _ ?_
        refine Sm.ret ?_
        try simp only [seval, Exit.exit.injEq]
        refine ⟨⟨_, (Option.some.inj H).symm⟩, fun hz => ?_⟩
        have hyy := Sum.inr.inj ((Option.some.inj H).trans hz)
        subst hyy
        have H := Ho8
        try dsimp only at H
        try simp only [seval, Exit.exit.injEq]
        obtain rfl := Option.some.inj H
        refine RetM.mk (.inr rfl) [] rfl ?_
        simp only [z, seval, slices_EqualFunc_f54_M1_t2]
      replace H := bf h16 H
      refine Sm.skip ?_
      refine hK12 _ ?_
      refine Sm.regA h00 mixed hΓ (by kernel_rfl) ?_
      simp only [rs]
      repeat (refine opsG fun K hK => ?_; simp only [z, seval, slices_EqualFunc_f54_M1_t2]; (repeat first | refine gcI ?_ | intro (_ : _ ≤ _)); refine hK _ ?_; clear hK K)
      refine opsG0 ?_
      try simp only [seval, Exit.exit.injEq]
      refine ⟨_, (Option.some.inj H).symm, ?_⟩
      exact weak_b [] rfl rfl rfl (by simp only [wk, z, seval, slices_EqualFunc_f54_M1_t2]) (by simp only [wk, z, seval, slices_EqualFunc_f54_M1_t2])
    replace H := bf h11 H
    refine Sm.exit ?_
    try simp only [seval, Exit.exit.injEq]
    refine ⟨⟨_, (Option.some.inj H).symm⟩, fun hz => ?_⟩
    have hyy := Sum.inr.inj ((Option.some.inj H).trans hz)
    subst hyy
    have H := Ho8
    try dsimp only at H
    try simp only [seval, Exit.exit.injEq]
    refine ⟨(), H, ?_⟩
    exact weak_b [] rfl rfl rfl (by simp only [wk, z, seval, slices_EqualFunc_f54_M1_t2]) (by simp only [wk, z, seval, slices_EqualFunc_f54_M1_t2])
  rintro ⟨⟩ H
  try dsimp only at H
  unfold slices_EqualFunc_f54_M1_k1 at H
  refine Sm.seqA h00 mixed hΓ (by kernel_rfl) fun K6 hK6 => ?_
  simp only [rs]
  repeat (refine opsG fun K hK => ?_; simp only [z, seval, slices_EqualFunc_f54_M1_s1]; (repeat first | refine gcI ?_ | intro (_ : _ ≤ _)); refine hK _ ?_; clear hK K)
  refine hK6 _ ?_
  refine Sm.ret ?_
  try simp only [seval, Exit.exit.injEq]
  obtain rfl := Option.some.inj H
  refine RetM.mk (.inr rfl) [] rfl ?_
  simp only [z, seval, slices_EqualFunc_f54_M1_s1]
def spool_Lines_1 (n : Nat) (a : List TRec) (b : List TRec) : Option Bool :=
  (slices_EqualFunc_f54_M1 n a b).bind fun r1 =>
  some r1
def xspool_Lines_1 (n : Nat) : Go.AE.Fn := mkFn (A := (List TRec) × (List TRec)) (R := Bool) 53 [(false, [.slice 59]), (false, [.slice 59])] false (fun xs => (((cg (xs.getD 0 []) 0).toSl.map d_TRec), ((cg (xs.getD 1 []) 0).toSl.map d_TRec))) (fun a => [[.slice (List.map e_TRec a.1)], [.slice (List.map e_TRec a.2)]]) (fun a => spool_Lines_1 n a.1 a.2) (fun r => [.c .bool (.bool r)]) (fun r => [])
theorem cspool_Lines_1 (n : Nat) : Contract Try.prog (xspool_Lines_1 n) := by
  have hΓ : ∀ g, g ∈ ([] : List Go.AE.Fn) → Contract Try.prog g := by simp
  refine contract_f (Try.f53.body.getD .skip) h00 Try.func53 rfl (by intro args w; exact Try.call53 args w) (by decide) (by intro _ r; exact ⟨rfl, by simp⟩) ?_
  rintro ⟨a, b⟩ r H
  try dsimp only at H
  unfold spool_Lines_1 at H
  simp only [Try.f53, Option.getD]
  refine Sm.seqA h00 mixed hΓ (by kernel_rfl) fun K1 hK1 => ?_
  simp only [rs]
  repeat (refine opsG fun K hK => ?_; simp only [z, seval]; (repeat first | refine gcI ?_ | intro (_ : _ ≤ _)); refine hK _ ?_; clear hK K)
  refine hK1 _ ?_
  refine Sm.seqX h00 mixed hΓ (by kernel_rfl) fun K2 hK2 => ?_
  simp only [rs]
  obtain ⟨r1, hr1, H⟩ := bind_some H
  iterate 2 (refine opsX fun K hK => ?_; simp only [z, seval]; (repeat first | refine gcI ?_ | intro (_ : _ ≤ _)); refine hK _ ?_; clear hK K)
  refine opsM (cslices_EqualFunc_f54_M1 n _ _ r1 hr1) [] [] (by simp only [z, seval, hr1]; try rfl) (by simp only [z, seval, hr1]) (by simp only [z, seval, hr1]) (by simp only [z, seval, hr1]) (by simp only [z, seval, hr1]) rfl (by simp only [z, seval, hr1]) rfl ?_
  (refine opsX fun K hK => ?_; simp only [z, seval, hr1]; (repeat first | refine gcI ?_ | intro (_ : _ ≤ _)); refine hK _ ?_; clear hK K)
  refine hK2 _ ?_
  refine Sm.ret ?_
  try simp only [seval, Exit.exit.injEq]
  obtain rfl := Option.some.inj H
  refine Ret.ofR [] (.inr rfl) ?_
  simp only [z, seval]
abbrev slices_EqualFunc_f52_M1_s1 : S := stB [] []
def slices_EqualFunc_f52_M1_k1 (n : Nat) : Option Bool :=
  some true
abbrev slices_EqualFunc_f52_M1_t2 (s2 : List (List TRec)) (s1 : List (List TRec)) (v16 : Int) (v17 : Int) : S := stB [(1, .c (.slice 57) (.slice (List.map e_LTRec s2))), (2, .fnv 53 []), (15, .c (.slice 57) (.slice (List.map e_LTRec s1))), (16, .c (.int .i64) (.int v16)), (17, .c (.int .i64) (.int v17))] []
def slices_EqualFunc_f52_M1_b2 (n : Nat) (s2 : List (List TRec)) (s1 : List (List TRec)) (v16 : Int) (v17 : Int) : Option ((Int) ⊕ (((Bool) ⊕ (Unit)))) :=
  bif (decide (v17 < v16)) then
    gd ((0 ≤ v17 ∧ v17 < (s1.length : Int))) <|
    gd ((0 ≤ v17 ∧ v17 < (s2.length : Int))) <|
    (spool_Lines_1 n (gt s1 (Int.toNat v17)) (gt s2 (Int.toNat v17))).bind fun r1 =>
    bif (!r1) then
      some (.inr (.inl false))
    else
      some (.inl (IntKind.wrap .i64 (v17 + 1)))
  else
    some (.inr (.inr ()))
def slices_EqualFunc_f52_M1 (n : Nat) (s1 : List (List TRec)) (s2 : List (List TRec)) : Option Bool :=
  bif ((s1.length : Int) != (s2.length : Int)) then
    some false
  else
    (loopF (fun (x : Int) => slices_EqualFunc_f52_M1_b2 n s2 s1 (s1.length : Int) x) n 0).bind fun y8 =>
    match y8 with
    | .inl v =>
      some v
    | .inr v =>
      slices_EqualFunc_f52_M1_k1 n
theorem cslices_EqualFunc_f52_M1 (n : Nat) (s1 : List (List TRec)) (s2 : List (List TRec)) (r : Bool) (H : slices_EqualFunc_f52_M1 n s1 s2 = some r) : CallsM Try.prog 52 [.dat (false, [.slice 57]) [.slice (List.map e_LTRec s1)], .dat (false, [.slice 57]) [.slice (List.map e_LTRec s2)], .ref (.fnv 53 [])] [] [.c .bool (.bool r)] [] := by
  have hΓ : ∀ g, g ∈ ([xspool_Lines_1 n] : List Go.AE.Fn) → Contract Try.prog g := by
    intro g hg; simp only [List.mem_cons, List.not_mem_nil, or_false] at hg; subst hg; exact cspool_Lines_1 n
  refine callsM_of (Try.f52.body.getD .skip) h00 Try.func52 rfl (by intro args w; exact Try.call52 args w) (Nat.le_of_ble_eq_true rfl) (Nat.le_of_ble_eq_true rfl) ?_
  unfold slices_EqualFunc_f52_M1 at H
  simp only [Try.f52, Option.getD]
  refine Sm.seqA h00 mixed hΓ (by kernel_rfl) fun K1 hK1 => ?_
  simp only [rs]
  repeat (refine opsG fun K hK => ?_; simp only [z, seval]; (repeat first | refine gcI ?_ | intro (_ : _ ≤ _)); refine hK _ ?_; clear hK K)
  refine hK1 _ ?_
  refine Sm.seqK fun K2 hK2 => ?_
  refine Sm.seqA h00 mixed hΓ (by kernel_rfl) fun K3 hK3 => ?_
  simp only [rs]
  repeat (refine opsG fun K hK => ?_; simp only [z, seval]; (repeat first | refine gcI ?_ | intro (_ : _ ≤ _)); refine hK _ ?_; clear hK K)
  refine hK3 _ ?_
  refine Sm.condK (by rfl) fun Ka Kb ha hb => ?_
  simp only [wpCond, z, seval]
  refine ⟨fun h4 => ha ?_, fun h4 => hb ?_⟩
  · replace H := bt h4 H
    refine Sm.seqA h00 mixed hΓ (by kernel_rfl) fun K5 hK5 => ?_
    simp only [rs]
    repeat (refine opsG fun K hK => ?_; simp only [z, seval]; (repeat first | refine gcI ?_ | intro (_ : _ ≤ _)); refine hK _ ?_; clear hK K)
    refine hK5 _ ?_
    refine Sm.ret ?_
    try simp only [seval, Exit.exit.injEq]
    obtain rfl := Option.some.inj H
    refine RetM.mk (.inr rfl) [] rfl ?_
    simp only [z, seval]
  replace H := bf h4 H
  refine Sm.skip ?_
  refine hK2 _ ?_
  refine Sm.cut (fun (x : Unit) => slices_EqualFunc_f52_M1_s1) (fun x => slices_EqualFunc_f52_M1_k1 n = some r) ?_ ?_
  · refine Sm.seqA h00 mixed hΓ (by kernel_rfl) fun K7 hK7 => ?_
    simp only [rs]
    repeat (refine opsG fun K hK => ?_; simp only [z, seval]; (repeat first | refine gcI ?_ | intro (_ : _ ≤ _)); refine hK _ ?_; clear hK K)
    refine hK7 _ ?_
    refine Sm.block ?_
    obtain ⟨y8, hy8, Ho8⟩ := bind_some H
    refine Sm.loopB (fun (x : Int) => slices_EqualFunc_f52_M1_b2 n s2 s1 (s1.length : Int) x) (fun x => slices_EqualFunc_f52_M1_t2 s2 s1 (s1.length : Int) x) hy8 ?_ ?_
    · exact weak_b [] rfl rfl rfl (by simp only [wk, z, seval]) (by simp only [wk, z, seval])
    rintro v17 z8 H
    try dsimp only at H
    unfold slices_EqualFunc_f52_M1_b2 at H
    refine Sm.seqA h00 mixed hΓ (by kernel_rfl) fun K9 hK9 => ?_
    simp only [rs]
    repeat (refine opsG fun K hK => ?_; simp only [z, seval, slices_EqualFunc_f52_M1_t2]; (repeat first | refine gcI ?_ | intro (_ : _ ≤ _)); refine hK _ ?_; clear hK K)
    refine hK9 _ ?_
    refine Sm.seqK fun K10 hK10 => ?_
    refine Sm.condK (by rfl) fun Ka Kb ha hb => ?_
    simp only [wpCond, z, seval, slices_EqualFunc_f52_M1_t2]
    refine ⟨fun h11 => ha ?_, fun h11 => hb ?_⟩
    · replace H := bt h11 H
      refine Sm.skip ?_
      refine hK10 _ ?_
      refine Sm.seqK fun K12 hK12 => ?_
      refine Sm.block ?_
      obtain ⟨hg19, H⟩ := gd_some H
      refine Sm.seqA h00 mixed hΓ (by kernel_rfl) fun K13 hK13 => ?_
      simp only [rs]
      repeat (refine opsG fun K hK => ?_; simp only [z, seval, slices_EqualFunc_f52_M1_t2]; (repeat first | refine gcI ?_ | intro (_ : _ ≤ _)); refine hK _ ?_; clear hK K)
      refine hK13 _ ?_
      obtain ⟨hg18, H⟩ := gd_some H
      refine Sm.seqA h00 mixed hΓ (by kernel_rfl) fun K14 hK14 => ?_
      simp only [rs]
      repeat (refine opsG fun K hK => ?_; simp only [z, seval, slices_EqualFunc_f52_M1_t2]; (repeat first | refine gcI ?_ | intro (_ : _ ≤ _)); refine hK _ ?_; clear hK K)
      refine hK14 _ ?_
      obtain ⟨r1, hr1, H⟩ := bind_some H
      refine Sm.seqA h00 mixed hΓ (by kernel_rfl) fun K15 hK15 => ?_
      simp only [rs]
      repeat (refine opsG fun K hK => ?_; simp only [z, seval, slices_EqualFunc_f52_M1_t2, xspool_Lines_1, hr1]; (repeat first | refine gcI ?_ | intro (_ : _ ≤ _)); refine hK _ ?_; clear hK K)
      refine hK15 _ ?_
      refine Sm.condK (by rfl) fun Ka Kb ha hb => ?_
      simp only [wpCond, z, seval, slices_EqualFunc_f52_M1_t2]
      refine ⟨fun h16 => ha ?_, fun h16 => hb ?_⟩
      · replace H := bt h16 H
        refine Sm.seqA h00 mixed hΓ (by kernel_rfl) fun K17 hK17 => ?_
        simp only [rs]
        repeat (refine opsG fun K hK => ?_; simp only [z, seval, slices_EqualFunc_f52_M1_t2]; (repeat first | refine gcI ?_ | intro (_ : _ ≤ _)); refine hK _ ?_; clear hK K)
        refine hK17 _ ?_
        refine Sm.ret ?_
        try simp only [seval, Exit.exit.injEq]
        refine ⟨⟨_, (Option.some.inj H).symm⟩, fun hz => ?_⟩
        have hyy := Sum.inr.inj ((Option.some.inj H).trans hz)
        subst hyy
        have H := Ho8
        try dsimp only at H
        try simp only [seval, Exit.exit.injEq]
        obtain rfl := Option.some.inj H
        refine RetM.mk (.inr rfl) [] rfl ?_
        simp only [z, seval, slices_EqualFunc_f52_M1_t2]
      replace H := bf h16 H
      refine Sm.skip ?_
      refine hK12 _ ?_
      refine Sm.regA h00 mixed hΓ (by kernel_rfl) ?_
      simp only [rs]
      repeat (refine opsG fun K hK => ?_; simp only [z, seval, slices_EqualFunc_f52_M1_t2]; (repeat first | refine gcI ?_ | intro (_ : _ ≤ _)); refine hK _ ?_; clear hK K)
      refine opsG0 ?_
      try simp only [seval, Exit.exit.injEq]
      refine ⟨_, (Option.some.inj H).symm, ?_⟩
      exact weak_b [] rfl rfl rfl (by simp only [wk, z, seval, slices_EqualFunc_f52_M1_t2]) (by simp only [wk, z, seval, slices_EqualFunc_f52_M1_t2])
    replace H := bf h11 H
    refine Sm.exit ?_
    try simp only [seval, Exit.exit.injEq]
    refine ⟨⟨_, (Option.some.inj H).symm⟩, fun hz => ?_⟩
    have hyy := Sum.inr.inj ((Option.some.inj H).trans hz)
    subst hyy
    have H := Ho8
    try dsimp only at H
    try simp only [seval, Exit.exit.injEq]
    refine ⟨(), H, ?_⟩
    exact weak_b [] rfl rfl rfl (by simp only [wk, z, seval, slices_EqualFunc_f52_M1_t2]) (by simp only [wk, z, seval, slices_EqualFunc_f52_M1_t2])
  rintro ⟨⟩ H
  try dsimp only at H
  unfold slices_EqualFunc_f52_M1_k1 at H
  refine Sm.seqA h00 mixed hΓ (by kernel_rfl) fun K6 hK6 => ?_
  simp only [rs]
  repeat (refine opsG fun K hK => ?_; simp only [z, seval, slices_EqualFunc_f52_M1_s1]; (repeat first | refine gcI ?_ | intro (_ : _ ≤ _)); refine hK _ ?_; clear hK K)
  refine hK6 _ ?_
  refine Sm.ret ?_
  try simp only [seval, Exit.exit.injEq]
  obtain rfl := Option.some.inj H
  refine RetM.mk (.inr rfl) [] rfl ?_
  simp only [z, seval, slices_EqualFunc_f52_M1_s1]
abbrev spool_Lines_s1 (t : List (List TRec)) (n_ : Int) (l : List TLine) : S := stB [(0, .c (.slice 57) (.slice (List.map e_LTRec t))), (1, .c (.int .i64) (.int n_)), (6, .own 9000 [.int .i64, .str] 0 l.length)] [(9000, .row 48 (List.map e_TLine l))]
def spool_Lines_k1 (n : Nat) (t : List (List TRec)) (n_ : Int) (l : List TLine) : Option ((List TLine) × Int) :=
  (spool_Tracks n l).bind fun r1 =>
  bif (if (r1.2 != 0) = true then true else (((l.length : Nat) : Int) != n_)) then
    some ([], 390)
  else
    gd ((!(if (r1.2 != 0) = true then true else (((l.length : Nat) : Int) != n_))) = true) <|
    (slices_EqualFunc_f52_M1 n r1.1 t).bind fun r2 =>
    bif (!r2) then
      some ([], 390)
    else
      some (l, 0)
abbrev spool_Lines_s3 (t : List (List TRec)) (n_ : Int) (l_2 : List TLine) (v16 : Int) (v17 : Int) : S := stB [(0, .c (.slice 57) (.slice (List.map e_LTRec t))), (1, .c (.int .i64) (.int n_)), (6, .own 9003 [.int .i64, .str] 0 l_2.length), (15, .c (.slice 57) (.slice (List.map e_LTRec t))), (16, .c (.int .i64) (.int v16)), (17, .c (.int .i64) (.int v17))] [(9003, .row 48 (List.map e_TLine l_2))]
def spool_Lines_k3 (n : Nat) (t : List (List TRec)) (n_ : Int) (l_2 : List TLine) (v16 : Int) (v17 : Int) : Option (((List TLine) × Int) ⊕ ((((List TLine) × Int) ⊕ ((List TLine))))) :=
  some (.inl (l_2, (IntKind.wrap .i64 (v17 + 1))))
abbrev spool_Lines_t4 (t : List (List TRec)) (n_ : Int) (v16 : Int) (v17 : Int) (v21 : List TRec) (v22 : Int) (l_3 : List TLine) (v23 : Int) : S := stB [(0, .c (.slice 57) (.slice (List.map e_LTRec t))), (1, .c (.int .i64) (.int n_)), (6, .own 9005 [.int .i64, .str] 0 l_3.length), (15, .c (.slice 57) (.slice (List.map e_LTRec t))), (16, .c (.int .i64) (.int v16)), (17, .c (.int .i64) (.int v17)), (21, .c (.slice 59) (.slice (List.map e_TRec v21))), (22, .c (.int .i64) (.int v22)), (23, .c (.int .i64) (.int v23))] [(9005, .row 48 (List.map e_TLine l_3))]
def spool_Lines_b4 (n : Nat) (t : List (List TRec)) (n_ : Int) (v16 : Int) (v17 : Int) (v21 : List TRec) (v22 : Int) (l_3 : List TLine) (v23 : Int) : Option (((List TLine) × Int) ⊕ ((((List TLine) × Int) ⊕ ((List TLine))))) :=
  bif (decide (v23 < v22)) then
    gd ((0 ≤ v23 ∧ v23 < (v21.length : Int))) <|
    (spool_group n ((gt v21 (Int.toNat v23)).Data) ((l_3.length : Nat) : Int)).bind fun r3 =>
    bif (if (!r3.2) = true then true else (decide ((IntKind.wrap .i64 (((l_3.length : Nat) : Int) + ((r3.1.length : Nat) : Int))) > (if 0 > n_ then 0 else n_)))) then
      some (.inr (.inl ([], 390)))
    else
      gd ((l_3.length + r3.1.length) ≤ 2147483648) <|
      some (.inl ((l_3 ++ r3.1), (IntKind.wrap .i64 (v23 + 1))))
  else
    some (.inr (.inr l_3))
abbrev spool_Lines_t2 (t : List (List TRec)) (n_ : Int) (v16 : Int) (l_1 : List TLine) (v17 : Int) : S := stB [(0, .c (.slice 57) (.slice (List.map e_LTRec t))), (1, .c (.int .i64) (.int n_)), (6, .own 9002 [.int .i64, .str] 0 l_1.length), (15, .c (.slice 57) (.slice (List.map e_LTRec t))), (16, .c (.int .i64) (.int v16)), (17, .c (.int .i64) (.int v17))] [(9002, .row 48 (List.map e_TLine l_1))]
def spool_Lines_b2 (n : Nat) (t : List (List TRec)) (n_ : Int) (v16 : Int) (l_1 : List TLine) (v17 : Int) : Option (((List TLine) × Int) ⊕ ((((List TLine) × Int) ⊕ ((List TLine))))) :=
  bif (decide (v17 < v16)) then
    gd ((0 ≤ v17 ∧ v17 < (t.length : Int))) <|
    (loopF (fun (x : (List TLine) × Int) => spool_Lines_b4 n t n_ v16 v17 (gt t (Int.toNat v17)) ((gt t (Int.toNat v17)).length : Int) x.1 x.2) n (l_1, 0)).bind fun y20 =>
    match y20 with
    | .inl v =>
      some (.inr (.inl (v.1, v.2)))
    | .inr v =>
      spool_Lines_k3 n t n_ v v16 v17
  else
    some (.inr (.inr l_1))
def spool_Lines (n : Nat) (t : List (List TRec)) (n_ : Int) : Option ((List TLine) × Int) :=
  (loopF (fun (x : (List TLine) × Int) => spool_Lines_b2 n t n_ (t.length : Int) x.1 x.2) n ([], 0)).bind fun y14 =>
  match y14 with
  | .inl v =>
    some (v.1, v.2)
  | .inr v =>
    spool_Lines_k1 n t n_ v
def xspool_Lines (n : Nat) : Go.AE.Fn := mkFn (A := (List (List TRec)) × Int) (R := (List TLine) × Int) 22 [(false, [.slice 57]), (false, [.int .i64])] true (fun xs => (((cg (xs.getD 0 []) 0).toSl.map d_LTRec), (cg (xs.getD 1 []) 0).toInt)) (fun a => [[.slice (List.map e_LTRec a.1)], [.int a.2]]) (fun a => spool_Lines n a.1 a.2) (fun r => [.c (.slice 48) (.slice (List.map e_TLine r.1)), .c (.int .i64) (.int r.2)]) (fun r => [])
theorem cspool_Lines (n : Nat) : Contract Try.prog (xspool_Lines n) := by
  have hΓ : ∀ g, g ∈ ([xspool_group n, xspool_Tracks n] : List Go.AE.Fn) → Contract Try.prog g := by
    intro g hg; simp only [List.mem_cons, List.not_mem_nil, or_false] at hg; rcases hg with rfl | rfl; exact cspool_group n; exact cspool_Tracks n
  refine contract_f (Try.f22.body.getD .skip) h00 Try.func22 rfl (by intro args w; exact Try.call22 args w) (by decide) (by intro h; cases h) ?_
  rintro ⟨t, n_⟩ r H
  try dsimp only at H
  unfold spool_Lines at H
  simp only [Try.f22, Option.getD]
  refine Sm.seqA h00 mixed hΓ (by kernel_rfl) fun K1 hK1 => ?_
  simp only [rs]
  repeat (refine opsG fun K hK => ?_; simp only [z, seval]; (repeat first | refine gcI ?_ | intro (_ : _ ≤ _)); refine hK _ ?_; clear hK K)
  refine hK1 _ ?_
  refine Sm.seqA h00 mixed hΓ (by kernel_rfl) fun K2 hK2 => ?_
  simp only [rs]
  repeat (refine opsG fun K hK => ?_; simp only [z, seval]; (repeat first | refine gcI ?_ | intro (_ : _ ≤ _)); refine hK _ ?_; clear hK K)
  refine hK2 _ ?_
  refine Sm.cut (fun (x : (List TLine)) => spool_Lines_s1 t n_ x) (fun x => spool_Lines_k1 n t n_ x = some r) ?_ ?_
  · refine Sm.seqA h00 mixed hΓ (by kernel_rfl) fun K13 hK13 => ?_
    simp only [rs]
    repeat (refine opsG fun K hK => ?_; simp only [z, seval]; (repeat first | refine gcI ?_ | intro (_ : _ ≤ _)); refine hK _ ?_; clear hK K)
    refine hK13 _ ?_
    refine Sm.block ?_
    obtain ⟨y14, hy14, Ho14⟩ := bind_some H
    refine Sm.loopB (fun (x : (List TLine) × Int) => spool_Lines_b2 n t n_ (t.length : Int) x.1 x.2) (fun x => spool_Lines_t2 t n_ (t.length : Int) x.1 x.2) hy14 ?_ ?_
    · exact weak_b [none] rfl rfl rfl (by simp only [wk, z, seval]) (by simp only [wk, z, seval])
    rintro ⟨l_1, v17⟩ z14 H
    try dsimp only at H
    unfold spool_Lines_b2 at H
    refine Sm.seqA h00 mixed hΓ (by kernel_rfl) fun K15 hK15 => ?_
    simp only [rs]
    repeat (refine opsG fun K hK => ?_; simp only [z, seval, spool_Lines_t2]; (repeat first | refine gcI ?_ | intro (_ : _ ≤ _)); refine hK _ ?_; clear hK K)
    refine hK15 _ ?_
    refine Sm.seqK fun K16 hK16 => ?_
    refine Sm.condK (by rfl) fun Ka Kb ha hb => ?_
    simp only [wpCond, z, seval, spool_Lines_t2]
    refine ⟨fun h17 => ha ?_, fun h17 => hb ?_⟩
    · replace H := bt h17 H
      refine Sm.skip ?_
      refine hK16 _ ?_
      refine Sm.cut (fun (x : (List TLine)) => spool_Lines_s3 t n_ x (t.length : Int) v17) (fun x => spool_Lines_k3 n t n_ x (t.length : Int) v17 = some z14) ?_ ?_
      · refine Sm.block ?_
        obtain ⟨hg33, H⟩ := gd_some H
        refine Sm.seqA h00 mixed hΓ (by kernel_rfl) fun K18 hK18 => ?_
        simp only [rs]
        repeat (refine opsG fun K hK => ?_; simp only [z, seval, spool_Lines_t2]; (repeat first | refine gcI ?_ | intro (_ : _ ≤ _)); refine hK _ ?_; clear hK K)
        refine hK18 _ ?_
        refine Sm.seqA h00 mixed hΓ (by kernel_rfl) fun K19 hK19 => ?_
        simp only [rs]
        repeat (refine opsG fun K hK => ?_; simp only [z, seval, spool_Lines_t2]; (repeat first | refine gcI ?_ | intro (_ : _ ≤ _)); refine hK _ ?_; clear hK K)
        refine hK19 _ ?_
        refine Sm.block ?_
        obtain ⟨y20, hy20, Ho20⟩ := bind_some H
        refine Sm.loopB (fun (x : (List TLine) × Int) => spool_Lines_b4 n t n_ (t.length : Int) v17 (gt t (Int.toNat v17)) ((gt t (Int.toNat v17)).length : Int) x.1 x.2) (fun x => spool_Lines_t4 t n_ (t.length : Int) v17 (gt t (Int.toNat v17)) ((gt t (Int.toNat v17)).length : Int) x.1 x.2) hy20 ?_ ?_
        · exact weak_b [some 9002] rfl rfl rfl (by simp only [wk, z, seval, spool_Lines_t2]) (by simp only [wk, z, seval, spool_Lines_t2])
        rintro ⟨l_3, v23⟩ z20 H
        try dsimp only at H
        unfold spool_Lines_b4 at H
        refine Sm.seqA h00 mixed hΓ (by kernel_rfl) fun K21 hK21 => ?_
        simp only [rs]
        repeat (refine opsG fun K hK => ?_; simp only [z, seval, spool_Lines_t4]; (repeat first | refine gcI ?_ | intro (_ : _ ≤ _)); refine hK _ ?_; clear hK K)
        refine hK21 _ ?_
        refine Sm.seqK fun K22 hK22 => ?_
        refine Sm.condK (by rfl) fun Ka Kb ha hb => ?_
        simp only [wpCond, z, seval, spool_Lines_t4]
        refine ⟨fun h23 => ha ?_, fun h23 => hb ?_⟩
        · replace H := bt h23 H
          refine Sm.skip ?_
          refine hK22 _ ?_
          refine Sm.seqK fun K24 hK24 => ?_
          refine Sm.block ?_
          obtain ⟨hg32, H⟩ := gd_some H
          refine Sm.seqA h00 mixed hΓ (by kernel_rfl) fun K25 hK25 => ?_
          simp only [rs]
          repeat (refine opsG fun K hK => ?_; simp only [z, seval, spool_Lines_t4]; (repeat first | refine gcI ?_ | intro (_ : _ ≤ _)); refine hK _ ?_; clear hK K)
          refine hK25 _ ?_
          obtain ⟨r3, hr3, H⟩ := bind_some H
          refine Sm.seqA h00 mixed hΓ (by kernel_rfl) fun K26 hK26 => ?_
          simp only [rs]
          repeat (refine opsG fun K hK => ?_; simp only [z, seval, spool_Lines_t4, xspool_group, hr3]; (repeat first | refine gcI ?_ | intro (_ : _ ≤ _)); refine hK _ ?_; clear hK K)
          refine hK26 _ ?_
          refine Sm.seqK fun K27 hK27 => ?_
          refine Sm.seqA h00 mixed hΓ (by kernel_rfl) fun K28 hK28 => ?_
          simp only [rs]
          repeat (refine opsG fun K hK => ?_; simp only [z, seval, spool_Lines_t4]; (repeat first | refine gcI ?_ | intro (_ : _ ≤ _)); refine hK _ ?_; clear hK K)
          refine hK28 _ ?_
          refine Sm.condK (by rfl) fun Ka Kb ha hb => ?_
          simp only [wpCond, z, seval, spool_Lines_t4]
          refine ⟨fun h29 => ha ?_, fun h29 => hb ?_⟩
          · replace H := bt h29 H
            refine Sm.seqA h00 mixed hΓ (by kernel_rfl) fun K30 hK30 => ?_
            simp only [rs]
            repeat (refine opsG fun K hK => ?_; simp only [z, seval, spool_Lines_t4]; (repeat first | refine gcI ?_ | intro (_ : _ ≤ _)); refine hK _ ?_; clear hK K)
            refine hK30 _ ?_
            refine Sm.ret ?_
            try simp only [seval, Exit.exit.injEq]
            refine ⟨⟨_, (Option.some.inj H).symm⟩, fun hz => ?_⟩
            have hyy := Sum.inr.inj ((Option.some.inj H).trans hz)
            subst hyy
            have H := Ho20
            try dsimp only at H
            try simp only [seval, Exit.exit.injEq]
            refine ⟨⟨_, (Option.some.inj H).symm⟩, fun hz => ?_⟩
            have hyy := Sum.inr.inj ((Option.some.inj H).trans hz)
            subst hyy
            have H := Ho14
            try dsimp only at H
            try simp only [seval, Exit.exit.injEq]
            obtain rfl := Option.some.inj H
            refine Ret.ofR [] (.inr rfl) ?_
            simp only [z, seval, spool_Lines_t4]
          replace H := bf h29 H
          refine Sm.skip ?_
          refine hK27 _ ?_
          obtain ⟨hg31, H⟩ := gd_some H
          refine Sm.regA h00 mixed hΓ (by kernel_rfl) ?_
          simp only [rs]
          repeat (refine opsG fun K hK => ?_; simp only [z, seval, spool_Lines_t4]; (repeat first | refine gcI ?_ | intro (_ : _ ≤ _)); refine hK _ ?_; clear hK K)
          refine opsG0 ?_
          refine hK24 _ ?_
          refine Sm.regA h00 mixed hΓ (by kernel_rfl) ?_
          simp only [rs]
          repeat (refine opsG fun K hK => ?_; simp only [z, seval, spool_Lines_t4]; (repeat first | refine gcI ?_ | intro (_ : _ ≤ _)); refine hK _ ?_; clear hK K)
          refine opsG0 ?_
          try simp only [seval, Exit.exit.injEq]
          refine ⟨(_, _), (Option.some.inj H).symm, ?_⟩
          exact weak_b [some 784] rfl rfl rfl (by simp only [wk, z, seval, spool_Lines_t4]) (by simp only [wk, z, seval, spool_Lines_t4])
        replace H := bf h23 H
        refine Sm.exit ?_
        try simp only [seval, Exit.exit.injEq]
        refine ⟨⟨_, (Option.some.inj H).symm⟩, fun hz => ?_⟩
        have hyy := Sum.inr.inj ((Option.some.inj H).trans hz)
        subst hyy
        have H := Ho20
        try dsimp only at H
        try simp only [seval, Exit.exit.injEq]
        refine ⟨_, H, ?_⟩
        exact weak_b [some 9005] rfl rfl rfl (by simp only [wk, z, seval, spool_Lines_t4]) (by simp only [wk, z, seval, spool_Lines_t4])
      rintro l_2 H
      try dsimp only at H
      unfold spool_Lines_k3 at H
      refine Sm.regA h00 mixed hΓ (by kernel_rfl) ?_
      simp only [rs]
      repeat (refine opsG fun K hK => ?_; simp only [z, seval, spool_Lines_s3]; (repeat first | refine gcI ?_ | intro (_ : _ ≤ _)); refine hK _ ?_; clear hK K)
      refine opsG0 ?_
      try simp only [seval, Exit.exit.injEq]
      refine ⟨(_, _), (Option.some.inj H).symm, ?_⟩
      exact weak_b [some 9003] rfl rfl rfl (by simp only [wk, z, seval, spool_Lines_s3]) (by simp only [wk, z, seval, spool_Lines_s3])
    replace H := bf h17 H
    refine Sm.exit ?_
    try simp only [seval, Exit.exit.injEq]
    refine ⟨⟨_, (Option.some.inj H).symm⟩, fun hz => ?_⟩
    have hyy := Sum.inr.inj ((Option.some.inj H).trans hz)
    subst hyy
    have H := Ho14
    try dsimp only at H
    try simp only [seval, Exit.exit.injEq]
    refine ⟨_, H, ?_⟩
    exact weak_b [some 9002] rfl rfl rfl (by simp only [wk, z, seval, spool_Lines_t2]) (by simp only [wk, z, seval, spool_Lines_t2])
  rintro l H
  try dsimp only at H
  unfold spool_Lines_k1 at H
  obtain ⟨r1, hr1, H⟩ := bind_some H
  refine Sm.seqA h00 mixed hΓ (by kernel_rfl) fun K3 hK3 => ?_
  simp only [rs]
  repeat (refine opsG fun K hK => ?_; simp only [z, seval, spool_Lines_s1, xspool_group, xspool_Tracks, hr1]; (repeat first | refine gcI ?_ | intro (_ : _ ≤ _)); refine hK _ ?_; clear hK K)
  refine hK3 _ ?_
  refine Sm.seqK fun K4 hK4 => ?_
  refine Sm.seqX h00 mixed hΓ (by kernel_rfl) fun K5 hK5 => ?_
  simp only [rs]
  iterate 11 (refine opsX fun K hK => ?_; simp only [z, seval, spool_Lines_s1]; (repeat first | refine gcI ?_ | intro (_ : _ ≤ _)); refine hK _ ?_; clear hK K)
  refine bif_cases H (fun hs6 H => ?_) (fun hs6 H => ?_)
  · refine opsF rfl (by simp only [z, seval, spool_Lines_s1, hs6]) ?_
    refine opsF rfl (by simp only [z, seval, spool_Lines_s1, hs6]) ?_
    refine opsP fun K hK => ?_; simp only [z, seval, spool_Lines_s1, hs6]; (repeat first | refine gcI ?_ | intro (_ : _ ≤ _)); refine Or.inl ?_; (repeat first | refine gcI ?_ | intro (_ : _ ≤ _)); refine hK _ ?_; clear hK K
    refine hK5 _ ?_
    refine Sm.condK (by rfl) fun Ka Kb ha hb => ?_
    simp only [wpCond, z, seval, spool_Lines_s1]
    refine ha ?_
    refine Sm.seqA h00 mixed hΓ (by kernel_rfl) fun K8 hK8 => ?_
    simp only [rs]
    repeat (refine opsG fun K hK => ?_; simp only [z, seval, spool_Lines_s1]; (repeat first | refine gcI ?_ | intro (_ : _ ≤ _)); refine hK _ ?_; clear hK K)
    refine hK8 _ ?_
    refine Sm.ret ?_
    try simp only [seval, Exit.exit.injEq]
    obtain rfl := Option.some.inj H
    refine Ret.ofR [] (.inr rfl) ?_
    simp only [z, seval, spool_Lines_s1]
  obtain ⟨hg9, H⟩ := gd_some H
  obtain ⟨r2, hr2, H⟩ := bind_some H
  refine opsTM (cslices_EqualFunc_f52_M1 n _ _ r2 hr2) [] [] (by simp only [z, seval, spool_Lines_s1, hs6, hr2]) (by simp only [z, seval, spool_Lines_s1, hs6, hr2]; try rfl) (by simp only [z, seval, spool_Lines_s1, hs6, hr2]) (by simp only [z, seval, spool_Lines_s1, hs6, hr2]) (by simp only [z, seval, spool_Lines_s1, hs6, hr2]) (by simp only [z, seval, spool_Lines_s1, hs6, hr2]) rfl (by simp only [z, seval, spool_Lines_s1, hs6, hr2]) rfl ?_
  refine opsTG rfl (by simp only [z, seval, spool_Lines_s1, hs6, hr2]) fun K hK => ?_; simp only [z, seval, spool_Lines_s1, hs6, hr2]; (repeat first | refine gcI ?_ | intro (_ : _ ≤ _)); refine hK _ ?_; clear hK K
  refine opsP fun K hK => ?_; simp only [z, seval, spool_Lines_s1, hs6, hr2]; (repeat first | refine gcI ?_ | intro (_ : _ ≤ _)); refine Or.inr ?_; (repeat first | refine gcI ?_ | intro (_ : _ ≤ _)); refine hK _ ?_; clear hK K
  refine hK5 _ ?_
  refine Sm.condK (by rfl) fun Ka Kb ha hb => ?_
  simp only [wpCond, z, seval, spool_Lines_s1]
  refine ⟨fun h10 => ha ?_, fun h10 => hb ?_⟩
  · replace H := bt h10 H
    refine Sm.seqA h00 mixed hΓ (by kernel_rfl) fun K11 hK11 => ?_
    simp only [rs]
    repeat (refine opsG fun K hK => ?_; simp only [z, seval, spool_Lines_s1]; (repeat first | refine gcI ?_ | intro (_ : _ ≤ _)); refine hK _ ?_; clear hK K)
    refine hK11 _ ?_
    refine Sm.ret ?_
    try simp only [seval, Exit.exit.injEq]
    obtain rfl := Option.some.inj H
    refine Ret.ofR [] (.inr rfl) ?_
    simp only [z, seval, spool_Lines_s1]
  replace H := bf h10 H
  refine Sm.skip ?_
  refine hK4 _ ?_
  refine Sm.seqA h00 mixed hΓ (by kernel_rfl) fun K12 hK12 => ?_
  simp only [rs]
  repeat (refine opsG fun K hK => ?_; simp only [z, seval, spool_Lines_s1]; (repeat first | refine gcI ?_ | intro (_ : _ ≤ _)); refine hK _ ?_; clear hK K)
  refine hK12 _ ?_
  refine Sm.ret ?_
  try simp only [seval, Exit.exit.injEq]
  obtain rfl := Option.some.inj H
  refine Ret.ofR [] (.inr rfl) ?_
  simp only [z, seval, spool_Lines_s1]
abbrev law39_equal_s1 : S := stB [] []
def law39_equal_k1 (n : Nat) : Option Bool :=
  some true
abbrev law39_equal_t2 (a : List TLine) (b : List TLine) (v12 : Int) (v13 : Int) : S := stB [(0, .c (.slice 48) (.slice (List.map e_TLine a))), (1, .c (.slice 48) (.slice (List.map e_TLine b))), (12, .c (.int .i64) (.int v12)), (13, .c (.int .i64) (.int v13))] []
def law39_equal_b2 (n : Nat) (a : List TLine) (b : List TLine) (v12 : Int) (v13 : Int) : Option ((Int) ⊕ (((Bool) ⊕ (Unit)))) :=
  bif (decide (v13 < v12)) then
    gd ((0 ≤ v13 ∧ v13 < (a.length : Int)) ∧ (0 ≤ v13 ∧ v13 < (b.length : Int))) <|
    bif (!((((gt a (Int.toNat v13)).Ctl) == ((gt b (Int.toNat v13)).Ctl)) && (((gt a (Int.toNat v13)).Text) == ((gt b (Int.toNat v13)).Text)))) then
      some (.inr (.inl false))
    else
      some (.inl (IntKind.wrap .i64 (v13 + 1)))
  else
    some (.inr (.inr ()))
def law39_equal (n : Nat) (a : List TLine) (b : List TLine) : Option Bool :=
  bif ((a.length : Int) != (b.length : Int)) then
    some false
  else
    (loopF (fun (x : Int) => law39_equal_b2 n a b (a.length : Int) x) n 0).bind fun y8 =>
    match y8 with
    | .inl v =>
      some v
    | .inr v =>
      law39_equal_k1 n
def xlaw39_equal (n : Nat) : Go.AE.Fn := mkFn (A := (List TLine) × (List TLine)) (R := Bool) 23 [(false, [.slice 48]), (false, [.slice 48])] false (fun xs => (((cg (xs.getD 0 []) 0).toSl.map d_TLine), ((cg (xs.getD 1 []) 0).toSl.map d_TLine))) (fun a => [[.slice (List.map e_TLine a.1)], [.slice (List.map e_TLine a.2)]]) (fun a => law39_equal n a.1 a.2) (fun r => [.c .bool (.bool r)]) (fun r => [])
theorem claw39_equal (n : Nat) : Contract Try.prog (xlaw39_equal n) := by
  have hΓ : ∀ g, g ∈ ([] : List Go.AE.Fn) → Contract Try.prog g := by simp
  refine contract_f (Try.f23.body.getD .skip) h00 Try.func23 rfl (by intro args w; exact Try.call23 args w) (by decide) (by intro _ r; exact ⟨rfl, by simp⟩) ?_
  rintro ⟨a, b⟩ r H
  try dsimp only at H
  unfold law39_equal at H
  simp only [Try.f23, Option.getD]
  refine Sm.seqA h00 mixed hΓ (by kernel_rfl) fun K1 hK1 => ?_
  simp only [rs]
  repeat (refine opsG fun K hK => ?_; simp only [z, seval]; (repeat first | refine gcI ?_ | intro (_ : _ ≤ _)); refine hK _ ?_; clear hK K)
  refine hK1 _ ?_
  refine Sm.seqK fun K2 hK2 => ?_
  refine Sm.seqA h00 mixed hΓ (by kernel_rfl) fun K3 hK3 => ?_
  simp only [rs]
  repeat (refine opsG fun K hK => ?_; simp only [z, seval]; (repeat first | refine gcI ?_ | intro (_ : _ ≤ _)); refine hK _ ?_; clear hK K)
  refine hK3 _ ?_
  refine Sm.condK (by rfl) fun Ka Kb ha hb => ?_
  simp only [wpCond, z, seval]
  refine ⟨fun h4 => ha ?_, fun h4 => hb ?_⟩
  · replace H := bt h4 H
    refine Sm.seqA h00 mixed hΓ (by kernel_rfl) fun K5 hK5 => ?_
    simp only [rs]
    repeat (refine opsG fun K hK => ?_; simp only [z, seval]; (repeat first | refine gcI ?_ | intro (_ : _ ≤ _)); refine hK _ ?_; clear hK K)
    refine hK5 _ ?_
    refine Sm.ret ?_
    try simp only [seval, Exit.exit.injEq]
    obtain rfl := Option.some.inj H
    refine Ret.ofR [] (.inr rfl) ?_
    simp only [z, seval]
  replace H := bf h4 H
  refine Sm.skip ?_
  refine hK2 _ ?_
  refine Sm.cut (fun (x : Unit) => law39_equal_s1) (fun x => law39_equal_k1 n = some r) ?_ ?_
  · refine Sm.seqA h00 mixed hΓ (by kernel_rfl) fun K7 hK7 => ?_
    simp only [rs]
    repeat (refine opsG fun K hK => ?_; simp only [z, seval]; (repeat first | refine gcI ?_ | intro (_ : _ ≤ _)); refine hK _ ?_; clear hK K)
    refine hK7 _ ?_
    refine Sm.block ?_
    obtain ⟨y8, hy8, Ho8⟩ := bind_some H
    refine Sm.loopB (fun (x : Int) => law39_equal_b2 n a b (a.length : Int) x) (fun x => law39_equal_t2 a b (a.length : Int) x) hy8 ?_ ?_
    · exact weak_b [] rfl rfl rfl (by simp only [wk, z, seval]) (by simp only [wk, z, seval])
    rintro v13 z8 H
    try dsimp only at H
    unfold law39_equal_b2 at H
    refine Sm.seqA h00 mixed hΓ (by kernel_rfl) fun K9 hK9 => ?_
    simp only [rs]
    repeat (refine opsG fun K hK => ?_; simp only [z, seval, law39_equal_t2]; (repeat first | refine gcI ?_ | intro (_ : _ ≤ _)); refine hK _ ?_; clear hK K)
    refine hK9 _ ?_
    refine Sm.seqK fun K10 hK10 => ?_
    refine Sm.condK (by rfl) fun Ka Kb ha hb => ?_
    simp only [wpCond, z, seval, law39_equal_t2]
    refine ⟨fun h11 => ha ?_, fun h11 => hb ?_⟩
    · replace H := bt h11 H
      refine Sm.skip ?_
      refine hK10 _ ?_
      refine Sm.seqK fun K12 hK12 => ?_
      refine Sm.block ?_
      refine Sm.seqA h00 mixed hΓ (by kernel_rfl) fun K13 hK13 => ?_
      simp only [rs]
      repeat (refine opsG fun K hK => ?_; simp only [z, seval, law39_equal_t2]; (repeat first | refine gcI ?_ | intro (_ : _ ≤ _)); refine hK _ ?_; clear hK K)
      refine hK13 _ ?_
      obtain ⟨⟨hg17, hg18⟩, H⟩ := gd_some H
      refine Sm.seqD h00 mixed hΓ (by kernel_rfl) fun K14 hK14 => ?_
      simp only [rs]
      repeat (refine opsH fun K hK => ?_; simp only [z, seval, law39_equal_t2]; (repeat first | refine gcI ?_ | intro (_ : _ ≤ _)); refine hK _ ?_; clear hK K)
      refine hK14 _ ?_
      refine Sm.condK (by rfl) fun Ka Kb ha hb => ?_
      simp only [wpCond, z, seval, law39_equal_t2]
      refine ⟨fun h15 => ha ?_, fun h15 => hb ?_⟩
      · replace H := bt h15 H
        refine Sm.seqA h00 mixed hΓ (by kernel_rfl) fun K16 hK16 => ?_
        simp only [rs]
        repeat (refine opsG fun K hK => ?_; simp only [z, seval, law39_equal_t2]; (repeat first | refine gcI ?_ | intro (_ : _ ≤ _)); refine hK _ ?_; clear hK K)
        refine hK16 _ ?_
        refine Sm.ret ?_
        try simp only [seval, Exit.exit.injEq]
        refine ⟨⟨_, (Option.some.inj H).symm⟩, fun hz => ?_⟩
        have hyy := Sum.inr.inj ((Option.some.inj H).trans hz)
        subst hyy
        have H := Ho8
        try dsimp only at H
        try simp only [seval, Exit.exit.injEq]
        obtain rfl := Option.some.inj H
        refine Ret.ofR [] (.inr rfl) ?_
        simp only [z, seval, law39_equal_t2]
      replace H := bf h15 H
      refine Sm.skip ?_
      refine hK12 _ ?_
      refine Sm.regA h00 mixed hΓ (by kernel_rfl) ?_
      simp only [rs]
      repeat (refine opsG fun K hK => ?_; simp only [z, seval, law39_equal_t2]; (repeat first | refine gcI ?_ | intro (_ : _ ≤ _)); refine hK _ ?_; clear hK K)
      refine opsG0 ?_
      try simp only [seval, Exit.exit.injEq]
      refine ⟨_, (Option.some.inj H).symm, ?_⟩
      exact weak_b [] rfl rfl rfl (by simp only [wk, z, seval, law39_equal_t2]) (by simp only [wk, z, seval, law39_equal_t2])
    replace H := bf h11 H
    refine Sm.exit ?_
    try simp only [seval, Exit.exit.injEq]
    refine ⟨⟨_, (Option.some.inj H).symm⟩, fun hz => ?_⟩
    have hyy := Sum.inr.inj ((Option.some.inj H).trans hz)
    subst hyy
    have H := Ho8
    try dsimp only at H
    try simp only [seval, Exit.exit.injEq]
    refine ⟨(), H, ?_⟩
    exact weak_b [] rfl rfl rfl (by simp only [wk, z, seval, law39_equal_t2]) (by simp only [wk, z, seval, law39_equal_t2])
  rintro ⟨⟩ H
  try dsimp only at H
  unfold law39_equal_k1 at H
  refine Sm.seqA h00 mixed hΓ (by kernel_rfl) fun K6 hK6 => ?_
  simp only [rs]
  repeat (refine opsG fun K hK => ?_; simp only [z, seval, law39_equal_s1]; (repeat first | refine gcI ?_ | intro (_ : _ ≤ _)); refine hK _ ?_; clear hK K)
  refine hK6 _ ?_
  refine Sm.ret ?_
  try simp only [seval, Exit.exit.injEq]
  obtain rfl := Option.some.inj H
  refine Ret.ofR [] (.inr rfl) ?_
  simp only [z, seval, law39_equal_s1]
def law39_works (n : Nat) : Option Bool :=
  (spool_Tracks n [(⟨1, [65, 66]⟩ : TLine), (⟨9, []⟩ : TLine)]).bind fun r1 =>
  gd (((!(if (r1.2 != 0) = true then true else (((r1.1.length : Nat) : Int) != 1))) = true → 0 < (r1.1.length : Int)) ∧ ((!(if (r1.2 != 0) = true then true else (((r1.1.length : Nat) : Int) != 1))) = true → 0 < r1.1.length) ∧ ((!(if (if (r1.2 != 0) = true then true else (((r1.1.length : Nat) : Int) != 1)) = true then true else (((gt r1.1 0).length : Int) != 1))) = true → 0 < (r1.1.length : Int)) ∧ ((!(if (if (r1.2 != 0) = true then true else (((r1.1.length : Nat) : Int) != 1)) = true then true else (((gt r1.1 0).length : Int) != 1))) = true → 0 < r1.1.length) ∧ ((!(if (if (r1.2 != 0) = true then true else (((r1.1.length : Nat) : Int) != 1)) = true then true else (((gt r1.1 0).length : Int) != 1))) = true → 0 < ((gt r1.1 0).length : Int)) ∧ ((!(if (if (if (r1.2 != 0) = true then true else (((r1.1.length : Nat) : Int) != 1)) = true then true else (((gt r1.1 0).length : Int) != 1)) = true then true else (((gt (gt r1.1 0) 0).R) != 1))) = true → 0 < (r1.1.length : Int)) ∧ ((!(if (if (if (r1.2 != 0) = true then true else (((r1.1.length : Nat) : Int) != 1)) = true then true else (((gt r1.1 0).length : Int) != 1)) = true then true else (((gt (gt r1.1 0) 0).R) != 1))) = true → 0 < r1.1.length) ∧ ((!(if (if (if (r1.2 != 0) = true then true else (((r1.1.length : Nat) : Int) != 1)) = true then true else (((gt r1.1 0).length : Int) != 1)) = true then true else (((gt (gt r1.1 0) 0).R) != 1))) = true → 0 < ((gt r1.1 0).length : Int))) <|
  bif (if (if (if (r1.2 != 0) = true then true else (((r1.1.length : Nat) : Int) != 1)) = true then true else (((gt r1.1 0).length : Int) != 1)) = true then true else (((gt (gt r1.1 0) 0).R) != 1)) then
    some false
  else
    gd ((!(if (if (if (r1.2 != 0) = true then true else (((r1.1.length : Nat) : Int) != 1)) = true then true else (((gt r1.1 0).length : Int) != 1)) = true then true else (((gt (gt r1.1 0) 0).R) != 1))) = true) <|
    bif ((toStr8 ((gt (gt r1.1 0) 0).Data)) != [0, 0, 0, 0, 1, 2, 65, 66, 9, 0]) then
      some false
    else
      (spool_Tracks n []).bind fun r2 =>
      (spool_Tracks n [(⟨256, [65]⟩ : TLine)]).bind fun r3 =>
      gd ((0 ≤ 133 ∧ 133 ≤ 133 ∧ 133 ≤ 2147483648)) <|
      (spool_Tracks n [(⟨0, (toStr8 (zreps 133 0))⟩ : TLine)]).bind fun r4 =>
      (law39_long n 8).bind fun r5 =>
      (spool_Tracks n r5).bind fun r6 =>
      gd (((if (if (if (if (if (r2.2 == 0) = true then (((r2.1.length : Nat) : Int) == 0) else false) = true then (r3.2 == 1) else false) = true then (r4.2 == 2) else false) = true then (r6.2 == 0) else false) = true then (((r6.1.length : Nat) : Int) == 1) else false) = true → 0 < (r6.1.length : Int)) ∧ ((if (if (if (if (if (r2.2 == 0) = true then (((r2.1.length : Nat) : Int) == 0) else false) = true then (r3.2 == 1) else false) = true then (r4.2 == 2) else false) = true then (r6.2 == 0) else false) = true then (((r6.1.length : Nat) : Int) == 1) else false) = true → 0 < r6.1.length) ∧ ((if (if (if (if (if (if (r2.2 == 0) = true then (((r2.1.length : Nat) : Int) == 0) else false) = true then (r3.2 == 1) else false) = true then (r4.2 == 2) else false) = true then (r6.2 == 0) else false) = true then (((r6.1.length : Nat) : Int) == 1) else false) = true then (((gt r6.1 0).length : Int) == 2) else false) = true → 0 < (r6.1.length : Int)) ∧ ((if (if (if (if (if (if (r2.2 == 0) = true then (((r2.1.length : Nat) : Int) == 0) else false) = true then (r3.2 == 1) else false) = true then (r4.2 == 2) else false) = true then (r6.2 == 0) else false) = true then (((r6.1.length : Nat) : Int) == 1) else false) = true then (((gt r6.1 0).length : Int) == 2) else false) = true → 0 < r6.1.length) ∧ ((if (if (if (if (if (if (r2.2 == 0) = true then (((r2.1.length : Nat) : Int) == 0) else false) = true then (r3.2 == 1) else false) = true then (r4.2 == 2) else false) = true then (r6.2 == 0) else false) = true then (((r6.1.length : Nat) : Int) == 1) else false) = true then (((gt r6.1 0).length : Int) == 2) else false) = true → 0 < ((gt r6.1 0).length : Int)) ∧ ((if (if (if (if (if (if (if (r2.2 == 0) = true then (((r2.1.length : Nat) : Int) == 0) else false) = true then (r3.2 == 1) else false) = true then (r4.2 == 2) else false) = true then (r6.2 == 0) else false) = true then (((r6.1.length : Nat) : Int) == 1) else false) = true then (((gt r6.1 0).length : Int) == 2) else false) = true then ((((gt (gt r6.1 0) 0).Data).length : Int) == 942) else false) = true → 0 < (r6.1.length : Int)) ∧ ((if (if (if (if (if (if (if (r2.2 == 0) = true then (((r2.1.length : Nat) : Int) == 0) else false) = true then (r3.2 == 1) else false) = true then (r4.2 == 2) else false) = true then (r6.2 == 0) else false) = true then (((r6.1.length : Nat) : Int) == 1) else false) = true then (((gt r6.1 0).length : Int) == 2) else false) = true then ((((gt (gt r6.1 0) 0).Data).length : Int) == 942) else false) = true → 0 < r6.1.length) ∧ ((if (if (if (if (if (if (if (r2.2 == 0) = true then (((r2.1.length : Nat) : Int) == 0) else false) = true then (r3.2 == 1) else false) = true then (r4.2 == 2) else false) = true then (r6.2 == 0) else false) = true then (((r6.1.length : Nat) : Int) == 1) else false) = true then (((gt r6.1 0).length : Int) == 2) else false) = true then ((((gt (gt r6.1 0) 0).Data).length : Int) == 942) else false) = true → 1 < ((gt r6.1 0).length : Int)) ∧ ((if (if (if (if (if (if (if (if (r2.2 == 0) = true then (((r2.1.length : Nat) : Int) == 0) else false) = true then (r3.2 == 1) else false) = true then (r4.2 == 2) else false) = true then (r6.2 == 0) else false) = true then (((r6.1.length : Nat) : Int) == 1) else false) = true then (((gt r6.1 0).length : Int) == 2) else false) = true then ((((gt (gt r6.1 0) 0).Data).length : Int) == 942) else false) = true then ((((gt (gt r6.1 0) 1).Data).length : Int) == 138) else false) = true → 0 < (r6.1.length : Int)) ∧ ((if (if (if (if (if (if (if (if (r2.2 == 0) = true then (((r2.1.length : Nat) : Int) == 0) else false) = true then (r3.2 == 1) else false) = true then (r4.2 == 2) else false) = true then (r6.2 == 0) else false) = true then (((r6.1.length : Nat) : Int) == 1) else false) = true then (((gt r6.1 0).length : Int) == 2) else false) = true then ((((gt (gt r6.1 0) 0).Data).length : Int) == 942) else false) = true then ((((gt (gt r6.1 0) 1).Data).length : Int) == 138) else false) = true → 0 < r6.1.length) ∧ ((if (if (if (if (if (if (if (if (r2.2 == 0) = true then (((r2.1.length : Nat) : Int) == 0) else false) = true then (r3.2 == 1) else false) = true then (r4.2 == 2) else false) = true then (r6.2 == 0) else false) = true then (((r6.1.length : Nat) : Int) == 1) else false) = true then (((gt r6.1 0).length : Int) == 2) else false) = true then ((((gt (gt r6.1 0) 0).Data).length : Int) == 942) else false) = true then ((((gt (gt r6.1 0) 1).Data).length : Int) == 138) else false) = true → 1 < ((gt r6.1 0).length : Int)) ∧ ((if (if (if (if (if (if (if (if (r2.2 == 0) = true then (((r2.1.length : Nat) : Int) == 0) else false) = true then (r3.2 == 1) else false) = true then (r4.2 == 2) else false) = true then (r6.2 == 0) else false) = true then (((r6.1.length : Nat) : Int) == 1) else false) = true then (((gt r6.1 0).length : Int) == 2) else false) = true then ((((gt (gt r6.1 0) 0).Data).length : Int) == 942) else false) = true then ((((gt (gt r6.1 0) 1).Data).length : Int) == 138) else false) = true → 3 < (((gt (gt r6.1 0) 1).Data).length : Int))) <|
      (spool_New n 4).bind fun r7 =>
      (spool_Put n r7.1 [(⟨1, [65, 66]⟩ : TLine), (⟨9, []⟩ : TLine)]).bind fun r8 =>
      (spool_Drop n r8.1 r8.2.1).bind fun r9 =>
      gd (((if (if (r7.2 == 0) = true then (r8.2.2.2 == 0) else false) = true then (r9.2 == 0) else false) = true → (law39_row n r8.2.1.Extents 0 1).isSome = true) ∧ ((if (if (if (if (r7.2 == 0) = true then (r8.2.2.2 == 0) else false) = true then (r9.2 == 0) else false) = true then ((law39_row n r8.2.1.Extents 0 1).getD default) else false) = true then (r8.2.1.Lines == 2) else false) = true → (law39_row n r8.1.Free 1 3).isSome = true) ∧ ((if (if (if (if (if (r7.2 == 0) = true then (r8.2.2.2 == 0) else false) = true then (r9.2 == 0) else false) = true then ((law39_row n r8.2.1.Extents 0 1).getD default) else false) = true then (r8.2.1.Lines == 2) else false) = true then ((law39_row n r8.1.Free 1 3).getD default) else false) = true → (law39_row n r9.1.Free 0 4).isSome = true)) <|
      (spool_New n 0).bind fun r10 =>
      (law39_long n 8).bind fun r11 =>
      (spool_Put n r10.1 r11).bind fun r12 =>
      (spool_Lines n r1.1 2).bind fun r13 =>
      (spool_Lines n r1.1 1).bind fun r14 =>
      (spool_Lines n [] 0).bind fun r15 =>
      gd (((if (if (if (if (if (if (if (if (if (if (if (if (if (r2.2 == 0) = true then (((r2.1.length : Nat) : Int) == 0) else false) = true then (r3.2 == 1) else false) = true then (r4.2 == 2) else false) = true then (r6.2 == 0) else false) = true then (((r6.1.length : Nat) : Int) == 1) else false) = true then (((gt r6.1 0).length : Int) == 2) else false) = true then ((((gt (gt r6.1 0) 0).Data).length : Int) == 942) else false) = true then ((((gt (gt r6.1 0) 1).Data).length : Int) == 138) else false) = true then ((gt ((gt (gt r6.1 0) 1).Data) 3) == 7) else false) = true then (if (if (if (if (if (if (if (r7.2 == 0) = true then (r8.2.2.2 == 0) else false) = true then (r9.2 == 0) else false) = true then ((law39_row n r8.2.1.Extents 0 1).getD default) else false) = true then (r8.2.1.Lines == 2) else false) = true then ((law39_row n r8.1.Free 1 3).getD default) else false) = true then ((law39_row n r9.1.Free 0 4).getD default) else false) = true then (((r8.2.2.1.length : Nat) : Int) == 1) else false) else false) = true then (r10.2 == 0) else false) = true then (r12.2.2.2 == 7) else false) = true then (r13.2 == 0) else false) = true → (law39_equal n r13.1 [(⟨1, [65, 66]⟩ : TLine), (⟨9, []⟩ : TLine)]).isSome = true)) <|
      some (if (if (if (if (if (if (if (if (if (if (if (if (if (if (if (if (if (r2.2 == 0) = true then (((r2.1.length : Nat) : Int) == 0) else false) = true then (r3.2 == 1) else false) = true then (r4.2 == 2) else false) = true then (r6.2 == 0) else false) = true then (((r6.1.length : Nat) : Int) == 1) else false) = true then (((gt r6.1 0).length : Int) == 2) else false) = true then ((((gt (gt r6.1 0) 0).Data).length : Int) == 942) else false) = true then ((((gt (gt r6.1 0) 1).Data).length : Int) == 138) else false) = true then ((gt ((gt (gt r6.1 0) 1).Data) 3) == 7) else false) = true then (if (if (if (if (if (if (if (r7.2 == 0) = true then (r8.2.2.2 == 0) else false) = true then (r9.2 == 0) else false) = true then ((law39_row n r8.2.1.Extents 0 1).getD default) else false) = true then (r8.2.1.Lines == 2) else false) = true then ((law39_row n r8.1.Free 1 3).getD default) else false) = true then ((law39_row n r9.1.Free 0 4).getD default) else false) = true then (((r8.2.2.1.length : Nat) : Int) == 1) else false) else false) = true then (r10.2 == 0) else false) = true then (r12.2.2.2 == 7) else false) = true then (r13.2 == 0) else false) = true then ((law39_equal n r13.1 [(⟨1, [65, 66]⟩ : TLine), (⟨9, []⟩ : TLine)]).getD default) else false) = true then (r14.2 == 390) else false) = true then (r15.2 == 0) else false) = true then ((r15.1.length : Int) == 0) else false)
def xlaw39_works (n : Nat) : Go.AE.Fn := mkFn (A := Unit) (R := Bool) 12 [] false (fun xs => ()) (fun a => []) (fun a => law39_works n) (fun r => [.c .bool (.bool r)]) (fun r => [])
theorem claw39_works (n : Nat) : Contract Try.prog (xlaw39_works n) := by
  have hΓ : ∀ g, g ∈ ([xspool_Tracks n, xlaw39_long n, xspool_New n, xspool_Put n, xspool_Drop n, xlaw39_row n, xspool_Lines n, xlaw39_equal n] : List Go.AE.Fn) → Contract Try.prog g := by
    intro g hg; simp only [List.mem_cons, List.not_mem_nil, or_false] at hg; rcases hg with rfl | rfl | rfl | rfl | rfl | rfl | rfl | rfl; exact cspool_Tracks n; exact claw39_long n; exact cspool_New n; exact cspool_Put n; exact cspool_Drop n; exact claw39_row n; exact cspool_Lines n; exact claw39_equal n
  refine contract_f (Try.f12.body.getD .skip) h00 Try.func12 rfl (by intro args w; exact Try.call12 args w) (by decide) (by intro _ r; exact ⟨rfl, by simp⟩) ?_
  rintro ⟨⟩ r H
  try dsimp only at H
  unfold law39_works at H
  simp only [Try.f12, Option.getD]
  refine Sm.seqA h00 mixed hΓ (by kernel_rfl) fun K1 hK1 => ?_
  simp only [rs]
  repeat (refine opsG fun K hK => ?_; simp only [z, seval]; (repeat first | refine gcI ?_ | intro (_ : _ ≤ _)); refine hK _ ?_; clear hK K)
  refine hK1 _ ?_
  refine Sm.seqA h00 mixed hΓ (by kernel_rfl) fun K2 hK2 => ?_
  simp only [rs]
  repeat (refine opsG fun K hK => ?_; simp only [z, seval]; (repeat first | refine gcI ?_ | intro (_ : _ ≤ _)); refine hK _ ?_; clear hK K)
  refine hK2 _ ?_
  obtain ⟨r1, hr1, H⟩ := bind_some H
  refine Sm.seqA h00 mixed hΓ (by kernel_rfl) fun K3 hK3 => ?_
  simp only [rs]
  repeat (refine opsG fun K hK => ?_; simp only [z, seval, xspool_Tracks, hr1]; (repeat first | refine gcI ?_ | intro (_ : _ ≤ _)); refine hK _ ?_; clear hK K)
  refine hK3 _ ?_
  refine Sm.seqK fun K4 hK4 => ?_
  refine Sm.seqX h00 mixed hΓ (by kernel_rfl) fun K5 hK5 => ?_
  simp only [rs]
  obtain ⟨⟨hg6, hg7, hg8, hg9, hg10, hg11, hg12, hg13⟩, H⟩ := gd_some H
  iterate 30 (refine opsX fun K hK => ?_; simp only [z, seval]; (repeat first | refine gcI ?_ | intro (_ : _ ≤ _)); refine hK _ ?_; clear hK K)
  refine bif_cases H (fun hs14 H => ?_) (fun hs14 H => ?_)
  · try simp only [hs14, Bool.not_false, Bool.not_true, Bool.false_eq_true, true_implies, false_implies, forall_const] at hg6
    try simp only [hs14, Bool.not_false, Bool.not_true, Bool.false_eq_true, true_implies, false_implies, forall_const] at hg7
    try simp only [hs14, Bool.not_false, Bool.not_true, Bool.false_eq_true, true_implies, false_implies, forall_const] at hg8
    try simp only [hs14, Bool.not_false, Bool.not_true, Bool.false_eq_true, true_implies, false_implies, forall_const] at hg9
    try simp only [hs14, Bool.not_false, Bool.not_true, Bool.false_eq_true, true_implies, false_implies, forall_const] at hg10
    try simp only [hs14, Bool.not_false, Bool.not_true, Bool.false_eq_true, true_implies, false_implies, forall_const] at hg11
    try simp only [hs14, Bool.not_false, Bool.not_true, Bool.false_eq_true, true_implies, false_implies, forall_const] at hg12
    try simp only [hs14, Bool.not_false, Bool.not_true, Bool.false_eq_true, true_implies, false_implies, forall_const] at hg13
    refine opsF rfl (by simp only [z, seval, hs14]) ?_
    refine opsF rfl (by simp only [z, seval, hs14]) ?_
    refine opsP fun K hK => ?_; simp only [z, seval, hs14]; (repeat first | refine gcI ?_ | intro (_ : _ ≤ _)); refine Or.inl ?_; (repeat first | refine gcI ?_ | intro (_ : _ ≤ _)); refine hK _ ?_; clear hK K
    refine hK5 _ ?_
    refine Sm.condK (by rfl) fun Ka Kb ha hb => ?_
    simp only [wpCond, z, seval]
    refine ha ?_
    refine Sm.seqA h00 mixed hΓ (by kernel_rfl) fun K16 hK16 => ?_
    simp only [rs]
    repeat (refine opsG fun K hK => ?_; simp only [z, seval]; (repeat first | refine gcI ?_ | intro (_ : _ ≤ _)); refine hK _ ?_; clear hK K)
    refine hK16 _ ?_
    refine Sm.ret ?_
    try simp only [seval, Exit.exit.injEq]
    obtain rfl := Option.some.inj H
    refine Ret.ofR [] (.inr rfl) ?_
    simp only [z, seval]
  try simp only [hs14, Bool.not_false, Bool.not_true, Bool.false_eq_true, true_implies, false_implies, forall_const] at hg6
  try simp only [hs14, Bool.not_false, Bool.not_true, Bool.false_eq_true, true_implies, false_implies, forall_const] at hg7
  try simp only [hs14, Bool.not_false, Bool.not_true, Bool.false_eq_true, true_implies, false_implies, forall_const] at hg8
  try simp only [hs14, Bool.not_false, Bool.not_true, Bool.false_eq_true, true_implies, false_implies, forall_const] at hg9
  try simp only [hs14, Bool.not_false, Bool.not_true, Bool.false_eq_true, true_implies, false_implies, forall_const] at hg10
  try simp only [hs14, Bool.not_false, Bool.not_true, Bool.false_eq_true, true_implies, false_implies, forall_const] at hg11
  try simp only [hs14, Bool.not_false, Bool.not_true, Bool.false_eq_true, true_implies, false_implies, forall_const] at hg12
  try simp only [hs14, Bool.not_false, Bool.not_true, Bool.false_eq_true, true_implies, false_implies, forall_const] at hg13
  obtain ⟨hg17, H⟩ := gd_some H
  refine opsTE stepV_ok rfl (by simp only [z, seval, hs14])  fun K hK => ?_; simp only [z, seval, hs14]; (repeat first | refine gcI ?_ | intro (_ : _ ≤ _)); refine hK _ ?_; clear hK K
  refine opsTG rfl (by simp only [z, seval, hs14]) fun K hK => ?_; simp only [z, seval, hs14]; (repeat first | refine gcI ?_ | intro (_ : _ ≤ _)); refine hK _ ?_; clear hK K
  refine opsP fun K hK => ?_; simp only [z, seval, hs14]; (repeat first | refine gcI ?_ | intro (_ : _ ≤ _)); refine Or.inr ?_; (repeat first | refine gcI ?_ | intro (_ : _ ≤ _)); refine hK _ ?_; clear hK K
  refine hK5 _ ?_
  refine Sm.condK (by rfl) fun Ka Kb ha hb => ?_
  simp only [wpCond, z, seval]
  refine ⟨fun h18 => ha ?_, fun h18 => hb ?_⟩
  · replace H := bt h18 H
    refine Sm.seqA h00 mixed hΓ (by kernel_rfl) fun K19 hK19 => ?_
    simp only [rs]
    repeat (refine opsG fun K hK => ?_; simp only [z, seval]; (repeat first | refine gcI ?_ | intro (_ : _ ≤ _)); refine hK _ ?_; clear hK K)
    refine hK19 _ ?_
    refine Sm.ret ?_
    try simp only [seval, Exit.exit.injEq]
    obtain rfl := Option.some.inj H
    refine Ret.ofR [] (.inr rfl) ?_
    simp only [z, seval]
  replace H := bf h18 H
  refine Sm.skip ?_
  refine hK4 _ ?_
  obtain ⟨r2, hr2, H⟩ := bind_some H
  refine Sm.seqA h00 mixed hΓ (by kernel_rfl) fun K20 hK20 => ?_
  simp only [rs]
  repeat (refine opsG fun K hK => ?_; simp only [z, seval, xspool_Tracks, hr2]; (repeat first | refine gcI ?_ | intro (_ : _ ≤ _)); refine hK _ ?_; clear hK K)
  refine hK20 _ ?_
  obtain ⟨r3, hr3, H⟩ := bind_some H
  refine Sm.seqA h00 mixed hΓ (by kernel_rfl) fun K21 hK21 => ?_
  simp only [rs]
  repeat (refine opsG fun K hK => ?_; simp only [z, seval, xspool_Tracks, hr3]; (repeat first | refine gcI ?_ | intro (_ : _ ≤ _)); refine hK _ ?_; clear hK K)
  refine hK21 _ ?_
  refine Sm.seqX h00 mixed hΓ (by kernel_rfl) fun K22 hK22 => ?_
  simp only [rs]
  obtain ⟨hg23, H⟩ := gd_some H
  obtain ⟨r4, hr4, H⟩ := bind_some H
  refine opsY fun K hK => ?_; simp only [z, seval, xspool_Tracks]; (repeat first | refine gcI ?_ | intro (_ : _ ≤ _)); refine hK _ ?_; clear hK K
  refine opsE stepV_ok fun K hK => ?_; simp only [z, seval, xspool_Tracks]; (repeat first | refine gcI ?_ | intro (_ : _ ≤ _)); refine hK _ ?_; clear hK K
  iterate 2 (refine opsX fun K hK => ?_; simp only [z, seval, xspool_Tracks]; (repeat first | refine gcI ?_ | intro (_ : _ ≤ _)); refine hK _ ?_; clear hK K)
  iterate 6 (refine opsX fun K hK => ?_; simp only [z, seval, xspool_Tracks, hr4]; (repeat first | refine gcI ?_ | intro (_ : _ ≤ _)); refine hK _ ?_; clear hK K)
  refine hK22 _ ?_
  obtain ⟨r5, hr5, H⟩ := bind_some H
  obtain ⟨r6, hr6, H⟩ := bind_some H
  refine Sm.seqA h00 mixed hΓ (by kernel_rfl) fun K24 hK24 => ?_
  simp only [rs]
  repeat (refine opsG fun K hK => ?_; simp only [z, seval, xspool_Tracks, xlaw39_long, hr5, hr6]; (repeat first | refine gcI ?_ | intro (_ : _ ≤ _)); refine hK _ ?_; clear hK K)
  refine hK24 _ ?_
  obtain ⟨⟨hg40, hg41, hg42, hg43, hg44, hg45, hg46, hg47, hg48, hg49, hg50, hg51⟩, H⟩ := gd_some H
  refine Sm.seqA h00 mixed hΓ (by kernel_rfl) fun K25 hK25 => ?_
  simp only [rs]
  repeat (refine opsG fun K hK => ?_; simp only [z, seval]; (repeat first | refine gcI ?_ | intro (_ : _ ≤ _)); refine hK _ ?_; clear hK K)
  refine hK25 _ ?_
  obtain ⟨r7, hr7, H⟩ := bind_some H
  refine Sm.seqA h00 mixed hΓ (by kernel_rfl) fun K26 hK26 => ?_
  simp only [rs]
  repeat (refine opsG fun K hK => ?_; simp only [z, seval, xspool_Tracks, xlaw39_long, xspool_New, hr7]; (repeat first | refine gcI ?_ | intro (_ : _ ≤ _)); refine hK _ ?_; clear hK K)
  refine hK26 _ ?_
  obtain ⟨r8, hr8, H⟩ := bind_some H
  refine Sm.seqA h00 mixed hΓ (by kernel_rfl) fun K27 hK27 => ?_
  simp only [rs]
  repeat (refine opsG fun K hK => ?_; simp only [z, seval, xspool_Tracks, xlaw39_long, xspool_New, xspool_Put, hr8]; (repeat first | refine gcI ?_ | intro (_ : _ ≤ _)); refine hK _ ?_; clear hK K)
  refine hK27 _ ?_
  obtain ⟨r9, hr9, H⟩ := bind_some H
  refine Sm.seqA h00 mixed hΓ (by kernel_rfl) fun K28 hK28 => ?_
  simp only [rs]
  repeat (refine opsG fun K hK => ?_; simp only [z, seval, xspool_Tracks, xlaw39_long, xspool_New, xspool_Put, xspool_Drop, hr9]; (repeat first | refine gcI ?_ | intro (_ : _ ≤ _)); refine hK _ ?_; clear hK K)
  refine hK28 _ ?_
  obtain ⟨⟨hg37, hg38, hg39⟩, H⟩ := gd_some H
  refine Sm.seqA h00 mixed hΓ (by kernel_rfl) fun K29 hK29 => ?_
  simp only [rs]
  repeat (refine opsG fun K hK => ?_; simp only [z, seval, xspool_Tracks, xlaw39_long, xspool_New, xspool_Put, xspool_Drop, xlaw39_row]; (repeat first | refine gcI ?_ | intro (_ : _ ≤ _)); refine hK _ ?_; clear hK K)
  refine hK29 _ ?_
  obtain ⟨r10, hr10, H⟩ := bind_some H
  refine Sm.seqA h00 mixed hΓ (by kernel_rfl) fun K30 hK30 => ?_
  simp only [rs]
  repeat (refine opsG fun K hK => ?_; simp only [z, seval, xspool_Tracks, xlaw39_long, xspool_New, hr10]; (repeat first | refine gcI ?_ | intro (_ : _ ≤ _)); refine hK _ ?_; clear hK K)
  refine hK30 _ ?_
  obtain ⟨r11, hr11, H⟩ := bind_some H
  obtain ⟨r12, hr12, H⟩ := bind_some H
  refine Sm.seqQ h00 mixed hΓ [0, 1, 2, 3, 4, 5, 6, 7, 8, 9, 10, 11, 12, 13] [(none, [352], []), (none, [], [3519, 3518, 3517, 3516, 3515, 3514, 3513, 3512, 3511, 3510, 3509, 3508, 3507, 3506, 3505, 3504]), (none, [3424, 3504], [3535, 3534, 3533, 3532, 3531, 3530, 3529, 3528, 3527, 3526, 3525, 3524, 3523, 3522, 3521, 3520, 3424, 3504]), (none, [], []), (none, [], []), (none, [], []), (none, [], []), (none, [], []), (none, [], [384]), (none, [], [400]), (none, [384], [384]), (none, [400, 3520], [400]), (none, [], []), (none, [], [])] (by kernel_rfl) rfl fun K31 hK31 => ?_
  simp only [rs]
  iterate 14 (refine opsQ fun K hK => ?_; simp only [z, seval, xspool_Tracks, xlaw39_long, xspool_New, xspool_Put, hr11, hr12]; (repeat first | refine gcI ?_ | intro (_ : _ ≤ _)); refine hK _ ?_; clear hK K)
  refine opsQ0 ?_
  refine hK31 _ ?_
  obtain ⟨r13, hr13, H⟩ := bind_some H
  refine Sm.seqA h00 mixed hΓ (by kernel_rfl) fun K32 hK32 => ?_
  simp only [rs]
  repeat (refine opsG fun K hK => ?_; simp only [z, seval, xspool_Tracks, xlaw39_long, xspool_New, xspool_Put, xspool_Drop, xlaw39_row, xspool_Lines, hr13]; (repeat first | refine gcI ?_ | intro (_ : _ ≤ _)); refine hK _ ?_; clear hK K)
  refine hK32 _ ?_
  obtain ⟨r14, hr14, H⟩ := bind_some H
  refine Sm.seqA h00 mixed hΓ (by kernel_rfl) fun K33 hK33 => ?_
  simp only [rs]
  repeat (refine opsG fun K hK => ?_; simp only [z, seval, xspool_Tracks, xlaw39_long, xspool_New, xspool_Put, xspool_Drop, xlaw39_row, xspool_Lines, hr14]; (repeat first | refine gcI ?_ | intro (_ : _ ≤ _)); refine hK _ ?_; clear hK K)
  refine hK33 _ ?_
  obtain ⟨r15, hr15, H⟩ := bind_some H
  refine Sm.seqA h00 mixed hΓ (by kernel_rfl) fun K34 hK34 => ?_
  simp only [rs]
  repeat (refine opsG fun K hK => ?_; simp only [z, seval, xspool_Tracks, xlaw39_long, xspool_New, xspool_Put, xspool_Drop, xlaw39_row, xspool_Lines, hr15]; (repeat first | refine gcI ?_ | intro (_ : _ ≤ _)); refine hK _ ?_; clear hK K)
  refine hK34 _ ?_
  obtain ⟨hg36, H⟩ := gd_some H
  refine Sm.seqA h00 mixed hΓ (by kernel_rfl) fun K35 hK35 => ?_
  simp only [rs]
  repeat (refine opsG fun K hK => ?_; simp only [z, seval, xspool_Tracks, xlaw39_long, xspool_New, xspool_Put, xspool_Drop, xlaw39_row, xspool_Lines, xlaw39_equal]; (repeat first | refine gcI ?_ | intro (_ : _ ≤ _)); refine hK _ ?_; clear hK K)
  refine hK35 _ ?_
  refine Sm.ret ?_
  try simp only [seval, Exit.exit.injEq]
  obtain rfl := Option.some.inj H
  refine Ret.ofR [] (.inr rfl) ?_
  simp only [z, seval]
def ref15_One (n : Nat) (r_ : TRec) : Option TRec :=
  gd (r_.Key.length ≤ 2147483648) <|
  gd (r_.Data.length ≤ 2147483648) <|
  some r_
def xref15_One (n : Nat) : Go.AE.Fn := mkFn (A := TRec) (R := TRec) 61 [(true, [.int .i64, .slice 5, .slice 5, .bool])] false (fun xs => (⟨(cg (xs.getD 0 []) 0).toInt, ((cg (xs.getD 0 []) 1).toSl.map d_Int), ((cg (xs.getD 0 []) 2).toSl.map d_Int), (cg (xs.getD 0 []) 3).toBool⟩ : TRec)) (fun a => [[.int a.R, .slice (List.map e_Int a.Key), .slice (List.map e_Int a.Data), .bool a.Bad]]) (fun a => ref15_One n a) (fun r => [.agg [.c (.int .i64) (.int r.R), .own 0 [.int .u8] 0 r.Key.length, .own 1 [.int .u8] 0 r.Data.length, .c .bool (.bool r.Bad)]]) (fun r => [.row 5 (List.map e_Int r.Key), .row 5 (List.map e_Int r.Data)])
theorem cref15_One (n : Nat) : Contract Try.prog (xref15_One n) := by
  have hΓ : ∀ g, g ∈ ([] : List Go.AE.Fn) → Contract Try.prog g := by simp
  refine contract_f (Try.f61.body.getD .skip) h00 Try.func61 rfl (by intro args w; exact Try.call61 args w) (by decide) (by
    intro _ r; refine ⟨rfl, ?_⟩; simp only [List.mem_cons, List.not_mem_nil, or_false]; rintro _ (rfl | rfl)
    · exact ⟨5, _, _, rfl, ty5, rfl⟩
    · exact ⟨5, _, _, rfl, ty5, rfl⟩) ?_
  rintro r_ r H
  try dsimp only at H
  unfold ref15_One at H
  simp only [Try.f61, Option.getD]
  refine Sm.seqA h00 mixed hΓ (by kernel_rfl) fun K1 hK1 => ?_
  simp only [rs]
  repeat (refine opsG fun K hK => ?_; simp only [z, seval]; (repeat first | refine gcI ?_ | intro (_ : _ ≤ _)); refine hK _ ?_; clear hK K)
  refine hK1 _ ?_
  obtain ⟨hg6, H⟩ := gd_some H
  refine Sm.seqA h00 mixed hΓ (by kernel_rfl) fun K2 hK2 => ?_
  simp only [rs]
  repeat (refine opsG fun K hK => ?_; simp only [z, seval]; (repeat first | refine gcI ?_ | intro (_ : _ ≤ _)); refine hK _ ?_; clear hK K)
  refine hK2 _ ?_
  obtain ⟨hg5, H⟩ := gd_some H
  refine Sm.seqA h00 mixed hΓ (by kernel_rfl) fun K3 hK3 => ?_
  simp only [rs]
  repeat (refine opsG fun K hK => ?_; simp only [z, seval]; (repeat first | refine gcI ?_ | intro (_ : _ ≤ _)); refine hK _ ?_; clear hK K)
  refine hK3 _ ?_
  refine Sm.seqA h00 mixed hΓ (by kernel_rfl) fun K4 hK4 => ?_
  simp only [rs]
  repeat (refine opsG fun K hK => ?_; simp only [z, seval]; (repeat first | refine gcI ?_ | intro (_ : _ ≤ _)); refine hK _ ?_; clear hK K)
  refine hK4 _ ?_
  refine Sm.ret ?_
  try simp only [seval, Exit.exit.injEq]
  obtain rfl := Option.some.inj H
  refine Ret.ofR [some 96, some 176] (.inr rfl) ?_
  simp only [z, seval]
  try omega
abbrev ref15_Copy_s1 (out : List TRec) : S := stB [(3, .own 9000 [.int .i64, .slice 5, .slice 5, .bool] 0 out.length)] [(9000, .row 59 (List.map e_TRec out))]
def ref15_Copy_k1 (n : Nat) (out : List TRec) : Option (List TRec) :=
  some out
abbrev ref15_Copy_t2 (t : List TRec) (out_1 : List TRec) (i : Int) : S := stB [(0, .c (.slice 59) (.slice (List.map e_TRec t))), (3, .own 9002 [.int .i64, .slice 5, .slice 5, .bool] 0 out_1.length), (4, .c (.int .i64) (.int i))] [(9002, .row 59 (List.map e_TRec out_1))]
def ref15_Copy_b2 (n : Nat) (t : List TRec) (out_1 : List TRec) (i : Int) : Option (((List TRec) × Int) ⊕ (((List TRec)))) :=
  bif (decide (i < (t.length : Int))) then
    gd ((0 ≤ i ∧ i < (t.length : Int))) <|
    (ref15_One n (gt t (Int.toNat i))).bind fun r1 =>
    gd ((out_1.length + 1) ≤ 2147483648) <|
    some (.inl ((out_1 ++ [r1]), (IntKind.wrap .i64 (i + 1))))
  else
    some (.inr out_1)
def ref15_Copy (n : Nat) (t : List TRec) : Option (List TRec) :=
  (loopF (fun (x : (List TRec) × Int) => ref15_Copy_b2 n t x.1 x.2) n ([], 0)).bind fun y5 =>
  ref15_Copy_k1 n y5
def xref15_Copy (n : Nat) : Go.AE.Fn := mkFn (A := (List TRec)) (R := (List TRec)) 33 [(false, [.slice 59])] true (fun xs => ((cg (xs.getD 0 []) 0).toSl.map d_TRec)) (fun a => [[.slice (List.map e_TRec a)]]) (fun a => ref15_Copy n a) (fun r => [.own 0 [.int .i64, .slice 5, .slice 5, .bool] 0 r.length]) (fun r => [.row 59 (List.map e_TRec r)])
theorem cref15_Copy (n : Nat) : Contract Try.prog (xref15_Copy n) := by
  have hΓ : ∀ g, g ∈ ([xref15_One n] : List Go.AE.Fn) → Contract Try.prog g := by
    intro g hg; simp only [List.mem_cons, List.not_mem_nil, or_false] at hg; subst hg; exact cref15_One n
  refine contract_f (Try.f33.body.getD .skip) h00 Try.func33 rfl (by intro args w; exact Try.call33 args w) (by decide) (by intro h; cases h) ?_
  rintro t r H
  try dsimp only at H
  unfold ref15_Copy at H
  simp only [Try.f33, Option.getD]
  refine Sm.seqA h00 mixed hΓ (by kernel_rfl) fun K1 hK1 => ?_
  simp only [rs]
  repeat (refine opsG fun K hK => ?_; simp only [z, seval]; (repeat first | refine gcI ?_ | intro (_ : _ ≤ _)); refine hK _ ?_; clear hK K)
  refine hK1 _ ?_
  refine Sm.seqA h00 mixed hΓ (by kernel_rfl) fun K2 hK2 => ?_
  simp only [rs]
  repeat (refine opsG fun K hK => ?_; simp only [z, seval]; (repeat first | refine gcI ?_ | intro (_ : _ ≤ _)); refine hK _ ?_; clear hK K)
  refine hK2 _ ?_
  refine Sm.cut (fun (x : (List TRec)) => ref15_Copy_s1 x) (fun x => ref15_Copy_k1 n x = some r) ?_ ?_
  · refine Sm.seqA h00 mixed hΓ (by kernel_rfl) fun K4 hK4 => ?_
    simp only [rs]
    repeat (refine opsG fun K hK => ?_; simp only [z, seval]; (repeat first | refine gcI ?_ | intro (_ : _ ≤ _)); refine hK _ ?_; clear hK K)
    refine hK4 _ ?_
    refine Sm.block ?_
    obtain ⟨y5, hy5, Ho5⟩ := bind_some H
    refine Sm.loopB (fun (x : (List TRec) × Int) => ref15_Copy_b2 n t x.1 x.2) (fun x => ref15_Copy_t2 t x.1 x.2) hy5 ?_ ?_
    · exact weak_b [none] rfl rfl rfl (by simp only [wk, z, seval]) (by simp only [wk, z, seval])
    rintro ⟨out_1, i⟩ z5 H
    try dsimp only at H
    unfold ref15_Copy_b2 at H
    refine Sm.seqK fun K6 hK6 => ?_
    refine Sm.seqA h00 mixed hΓ (by kernel_rfl) fun K7 hK7 => ?_
    simp only [rs]
    repeat (refine opsG fun K hK => ?_; simp only [z, seval, ref15_Copy_t2]; (repeat first | refine gcI ?_ | intro (_ : _ ≤ _)); refine hK _ ?_; clear hK K)
    refine hK7 _ ?_
    refine Sm.condK (by rfl) fun Ka Kb ha hb => ?_
    simp only [wpCond, z, seval, ref15_Copy_t2]
    refine ⟨fun h8 => ha ?_, fun h8 => hb ?_⟩
    · replace H := bt h8 H
      refine Sm.skip ?_
      refine hK6 _ ?_
      refine Sm.seqK fun K9 hK9 => ?_
      refine Sm.block ?_
      obtain ⟨hg10, H⟩ := gd_some H
      obtain ⟨r1, hr1, H⟩ := bind_some H
      obtain ⟨hg11, H⟩ := gd_some H
      refine Sm.regA h00 mixed hΓ (by kernel_rfl) ?_
      simp only [rs]
      repeat (refine opsG fun K hK => ?_; simp only [z, seval, ref15_Copy_t2, xref15_One, hr1]; (repeat first | refine gcI ?_ | intro (_ : _ ≤ _)); refine hK _ ?_; clear hK K)
      refine opsG0 ?_
      refine hK9 _ ?_
      refine Sm.regA h00 mixed hΓ (by kernel_rfl) ?_
      simp only [rs]
      repeat (refine opsG fun K hK => ?_; simp only [z, seval, ref15_Copy_t2]; (repeat first | refine gcI ?_ | intro (_ : _ ≤ _)); refine hK _ ?_; clear hK K)
      refine opsG0 ?_
      try simp only [seval, Exit.exit.injEq]
      refine ⟨(_, _), (Option.some.inj H).symm, ?_⟩
      exact weak_b [some 288] rfl rfl rfl (by simp only [wk, z, seval, ref15_Copy_t2]) (by simp only [wk, z, seval, ref15_Copy_t2])
    replace H := bf h8 H
    refine Sm.exit ?_
    try simp only [seval, Exit.exit.injEq]
    refine ⟨⟨_, (Option.some.inj H).symm⟩, fun hz => ?_⟩
    have hyy := Sum.inr.inj ((Option.some.inj H).trans hz)
    subst hyy
    have H := Ho5
    try dsimp only at H
    try simp only [seval, Exit.exit.injEq]
    refine ⟨_, H, ?_⟩
    exact weak_b [some 9002] rfl rfl rfl (by simp only [wk, z, seval, ref15_Copy_t2]) (by simp only [wk, z, seval, ref15_Copy_t2])
  rintro out H
  try dsimp only at H
  unfold ref15_Copy_k1 at H
  refine Sm.seqA h00 mixed hΓ (by kernel_rfl) fun K3 hK3 => ?_
  simp only [rs]
  repeat (refine opsG fun K hK => ?_; simp only [z, seval, ref15_Copy_s1]; (repeat first | refine gcI ?_ | intro (_ : _ ≤ _)); refine hK _ ?_; clear hK K)
  refine hK3 _ ?_
  refine Sm.ret ?_
  try simp only [seval, Exit.exit.injEq]
  obtain rfl := Option.some.inj H
  refine Ret.ofR [some 9000] (.inr rfl) ?_
  simp only [z, seval, ref15_Copy_s1]
  try omega
def ref15_record (n : Nat) (r_ : TRec) : Option Bool :=
  some (if (if (decide (r_.R ≥ 1)) = true then (decide (r_.R ≤ 255)) else false) = true then (decide ((r_.Key.length : Int) ≤ 255)) else false)
def xref15_record (n : Nat) : Go.AE.Fn := mkFn (A := TRec) (R := Bool) 76 [(true, [.int .i64, .slice 5, .slice 5, .bool])] false (fun xs => (⟨(cg (xs.getD 0 []) 0).toInt, ((cg (xs.getD 0 []) 1).toSl.map d_Int), ((cg (xs.getD 0 []) 2).toSl.map d_Int), (cg (xs.getD 0 []) 3).toBool⟩ : TRec)) (fun a => [[.int a.R, .slice (List.map e_Int a.Key), .slice (List.map e_Int a.Data), .bool a.Bad]]) (fun a => ref15_record n a) (fun r => [.c .bool (.bool r)]) (fun r => [])
theorem cref15_record (n : Nat) : Contract Try.prog (xref15_record n) := by
  have hΓ : ∀ g, g ∈ ([] : List Go.AE.Fn) → Contract Try.prog g := by simp
  refine contract_f (Try.f76.body.getD .skip) h00 Try.func76 rfl (by intro args w; exact Try.call76 args w) (by decide) (by intro _ r; exact ⟨rfl, by simp⟩) ?_
  rintro r_ r H
  try dsimp only at H
  unfold ref15_record at H
  simp only [Try.f76, Option.getD]
  refine Sm.seqA h00 mixed hΓ (by kernel_rfl) fun K1 hK1 => ?_
  simp only [rs]
  repeat (refine opsG fun K hK => ?_; simp only [z, seval]; (repeat first | refine gcI ?_ | intro (_ : _ ≤ _)); refine hK _ ?_; clear hK K)
  refine hK1 _ ?_
  refine Sm.seqA h00 mixed hΓ (by kernel_rfl) fun K2 hK2 => ?_
  simp only [rs]
  repeat (refine opsG fun K hK => ?_; simp only [z, seval]; (repeat first | refine gcI ?_ | intro (_ : _ ≤ _)); refine hK _ ?_; clear hK K)
  refine hK2 _ ?_
  refine Sm.ret ?_
  try simp only [seval, Exit.exit.injEq]
  obtain rfl := Option.some.inj H
  refine Ret.ofR [] (.inr rfl) ?_
  simp only [z, seval]
abbrev ref15_Cost_s1 (n_ : Int) : S := stB [(3, .c (.int .i64) (.int n_))] []
def ref15_Cost_k1 (n : Nat) (n_ : Int) : Option Int :=
  some n_
def ref15_Cost (n : Nat) (r_ : TRec) : Option Int :=
  bif (decide ((r_.Key.length : Int) > 0)) then
    ref15_Cost_k1 n (IntKind.wrap .i64 ((IntKind.wrap .i64 ((IntKind.wrap .i64 (32 + (r_.Data.length : Int))) + 16)) + (r_.Key.length : Int)))
  else
    ref15_Cost_k1 n (IntKind.wrap .i64 (32 + (r_.Data.length : Int)))
def xref15_Cost (n : Nat) : Go.AE.Fn := mkFn (A := TRec) (R := Int) 83 [(true, [.int .i64, .slice 5, .slice 5, .bool])] false (fun xs => (⟨(cg (xs.getD 0 []) 0).toInt, ((cg (xs.getD 0 []) 1).toSl.map d_Int), ((cg (xs.getD 0 []) 2).toSl.map d_Int), (cg (xs.getD 0 []) 3).toBool⟩ : TRec)) (fun a => [[.int a.R, .slice (List.map e_Int a.Key), .slice (List.map e_Int a.Data), .bool a.Bad]]) (fun a => ref15_Cost n a) (fun r => [.c (.int .i64) (.int r)]) (fun r => [])
theorem cref15_Cost (n : Nat) : Contract Try.prog (xref15_Cost n) := by
  have hΓ : ∀ g, g ∈ ([] : List Go.AE.Fn) → Contract Try.prog g := by simp
  refine contract_f (Try.f83.body.getD .skip) h00 Try.func83 rfl (by intro args w; exact Try.call83 args w) (by decide) (by intro _ r; exact ⟨rfl, by simp⟩) ?_
  rintro r_ r H
  try dsimp only at H
  unfold ref15_Cost at H
  simp only [Try.f83, Option.getD]
  refine Sm.seqA h00 mixed hΓ (by kernel_rfl) fun K1 hK1 => ?_
  simp only [rs]
  repeat (refine opsG fun K hK => ?_; simp only [z, seval]; (repeat first | refine gcI ?_ | intro (_ : _ ≤ _)); refine hK _ ?_; clear hK K)
  refine hK1 _ ?_
  refine Sm.seqA h00 mixed hΓ (by kernel_rfl) fun K2 hK2 => ?_
  simp only [rs]
  repeat (refine opsG fun K hK => ?_; simp only [z, seval]; (repeat first | refine gcI ?_ | intro (_ : _ ≤ _)); refine hK _ ?_; clear hK K)
  refine hK2 _ ?_
  refine Sm.cut (fun (x : Int) => ref15_Cost_s1 x) (fun x => ref15_Cost_k1 n x = some r) ?_ ?_
  · refine Sm.seqA h00 mixed hΓ (by kernel_rfl) fun K4 hK4 => ?_
    simp only [rs]
    repeat (refine opsG fun K hK => ?_; simp only [z, seval]; (repeat first | refine gcI ?_ | intro (_ : _ ≤ _)); refine hK _ ?_; clear hK K)
    refine hK4 _ ?_
    refine Sm.condK (by rfl) fun Ka Kb ha hb => ?_
    simp only [wpCond, z, seval]
    refine ⟨fun h5 => ha ?_, fun h5 => hb ?_⟩
    · replace H := bt h5 H
      refine Sm.regA h00 mixed hΓ (by kernel_rfl) ?_
      simp only [rs]
      repeat (refine opsG fun K hK => ?_; simp only [z, seval]; (repeat first | refine gcI ?_ | intro (_ : _ ≤ _)); refine hK _ ?_; clear hK K)
      refine opsG0 ?_
      try simp only [seval, Exit.exit.injEq]
      refine ⟨_, H, ?_⟩
      exact weak_b [] rfl rfl rfl (by simp only [wk, z, seval]) (by simp only [wk, z, seval])
    replace H := bf h5 H
    refine Sm.skip ?_
    try simp only [seval, Exit.exit.injEq]
    refine ⟨_, H, ?_⟩
    exact weak_b [] rfl rfl rfl (by simp only [wk, z, seval]) (by simp only [wk, z, seval])
  rintro n_ H
  try dsimp only at H
  unfold ref15_Cost_k1 at H
  refine Sm.seqA h00 mixed hΓ (by kernel_rfl) fun K3 hK3 => ?_
  simp only [rs]
  repeat (refine opsG fun K hK => ?_; simp only [z, seval, ref15_Cost_s1]; (repeat first | refine gcI ?_ | intro (_ : _ ≤ _)); refine hK _ ?_; clear hK K)
  refine hK3 _ ?_
  refine Sm.ret ?_
  try simp only [seval, Exit.exit.injEq]
  obtain rfl := Option.some.inj H
  refine Ret.ofR [] (.inr rfl) ?_
  simp only [z, seval, ref15_Cost_s1]
abbrev ref15_Used_s1 (n_ : Int) : S := stB [(3, .c (.int .i64) (.int n_))] []
def ref15_Used_k1 (n : Nat) (n_ : Int) : Option Int :=
  some n_
abbrev ref15_Used_t2 (t : List TRec) (n__1 : Int) (i : Int) : S := stB [(0, .c (.slice 59) (.slice (List.map e_TRec t))), (3, .c (.int .i64) (.int n__1)), (4, .c (.int .i64) (.int i))] []
def ref15_Used_b2 (n : Nat) (t : List TRec) (n__1 : Int) (i : Int) : Option ((Int × Int) ⊕ ((Int))) :=
  bif (decide (i < (t.length : Int))) then
    gd ((0 ≤ i ∧ i < (t.length : Int))) <|
    (ref15_Cost n (gt t (Int.toNat i))).bind fun r1 =>
    some (.inl ((IntKind.wrap .i64 (n__1 + r1)), (IntKind.wrap .i64 (i + 1))))
  else
    some (.inr n__1)
def ref15_Used (n : Nat) (t : List TRec) : Option Int :=
  (loopF (fun (x : Int × Int) => ref15_Used_b2 n t x.1 x.2) n (0, 0)).bind fun y5 =>
  ref15_Used_k1 n y5
def xref15_Used (n : Nat) : Go.AE.Fn := mkFn (A := (List TRec)) (R := Int) 77 [(false, [.slice 59])] false (fun xs => ((cg (xs.getD 0 []) 0).toSl.map d_TRec)) (fun a => [[.slice (List.map e_TRec a)]]) (fun a => ref15_Used n a) (fun r => [.c (.int .i64) (.int r)]) (fun r => [])
theorem cref15_Used (n : Nat) : Contract Try.prog (xref15_Used n) := by
  have hΓ : ∀ g, g ∈ ([xref15_Cost n] : List Go.AE.Fn) → Contract Try.prog g := by
    intro g hg; simp only [List.mem_cons, List.not_mem_nil, or_false] at hg; subst hg; exact cref15_Cost n
  refine contract_f (Try.f77.body.getD .skip) h00 Try.func77 rfl (by intro args w; exact Try.call77 args w) (by decide) (by intro _ r; exact ⟨rfl, by simp⟩) ?_
  rintro t r H
  try dsimp only at H
  unfold ref15_Used at H
  simp only [Try.f77, Option.getD]
  refine Sm.seqA h00 mixed hΓ (by kernel_rfl) fun K1 hK1 => ?_
  simp only [rs]
  repeat (refine opsG fun K hK => ?_; simp only [z, seval]; (repeat first | refine gcI ?_ | intro (_ : _ ≤ _)); refine hK _ ?_; clear hK K)
  refine hK1 _ ?_
  refine Sm.seqA h00 mixed hΓ (by kernel_rfl) fun K2 hK2 => ?_
  simp only [rs]
  repeat (refine opsG fun K hK => ?_; simp only [z, seval]; (repeat first | refine gcI ?_ | intro (_ : _ ≤ _)); refine hK _ ?_; clear hK K)
  refine hK2 _ ?_
  refine Sm.cut (fun (x : Int) => ref15_Used_s1 x) (fun x => ref15_Used_k1 n x = some r) ?_ ?_
  · refine Sm.seqA h00 mixed hΓ (by kernel_rfl) fun K4 hK4 => ?_
    simp only [rs]
    repeat (refine opsG fun K hK => ?_; simp only [z, seval]; (repeat first | refine gcI ?_ | intro (_ : _ ≤ _)); refine hK _ ?_; clear hK K)
    refine hK4 _ ?_
    refine Sm.block ?_
    obtain ⟨y5, hy5, Ho5⟩ := bind_some H
    refine Sm.loopB (fun (x : Int × Int) => ref15_Used_b2 n t x.1 x.2) (fun x => ref15_Used_t2 t x.1 x.2) hy5 ?_ ?_
    · exact weak_b [] rfl rfl rfl (by simp only [wk, z, seval]) (by simp only [wk, z, seval])
    rintro ⟨n__1, i⟩ z5 H
    try dsimp only at H
    unfold ref15_Used_b2 at H
    refine Sm.seqK fun K6 hK6 => ?_
    refine Sm.seqA h00 mixed hΓ (by kernel_rfl) fun K7 hK7 => ?_
    simp only [rs]
    repeat (refine opsG fun K hK => ?_; simp only [z, seval, ref15_Used_t2]; (repeat first | refine gcI ?_ | intro (_ : _ ≤ _)); refine hK _ ?_; clear hK K)
    refine hK7 _ ?_
    refine Sm.condK (by rfl) fun Ka Kb ha hb => ?_
    simp only [wpCond, z, seval, ref15_Used_t2]
    refine ⟨fun h8 => ha ?_, fun h8 => hb ?_⟩
    · replace H := bt h8 H
      refine Sm.skip ?_
      refine hK6 _ ?_
      refine Sm.seqK fun K9 hK9 => ?_
      refine Sm.block ?_
      obtain ⟨hg10, H⟩ := gd_some H
      obtain ⟨r1, hr1, H⟩ := bind_some H
      refine Sm.regA h00 mixed hΓ (by kernel_rfl) ?_
      simp only [rs]
      repeat (refine opsG fun K hK => ?_; simp only [z, seval, ref15_Used_t2, xref15_Cost, hr1]; (repeat first | refine gcI ?_ | intro (_ : _ ≤ _)); refine hK _ ?_; clear hK K)
      refine opsG0 ?_
      refine hK9 _ ?_
      refine Sm.regA h00 mixed hΓ (by kernel_rfl) ?_
      simp only [rs]
      repeat (refine opsG fun K hK => ?_; simp only [z, seval, ref15_Used_t2]; (repeat first | refine gcI ?_ | intro (_ : _ ≤ _)); refine hK _ ?_; clear hK K)
      refine opsG0 ?_
      try simp only [seval, Exit.exit.injEq]
      refine ⟨(_, _), (Option.some.inj H).symm, ?_⟩
      exact weak_b [] rfl rfl rfl (by simp only [wk, z, seval, ref15_Used_t2]) (by simp only [wk, z, seval, ref15_Used_t2])
    replace H := bf h8 H
    refine Sm.exit ?_
    try simp only [seval, Exit.exit.injEq]
    refine ⟨⟨_, (Option.some.inj H).symm⟩, fun hz => ?_⟩
    have hyy := Sum.inr.inj ((Option.some.inj H).trans hz)
    subst hyy
    have H := Ho5
    try dsimp only at H
    try simp only [seval, Exit.exit.injEq]
    refine ⟨_, H, ?_⟩
    exact weak_b [] rfl rfl rfl (by simp only [wk, z, seval, ref15_Used_t2]) (by simp only [wk, z, seval, ref15_Used_t2])
  rintro n_ H
  try dsimp only at H
  unfold ref15_Used_k1 at H
  refine Sm.seqA h00 mixed hΓ (by kernel_rfl) fun K3 hK3 => ?_
  simp only [rs]
  repeat (refine opsG fun K hK => ?_; simp only [z, seval, ref15_Used_s1]; (repeat first | refine gcI ?_ | intro (_ : _ ≤ _)); refine hK _ ?_; clear hK K)
  refine hK3 _ ?_
  refine Sm.ret ?_
  try simp only [seval, Exit.exit.injEq]
  obtain rfl := Option.some.inj H
  refine Ret.ofR [] (.inr rfl) ?_
  simp only [z, seval, ref15_Used_s1]
abbrev ref15_Valid_s1 (t : List TRec) : S := stB [(0, .c (.slice 59) (.slice (List.map e_TRec t)))] []
def ref15_Valid_k1 (n : Nat) (t : List TRec) : Option Bool :=
  (ref15_Used n t).bind fun r1 =>
  some (decide (r1 ≤ 2048))
abbrev ref15_Valid_t2 (t : List TRec) (i : Int) : S := stB [(0, .c (.slice 59) (.slice (List.map e_TRec t))), (3, .c (.int .i64) (.int i))] []
def ref15_Valid_b2 (n : Nat) (t : List TRec) (i : Int) : Option ((Int) ⊕ (((Bool) ⊕ (Unit)))) :=
  bif (decide (i < (t.length : Int))) then
    gd ((0 ≤ i ∧ i < (t.length : Int))) <|
    (ref15_record n (gt t (Int.toNat i))).bind fun r2 =>
    gd ((((!(!r2)) && (decide (i > 0))) = true → (0 ≤ i ∧ i < (t.length : Int))) ∧ (((!(!r2)) && (decide (i > 0))) = true → (0 ≤ (IntKind.wrap .i64 (i - 1)) ∧ (IntKind.wrap .i64 (i - 1)) < (t.length : Int)))) <|
    bif (if (!r2) = true then true else (if (decide (i > 0)) = true then (decide (((gt t (Int.toNat i)).R) ≤ ((gt t (Int.toNat (IntKind.wrap .i64 (i - 1)))).R))) else false)) then
      some (.inr (.inl false))
    else
      some (.inl (IntKind.wrap .i64 (i + 1)))
  else
    some (.inr (.inr ()))
def ref15_Valid (n : Nat) (t : List TRec) : Option Bool :=
  (loopF (fun (x : Int) => ref15_Valid_b2 n t x) n 0).bind fun y4 =>
  match y4 with
  | .inl v =>
    some v
  | .inr v =>
    ref15_Valid_k1 n t
def xref15_Valid (n : Nat) : Go.AE.Fn := mkFn (A := (List TRec)) (R := Bool) 60 [(false, [.slice 59])] false (fun xs => ((cg (xs.getD 0 []) 0).toSl.map d_TRec)) (fun a => [[.slice (List.map e_TRec a)]]) (fun a => ref15_Valid n a) (fun r => [.c .bool (.bool r)]) (fun r => [])
theorem cref15_Valid (n : Nat) : Contract Try.prog (xref15_Valid n) := by
  have hΓ : ∀ g, g ∈ ([xref15_record n, xref15_Used n] : List Go.AE.Fn) → Contract Try.prog g := by
    intro g hg; simp only [List.mem_cons, List.not_mem_nil, or_false] at hg; rcases hg with rfl | rfl; exact cref15_record n; exact cref15_Used n
  refine contract_f (Try.f60.body.getD .skip) h00 Try.func60 rfl (by intro args w; exact Try.call60 args w) (by decide) (by intro _ r; exact ⟨rfl, by simp⟩) ?_
  rintro t r H
  try dsimp only at H
  unfold ref15_Valid at H
  simp only [Try.f60, Option.getD]
  refine Sm.seqA h00 mixed hΓ (by kernel_rfl) fun K1 hK1 => ?_
  simp only [rs]
  repeat (refine opsG fun K hK => ?_; simp only [z, seval]; (repeat first | refine gcI ?_ | intro (_ : _ ≤ _)); refine hK _ ?_; clear hK K)
  refine hK1 _ ?_
  refine Sm.cut (fun (x : Unit) => ref15_Valid_s1 t) (fun x => ref15_Valid_k1 n t = some r) ?_ ?_
  · refine Sm.seqA h00 mixed hΓ (by kernel_rfl) fun K3 hK3 => ?_
    simp only [rs]
    repeat (refine opsG fun K hK => ?_; simp only [z, seval]; (repeat first | refine gcI ?_ | intro (_ : _ ≤ _)); refine hK _ ?_; clear hK K)
    refine hK3 _ ?_
    refine Sm.block ?_
    obtain ⟨y4, hy4, Ho4⟩ := bind_some H
    refine Sm.loopB (fun (x : Int) => ref15_Valid_b2 n t x) (fun x => ref15_Valid_t2 t x) hy4 ?_ ?_
    · exact weak_b [] rfl rfl rfl (by simp only [wk, z, seval]) (by simp only [wk, z, seval])
    rintro i z4 H
    try dsimp only at H
    unfold ref15_Valid_b2 at H
    refine Sm.seqK fun K5 hK5 => ?_
    refine Sm.seqA h00 mixed hΓ (by kernel_rfl) fun K6 hK6 => ?_
    simp only [rs]
    repeat (refine opsG fun K hK => ?_; simp only [z, seval, ref15_Valid_t2]; (repeat first | refine gcI ?_ | intro (_ : _ ≤ _)); refine hK _ ?_; clear hK K)
    refine hK6 _ ?_
    refine Sm.condK (by rfl) fun Ka Kb ha hb => ?_
    simp only [wpCond, z, seval, ref15_Valid_t2]
    refine ⟨fun h7 => ha ?_, fun h7 => hb ?_⟩
    · replace H := bt h7 H
      refine Sm.skip ?_
      refine hK5 _ ?_
      refine Sm.seqK fun K8 hK8 => ?_
      refine Sm.block ?_
      obtain ⟨hg12, H⟩ := gd_some H
      obtain ⟨r2, hr2, H⟩ := bind_some H
      obtain ⟨⟨hg13, hg14⟩, H⟩ := gd_some H
      refine Sm.seqD h00 mixed hΓ (by kernel_rfl) fun K9 hK9 => ?_
      simp only [rs]
      repeat (refine opsH fun K hK => ?_; simp only [z, seval, ref15_Valid_t2, xref15_record, hr2]; (repeat first | refine gcI ?_ | intro (_ : _ ≤ _)); refine hK _ ?_; clear hK K)
      refine hK9 _ ?_
      refine Sm.condK (by rfl) fun Ka Kb ha hb => ?_
      simp only [wpCond, z, seval, ref15_Valid_t2]
      refine ⟨fun h10 => ha ?_, fun h10 => hb ?_⟩
      · replace H := bt h10 H
        refine Sm.seqA h00 mixed hΓ (by kernel_rfl) fun K11 hK11 => ?_
        simp only [rs]
        repeat (refine opsG fun K hK => ?_; simp only [z, seval, ref15_Valid_t2]; (repeat first | refine gcI ?_ | intro (_ : _ ≤ _)); refine hK _ ?_; clear hK K)
        refine hK11 _ ?_
        refine Sm.ret ?_
        try simp only [seval, Exit.exit.injEq]
        refine ⟨⟨_, (Option.some.inj H).symm⟩, fun hz => ?_⟩
        have hyy := Sum.inr.inj ((Option.some.inj H).trans hz)
        subst hyy
        have H := Ho4
        try dsimp only at H
        try simp only [seval, Exit.exit.injEq]
        obtain rfl := Option.some.inj H
        refine Ret.ofR [] (.inr rfl) ?_
        simp only [z, seval, ref15_Valid_t2]
      replace H := bf h10 H
      refine Sm.skip ?_
      refine hK8 _ ?_
      refine Sm.regA h00 mixed hΓ (by kernel_rfl) ?_
      simp only [rs]
      repeat (refine opsG fun K hK => ?_; simp only [z, seval, ref15_Valid_t2]; (repeat first | refine gcI ?_ | intro (_ : _ ≤ _)); refine hK _ ?_; clear hK K)
      refine opsG0 ?_
      try simp only [seval, Exit.exit.injEq]
      refine ⟨_, (Option.some.inj H).symm, ?_⟩
      exact weak_b [] rfl rfl rfl (by simp only [wk, z, seval, ref15_Valid_t2]) (by simp only [wk, z, seval, ref15_Valid_t2])
    replace H := bf h7 H
    refine Sm.exit ?_
    try simp only [seval, Exit.exit.injEq]
    refine ⟨⟨_, (Option.some.inj H).symm⟩, fun hz => ?_⟩
    have hyy := Sum.inr.inj ((Option.some.inj H).trans hz)
    subst hyy
    have H := Ho4
    try dsimp only at H
    try simp only [seval, Exit.exit.injEq]
    refine ⟨(), H, ?_⟩
    exact weak_b [] rfl rfl rfl (by simp only [wk, z, seval, ref15_Valid_t2]) (by simp only [wk, z, seval, ref15_Valid_t2])
  rintro ⟨⟩ H
  try dsimp only at H
  unfold ref15_Valid_k1 at H
  obtain ⟨r1, hr1, H⟩ := bind_some H
  refine Sm.seqA h00 mixed hΓ (by kernel_rfl) fun K2 hK2 => ?_
  simp only [rs]
  repeat (refine opsG fun K hK => ?_; simp only [z, seval, ref15_Valid_s1, xref15_record, xref15_Used, hr1]; (repeat first | refine gcI ?_ | intro (_ : _ ≤ _)); refine hK _ ?_; clear hK K)
  refine hK2 _ ?_
  refine Sm.ret ?_
  try simp only [seval, Exit.exit.injEq]
  obtain rfl := Option.some.inj H
  refine Ret.ofR [] (.inr rfl) ?_
  simp only [z, seval, ref15_Valid_s1]
def ref15_Fits (n : Nat) (t : List TRec) (r_ : TRec) : Option Bool :=
  (ref15_Copy n t).bind fun r1 =>
  gd ((r1.length + 1) ≤ 2147483648) <|
  (ref15_Valid n (r1 ++ [r_])).bind fun r2 =>
  some r2
def xref15_Fits (n : Nat) : Go.AE.Fn := mkFn (A := (List TRec) × TRec) (R := Bool) 30 [(false, [.slice 59]), (true, [.int .i64, .slice 5, .slice 5, .bool])] false (fun xs => (((cg (xs.getD 0 []) 0).toSl.map d_TRec), (⟨(cg (xs.getD 1 []) 0).toInt, ((cg (xs.getD 1 []) 1).toSl.map d_Int), ((cg (xs.getD 1 []) 2).toSl.map d_Int), (cg (xs.getD 1 []) 3).toBool⟩ : TRec))) (fun a => [[.slice (List.map e_TRec a.1)], [.int a.2.R, .slice (List.map e_Int a.2.Key), .slice (List.map e_Int a.2.Data), .bool a.2.Bad]]) (fun a => ref15_Fits n a.1 a.2) (fun r => [.c .bool (.bool r)]) (fun r => [])
theorem cref15_Fits (n : Nat) : Contract Try.prog (xref15_Fits n) := by
  have hΓ : ∀ g, g ∈ ([xref15_Copy n, xref15_Valid n] : List Go.AE.Fn) → Contract Try.prog g := by
    intro g hg; simp only [List.mem_cons, List.not_mem_nil, or_false] at hg; rcases hg with rfl | rfl; exact cref15_Copy n; exact cref15_Valid n
  refine contract_f (Try.f30.body.getD .skip) h00 Try.func30 rfl (by intro args w; exact Try.call30 args w) (by decide) (by intro _ r; exact ⟨rfl, by simp⟩) ?_
  rintro ⟨t, r_⟩ r H
  try dsimp only at H
  unfold ref15_Fits at H
  simp only [Try.f30, Option.getD]
  refine Sm.seqA h00 mixed hΓ (by kernel_rfl) fun K1 hK1 => ?_
  simp only [rs]
  repeat (refine opsG fun K hK => ?_; simp only [z, seval]; (repeat first | refine gcI ?_ | intro (_ : _ ≤ _)); refine hK _ ?_; clear hK K)
  refine hK1 _ ?_
  obtain ⟨r1, hr1, H⟩ := bind_some H
  obtain ⟨hg3, H⟩ := gd_some H
  obtain ⟨r2, hr2, H⟩ := bind_some H
  refine Sm.seqQ h00 mixed hΓ [0, 1, 2, 3, 4, 5, 6] [(none, [], []), (none, [], [111, 110, 109, 108, 107, 106, 105, 104, 103, 102, 101, 100, 99, 98, 97, 96]), (none, [48], []), (none, [], [128]), (none, [96, 128], [144, 96]), (none, [144], [175, 174, 173, 172, 171, 170, 169, 168, 167, 166, 165, 164, 163, 162, 161, 160, 144]), (none, [], [])] (by kernel_rfl) rfl fun K2 hK2 => ?_
  simp only [rs]
  iterate 7 (refine opsQ fun K hK => ?_; simp only [z, seval, xref15_Copy, xref15_Valid, hr1, hr2]; (repeat first | refine gcI ?_ | intro (_ : _ ≤ _)); refine hK _ ?_; clear hK K)
  refine opsQ0 ?_
  refine hK2 _ ?_
  refine Sm.ret ?_
  try simp only [seval, Exit.exit.injEq]
  obtain rfl := Option.some.inj H
  refine Ret.ofR [] (.inr rfl) ?_
  simp only [z, seval]
def ref39_bytes (n : Nat) (x : TLine) : Option (List Int) :=
  gd ((2 + x.Text.length) ≤ 2147483648) <|
  some ([(IntKind.wrap .u8 (x.Ctl)), (IntKind.wrap .u8 ((x.Text.length : Int)))] ++ (fromStr8 x.Text))
def xref39_bytes (n : Nat) : Go.AE.Fn := mkFn (A := TLine) (R := (List Int)) 59 [(true, [.int .i64, .str])] false (fun xs => (⟨(cg (xs.getD 0 []) 0).toInt, (cg (xs.getD 0 []) 1).toStr⟩ : TLine)) (fun a => [[.int a.Ctl, .str a.Text]]) (fun a => ref39_bytes n a) (fun r => [.own 0 [.int .u8] 0 r.length]) (fun r => [.row 5 (List.map e_Int r)])
theorem cref39_bytes (n : Nat) : Contract Try.prog (xref39_bytes n) := by
  have hΓ : ∀ g, g ∈ ([] : List Go.AE.Fn) → Contract Try.prog g := by simp
  refine contract_f (Try.f59.body.getD .skip) h00 Try.func59 rfl (by intro args w; exact Try.call59 args w) (by decide) (by
    intro _ r; refine ⟨rfl, ?_⟩; simp only [List.mem_cons, List.not_mem_nil, or_false]; rintro _ rfl
    · exact ⟨5, _, _, rfl, ty5, rfl⟩) ?_
  rintro x r H
  try dsimp only at H
  unfold ref39_bytes at H
  simp only [Try.f59, Option.getD]
  refine Sm.seqA h00 mixed hΓ (by kernel_rfl) fun K1 hK1 => ?_
  simp only [rs]
  repeat (refine opsG fun K hK => ?_; simp only [z, seval]; (repeat first | refine gcI ?_ | intro (_ : _ ≤ _)); refine hK _ ?_; clear hK K)
  refine hK1 _ ?_
  refine Sm.seqA h00 mixed hΓ (by kernel_rfl) fun K2 hK2 => ?_
  simp only [rs]
  repeat (refine opsG fun K hK => ?_; simp only [z, seval]; (repeat first | refine gcI ?_ | intro (_ : _ ≤ _)); refine hK _ ?_; clear hK K)
  refine hK2 _ ?_
  refine Sm.seqX h00 mixed hΓ (by kernel_rfl) fun K3 hK3 => ?_
  simp only [rs]
  obtain ⟨hg4, H⟩ := gd_some H
  iterate 3 (refine opsX fun K hK => ?_; simp only [z, seval]; (repeat first | refine gcI ?_ | intro (_ : _ ≤ _)); refine hK _ ?_; clear hK K)
  refine opsE stepV_ok fun K hK => ?_; simp only [z, seval]; (repeat first | refine gcI ?_ | intro (_ : _ ≤ _)); refine hK _ ?_; clear hK K
  (refine opsX fun K hK => ?_; simp only [z, seval]; (repeat first | refine gcI ?_ | intro (_ : _ ≤ _)); refine hK _ ?_; clear hK K)
  refine hK3 _ ?_
  refine Sm.ret ?_
  try simp only [seval, Exit.exit.injEq]
  obtain rfl := Option.some.inj H
  refine Ret.ofR [some 240] (.inr rfl) ?_
  simp only [z, seval]
  try omega
end Go.Proofs.Ytkebegfopnlkhaa
