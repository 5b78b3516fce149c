/-
  The functions of the seat, as functions; their contracts.
-/
import Derived.Test.YtojnggohjbidaaaT
import Derived.Test.YtojnggohjbidaaaL43
import Derived.Test.YtojnggohjbidaaaN
set_option maxHeartbeats 8000000
set_option linter.unusedVariables false
set_option linter.unusedSimpArgs false
set_option maxRecDepth 100000
namespace Go.Proofs.Ytojnggohjbidaaa
open Go.AE
def extent_valid (n : Nat) (x : TExtent) : Option Bool :=
  some (if (if (if (decide (x.At ≥ 0)) = true then (decide (x.Len ≥ 1)) else false) = true then (decide (x.At < 512)) else false) = true then (decide (x.Len ≤ (IntKind.wrap .i64 (512 - x.At)))) else false)

def xextent_valid (n : Nat) : Go.AE.Fn := mkFn (A := TExtent) (R := Bool) 36 [(true, [.int .i64, .int .i64])] false (fun xs => (⟨(cg (xs.getD 0 []) 0).toInt, (cg (xs.getD 0 []) 1).toInt⟩ : TExtent)) (fun a => [[.int a.At, .int a.Len]]) (fun a => extent_valid n a) (fun r => [.c .bool (.bool r)]) (fun r => [])

theorem cextent_valid (n : Nat) : Contract Try.prog (xextent_valid n) := by
  have hΓ : ∀ g, g ∈ ([] : List Go.AE.Fn) → Contract Try.prog g := by simp
  refine contract_f (Try.f36.body.getD .skip) h00 Try.func36 rfl (by intro args w; exact Try.call36 args w) (by decide) (by intro _ r; exact ⟨rfl, by simp⟩) ?_
  rintro x r H
  try dsimp only at H
  unfold extent_valid at H
  simp only [Try.f36, Option.getD]
  refine Sm.seqA h00 mixed hΓ (by kernel_rfl) fun K1 hK1 => ?_
  simp only [rs]
  repeat (refine opsG fun K hK => ?_; simp only [z, seval]; (repeat (first | refine gcI ?_ | refine fun (_ : _ ≤ _) => ?_)); refine hK _ ?_; clear hK K)
  refine hK1 _ ?_
  refine Sm.seqA h00 mixed hΓ (by kernel_rfl) fun K2 hK2 => ?_
  simp only [rs]
  repeat (refine opsG fun K hK => ?_; simp only [z, seval]; (repeat (first | refine gcI ?_ | refine fun (_ : _ ≤ _) => ?_)); refine hK _ ?_; clear hK K)
  refine hK2 _ ?_
  refine Sm.ret ?_
  try simp only [seval, Exit.exit.injEq]
  obtain rfl := Option.some.inj H
  refine Ret.ofR [] (.inr rfl) ?_
  simp only [z, seval]

abbrev extent_Check_s1 : S := stB [] []

def extent_Check_k1 (n : Nat) : Option Bool :=
  some true

abbrev extent_Check_t2 (n_ : Int) (l : List TExtent) (v9 : Int) (end_ : Int) (v10 : Int) : S := stB [(1, .c (.int .i64) (.int n_)), (5, .c (.int .i64) (.int end_)), (8, .c (.slice 43) (.slice (List.map e_TExtent l))), (9, .c (.int .i64) (.int v9)), (10, .c (.int .i64) (.int v10))] []

def extent_Check_b2 (n : Nat) (n_ : Int) (l : List TExtent) (v9 : Int) (end_ : Int) (v10 : Int) : Option ((Int × Int) ⊕ (((Bool) ⊕ (Unit)))) :=
  bif (decide (v10 < v9)) then
    gd ((0 ≤ v10 ∧ v10 < (l.length : Int))) <|
    (extent_valid n (gt l (Int.toNat v10))).bind fun r1 =>
    bif (if (if (!r1) = true then true else (decide (((gt l (Int.toNat v10)).At) ≤ end_))) = true then true else (decide ((IntKind.wrap .i64 (((gt l (Int.toNat v10)).At) + ((gt l (Int.toNat v10)).Len))) > n_))) then
      some (.inr (.inl false))
    else
      some (.inl ((IntKind.wrap .i64 (((gt l (Int.toNat v10)).At) + ((gt l (Int.toNat v10)).Len))), (IntKind.wrap .i64 (v10 + 1))))
  else
    some (.inr (.inr ()))

def extent_Check (n : Nat) (l : List TExtent) (n_ : Int) : Option Bool :=
  (loopF (fun (x : Int × Int) => extent_Check_b2 n n_ l (l.length : Int) x.1 x.2) n ((-1), 0)).bind fun y5 =>
  match y5 with
  | .inl v =>
    some v
  | .inr v =>
    extent_Check_k1 n

def xextent_Check (n : Nat) : Go.AE.Fn := mkFn (A := (List TExtent) × Int) (R := Bool) 14 [(false, [.slice 43]), (false, [.int .i64])] false (fun xs => (((cg (xs.getD 0 []) 0).toSl.map d_TExtent), (cg (xs.getD 1 []) 0).toInt)) (fun a => [[.slice (List.map e_TExtent a.1)], [.int a.2]]) (fun a => extent_Check n a.1 a.2) (fun r => [.c .bool (.bool r)]) (fun r => [])

theorem cextent_Check (n : Nat) : Contract Try.prog (xextent_Check n) := by
  have hΓ : ∀ g, g ∈ ([xextent_valid n] : List Go.AE.Fn) → Contract Try.prog g := by
    intro g hg; simp only [List.mem_cons, List.not_mem_nil, or_false] at hg; subst hg; exact cextent_valid n
  refine contract_f (Try.f14.body.getD .skip) h00 Try.func14 rfl (by intro args w; exact Try.call14 args w) (by decide) (by intro _ r; exact ⟨rfl, by simp⟩) ?_
  rintro ⟨l, n_⟩ r H
  try dsimp only at H
  unfold extent_Check at H
  simp only [Try.f14, Option.getD]
  refine Sm.seqA h00 mixed hΓ (by kernel_rfl) fun K1 hK1 => ?_
  simp only [rs]
  repeat (refine opsG fun K hK => ?_; simp only [z, seval]; (repeat (first | refine gcI ?_ | refine fun (_ : _ ≤ _) => ?_)); refine hK _ ?_; clear hK K)
  refine hK1 _ ?_
  refine Sm.seqA h00 mixed hΓ (by kernel_rfl) fun K2 hK2 => ?_
  simp only [rs]
  repeat (refine opsG fun K hK => ?_; simp only [z, seval]; (repeat (first | refine gcI ?_ | refine fun (_ : _ ≤ _) => ?_)); refine hK _ ?_; clear hK K)
  refine hK2 _ ?_
  refine Sm.cut (fun (x : Unit) => extent_Check_s1) (fun x => extent_Check_k1 n = some r) ?_ ?_
  · refine Sm.seqA h00 mixed hΓ (by kernel_rfl) fun K4 hK4 => ?_
    simp only [rs]
    repeat (refine opsG fun K hK => ?_; simp only [z, seval]; (repeat (first | refine gcI ?_ | refine fun (_ : _ ≤ _) => ?_)); refine hK _ ?_; clear hK K)
    refine hK4 _ ?_
    refine Sm.block ?_
    obtain ⟨y5, hy5, Ho5⟩ := bind_some H
    refine Sm.loopB (fun (x : Int × Int) => extent_Check_b2 n n_ l (l.length : Int) x.1 x.2) (fun x => extent_Check_t2 n_ l (l.length : Int) x.1 x.2) hy5 ?_ ?_
    · exact weak_b [] rfl rfl rfl (by simp only [wk, z, seval]) (by simp only [wk, z, seval])
    rintro ⟨end_, v10⟩ z5 H
    try dsimp only at H
    unfold extent_Check_b2 at H
    refine Sm.seqA h00 mixed hΓ (by kernel_rfl) fun K6 hK6 => ?_
    simp only [rs]
    repeat (refine opsG fun K hK => ?_; simp only [z, seval, extent_Check_t2]; (repeat (first | refine gcI ?_ | refine fun (_ : _ ≤ _) => ?_)); refine hK _ ?_; clear hK K)
    refine hK6 _ ?_
    refine Sm.seqK fun K7 hK7 => ?_
    refine Sm.condK (by rfl) fun Ka Kb ha hb => ?_
    simp only [wpCond, z, seval, extent_Check_t2]
    refine ⟨fun h8 => ha ?_, fun h8 => hb ?_⟩
    · replace H := bif_t h8 H
      refine Sm.skip ?_
      refine hK7 _ ?_
      refine Sm.seqK fun K9 hK9 => ?_
      refine Sm.block ?_
      obtain ⟨hg15, H⟩ := gd_some H
      refine Sm.seqA h00 mixed hΓ (by kernel_rfl) fun K10 hK10 => ?_
      simp only [rs]
      repeat (refine opsG fun K hK => ?_; simp only [z, seval, extent_Check_t2]; (repeat (first | refine gcI ?_ | refine fun (_ : _ ≤ _) => ?_)); refine hK _ ?_; clear hK K)
      refine hK10 _ ?_
      refine Sm.seqK fun K11 hK11 => ?_
      obtain ⟨r1, hr1, H⟩ := bind_some H
      refine Sm.seqA h00 mixed hΓ (by kernel_rfl) fun K12 hK12 => ?_
      simp only [rs]
      repeat (refine opsG fun K hK => ?_; simp only [z, seval, extent_Check_t2, xextent_valid, hr1]; (repeat (first | refine gcI ?_ | refine fun (_ : _ ≤ _) => ?_)); refine hK _ ?_; clear hK K)
      refine hK12 _ ?_
      refine Sm.condK (by rfl) fun Ka Kb ha hb => ?_
      simp only [wpCond, z, seval, extent_Check_t2]
      refine ⟨fun h13 => ha ?_, fun h13 => hb ?_⟩
      · replace H := bif_t h13 H
        refine Sm.seqA h00 mixed hΓ (by kernel_rfl) fun K14 hK14 => ?_
        simp only [rs]
        repeat (refine opsG fun K hK => ?_; simp only [z, seval, extent_Check_t2]; (repeat (first | refine gcI ?_ | refine fun (_ : _ ≤ _) => ?_)); refine hK _ ?_; clear hK K)
        refine hK14 _ ?_
        refine Sm.ret ?_
        try simp only [seval, Exit.exit.injEq]
        refine ⟨⟨_, (Option.some.inj H).symm⟩, fun hz => ?_⟩
        have hyy := Sum.inr.inj ((Option.some.inj H).trans hz)
        subst hyy
        have H := Ho5
        try dsimp only at H
        try simp only [seval, Exit.exit.injEq]
        obtain rfl := Option.some.inj H
        refine Ret.ofR [] (.inr rfl) ?_
        simp only [z, seval, extent_Check_t2]
      replace H := bif_f h13 H
      refine Sm.skip ?_
      refine hK11 _ ?_
      refine Sm.regA h00 mixed hΓ (by kernel_rfl) ?_
      simp only [rs]
      repeat (refine opsG fun K hK => ?_; simp only [z, seval, extent_Check_t2]; (repeat (first | refine gcI ?_ | refine fun (_ : _ ≤ _) => ?_)); refine hK _ ?_; clear hK K)
      refine opsG0 ?_
      refine hK9 _ ?_
      refine Sm.regA h00 mixed hΓ (by kernel_rfl) ?_
      simp only [rs]
      repeat (refine opsG fun K hK => ?_; simp only [z, seval, extent_Check_t2]; (repeat (first | refine gcI ?_ | refine fun (_ : _ ≤ _) => ?_)); refine hK _ ?_; clear hK K)
      refine opsG0 ?_
      try simp only [seval, Exit.exit.injEq]
      refine ⟨(_, _), (Option.some.inj H).symm, ?_⟩
      exact weak_b [] rfl rfl rfl (by simp only [wk, z, seval, extent_Check_t2]) (by simp only [wk, z, seval, extent_Check_t2])
    replace H := bif_f h8 H
    refine Sm.exit ?_
    try simp only [seval, Exit.exit.injEq]
    refine ⟨⟨_, (Option.some.inj H).symm⟩, fun hz => ?_⟩
    have hyy := Sum.inr.inj ((Option.some.inj H).trans hz)
    subst hyy
    have H := Ho5
    try dsimp only at H
    try simp only [seval, Exit.exit.injEq]
    refine ⟨(), H, ?_⟩
    exact weak_b [] rfl rfl rfl (by simp only [wk, z, seval, extent_Check_t2]) (by simp only [wk, z, seval, extent_Check_t2])
  rintro ⟨⟩ H
  try dsimp only at H
  unfold extent_Check_k1 at H
  refine Sm.seqA h00 mixed hΓ (by kernel_rfl) fun K3 hK3 => ?_
  simp only [rs]
  repeat (refine opsG fun K hK => ?_; simp only [z, seval, extent_Check_s1]; (repeat (first | refine gcI ?_ | refine fun (_ : _ ≤ _) => ?_)); refine hK _ ?_; clear hK K)
  refine hK3 _ ?_
  refine Sm.ret ?_
  try simp only [seval, Exit.exit.injEq]
  obtain rfl := Option.some.inj H
  refine Ret.ofR [] (.inr rfl) ?_
  simp only [z, seval, extent_Check_s1]

def slices_Clone_f33 (n : Nat) (s : List TExtent) : Option (List TExtent) :=
  uniB s fun nb1 =>
  bif nb1 then
    some []
  else
    gd (s.length ≤ 2147483648) <|
    some ([] ++ s)

def xslices_Clone_f33 (n : Nat) : Go.AE.Fn := mkFn (A := (List TExtent)) (R := (List TExtent)) 33 [(false, [.slice 43])] false (fun xs => ((cg (xs.getD 0 []) 0).toSl.map d_TExtent)) (fun a => [[.slice (List.map e_TExtent a)]]) (fun a => slices_Clone_f33 n a) (fun r => [.own 0 [.int .i64, .int .i64] 0 r.length]) (fun r => [.row 43 (List.map e_TExtent r)])

theorem cslices_Clone_f33 (n : Nat) : Contract Try.prog (xslices_Clone_f33 n) := by
  have hΓ : ∀ g, g ∈ ([] : List Go.AE.Fn) → Contract Try.prog g := by simp
  refine contract_f (Try.f33.body.getD .skip) h00 Try.func33 rfl (by intro args w; exact Try.call33 args w) (by decide) (by
    intro _ r; refine ⟨rfl, ?_⟩; simp only [List.mem_cons, List.not_mem_nil, or_false]; rintro _ rfl
    · exact ⟨43, _, _, rfl, ty43, rfl⟩) ?_
  rintro s r H
  try dsimp only at H
  unfold slices_Clone_f33 at H
  simp only [Try.f33, Option.getD]
  refine Sm.seqA h00 mixed hΓ (by kernel_rfl) fun K1 hK1 => ?_
  simp only [rs]
  repeat (refine opsG fun K hK => ?_; simp only [z, seval]; (repeat (first | refine gcI ?_ | refine fun (_ : _ ≤ _) => ?_)); refine hK _ ?_; clear hK K)
  refine hK1 _ ?_
  refine Sm.seqK fun K2 hK2 => ?_
  refine Sm.seqX h00 mixed hΓ (by kernel_rfl) fun K3 hK3 => ?_
  simp only [rs]
  (refine opsX fun K hK => ?_; simp only [z, seval]; (repeat (first | refine gcI ?_ | refine fun (_ : _ ≤ _) => ?_)); refine hK _ ?_; clear hK K)
  refine opsN fun K hK => ?_; simp only [z, seval]; (repeat (first | refine gcI ?_ | refine fun (_ : _ ≤ _) => ?_)); intro nb1 hnb1; refine hK _ ?_; clear hK K
  replace H := uniB_some H nb1 (fun hb => by simpa using hnb1 hb)
  refine hK3 _ ?_
  refine Sm.condK (by rfl) fun Ka Kb ha hb => ?_
  simp only [wpCond, z, seval]
  refine ⟨fun h4 => ha ?_, fun h4 => hb ?_⟩
  · replace H := bif_t h4 H
    refine Sm.seqA h00 mixed hΓ (by kernel_rfl) fun K5 hK5 => ?_
    simp only [rs]
    repeat (refine opsG fun K hK => ?_; simp only [z, seval]; (repeat (first | refine gcI ?_ | refine fun (_ : _ ≤ _) => ?_)); refine hK _ ?_; clear hK K)
    refine hK5 _ ?_
    refine Sm.ret ?_
    try simp only [seval, Exit.exit.injEq]
    obtain rfl := Option.some.inj H
    refine Ret.ofR [none] (.inr rfl) ?_
    simp only [z, seval]
  replace H := bif_f h4 H
  refine Sm.skip ?_
  refine hK2 _ ?_
  obtain ⟨hg7, H⟩ := gd_some H
  refine Sm.seqA h00 mixed hΓ (by kernel_rfl) fun K6 hK6 => ?_
  simp only [rs]
  repeat (refine opsG fun K hK => ?_; simp only [z, seval]; (repeat (first | refine gcI ?_ | refine fun (_ : _ ≤ _) => ?_)); refine hK _ ?_; clear hK K)
  refine hK6 _ ?_
  refine Sm.ret ?_
  try simp only [seval, Exit.exit.injEq]
  obtain rfl := Option.some.inj H
  refine Ret.ofR [some 112] (.inr rfl) ?_
  simp only [z, seval]

def slices_Delete_f34_M1 (n : Nat) (s : List TExtent) (i : Int) (j : Int) : Option (Nat × (List TExtent)) :=
  gd ((0 ≤ i ∧ i ≤ j ∧ j ≤ ((s.length : Nat) : Int) ∧ ((s.length : Nat) : Int) ≤ (s.length : Int))) <|
  bif (i == j) then
    some (s.length, s)
  else
    gd ((0 ≤ 0 ∧ 0 ≤ i ∧ i ≤ (s.length : Int)) ∧ (0 ≤ j ∧ j ≤ (s.length : Int) ∧ (s.length : Int) ≤ (s.length : Int)) ∧ ((Int.toNat (i - 0)) + (List.take (Int.toNat ((s.length : Int) - j)) (List.drop (Int.toNat j) s)).length) ≤ s.length) <|
    gd ((0 ≤ ((((Int.toNat (i - 0)) + (List.take (Int.toNat ((s.length : Int) - j)) (List.drop (Int.toNat j) s)).length) : Nat) : Int) ∧ ((((Int.toNat (i - 0)) + (List.take (Int.toNat ((s.length : Int) - j)) (List.drop (Int.toNat j) s)).length) : Nat) : Int) ≤ ((s.length : Nat) : Int) ∧ ((s.length : Nat) : Int) ≤ (s.length : Int)) ∧ (((Int.toNat (i - 0)) + (List.take (Int.toNat ((s.length : Int) - j)) (List.drop (Int.toNat j) s)).length) + (Int.toNat (((s.length : Nat) : Int) - ((((Int.toNat (i - 0)) + (List.take (Int.toNat ((s.length : Int) - j)) (List.drop (Int.toNat j) s)).length) : Nat) : Int)))) ≤ s.length) <|
    some (((Int.toNat (i - 0)) + (List.take (Int.toNat ((s.length : Int) - j)) (List.drop (Int.toNat j) s)).length), (overL (overL s (Int.toNat (i - 0)) (List.take (Int.toNat ((s.length : Int) - j)) (List.drop (Int.toNat j) s))) ((Int.toNat (i - 0)) + (List.take (Int.toNat ((s.length : Int) - j)) (List.drop (Int.toNat j) s)).length) (zreps (Int.toNat (((s.length : Nat) : Int) - ((((Int.toNat (i - 0)) + (List.take (Int.toNat ((s.length : Int) - j)) (List.drop (Int.toNat j) s)).length) : Nat) : Int))) (⟨0, 0⟩ : TExtent))))

theorem cslices_Delete_f34_M1 (n : Nat) (s : List TExtent) (i : Int) (j : Int) (r : Nat × (List TExtent)) (H : slices_Delete_f34_M1 n s i j = some r) : CallsM Try.prog 34 [.ref (.own 0 [.int .i64, .int .i64] 0 s.length), .dat (false, [.int .i64]) [.int i], .dat (false, [.int .i64]) [.int j]] [.row 43 (List.map e_TExtent s)] [.own 0 [.int .i64, .int .i64] 0 r.1] [.row 43 (List.map e_TExtent r.2)] := by
  have hΓ : ∀ g, g ∈ ([] : List Go.AE.Fn) → Contract Try.prog g := by simp
  refine callsM_of (Try.f34.body.getD .skip) h00 Try.func34 rfl (by intro args w; exact Try.call34 args w) (Nat.le_of_ble_eq_true rfl) (Nat.le_of_ble_eq_true rfl) ?_
  unfold slices_Delete_f34_M1 at H
  simp only [Try.f34, Option.getD]
  refine Sm.seqA h00 mixed hΓ (by kernel_rfl) fun K1 hK1 => ?_
  simp only [rs]
  repeat (refine opsG fun K hK => ?_; simp only [z, seval]; (repeat (first | refine gcI ?_ | refine fun (_ : _ ≤ _) => ?_)); refine hK _ ?_; clear hK K)
  refine hK1 _ ?_
  refine Sm.seqX h00 mixed hΓ (by kernel_rfl) fun K2 hK2 => ?_
  simp only [rs]
  obtain ⟨hg3, H⟩ := gd_some H
  iterate 5 (refine opsX fun K hK => ?_; simp only [z, seval]; (repeat (first | refine gcI ?_ | refine fun (_ : _ ≤ _) => ?_)); refine hK _ ?_; clear hK K)
  refine opsY fun K hK => ?_; simp only [z, seval]; (repeat (first | refine gcI ?_ | refine fun (_ : _ ≤ _) => ?_)); refine hK _ ?_; clear hK K
  refine hK2 _ ?_
  refine Sm.seqK fun K4 hK4 => ?_
  refine Sm.seqA h00 mixed hΓ (by kernel_rfl) fun K5 hK5 => ?_
  simp only [rs]
  repeat (refine opsG fun K hK => ?_; simp only [z, seval]; (repeat (first | refine gcI ?_ | refine fun (_ : _ ≤ _) => ?_)); refine hK _ ?_; clear hK K)
  refine hK5 _ ?_
  refine Sm.condK (by rfl) fun Ka Kb ha hb => ?_
  simp only [wpCond, z, seval]
  refine ⟨fun h6 => ha ?_, fun h6 => hb ?_⟩
  · replace H := bif_t h6 H
    refine Sm.seqA h00 mixed hΓ (by kernel_rfl) fun K7 hK7 => ?_
    simp only [rs]
    repeat (refine opsG fun K hK => ?_; simp only [z, seval]; (repeat (first | refine gcI ?_ | refine fun (_ : _ ≤ _) => ?_)); refine hK _ ?_; clear hK K)
    refine hK7 _ ?_
    refine Sm.ret ?_
    try simp only [seval, Exit.exit.injEq]
    obtain rfl := Option.some.inj H
    refine RetM.mk (.inr rfl) [some 0] rfl ?_
    simp only [z, seval]
  replace H := bif_f h6 H
  refine Sm.skip ?_
  refine hK4 _ ?_
  refine Sm.seqA h00 mixed hΓ (by kernel_rfl) fun K8 hK8 => ?_
  simp only [rs]
  repeat (refine opsG fun K hK => ?_; simp only [z, seval]; (repeat (first | refine gcI ?_ | refine fun (_ : _ ≤ _) => ?_)); refine hK _ ?_; clear hK K)
  refine hK8 _ ?_
  obtain ⟨⟨hg14, hg15, hg16⟩, H⟩ := gd_some H
  refine Sm.seqD h00 mixed hΓ (by kernel_rfl) fun K9 hK9 => ?_
  simp only [rs]
  repeat (refine opsH fun K hK => ?_; simp only [z, seval]; (repeat (first | refine gcI ?_ | refine fun (_ : _ ≤ _) => ?_)); refine hK _ ?_; clear hK K)
  refine hK9 _ ?_
  refine Sm.seqX h00 mixed hΓ (by kernel_rfl) fun K10 hK10 => ?_
  simp only [rs]
  obtain ⟨⟨hg11, hg12⟩, H⟩ := gd_some H
  iterate 5 (refine opsX fun K hK => ?_; simp only [z, seval]; (repeat (first | refine gcI ?_ | refine fun (_ : _ ≤ _) => ?_)); refine hK _ ?_; clear hK K)
  refine opsY fun K hK => ?_; simp only [z, seval]; (repeat (first | refine gcI ?_ | refine fun (_ : _ ≤ _) => ?_)); refine hK _ ?_; clear hK K
  refine hK10 _ ?_
  refine Sm.seqA h00 mixed hΓ (by kernel_rfl) fun K13 hK13 => ?_
  simp only [rs]
  repeat (refine opsG fun K hK => ?_; simp only [z, seval]; (repeat (first | refine gcI ?_ | refine fun (_ : _ ≤ _) => ?_)); refine hK _ ?_; clear hK K)
  refine hK13 _ ?_
  refine Sm.ret ?_
  try simp only [seval, Exit.exit.injEq]
  obtain rfl := Option.some.inj H
  refine RetM.mk (.inr rfl) [some 0] rfl ?_
  simp only [z, seval]

def slices_Delete_f34_M2 (n : Nat) (s : List TExtent) (s_l : Nat) (i : Int) (j : Int) : Option (Nat × (List TExtent)) :=
  gd ((0 ≤ i ∧ i ≤ j ∧ j ≤ ((s_l : Nat) : Int) ∧ ((s_l : Nat) : Int) ≤ (s_l : Int))) <|
  bif (i == j) then
    some (s_l, s)
  else
    gd ((0 ≤ 0 ∧ 0 ≤ i ∧ i ≤ (s.length : Int)) ∧ (0 ≤ j ∧ j ≤ (s_l : Int) ∧ (s_l : Int) ≤ (s.length : Int)) ∧ ((Int.toNat (i - 0)) + (List.take (Int.toNat ((s_l : Int) - j)) (List.drop (Int.toNat j) s)).length) ≤ s.length) <|
    gd ((0 ≤ ((((Int.toNat (i - 0)) + (List.take (Int.toNat ((s_l : Int) - j)) (List.drop (Int.toNat j) s)).length) : Nat) : Int) ∧ ((((Int.toNat (i - 0)) + (List.take (Int.toNat ((s_l : Int) - j)) (List.drop (Int.toNat j) s)).length) : Nat) : Int) ≤ ((s_l : Nat) : Int) ∧ ((s_l : Nat) : Int) ≤ (s.length : Int)) ∧ (((Int.toNat (i - 0)) + (List.take (Int.toNat ((s_l : Int) - j)) (List.drop (Int.toNat j) s)).length) + (Int.toNat (((s_l : Nat) : Int) - ((((Int.toNat (i - 0)) + (List.take (Int.toNat ((s_l : Int) - j)) (List.drop (Int.toNat j) s)).length) : Nat) : Int)))) ≤ s.length) <|
    some (((Int.toNat (i - 0)) + (List.take (Int.toNat ((s_l : Int) - j)) (List.drop (Int.toNat j) s)).length), (overL (overL s (Int.toNat (i - 0)) (List.take (Int.toNat ((s_l : Int) - j)) (List.drop (Int.toNat j) s))) ((Int.toNat (i - 0)) + (List.take (Int.toNat ((s_l : Int) - j)) (List.drop (Int.toNat j) s)).length) (zreps (Int.toNat (((s_l : Nat) : Int) - ((((Int.toNat (i - 0)) + (List.take (Int.toNat ((s_l : Int) - j)) (List.drop (Int.toNat j) s)).length) : Nat) : Int))) (⟨0, 0⟩ : TExtent))))

theorem cslices_Delete_f34_M2 (n : Nat) (s : List TExtent) (s_l : Nat) (i : Int) (j : Int) (r : Nat × (List TExtent)) (H : slices_Delete_f34_M2 n s s_l i j = some r) : CallsM Try.prog 34 [.ref (.own 0 [.int .i64, .int .i64] 0 s_l), .dat (false, [.int .i64]) [.int i], .dat (false, [.int .i64]) [.int j]] [.row 43 (List.map e_TExtent s)] [.own 0 [.int .i64, .int .i64] 0 r.1] [.row 43 (List.map e_TExtent r.2)] := by
  have hΓ : ∀ g, g ∈ ([] : List Go.AE.Fn) → Contract Try.prog g := by simp
  refine callsM_of (Try.f34.body.getD .skip) h00 Try.func34 rfl (by intro args w; exact Try.call34 args w) (Nat.le_of_ble_eq_true rfl) (Nat.le_of_ble_eq_true rfl) ?_
  unfold slices_Delete_f34_M2 at H
  simp only [Try.f34, Option.getD]
  refine Sm.seqA h00 mixed hΓ (by kernel_rfl) fun K1 hK1 => ?_
  simp only [rs]
  repeat (refine opsG fun K hK => ?_; simp only [z, seval]; (repeat (first | refine gcI ?_ | refine fun (_ : _ ≤ _) => ?_)); refine hK _ ?_; clear hK K)
  refine hK1 _ ?_
  refine Sm.seqX h00 mixed hΓ (by kernel_rfl) fun K2 hK2 => ?_
  simp only [rs]
  obtain ⟨hg3, H⟩ := gd_some H
  iterate 5 (refine opsX fun K hK => ?_; simp only [z, seval]; (repeat (first | refine gcI ?_ | refine fun (_ : _ ≤ _) => ?_)); refine hK _ ?_; clear hK K)
  refine opsY fun K hK => ?_; simp only [z, seval]; (repeat (first | refine gcI ?_ | refine fun (_ : _ ≤ _) => ?_)); refine hK _ ?_; clear hK K
  refine hK2 _ ?_
  refine Sm.seqK fun K4 hK4 => ?_
  refine Sm.seqA h00 mixed hΓ (by kernel_rfl) fun K5 hK5 => ?_
  simp only [rs]
  repeat (refine opsG fun K hK => ?_; simp only [z, seval]; (repeat (first | refine gcI ?_ | refine fun (_ : _ ≤ _) => ?_)); refine hK _ ?_; clear hK K)
  refine hK5 _ ?_
  refine Sm.condK (by rfl) fun Ka Kb ha hb => ?_
  simp only [wpCond, z, seval]
  refine ⟨fun h6 => ha ?_, fun h6 => hb ?_⟩
  · replace H := bif_t h6 H
    refine Sm.seqA h00 mixed hΓ (by kernel_rfl) fun K7 hK7 => ?_
    simp only [rs]
    repeat (refine opsG fun K hK => ?_; simp only [z, seval]; (repeat (first | refine gcI ?_ | refine fun (_ : _ ≤ _) => ?_)); refine hK _ ?_; clear hK K)
    refine hK7 _ ?_
    refine Sm.ret ?_
    try simp only [seval, Exit.exit.injEq]
    obtain rfl := Option.some.inj H
    refine RetM.mk (.inr rfl) [some 0] rfl ?_
    simp only [z, seval]
  replace H := bif_f h6 H
  refine Sm.skip ?_
  refine hK4 _ ?_
  refine Sm.seqA h00 mixed hΓ (by kernel_rfl) fun K8 hK8 => ?_
  simp only [rs]
  repeat (refine opsG fun K hK => ?_; simp only [z, seval]; (repeat (first | refine gcI ?_ | refine fun (_ : _ ≤ _) => ?_)); refine hK _ ?_; clear hK K)
  refine hK8 _ ?_
  obtain ⟨⟨hg14, hg15, hg16⟩, H⟩ := gd_some H
  refine Sm.seqD h00 mixed hΓ (by kernel_rfl) fun K9 hK9 => ?_
  simp only [rs]
  repeat (refine opsH fun K hK => ?_; simp only [z, seval]; (repeat (first | refine gcI ?_ | refine fun (_ : _ ≤ _) => ?_)); refine hK _ ?_; clear hK K)
  refine hK9 _ ?_
  refine Sm.seqX h00 mixed hΓ (by kernel_rfl) fun K10 hK10 => ?_
  simp only [rs]
  obtain ⟨⟨hg11, hg12⟩, H⟩ := gd_some H
  iterate 5 (refine opsX fun K hK => ?_; simp only [z, seval]; (repeat (first | refine gcI ?_ | refine fun (_ : _ ≤ _) => ?_)); refine hK _ ?_; clear hK K)
  refine opsY fun K hK => ?_; simp only [z, seval]; (repeat (first | refine gcI ?_ | refine fun (_ : _ ≤ _) => ?_)); refine hK _ ?_; clear hK K
  refine hK10 _ ?_
  refine Sm.seqA h00 mixed hΓ (by kernel_rfl) fun K13 hK13 => ?_
  simp only [rs]
  repeat (refine opsG fun K hK => ?_; simp only [z, seval]; (repeat (first | refine gcI ?_ | refine fun (_ : _ ≤ _) => ?_)); refine hK _ ?_; clear hK K)
  refine hK13 _ ?_
  refine Sm.ret ?_
  try simp only [seval, Exit.exit.injEq]
  obtain rfl := Option.some.inj H
  refine RetM.mk (.inr rfl) [some 0] rfl ?_
  simp only [z, seval]

abbrev extent_Take_s1 : S := stB [] []

def extent_Take_k1 (n : Nat) : Option ((List TExtent) × (List TExtent) × Int) :=
  some ([], [], 200)

abbrev extent_Take_s3 (want_1 : Int) (most : Int) (got : List TExtent) (rest : List TExtent) (rest_2 : Nat) (longest : Int) : S := stB [(1, .c (.int .i64) (.int want_1)), (2, .c (.int .i64) (.int most)), (6, .own 9005 [.int .i64, .int .i64] 0 got.length), (7, .own 9006 [.int .i64, .int .i64] 0 rest_2), (9, .c (.int .i64) (.int longest))] [(9005, .row 43 (List.map e_TExtent got)), (9006, .row 43 (List.map e_TExtent rest))]

def extent_Take_k3 (n : Nat) (want_1 : Int) (most : Int) (got : List TExtent) (rest : List TExtent) (rest_2 : Nat) (longest : Int) : Option ((Int × (List TExtent) × (List TExtent) × Nat) ⊕ ((((List TExtent) × (List TExtent) × Int) ⊕ (Unit)))) :=
  gd ((0 ≤ longest ∧ longest < (rest_2 : Int)) ∧ (Int.toNat longest) < rest.length ∧ (got.length + 1) ≤ 2147483648) <|
  gd ((0 ≤ longest ∧ longest < (rest_2 : Int)) ∧ (Int.toNat longest) < rest.length) <|
  (slices_Delete_f34_M2 n rest rest_2 longest (IntKind.wrap .i64 (longest + 1))).bind fun r3 =>
  some (.inl ((IntKind.wrap .i64 (want_1 - ((gt rest (Int.toNat longest)).Len))), (got ++ [(gt rest (Int.toNat longest))]), r3.2, r3.1))

abbrev extent_Take_s5 (want_1 : Int) (most : Int) (got : List TExtent) (rest : List TExtent) (rest_4 : Nat) (longest_1 : Int) (v35 : Int) (v36 : Int) : S := stB [(1, .c (.int .i64) (.int want_1)), (2, .c (.int .i64) (.int most)), (6, .own 9013 [.int .i64, .int .i64] 0 got.length), (7, .own 9014 [.int .i64, .int .i64] 0 rest_4), (9, .c (.int .i64) (.int longest_1)), (34, .own 9014 [.int .i64, .int .i64] 0 rest_4), (35, .c (.int .i64) (.int v35)), (36, .c (.int .i64) (.int v36))] [(9013, .row 43 (List.map e_TExtent got)), (9014, .row 43 (List.map e_TExtent rest))]

def extent_Take_k5 (n : Nat) (want_1 : Int) (most : Int) (got : List TExtent) (rest : List TExtent) (rest_4 : Nat) (longest_1 : Int) (v35 : Int) (v36 : Int) : Option ((Nat × Int × Int) ⊕ ((((List TExtent) × (List TExtent) × Int) ⊕ (Nat × Int)))) :=
  some (.inl (rest_4, longest_1, (IntKind.wrap .i64 (v36 + 1))))

abbrev extent_Take_t4 (want_1 : Int) (most : Int) (got : List TExtent) (rest : List TExtent) (v35 : Int) (rest_3 : Nat) (longest : Int) (v36 : Int) : S := stB [(1, .c (.int .i64) (.int want_1)), (2, .c (.int .i64) (.int most)), (6, .own 9011 [.int .i64, .int .i64] 0 got.length), (7, .own 9012 [.int .i64, .int .i64] 0 rest_3), (9, .c (.int .i64) (.int longest)), (34, .own 9012 [.int .i64, .int .i64] 0 rest_3), (35, .c (.int .i64) (.int v35)), (36, .c (.int .i64) (.int v36))] [(9011, .row 43 (List.map e_TExtent got)), (9012, .row 43 (List.map e_TExtent rest))]

def extent_Take_b4 (n : Nat) (want_1 : Int) (most : Int) (got : List TExtent) (rest : List TExtent) (v35 : Int) (rest_3 : Nat) (longest : Int) (v36 : Int) : Option ((Nat × Int × Int) ⊕ ((((List TExtent) × (List TExtent) × Int) ⊕ (Nat × Int)))) :=
  bif (decide (v36 < v35)) then
    gd ((0 ≤ v36 ∧ v36 < (rest_3 : Int)) ∧ (Int.toNat v36) < rest.length) <|
    bif (decide (((gt rest (Int.toNat v36)).Len) > want_1)) then
      gd ((got.length + 1) ≤ 2147483648) <|
      gd ((0 ≤ v36 ∧ v36 < (rest_3 : Int)) ∧ (Int.toNat v36) < rest.length) <|
      some (.inr (.inl ((got ++ [(⟨(gt rest (Int.toNat v36)).At, want_1⟩ : TExtent)]), (List.take rest_3 (List.set rest (Int.toNat v36) (⟨(IntKind.wrap .i64 (((gt rest (Int.toNat v36)).At) + want_1)), (IntKind.wrap .i64 (((gt rest (Int.toNat v36)).Len) - want_1))⟩ : TExtent))), 0)))
    else
      bif (((gt rest (Int.toNat v36)).Len) == want_1) then
        gd ((got.length + 1) ≤ 2147483648) <|
        (slices_Delete_f34_M2 n rest rest_3 v36 (IntKind.wrap .i64 (v36 + 1))).bind fun r4 =>
        some (.inr (.inl ((got ++ [(gt rest (Int.toNat v36))]), (List.take r4.1 r4.2), 0)))
      else
        gd ((0 ≤ longest ∧ longest < (rest_3 : Int)) ∧ (Int.toNat longest) < rest.length) <|
        bif (decide (((gt rest (Int.toNat v36)).Len) > ((gt rest (Int.toNat longest)).Len))) then
          extent_Take_k5 n want_1 most got rest rest_3 v36 v35 v36
        else
          extent_Take_k5 n want_1 most got rest rest_3 longest v35 v36
  else
    some (.inr (.inr (rest_3, longest)))

abbrev extent_Take_t2 (most : Int) (want_1 : Int) (got : List TExtent) (rest : List TExtent) (rest_1 : Nat) : S := stB [(1, .c (.int .i64) (.int want_1)), (2, .c (.int .i64) (.int most)), (6, .own 9003 [.int .i64, .int .i64] 0 got.length), (7, .own 9004 [.int .i64, .int .i64] 0 rest_1)] [(9003, .row 43 (List.map e_TExtent got)), (9004, .row 43 (List.map e_TExtent rest))]

def extent_Take_b2 (n : Nat) (most : Int) (want_1 : Int) (got : List TExtent) (rest : List TExtent) (rest_1 : Nat) : Option ((Int × (List TExtent) × (List TExtent) × Nat) ⊕ ((((List TExtent) × (List TExtent) × Int) ⊕ (Unit)))) :=
  bif (if (decide (((got.length : Nat) : Int) < most)) = true then (decide (((rest_1 : Nat) : Int) > 0)) else false) then
    (loopF (fun (x : Nat × Int × Int) => extent_Take_b4 n want_1 most got rest ((rest_1 : Nat) : Int) x.1 x.2.1 x.2.2) n (rest_1, 0, 0)).bind fun y23 =>
    match y23 with
    | .inl v =>
      some (.inr (.inl (v.1, v.2.1, v.2.2)))
    | .inr v =>
      extent_Take_k3 n want_1 most got rest v.1 v.2
  else
    some (.inr (.inr ()))

def extent_Take (n : Nat) (free : List TExtent) (want : Int) (most : Int) : Option ((List TExtent) × (List TExtent) × Int) :=
  (extent_Check n free 512).bind fun r1 =>
  bif (if (if (!r1) = true then true else (decide (want < 1))) = true then true else (decide (most < 1))) then
    some ([], [], 1)
  else
    (slices_Clone_f33 n free).bind fun r2 =>
    (loopF (fun (x : Int × (List TExtent) × (List TExtent) × Nat) => extent_Take_b2 n most x.1 x.2.1 x.2.2.1 x.2.2.2) n (want, [], r2, r2.length)).bind fun y9 =>
    match y9 with
    | .inl v =>
      some (v.1, v.2.1, v.2.2)
    | .inr v =>
      extent_Take_k1 n

def xextent_Take (n : Nat) : Go.AE.Fn := mkFn (A := (List TExtent) × Int × Int) (R := (List TExtent) × (List TExtent) × Int) 10 [(false, [.slice 43]), (false, [.int .i64]), (false, [.int .i64])] true (fun xs => (((cg (xs.getD 0 []) 0).toSl.map d_TExtent), (cg (xs.getD 1 []) 0).toInt, (cg (xs.getD 2 []) 0).toInt)) (fun a => [[.slice (List.map e_TExtent a.1)], [.int a.2.1], [.int a.2.2]]) (fun a => extent_Take n a.1 a.2.1 a.2.2) (fun r => [.own 0 [.int .i64, .int .i64] 0 r.1.length, .c (.slice 43) (.slice (List.map e_TExtent r.2.1)), .c (.int .i64) (.int r.2.2)]) (fun r => [.row 43 (List.map e_TExtent r.1)])

theorem cextent_Take (n : Nat) : Contract Try.prog (xextent_Take n) := by
  have hΓ : ∀ g, g ∈ ([xextent_Check n, xslices_Clone_f33 n] : List Go.AE.Fn) → Contract Try.prog g := by
    intro g hg; simp only [List.mem_cons, List.not_mem_nil, or_false] at hg; rcases hg with rfl | rfl; exact cextent_Check n; exact cslices_Clone_f33 n
  refine contract_f (Try.f10.body.getD .skip) h00 Try.func10 rfl (by intro args w; exact Try.call10 args w) (by decide) (by intro h; cases h) ?_
  rintro ⟨free, want, most⟩ r H
  try dsimp only at H
  unfold extent_Take at H
  simp only [Try.f10, Option.getD]
  refine Sm.seqA h00 mixed hΓ (by kernel_rfl) fun K1 hK1 => ?_
  simp only [rs]
  repeat (refine opsG fun K hK => ?_; simp only [z, seval]; (repeat (first | refine gcI ?_ | refine fun (_ : _ ≤ _) => ?_)); refine hK _ ?_; clear hK K)
  refine hK1 _ ?_
  refine Sm.scope ?_
  refine Sm.seqK fun K2 hK2 => ?_
  obtain ⟨r1, hr1, H⟩ := bind_some H
  refine Sm.seqA h00 mixed hΓ (by kernel_rfl) fun K3 hK3 => ?_
  simp only [rs]
  repeat (refine opsG fun K hK => ?_; simp only [z, seval, xextent_Check, hr1]; (repeat (first | refine gcI ?_ | refine fun (_ : _ ≤ _) => ?_)); refine hK _ ?_; clear hK K)
  refine hK3 _ ?_
  refine Sm.condK (by rfl) fun Ka Kb ha hb => ?_
  simp only [wpCond, z, seval]
  refine ⟨fun h4 => ha ?_, fun h4 => hb ?_⟩
  · replace H := bif_t h4 H
    refine Sm.seqA h00 mixed hΓ (by kernel_rfl) fun K5 hK5 => ?_
    simp only [rs]
    repeat (refine opsG fun K hK => ?_; simp only [z, seval]; (repeat (first | refine gcI ?_ | refine fun (_ : _ ≤ _) => ?_)); refine hK _ ?_; clear hK K)
    refine hK5 _ ?_
    refine Sm.ret ?_
    try simp only [seval, Exit.exit.injEq]
    obtain rfl := Option.some.inj H
    refine Ret.ofR [none] (.inr rfl) ?_
    simp only [z, seval]
  replace H := bif_f h4 H
  refine Sm.skip ?_
  refine hK2 _ ?_
  obtain ⟨r2, hr2, H⟩ := bind_some H
  refine Sm.seqA h00 mixed hΓ (by kernel_rfl) fun K6 hK6 => ?_
  simp only [rs]
  repeat (refine opsG fun K hK => ?_; simp only [z, seval, xextent_Check, xslices_Clone_f33, hr2]; (repeat (first | refine gcI ?_ | refine fun (_ : _ ≤ _) => ?_)); refine hK _ ?_; clear hK K)
  refine hK6 _ ?_
  refine Sm.seqK fun K7 hK7 => ?_
  refine Sm.of (Γ := []) h00 mixed (by simp) rfl ?_
  refine hK7 _ ?_
  refine Sm.cut (fun (x : Unit) => extent_Take_s1) (fun x => extent_Take_k1 n = some r) ?_ ?_
  · refine Sm.block ?_
    obtain ⟨y9, hy9, Ho9⟩ := bind_some H
    refine Sm.loopB (fun (x : Int × (List TExtent) × (List TExtent) × Nat) => extent_Take_b2 n most x.1 x.2.1 x.2.2.1 x.2.2.2) (fun x => extent_Take_t2 most x.1 x.2.1 x.2.2.1 x.2.2.2) hy9 ?_ ?_
    · exact weak_b [none, some 384] rfl rfl rfl (by simp only [wk, z, seval]) (by simp only [wk, z, seval])
    rintro ⟨want_1, got, rest, rest_1⟩ z9 H
    try dsimp only at H
    unfold extent_Take_b2 at H
    refine Sm.seqK fun K10 hK10 => ?_
    refine Sm.seqA h00 mixed hΓ (by kernel_rfl) fun K11 hK11 => ?_
    simp only [rs]
    repeat (refine opsG fun K hK => ?_; simp only [z, seval, extent_Take_t2]; (repeat (first | refine gcI ?_ | refine fun (_ : _ ≤ _) => ?_)); refine hK _ ?_; clear hK K)
    refine hK11 _ ?_
    refine Sm.condK (by rfl) fun Ka Kb ha hb => ?_
    simp only [wpCond, z, seval, extent_Take_t2]
    refine ⟨fun h12 => ha ?_, fun h12 => hb ?_⟩
    · replace H := bif_t h12 H
      refine Sm.skip ?_
      refine hK10 _ ?_
      refine Sm.block ?_
      refine Sm.seqA h00 mixed hΓ (by kernel_rfl) fun K13 hK13 => ?_
      simp only [rs]
      repeat (refine opsG fun K hK => ?_; simp only [z, seval, extent_Take_t2]; (repeat (first | refine gcI ?_ | refine fun (_ : _ ≤ _) => ?_)); refine hK _ ?_; clear hK K)
      refine hK13 _ ?_
      refine Sm.cut (fun (x : Nat × Int) => extent_Take_s3 want_1 most got rest x.1 x.2) (fun x => extent_Take_k3 n want_1 most got rest x.1 x.2 = some z9) ?_ ?_
      · refine Sm.seqA h00 mixed hΓ (by kernel_rfl) fun K22 hK22 => ?_
        simp only [rs]
        repeat (refine opsG fun K hK => ?_; simp only [z, seval, extent_Take_t2]; (repeat (first | refine gcI ?_ | refine fun (_ : _ ≤ _) => ?_)); refine hK _ ?_; clear hK K)
        refine hK22 _ ?_
        refine Sm.block ?_
        obtain ⟨y23, hy23, Ho23⟩ := bind_some H
        refine Sm.loopB (fun (x : Nat × Int × Int) => extent_Take_b4 n want_1 most got rest ((rest_1 : Nat) : Int) x.1 x.2.1 x.2.2) (fun x => extent_Take_t4 want_1 most got rest ((rest_1 : Nat) : Int) x.1 x.2.1 x.2.2) hy23 ?_ ?_
        · exact weak_b [some 9003, some 9004] rfl rfl rfl (by simp only [wk, z, seval, extent_Take_t2]) (by simp only [wk, z, seval, extent_Take_t2])
        rintro ⟨rest_3, longest, v36⟩ z23 H
        try dsimp only at H
        unfold extent_Take_b4 at H
        refine Sm.seqA h00 mixed hΓ (by kernel_rfl) fun K24 hK24 => ?_
        simp only [rs]
        repeat (refine opsG fun K hK => ?_; simp only [z, seval, extent_Take_t4]; (repeat (first | refine gcI ?_ | refine fun (_ : _ ≤ _) => ?_)); refine hK _ ?_; clear hK K)
        refine hK24 _ ?_
        refine Sm.seqK fun K25 hK25 => ?_
        refine Sm.condK (by rfl) fun Ka Kb ha hb => ?_
        simp only [wpCond, z, seval, extent_Take_t4]
        refine ⟨fun h26 => ha ?_, fun h26 => hb ?_⟩
        · replace H := bif_t h26 H
          refine Sm.skip ?_
          refine hK25 _ ?_
          refine Sm.cut (fun (x : Int) => extent_Take_s5 want_1 most got rest rest_3 x ((rest_1 : Nat) : Int) v36) (fun x => extent_Take_k5 n want_1 most got rest rest_3 x ((rest_1 : Nat) : Int) v36 = some z23) ?_ ?_
          · refine Sm.block ?_
            obtain ⟨⟨hg47, hg48⟩, H⟩ := gd_some H
            refine Sm.seqA h00 mixed hΓ (by kernel_rfl) fun K27 hK27 => ?_
            simp only [rs]
            repeat (refine opsG fun K hK => ?_; simp only [z, seval, extent_Take_t4]; (repeat (first | refine gcI ?_ | refine fun (_ : _ ≤ _) => ?_)); refine hK _ ?_; clear hK K)
            refine hK27 _ ?_
            refine Sm.seqK fun K28 hK28 => ?_
            refine Sm.seqA h00 mixed hΓ (by kernel_rfl) fun K29 hK29 => ?_
            simp only [rs]
            repeat (refine opsG fun K hK => ?_; simp only [z, seval, extent_Take_t4]; (repeat (first | refine gcI ?_ | refine fun (_ : _ ≤ _) => ?_)); refine hK _ ?_; clear hK K)
            refine hK29 _ ?_
            refine Sm.condK (by rfl) fun Ka Kb ha hb => ?_
            simp only [wpCond, z, seval, extent_Take_t4]
            refine ⟨fun h30 => ha ?_, fun h30 => hb ?_⟩
            · replace H := bif_t h30 H
              obtain ⟨hg36, H⟩ := gd_some H
              refine Sm.seqA h00 mixed hΓ (by kernel_rfl) fun K31 hK31 => ?_
              simp only [rs]
              repeat (refine opsG fun K hK => ?_; simp only [z, seval, extent_Take_t4]; (repeat (first | refine gcI ?_ | refine fun (_ : _ ≤ _) => ?_)); refine hK _ ?_; clear hK K)
              refine hK31 _ ?_
              obtain ⟨⟨hg34, hg35⟩, H⟩ := gd_some H
              refine Sm.seqA h00 mixed hΓ (by kernel_rfl) fun K32 hK32 => ?_
              simp only [rs]
              repeat (refine opsG fun K hK => ?_; simp only [z, seval, extent_Take_t4]; (repeat (first | refine gcI ?_ | refine fun (_ : _ ≤ _) => ?_)); refine hK _ ?_; clear hK K)
              refine hK32 _ ?_
              refine Sm.seqA h00 mixed hΓ (by kernel_rfl) fun K33 hK33 => ?_
              simp only [rs]
              repeat (refine opsG fun K hK => ?_; simp only [z, seval, extent_Take_t4]; (repeat (first | refine gcI ?_ | refine fun (_ : _ ≤ _) => ?_)); refine hK _ ?_; clear hK K)
              refine hK33 _ ?_
              refine Sm.ret ?_
              try simp only [seval, Exit.exit.injEq]
              refine ⟨⟨_, (Option.some.inj H).symm⟩, fun hz => ?_⟩
              have hyy := Sum.inr.inj ((Option.some.inj H).trans hz)
              subst hyy
              have H := Ho23
              try dsimp only at H
              try simp only [seval, Exit.exit.injEq]
              refine ⟨⟨_, (Option.some.inj H).symm⟩, fun hz => ?_⟩
              have hyy := Sum.inr.inj ((Option.some.inj H).trans hz)
              subst hyy
              have H := Ho9
              try dsimp only at H
              try simp only [seval, Exit.exit.injEq]
              obtain rfl := Option.some.inj H
              refine Ret.ofR [some 816] (.inr rfl) ?_
              simp only [z, seval, extent_Take_t4]
            replace H := bif_f h30 H
            refine Sm.skip ?_
            refine hK28 _ ?_
            refine Sm.seqK fun K37 hK37 => ?_
            refine Sm.seqA h00 mixed hΓ (by kernel_rfl) fun K38 hK38 => ?_
            simp only [rs]
            repeat (refine opsG fun K hK => ?_; simp only [z, seval, extent_Take_t4]; (repeat (first | refine gcI ?_ | refine fun (_ : _ ≤ _) => ?_)); refine hK _ ?_; clear hK K)
            refine hK38 _ ?_
            refine Sm.condK (by rfl) fun Ka Kb ha hb => ?_
            simp only [wpCond, z, seval, extent_Take_t4]
            refine ⟨fun h39 => ha ?_, fun h39 => hb ?_⟩
            · replace H := bif_t h39 H
              obtain ⟨hg42, H⟩ := gd_some H
              refine Sm.seqA h00 mixed hΓ (by kernel_rfl) fun K40 hK40 => ?_
              simp only [rs]
              repeat (refine opsG fun K hK => ?_; simp only [z, seval, extent_Take_t4]; (repeat (first | refine gcI ?_ | refine fun (_ : _ ≤ _) => ?_)); refine hK _ ?_; clear hK K)
              refine hK40 _ ?_
              refine Sm.seqX h00 mixed hΓ (by kernel_rfl) fun K41 hK41 => ?_
              simp only [rs]
              obtain ⟨r4, hr4, H⟩ := bind_some H
              iterate 5 (refine opsX fun K hK => ?_; simp only [z, seval, extent_Take_t4]; (repeat (first | refine gcI ?_ | refine fun (_ : _ ≤ _) => ?_)); refine hK _ ?_; clear hK K)
              refine opsM (cslices_Delete_f34_M2 n _ _ _ _ r4 hr4) [9012] [] (by simp only [z, seval, extent_Take_t4, hr4]; try rfl) (by simp only [z, seval, extent_Take_t4, hr4]) (by simp only [z, seval, extent_Take_t4, hr4]) (by simp only [z, seval, extent_Take_t4, hr4]) (by simp only [z, seval, extent_Take_t4, hr4]) rfl (by simp only [z, seval, extent_Take_t4, hr4]) rfl ?_
              iterate 3 (refine opsX fun K hK => ?_; simp only [z, seval, extent_Take_t4, hr4]; (repeat (first | refine gcI ?_ | refine fun (_ : _ ≤ _) => ?_)); refine hK _ ?_; clear hK K)
              refine hK41 _ ?_
              refine Sm.ret ?_
              try simp only [seval, Exit.exit.injEq]
              refine ⟨⟨_, (Option.some.inj H).symm⟩, fun hz => ?_⟩
              have hyy := Sum.inr.inj ((Option.some.inj H).trans hz)
              subst hyy
              have H := Ho23
              try dsimp only at H
              try simp only [seval, Exit.exit.injEq]
              refine ⟨⟨_, (Option.some.inj H).symm⟩, fun hz => ?_⟩
              have hyy := Sum.inr.inj ((Option.some.inj H).trans hz)
              subst hyy
              have H := Ho9
              try dsimp only at H
              try simp only [seval, Exit.exit.injEq]
              obtain rfl := Option.some.inj H
              refine Ret.ofR [some 1168] (.inr rfl) ?_
              simp only [z, seval, extent_Take_t4]
            replace H := bif_f h39 H
            refine Sm.skip ?_
            refine hK37 _ ?_
            obtain ⟨⟨hg45, hg46⟩, H⟩ := gd_some H
            refine Sm.seqD h00 mixed hΓ (by kernel_rfl) fun K43 hK43 => ?_
            simp only [rs]
            repeat (refine opsH fun K hK => ?_; simp only [z, seval, extent_Take_t4]; (repeat (first | refine gcI ?_ | refine fun (_ : _ ≤ _) => ?_)); refine hK _ ?_; clear hK K)
            refine hK43 _ ?_
            refine Sm.condK (by rfl) fun Ka Kb ha hb => ?_
            simp only [wpCond, z, seval, extent_Take_t4]
            refine ⟨fun h44 => ha ?_, fun h44 => hb ?_⟩
            · replace H := bif_t h44 H
              refine Sm.regA h00 mixed hΓ (by kernel_rfl) ?_
              simp only [rs]
              repeat (refine opsG fun K hK => ?_; simp only [z, seval, extent_Take_t4]; (repeat (first | refine gcI ?_ | refine fun (_ : _ ≤ _) => ?_)); refine hK _ ?_; clear hK K)
              refine opsG0 ?_
              try simp only [seval, Exit.exit.injEq]
              refine ⟨_, H, ?_⟩
              exact weak_b [some 9011, some 9012] rfl rfl rfl (by simp only [wk, z, seval, extent_Take_t4]) (by simp only [wk, z, seval, extent_Take_t4])
            replace H := bif_f h44 H
            refine Sm.skip ?_
            try simp only [seval, Exit.exit.injEq]
            refine ⟨_, H, ?_⟩
            exact weak_b [some 9011, some 9012] rfl rfl rfl (by simp only [wk, z, seval, extent_Take_t4]) (by simp only [wk, z, seval, extent_Take_t4])
          rintro longest_1 H
          try dsimp only at H
          unfold extent_Take_k5 at H
          refine Sm.regA h00 mixed hΓ (by kernel_rfl) ?_
          simp only [rs]
          repeat (refine opsG fun K hK => ?_; simp only [z, seval, extent_Take_s5]; (repeat (first | refine gcI ?_ | refine fun (_ : _ ≤ _) => ?_)); refine hK _ ?_; clear hK K)
          refine opsG0 ?_
          try simp only [seval, Exit.exit.injEq]
          refine ⟨(_, _, _), (Option.some.inj H).symm, ?_⟩
          exact weak_b [some 9013, some 9014] rfl rfl rfl (by simp only [wk, z, seval, extent_Take_s5]) (by simp only [wk, z, seval, extent_Take_s5])
        replace H := bif_f h26 H
        refine Sm.exit ?_
        try simp only [seval, Exit.exit.injEq]
        refine ⟨⟨_, (Option.some.inj H).symm⟩, fun hz => ?_⟩
        have hyy := Sum.inr.inj ((Option.some.inj H).trans hz)
        subst hyy
        have H := Ho23
        try dsimp only at H
        try simp only [seval, Exit.exit.injEq]
        refine ⟨(rest_3, longest), H, ?_⟩
        exact weak_b [some 9011, some 9012] rfl rfl rfl (by simp only [wk, z, seval, extent_Take_t4]) (by simp only [wk, z, seval, extent_Take_t4])
      rintro ⟨rest_2, longest⟩ H
      try dsimp only at H
      unfold extent_Take_k3 at H
      obtain ⟨⟨hg19, hg20, hg21⟩, H⟩ := gd_some H
      refine Sm.seqA h00 mixed hΓ (by kernel_rfl) fun K14 hK14 => ?_
      simp only [rs]
      repeat (refine opsG fun K hK => ?_; simp only [z, seval, extent_Take_s3]; (repeat (first | refine gcI ?_ | refine fun (_ : _ ≤ _) => ?_)); refine hK _ ?_; clear hK K)
      refine hK14 _ ?_
      obtain ⟨⟨hg17, hg18⟩, H⟩ := gd_some H
      refine Sm.seqA h00 mixed hΓ (by kernel_rfl) fun K15 hK15 => ?_
      simp only [rs]
      repeat (refine opsG fun K hK => ?_; simp only [z, seval, extent_Take_s3]; (repeat (first | refine gcI ?_ | refine fun (_ : _ ≤ _) => ?_)); refine hK _ ?_; clear hK K)
      refine hK15 _ ?_
      refine Sm.seqX h00 mixed hΓ (by kernel_rfl) fun K16 hK16 => ?_
      simp only [rs]
      obtain ⟨r3, hr3, H⟩ := bind_some H
      iterate 4 (refine opsX fun K hK => ?_; simp only [z, seval, extent_Take_s3]; (repeat (first | refine gcI ?_ | refine fun (_ : _ ≤ _) => ?_)); refine hK _ ?_; clear hK K)
      refine opsM (cslices_Delete_f34_M2 n _ _ _ _ r3 hr3) [9006] [] (by simp only [z, seval, extent_Take_s3, hr3]; try rfl) (by simp only [z, seval, extent_Take_s3, hr3]) (by simp only [z, seval, extent_Take_s3, hr3]) (by simp only [z, seval, extent_Take_s3, hr3]) (by simp only [z, seval, extent_Take_s3, hr3]) rfl (by simp only [z, seval, extent_Take_s3, hr3]) rfl ?_
      (refine opsX fun K hK => ?_; simp only [z, seval, extent_Take_s3, hr3]; (repeat (first | refine gcI ?_ | refine fun (_ : _ ≤ _) => ?_)); refine hK _ ?_; clear hK K)
      refine hK16 _ ?_
      refine Sm.exit ?_
      try simp only [seval, Exit.exit.injEq]
      refine ⟨(_, _, _, _), (Option.some.inj H).symm, ?_⟩
      exact weak_b [some 1536, some 9006] rfl rfl rfl (by simp only [wk, z, seval, extent_Take_s3]) (by simp only [wk, z, seval, extent_Take_s3])
    replace H := bif_f h12 H
    refine Sm.exit ?_
    try simp only [seval, Exit.exit.injEq]
    refine ⟨⟨_, (Option.some.inj H).symm⟩, fun hz => ?_⟩
    have hyy := Sum.inr.inj ((Option.some.inj H).trans hz)
    subst hyy
    have H := Ho9
    try dsimp only at H
    try simp only [seval, Exit.exit.injEq]
    refine ⟨(), H, ?_⟩
    exact weak_b [] rfl rfl rfl (by simp only [wk, z, seval, extent_Take_t2]) (by simp only [wk, z, seval, extent_Take_t2])
  rintro ⟨⟩ H
  try dsimp only at H
  unfold extent_Take_k1 at H
  refine Sm.seqA h00 mixed hΓ (by kernel_rfl) fun K8 hK8 => ?_
  simp only [rs]
  repeat (refine opsG fun K hK => ?_; simp only [z, seval, extent_Take_s1]; (repeat (first | refine gcI ?_ | refine fun (_ : _ ≤ _) => ?_)); refine hK _ ?_; clear hK K)
  refine hK8 _ ?_
  refine Sm.ret ?_
  try simp only [seval, Exit.exit.injEq]
  obtain rfl := Option.some.inj H
  refine Ret.ofR [none] (.inr rfl) ?_
  simp only [z, seval, extent_Take_s1]

def ref20_one (n : Nat) (x : TExtent) : Option Bool :=
  some (if (if (if (decide (x.At ≥ 0)) = true then (decide (x.Len ≥ 1)) else false) = true then (decide (x.At < 512)) else false) = true then (decide (x.Len ≤ (IntKind.wrap .i64 (512 - x.At)))) else false)

def xref20_one (n : Nat) : Go.AE.Fn := mkFn (A := TExtent) (R := Bool) 42 [(true, [.int .i64, .int .i64])] false (fun xs => (⟨(cg (xs.getD 0 []) 0).toInt, (cg (xs.getD 0 []) 1).toInt⟩ : TExtent)) (fun a => [[.int a.At, .int a.Len]]) (fun a => ref20_one n a) (fun r => [.c .bool (.bool r)]) (fun r => [])

theorem cref20_one (n : Nat) : Contract Try.prog (xref20_one n) := by
  have hΓ : ∀ g, g ∈ ([] : List Go.AE.Fn) → Contract Try.prog g := by simp
  refine contract_f (Try.f42.body.getD .skip) h00 Try.func42 rfl (by intro args w; exact Try.call42 args w) (by decide) (by intro _ r; exact ⟨rfl, by simp⟩) ?_
  rintro x r H
  try dsimp only at H
  unfold ref20_one at H
  simp only [Try.f42, Option.getD]
  refine Sm.seqA h00 mixed hΓ (by kernel_rfl) fun K1 hK1 => ?_
  simp only [rs]
  repeat (refine opsG fun K hK => ?_; simp only [z, seval]; (repeat (first | refine gcI ?_ | refine fun (_ : _ ≤ _) => ?_)); refine hK _ ?_; clear hK K)
  refine hK1 _ ?_
  refine Sm.seqA h00 mixed hΓ (by kernel_rfl) fun K2 hK2 => ?_
  simp only [rs]
  repeat (refine opsG fun K hK => ?_; simp only [z, seval]; (repeat (first | refine gcI ?_ | refine fun (_ : _ ≤ _) => ?_)); refine hK _ ?_; clear hK K)
  refine hK2 _ ?_
  refine Sm.ret ?_
  try simp only [seval, Exit.exit.injEq]
  obtain rfl := Option.some.inj H
  refine Ret.ofR [] (.inr rfl) ?_
  simp only [z, seval]

abbrev ref20_Tracks_s1 (out : List Int) : S := stB [(5, .own 9000 [.int .i64] 0 out.length)] [(9000, .row 3 (List.map e_Int out))]

def ref20_Tracks_k1 (n : Nat) (out : List Int) : Option ((List Int) × Bool) :=
  some (out, true)

abbrev ref20_Tracks_s3 (l : List TExtent) (seen_1 : List Bool) (out_1 : List Int) (i : Int) : S := stB [(0, .c (.slice 43) (.slice (List.map e_TExtent l))), (4, .elt 9006 1 [.bool] 0 0), (5, .own 9007 [.int .i64] 0 out_1.length), (6, .c (.int .i64) (.int i))] [(9006, .row 4 (List.map e_Bool seen_1)), (9007, .row 3 (List.map e_Int out_1))]

def ref20_Tracks_k3 (n : Nat) (l : List TExtent) (seen_1 : List Bool) (out_1 : List Int) (i : Int) : Option (((List Bool) × (List Int) × Int) ⊕ ((((List Int) × Bool) ⊕ ((List Int))))) :=
  some (.inl (seen_1, out_1, (IntKind.wrap .i64 (i + 1))))

abbrev ref20_Tracks_t4 (l : List TExtent) (i : Int) (seen_1 : List Bool) (out_1 : List Int) (k : Int) : S := stB [(0, .c (.slice 43) (.slice (List.map e_TExtent l))), (4, .elt 9010 1 [.bool] 0 0), (5, .own 9011 [.int .i64] 0 out_1.length), (6, .c (.int .i64) (.int i)), (7, .c (.int .i64) (.int k))] [(9010, .row 4 (List.map e_Bool seen_1)), (9011, .row 3 (List.map e_Int out_1))]

def ref20_Tracks_b4 (n : Nat) (l : List TExtent) (i : Int) (seen_1 : List Bool) (out_1 : List Int) (k : Int) : Option (((List Bool) × (List Int) × Int) ⊕ ((((List Int) × Bool) ⊕ ((List Bool) × (List Int))))) :=
  gd ((0 ≤ i ∧ i < (l.length : Int)) ∧ (0 ≤ i ∧ i < (l.length : Int))) <|
  bif (decide (k < (IntKind.wrap .i64 (((gt l (Int.toNat i)).At) + ((gt l (Int.toNat i)).Len))))) then
    gd ((0 ≤ k ∧ k < 512 ∧ seen_1.length = 512) ∧ (Int.toNat k) < seen_1.length) <|
    bif (gt seen_1 (Int.toNat k)) then
      some (.inr (.inl ([], false)))
    else
      gd ((0 ≤ k ∧ k < 512 ∧ seen_1.length = 512) ∧ (Int.toNat k) < seen_1.length) <|
      gd ((out_1.length + 1) ≤ 2147483648) <|
      some (.inl ((List.set seen_1 (Int.toNat k) true), (out_1 ++ [k]), (IntKind.wrap .i64 (k + 1))))
  else
    some (.inr (.inr (seen_1, out_1)))

abbrev ref20_Tracks_t2 (l : List TExtent) (seen : List Bool) (out : List Int) (i : Int) : S := stB [(0, .c (.slice 43) (.slice (List.map e_TExtent l))), (4, .elt 9004 1 [.bool] 0 0), (5, .own 9005 [.int .i64] 0 out.length), (6, .c (.int .i64) (.int i))] [(9004, .row 4 (List.map e_Bool seen)), (9005, .row 3 (List.map e_Int out))]

def ref20_Tracks_b2 (n : Nat) (l : List TExtent) (seen : List Bool) (out : List Int) (i : Int) : Option (((List Bool) × (List Int) × Int) ⊕ ((((List Int) × Bool) ⊕ ((List Int))))) :=
  bif (decide (i < (l.length : Int))) then
    gd ((0 ≤ i ∧ i < (l.length : Int))) <|
    (ref20_one n (gt l (Int.toNat i))).bind fun r1 =>
    bif (!r1) then
      some (.inr (.inl ([], false)))
    else
      gd ((0 ≤ i ∧ i < (l.length : Int))) <|
      (loopF (fun (x : (List Bool) × (List Int) × Int) => ref20_Tracks_b4 n l i x.1 x.2.1 x.2.2) n (seen, out, (gt l (Int.toNat i)).At)).bind fun y15 =>
      match y15 with
      | .inl v =>
        some (.inr (.inl (v.1, v.2)))
      | .inr v =>
        ref20_Tracks_k3 n l v.1 v.2 i
  else
    some (.inr (.inr out))

def ref20_Tracks (n : Nat) (l : List TExtent) : Option ((List Int) × Bool) :=
  (loopF (fun (x : (List Bool) × (List Int) × Int) => ref20_Tracks_b2 n l x.1 x.2.1 x.2.2) n ((zreps 512 false), [], 0)).bind fun y6 =>
  match y6 with
  | .inl v =>
    some (v.1, v.2)
  | .inr v =>
    ref20_Tracks_k1 n v

def xref20_Tracks (n : Nat) : Go.AE.Fn := mkFn (A := (List TExtent)) (R := (List Int) × Bool) 37 [(false, [.slice 43])] false (fun xs => ((cg (xs.getD 0 []) 0).toSl.map d_TExtent)) (fun a => [[.slice (List.map e_TExtent a)]]) (fun a => ref20_Tracks n a) (fun r => [.own 0 [.int .i64] 0 r.1.length, .c .bool (.bool r.2)]) (fun r => [.row 3 (List.map e_Int r.1)])

theorem cref20_Tracks (n : Nat) : Contract Try.prog (xref20_Tracks n) := by
  have hΓ : ∀ g, g ∈ ([xref20_one n] : List Go.AE.Fn) → Contract Try.prog g := by
    intro g hg; simp only [List.mem_cons, List.not_mem_nil, or_false] at hg; subst hg; exact cref20_one n
  refine contract_f (Try.f37.body.getD .skip) h00 Try.func37 rfl (by intro args w; exact Try.call37 args w) (by decide) (by
    intro _ r; refine ⟨rfl, ?_⟩; simp only [List.mem_cons, List.not_mem_nil, or_false]; rintro _ rfl
    · exact ⟨3, _, _, rfl, ty3, rfl⟩) ?_
  rintro l r H
  try dsimp only at H
  unfold ref20_Tracks at H
  simp only [Try.f37, Option.getD]
  refine Sm.seqA h00 mixed hΓ (by kernel_rfl) fun K1 hK1 => ?_
  simp only [rs]
  repeat (refine opsG fun K hK => ?_; simp only [z, seval]; (repeat (first | refine gcI ?_ | refine fun (_ : _ ≤ _) => ?_)); refine hK _ ?_; clear hK K)
  refine hK1 _ ?_
  refine Sm.seqX h00 mixed hΓ (by kernel_rfl) fun K2 hK2 => ?_
  simp only [rs]
  refine opsY fun K hK => ?_; simp only [z, seval]; (repeat (first | refine gcI ?_ | refine fun (_ : _ ≤ _) => ?_)); refine hK _ ?_; clear hK K
  refine hK2 _ ?_
  refine Sm.seqA h00 mixed hΓ (by kernel_rfl) fun K3 hK3 => ?_
  simp only [rs]
  repeat (refine opsG fun K hK => ?_; simp only [z, seval]; (repeat (first | refine gcI ?_ | refine fun (_ : _ ≤ _) => ?_)); refine hK _ ?_; clear hK K)
  refine hK3 _ ?_
  refine Sm.cut (fun (x : (List Int)) => ref20_Tracks_s1 x) (fun x => ref20_Tracks_k1 n x = some r) ?_ ?_
  · refine Sm.seqA h00 mixed hΓ (by kernel_rfl) fun K5 hK5 => ?_
    simp only [rs]
    repeat (refine opsG fun K hK => ?_; simp only [z, seval]; (repeat (first | refine gcI ?_ | refine fun (_ : _ ≤ _) => ?_)); refine hK _ ?_; clear hK K)
    refine hK5 _ ?_
    refine Sm.block ?_
    obtain ⟨y6, hy6, Ho6⟩ := bind_some H
    refine Sm.loopB (fun (x : (List Bool) × (List Int) × Int) => ref20_Tracks_b2 n l x.1 x.2.1 x.2.2) (fun x => ref20_Tracks_t2 l x.1 x.2.1 x.2.2) hy6 ?_ ?_
    · exact weak_b [some 64, none] rfl rfl rfl (by simp only [wk, z, seval]) (by simp only [wk, z, seval])
    rintro ⟨seen, out, i⟩ z6 H
    try dsimp only at H
    unfold ref20_Tracks_b2 at H
    refine Sm.seqK fun K7 hK7 => ?_
    refine Sm.seqA h00 mixed hΓ (by kernel_rfl) fun K8 hK8 => ?_
    simp only [rs]
    repeat (refine opsG fun K hK => ?_; simp only [z, seval, ref20_Tracks_t2]; (repeat (first | refine gcI ?_ | refine fun (_ : _ ≤ _) => ?_)); refine hK _ ?_; clear hK K)
    refine hK8 _ ?_
    refine Sm.condK (by rfl) fun Ka Kb ha hb => ?_
    simp only [wpCond, z, seval, ref20_Tracks_t2]
    refine ⟨fun h9 => ha ?_, fun h9 => hb ?_⟩
    · replace H := bif_t h9 H
      refine Sm.skip ?_
      refine hK7 _ ?_
      refine Sm.cut (fun (x : (List Bool) × (List Int)) => ref20_Tracks_s3 l x.1 x.2 i) (fun x => ref20_Tracks_k3 n l x.1 x.2 i = some z6) ?_ ?_
      · refine Sm.block ?_
        refine Sm.seqK fun K10 hK10 => ?_
        obtain ⟨hg33, H⟩ := gd_some H
        obtain ⟨r1, hr1, H⟩ := bind_some H
        refine Sm.seqA h00 mixed hΓ (by kernel_rfl) fun K11 hK11 => ?_
        simp only [rs]
        repeat (refine opsG fun K hK => ?_; simp only [z, seval, ref20_Tracks_t2, xref20_one, hr1]; (repeat (first | refine gcI ?_ | refine fun (_ : _ ≤ _) => ?_)); refine hK _ ?_; clear hK K)
        refine hK11 _ ?_
        refine Sm.condK (by rfl) fun Ka Kb ha hb => ?_
        simp only [wpCond, z, seval, ref20_Tracks_t2]
        refine ⟨fun h12 => ha ?_, fun h12 => hb ?_⟩
        · replace H := bif_t h12 H
          refine Sm.seqA h00 mixed hΓ (by kernel_rfl) fun K13 hK13 => ?_
          simp only [rs]
          repeat (refine opsG fun K hK => ?_; simp only [z, seval, ref20_Tracks_t2]; (repeat (first | refine gcI ?_ | refine fun (_ : _ ≤ _) => ?_)); refine hK _ ?_; clear hK K)
          refine hK13 _ ?_
          refine Sm.ret ?_
          try simp only [seval, Exit.exit.injEq]
          refine ⟨⟨_, (Option.some.inj H).symm⟩, fun hz => ?_⟩
          have hyy := Sum.inr.inj ((Option.some.inj H).trans hz)
          subst hyy
          have H := Ho6
          try dsimp only at H
          try simp only [seval, Exit.exit.injEq]
          obtain rfl := Option.some.inj H
          refine Ret.ofR [none] (.inr rfl) ?_
          simp only [z, seval, ref20_Tracks_t2]
        replace H := bif_f h12 H
        refine Sm.skip ?_
        refine hK10 _ ?_
        obtain ⟨hg32, H⟩ := gd_some H
        refine Sm.seqA h00 mixed hΓ (by kernel_rfl) fun K14 hK14 => ?_
        simp only [rs]
        repeat (refine opsG fun K hK => ?_; simp only [z, seval, ref20_Tracks_t2]; (repeat (first | refine gcI ?_ | refine fun (_ : _ ≤ _) => ?_)); refine hK _ ?_; clear hK K)
        refine hK14 _ ?_
        refine Sm.block ?_
        obtain ⟨y15, hy15, Ho15⟩ := bind_some H
        refine Sm.loopB (fun (x : (List Bool) × (List Int) × Int) => ref20_Tracks_b4 n l i x.1 x.2.1 x.2.2) (fun x => ref20_Tracks_t4 l i x.1 x.2.1 x.2.2) hy15 ?_ ?_
        · exact weak_b [some 9004, some 9005] rfl rfl rfl (by simp only [wk, z, seval, ref20_Tracks_t2]) (by simp only [wk, z, seval, ref20_Tracks_t2])
        rintro ⟨seen_1, out_1, k⟩ z15 H
        try dsimp only at H
        unfold ref20_Tracks_b4 at H
        refine Sm.seqK fun K16 hK16 => ?_
        obtain ⟨⟨hg30, hg31⟩, H⟩ := gd_some H
        refine Sm.seqD h00 mixed hΓ (by kernel_rfl) fun K17 hK17 => ?_
        simp only [rs]
        repeat (refine opsH fun K hK => ?_; simp only [z, seval, ref20_Tracks_t4]; (repeat (first | refine gcI ?_ | refine fun (_ : _ ≤ _) => ?_)); refine hK _ ?_; clear hK K)
        refine hK17 _ ?_
        refine Sm.condK (by rfl) fun Ka Kb ha hb => ?_
        simp only [wpCond, z, seval, ref20_Tracks_t4]
        refine ⟨fun h18 => ha ?_, fun h18 => hb ?_⟩
        · replace H := bif_t h18 H
          refine Sm.skip ?_
          refine hK16 _ ?_
          refine Sm.seqK fun K19 hK19 => ?_
          refine Sm.block ?_
          refine Sm.seqK fun K20 hK20 => ?_
          obtain ⟨⟨hg28, hg29⟩, H⟩ := gd_some H
          refine Sm.seqA h00 mixed hΓ (by kernel_rfl) fun K21 hK21 => ?_
          simp only [rs]
          repeat (refine opsG fun K hK => ?_; simp only [z, seval, ref20_Tracks_t4]; (repeat (first | refine gcI ?_ | refine fun (_ : _ ≤ _) => ?_)); refine hK _ ?_; clear hK K)
          refine hK21 _ ?_
          refine Sm.condK (by rfl) fun Ka Kb ha hb => ?_
          simp only [wpCond, z, seval, ref20_Tracks_t4]
          refine ⟨fun h22 => ha ?_, fun h22 => hb ?_⟩
          · replace H := bif_t h22 H
            refine Sm.seqA h00 mixed hΓ (by kernel_rfl) fun K23 hK23 => ?_
            simp only [rs]
            repeat (refine opsG fun K hK => ?_; simp only [z, seval, ref20_Tracks_t4]; (repeat (first | refine gcI ?_ | refine fun (_ : _ ≤ _) => ?_)); refine hK _ ?_; clear hK K)
            refine hK23 _ ?_
            refine Sm.ret ?_
            try simp only [seval, Exit.exit.injEq]
            refine ⟨⟨_, (Option.some.inj H).symm⟩, fun hz => ?_⟩
            have hyy := Sum.inr.inj ((Option.some.inj H).trans hz)
            subst hyy
            have H := Ho15
            try dsimp only at H
            try simp only [seval, Exit.exit.injEq]
            refine ⟨⟨_, (Option.some.inj H).symm⟩, fun hz => ?_⟩
            have hyy := Sum.inr.inj ((Option.some.inj H).trans hz)
            subst hyy
            have H := Ho6
            try dsimp only at H
            try simp only [seval, Exit.exit.injEq]
            obtain rfl := Option.some.inj H
            refine Ret.ofR [none] (.inr rfl) ?_
            simp only [z, seval, ref20_Tracks_t4]
          replace H := bif_f h22 H
          refine Sm.skip ?_
          refine hK20 _ ?_
          obtain ⟨⟨hg26, hg27⟩, H⟩ := gd_some H
          refine Sm.seqA h00 mixed hΓ (by kernel_rfl) fun K24 hK24 => ?_
          simp only [rs]
          repeat (refine opsG fun K hK => ?_; simp only [z, seval, ref20_Tracks_t4]; (repeat (first | refine gcI ?_ | refine fun (_ : _ ≤ _) => ?_)); refine hK _ ?_; clear hK K)
          refine hK24 _ ?_
          obtain ⟨hg25, H⟩ := gd_some H
          refine Sm.regA h00 mixed hΓ (by kernel_rfl) ?_
          simp only [rs]
          repeat (refine opsG fun K hK => ?_; simp only [z, seval, ref20_Tracks_t4]; (repeat (first | refine gcI ?_ | refine fun (_ : _ ≤ _) => ?_)); refine hK _ ?_; clear hK K)
          refine opsG0 ?_
          refine hK19 _ ?_
          refine Sm.regA h00 mixed hΓ (by kernel_rfl) ?_
          simp only [rs]
          repeat (refine opsG fun K hK => ?_; simp only [z, seval, ref20_Tracks_t4]; (repeat (first | refine gcI ?_ | refine fun (_ : _ ≤ _) => ?_)); refine hK _ ?_; clear hK K)
          refine opsG0 ?_
          try simp only [seval, Exit.exit.injEq]
          refine ⟨(_, _, _), (Option.some.inj H).symm, ?_⟩
          exact weak_b [some 9010, some 768] rfl rfl rfl (by simp only [wk, z, seval, ref20_Tracks_t4]) (by simp only [wk, z, seval, ref20_Tracks_t4])
        replace H := bif_f h18 H
        refine Sm.exit ?_
        try simp only [seval, Exit.exit.injEq]
        refine ⟨⟨_, (Option.some.inj H).symm⟩, fun hz => ?_⟩
        have hyy := Sum.inr.inj ((Option.some.inj H).trans hz)
        subst hyy
        have H := Ho15
        try dsimp only at H
        try simp only [seval, Exit.exit.injEq]
        refine ⟨(seen_1, out_1), H, ?_⟩
        exact weak_b [some 9010, some 9011] rfl rfl rfl (by simp only [wk, z, seval, ref20_Tracks_t4]) (by simp only [wk, z, seval, ref20_Tracks_t4])
      rintro ⟨seen_1, out_1⟩ H
      try dsimp only at H
      unfold ref20_Tracks_k3 at H
      refine Sm.regA h00 mixed hΓ (by kernel_rfl) ?_
      simp only [rs]
      repeat (refine opsG fun K hK => ?_; simp only [z, seval, ref20_Tracks_s3]; (repeat (first | refine gcI ?_ | refine fun (_ : _ ≤ _) => ?_)); refine hK _ ?_; clear hK K)
      refine opsG0 ?_
      try simp only [seval, Exit.exit.injEq]
      refine ⟨(_, _, _), (Option.some.inj H).symm, ?_⟩
      exact weak_b [some 9006, some 9007] rfl rfl rfl (by simp only [wk, z, seval, ref20_Tracks_s3]) (by simp only [wk, z, seval, ref20_Tracks_s3])
    replace H := bif_f h9 H
    refine Sm.exit ?_
    try simp only [seval, Exit.exit.injEq]
    refine ⟨⟨_, (Option.some.inj H).symm⟩, fun hz => ?_⟩
    have hyy := Sum.inr.inj ((Option.some.inj H).trans hz)
    subst hyy
    have H := Ho6
    try dsimp only at H
    try simp only [seval, Exit.exit.injEq]
    refine ⟨_, H, ?_⟩
    exact weak_b [some 9005] rfl rfl rfl (by simp only [wk, z, seval, ref20_Tracks_t2]) (by simp only [wk, z, seval, ref20_Tracks_t2])
  rintro out H
  try dsimp only at H
  unfold ref20_Tracks_k1 at H
  refine Sm.seqA h00 mixed hΓ (by kernel_rfl) fun K4 hK4 => ?_
  simp only [rs]
  repeat (refine opsG fun K hK => ?_; simp only [z, seval, ref20_Tracks_s1]; (repeat (first | refine gcI ?_ | refine fun (_ : _ ≤ _) => ?_)); refine hK _ ?_; clear hK K)
  refine hK4 _ ?_
  refine Sm.ret ?_
  try simp only [seval, Exit.exit.injEq]
  obtain rfl := Option.some.inj H
  refine Ret.ofR [some 9000] (.inr rfl) ?_
  simp only [z, seval, ref20_Tracks_s1]

abbrev ref20_Set_s1 (v2 : List Bool) (out : List Bool) : S := stB [(2, .elt 9000 1 [.bool] 0 0), (3, .elt 9001 1 [.bool] 0 0)] [(9000, .row 4 (List.map e_Bool v2)), (9001, .row 4 (List.map e_Bool out))]

def ref20_Set_k1 (n : Nat) (v2 : List Bool) (out : List Bool) : Option (List Bool) :=
  gd (out.length = 512 ∧ v2.length = 512) <|
  gd (out.length = 512) <|
  some out

abbrev ref20_Set_t2 (v2 : List Bool) (t : List Int) (out : List Bool) (i : Int) : S := stB [(2, .elt 9005 1 [.bool] 0 0), (3, .elt 9006 1 [.bool] 0 0), (4, .own 9007 [.int .i64] 0 t.length), (6, .c (.int .i64) (.int i))] [(9005, .row 4 (List.map e_Bool v2)), (9006, .row 4 (List.map e_Bool out)), (9007, .row 3 (List.map e_Int t))]

def ref20_Set_b2 (n : Nat) (v2 : List Bool) (t : List Int) (out : List Bool) (i : Int) : Option (((List Bool) × Int) ⊕ (((List Bool)))) :=
  bif (decide (i < ((t.length : Nat) : Int))) then
    gd ((0 ≤ i ∧ i < (t.length : Int)) ∧ (Int.toNat i) < t.length ∧ (0 ≤ (gt t (Int.toNat i)) ∧ (gt t (Int.toNat i)) < 512 ∧ out.length = 512) ∧ (Int.toNat (gt t (Int.toNat i))) < out.length) <|
    some (.inl ((List.set out (Int.toNat (gt t (Int.toNat i))) true), (IntKind.wrap .i64 (i + 1))))
  else
    some (.inr out)

def ref20_Set (n : Nat) (l : List TExtent) : Option (List Bool) :=
  (ref20_Tracks n l).bind fun r1 =>
  (loopF (fun (x : (List Bool) × Int) => ref20_Set_b2 n (zreps 512 false) r1.1 x.1 x.2) n ((zreps 512 false), 0)).bind fun y8 =>
  ref20_Set_k1 n (zreps 512 false) y8

def xref20_Set (n : Nat) : Go.AE.Fn := mkFn (A := (List TExtent)) (R := (List Bool)) 39 [(false, [.slice 43])] true (fun xs => ((cg (xs.getD 0 []) 0).toSl.map d_TExtent)) (fun a => [[.slice (List.map e_TExtent a)]]) (fun a => ref20_Set n a) (fun r => [.c (.arr 50) (.slice (List.map e_Bool r))]) (fun r => [])

theorem cref20_Set (n : Nat) : Contract Try.prog (xref20_Set n) := by
  have hΓ : ∀ g, g ∈ ([xref20_Tracks n] : List Go.AE.Fn) → Contract Try.prog g := by
    intro g hg; simp only [List.mem_cons, List.not_mem_nil, or_false] at hg; subst hg; exact cref20_Tracks n
  refine contract_f (Try.f39.body.getD .skip) h00 Try.func39 rfl (by intro args w; exact Try.call39 args w) (by decide) (by intro h; cases h) ?_
  rintro l r H
  try dsimp only at H
  unfold ref20_Set at H
  simp only [Try.f39, Option.getD]
  refine Sm.seqX h00 mixed hΓ (by kernel_rfl) fun K1 hK1 => ?_
  simp only [rs]
  refine opsY fun K hK => ?_; simp only [z, seval]; (repeat (first | refine gcI ?_ | refine fun (_ : _ ≤ _) => ?_)); refine hK _ ?_; clear hK K
  refine hK1 _ ?_
  refine Sm.seqX h00 mixed hΓ (by kernel_rfl) fun K2 hK2 => ?_
  simp only [rs]
  refine opsY fun K hK => ?_; simp only [z, seval]; (repeat (first | refine gcI ?_ | refine fun (_ : _ ≤ _) => ?_)); refine hK _ ?_; clear hK K
  refine hK2 _ ?_
  obtain ⟨r1, hr1, H⟩ := bind_some H
  refine Sm.seqA h00 mixed hΓ (by kernel_rfl) fun K3 hK3 => ?_
  simp only [rs]
  repeat (refine opsG fun K hK => ?_; simp only [z, seval, xref20_Tracks, hr1]; (repeat (first | refine gcI ?_ | refine fun (_ : _ ≤ _) => ?_)); refine hK _ ?_; clear hK K)
  refine hK3 _ ?_
  refine Sm.cut (fun (x : (List Bool) × (List Bool)) => ref20_Set_s1 x.1 x.2) (fun x => ref20_Set_k1 n x.1 x.2 = some r) ?_ ?_
  · refine Sm.seqA h00 mixed hΓ (by kernel_rfl) fun K7 hK7 => ?_
    simp only [rs]
    repeat (refine opsG fun K hK => ?_; simp only [z, seval]; (repeat (first | refine gcI ?_ | refine fun (_ : _ ≤ _) => ?_)); refine hK _ ?_; clear hK K)
    refine hK7 _ ?_
    refine Sm.block ?_
    obtain ⟨y8, hy8, Ho8⟩ := bind_some H
    refine Sm.loopB (fun (x : (List Bool) × Int) => ref20_Set_b2 n (zreps 512 false) r1.1 x.1 x.2) (fun x => ref20_Set_t2 (zreps 512 false) r1.1 x.1 x.2) hy8 ?_ ?_
    · exact weak_b [some 32, some 48, some 144] rfl rfl rfl (by simp only [wk, z, seval]) (by simp only [wk, z, seval])
    rintro ⟨out, i⟩ z8 H
    try dsimp only at H
    unfold ref20_Set_b2 at H
    refine Sm.seqK fun K9 hK9 => ?_
    refine Sm.seqA h00 mixed hΓ (by kernel_rfl) fun K10 hK10 => ?_
    simp only [rs]
    repeat (refine opsG fun K hK => ?_; simp only [z, seval, ref20_Set_t2]; (repeat (first | refine gcI ?_ | refine fun (_ : _ ≤ _) => ?_)); refine hK _ ?_; clear hK K)
    refine hK10 _ ?_
    refine Sm.condK (by rfl) fun Ka Kb ha hb => ?_
    simp only [wpCond, z, seval, ref20_Set_t2]
    refine ⟨fun h11 => ha ?_, fun h11 => hb ?_⟩
    · replace H := bif_t h11 H
      refine Sm.skip ?_
      refine hK9 _ ?_
      refine Sm.seqK fun K12 hK12 => ?_
      refine Sm.block ?_
      obtain ⟨⟨hg13, hg14, hg15, hg16⟩, H⟩ := gd_some H
      refine Sm.regA h00 mixed hΓ (by kernel_rfl) ?_
      simp only [rs]
      repeat (refine opsG fun K hK => ?_; simp only [z, seval, ref20_Set_t2]; (repeat (first | refine gcI ?_ | refine fun (_ : _ ≤ _) => ?_)); refine hK _ ?_; clear hK K)
      refine opsG0 ?_
      refine hK12 _ ?_
      refine Sm.regA h00 mixed hΓ (by kernel_rfl) ?_
      simp only [rs]
      repeat (refine opsG fun K hK => ?_; simp only [z, seval, ref20_Set_t2]; (repeat (first | refine gcI ?_ | refine fun (_ : _ ≤ _) => ?_)); refine hK _ ?_; clear hK K)
      refine opsG0 ?_
      try simp only [seval, Exit.exit.injEq]
      refine ⟨(_, _), (Option.some.inj H).symm, ?_⟩
      exact weak_b [some 9005, some 9006, some 9007] rfl rfl rfl (by simp only [wk, z, seval, ref20_Set_t2]) (by simp only [wk, z, seval, ref20_Set_t2])
    replace H := bif_f h11 H
    refine Sm.exit ?_
    try simp only [seval, Exit.exit.injEq]
    refine ⟨⟨_, (Option.some.inj H).symm⟩, fun hz => ?_⟩
    have hyy := Sum.inr.inj ((Option.some.inj H).trans hz)
    subst hyy
    have H := Ho8
    try dsimp only at H
    try simp only [seval, Exit.exit.injEq]
    refine ⟨((zreps 512 false), out), H, ?_⟩
    exact weak_b [some 9005, some 9006] rfl rfl rfl (by simp only [wk, z, seval, ref20_Set_t2]) (by simp only [wk, z, seval, ref20_Set_t2])
  rintro ⟨v2, out⟩ H
  try dsimp only at H
  unfold ref20_Set_k1 at H
  refine Sm.seqX h00 mixed hΓ (by kernel_rfl) fun K4 hK4 => ?_
  simp only [rs]
  obtain ⟨⟨hg5, hg6⟩, H⟩ := gd_some H
  refine opsY fun K hK => ?_; simp only [z, seval, ref20_Set_s1]; (repeat (first | refine gcI ?_ | refine fun (_ : _ ≤ _) => ?_)); refine hK _ ?_; clear hK K
  refine opsY fun K hK => ?_; simp only [z, seval, ref20_Set_s1]; (repeat (first | refine gcI ?_ | refine fun (_ : _ ≤ _) => ?_)); refine hK _ ?_; clear hK K
  refine hK4 _ ?_
  refine Sm.ret ?_
  try simp only [seval, Exit.exit.injEq]
  obtain ⟨hga, H⟩ := gd_some H
  obtain rfl := Option.some.inj H
  refine Ret.ofR [] (.inr rfl) ?_
  simp only [z, seval, ref20_Set_s1]
  (repeat (first | refine gcI ?_ | trivial)); try trivial

abbrev ref20_Normal_s1 (out : List TExtent) : S := stB [(3, .own 9000 [.int .i64, .int .i64] 0 out.length)] [(9000, .row 43 (List.map e_TExtent out))]

def ref20_Normal_k1 (n : Nat) (out : List TExtent) : Option (List TExtent) :=
  some out

abbrev ref20_Normal_s3 (in_ : List Bool) (out_1 : List TExtent) (k : Int) : S := stB [(1, .elt 9006 1 [.bool] 0 0), (3, .own 9007 [.int .i64, .int .i64] 0 out_1.length), (4, .c (.int .i64) (.int k))] [(9006, .row 4 (List.map e_Bool in_)), (9007, .row 43 (List.map e_TExtent out_1))]

def ref20_Normal_k3 (n : Nat) (in_ : List Bool) (out_1 : List TExtent) (k : Int) : Option (((List TExtent) × Int) ⊕ (((List TExtent)))) :=
  some (.inl (out_1, (IntKind.wrap .i64 (k + 1))))

abbrev ref20_Normal_t2 (in_ : List Bool) (out : List TExtent) (k : Int) : S := stB [(1, .elt 9004 1 [.bool] 0 0), (3, .own 9005 [.int .i64, .int .i64] 0 out.length), (4, .c (.int .i64) (.int k))] [(9004, .row 4 (List.map e_Bool in_)), (9005, .row 43 (List.map e_TExtent out))]

def ref20_Normal_b2 (n : Nat) (in_ : List Bool) (out : List TExtent) (k : Int) : Option (((List TExtent) × Int) ⊕ (((List TExtent)))) :=
  bif (decide (k < 512)) then
    gd ((0 ≤ k ∧ k < 512 ∧ in_.length = 512) ∧ (Int.toNat k) < in_.length) <|
    bif (!(gt in_ (Int.toNat k))) then
      ref20_Normal_k3 n in_ out k
    else
      gd (((decide (((out.length : Nat) : Int) > 0)) = true → (0 ≤ (IntKind.wrap .i64 (((out.length : Nat) : Int) - 1)) ∧ (IntKind.wrap .i64 (((out.length : Nat) : Int) - 1)) < (out.length : Int))) ∧ ((decide (((out.length : Nat) : Int) > 0)) = true → (Int.toNat (IntKind.wrap .i64 (((out.length : Nat) : Int) - 1))) < out.length) ∧ ((decide (((out.length : Nat) : Int) > 0)) = true → (0 ≤ (IntKind.wrap .i64 (((out.length : Nat) : Int) - 1)) ∧ (IntKind.wrap .i64 (((out.length : Nat) : Int) - 1)) < (out.length : Int))) ∧ ((decide (((out.length : Nat) : Int) > 0)) = true → (Int.toNat (IntKind.wrap .i64 (((out.length : Nat) : Int) - 1))) < out.length)) <|
      bif (if (decide (((out.length : Nat) : Int) > 0)) = true then ((IntKind.wrap .i64 (((gt out (Int.toNat (IntKind.wrap .i64 (((out.length : Nat) : Int) - 1)))).At) + ((gt out (Int.toNat (IntKind.wrap .i64 (((out.length : Nat) : Int) - 1)))).Len))) == k) else false) then
        gd ((0 ≤ (IntKind.wrap .i64 (((out.length : Nat) : Int) - 1)) ∧ (IntKind.wrap .i64 (((out.length : Nat) : Int) - 1)) < (out.length : Int)) ∧ (Int.toNat (IntKind.wrap .i64 (((out.length : Nat) : Int) - 1))) < out.length ∧ (0 ≤ (IntKind.wrap .i64 (((out.length : Nat) : Int) - 1)) ∧ (IntKind.wrap .i64 (((out.length : Nat) : Int) - 1)) < (out.length : Int)) ∧ (Int.toNat (IntKind.wrap .i64 (((out.length : Nat) : Int) - 1))) < out.length) <|
        ref20_Normal_k3 n in_ (List.set out (Int.toNat (IntKind.wrap .i64 (((out.length : Nat) : Int) - 1))) (⟨(gt out (Int.toNat (IntKind.wrap .i64 (((out.length : Nat) : Int) - 1)))).At, (IntKind.wrap .i64 (((gt out (Int.toNat (IntKind.wrap .i64 (((out.length : Nat) : Int) - 1)))).Len) + 1))⟩ : TExtent)) k
      else
        gd ((out.length + 1) ≤ 2147483648) <|
        ref20_Normal_k3 n in_ (out ++ [(⟨k, 1⟩ : TExtent)]) k
  else
    some (.inr out)

def ref20_Normal (n : Nat) (in_ : List Bool) : Option (List TExtent) :=
  (loopF (fun (x : (List TExtent) × Int) => ref20_Normal_b2 n in_ x.1 x.2) n ([], 0)).bind fun y5 =>
  ref20_Normal_k1 n y5

def xref20_Normal (n : Nat) : Go.AE.Fn := mkFn (A := (List Bool)) (R := (List TExtent)) 38 [(false, [.arr 50])] false (fun xs => ((cg (xs.getD 0 []) 0).toSl.map d_Bool)) (fun a => [[.slice (List.map e_Bool a)]]) (fun a => ref20_Normal n a) (fun r => [.own 0 [.int .i64, .int .i64] 0 r.length]) (fun r => [.row 43 (List.map e_TExtent r)])

theorem cref20_Normal (n : Nat) : Contract Try.prog (xref20_Normal n) := by
  have hΓ : ∀ g, g ∈ ([] : List Go.AE.Fn) → Contract Try.prog g := by simp
  refine contract_f (Try.f38.body.getD .skip) h00 Try.func38 rfl (by intro args w; exact Try.call38 args w) (by decide) (by
    intro _ r; refine ⟨rfl, ?_⟩; simp only [List.mem_cons, List.not_mem_nil, or_false]; rintro _ rfl
    · exact ⟨43, _, _, rfl, ty43, rfl⟩) ?_
  rintro in_ r H
  try dsimp only at H
  unfold ref20_Normal at H
  simp only [Try.f38, Option.getD]
  refine Sm.seqX h00 mixed hΓ (by kernel_rfl) fun K1 hK1 => ?_
  simp only [rs]
  refine opsY fun K hK => ?_; simp only [z, seval]; (repeat (first | refine gcI ?_ | refine fun (_ : _ ≤ _) => ?_)); refine hK _ ?_; clear hK K
  (refine opsX fun K hK => ?_; simp only [z, seval]; (repeat (first | refine gcI ?_ | refine fun (_ : _ ≤ _) => ?_)); refine hK _ ?_; clear hK K)
  refine hK1 _ ?_
  refine Sm.seqA h00 mixed hΓ (by kernel_rfl) fun K2 hK2 => ?_
  simp only [rs]
  repeat (refine opsG fun K hK => ?_; simp only [z, seval]; (repeat (first | refine gcI ?_ | refine fun (_ : _ ≤ _) => ?_)); refine hK _ ?_; clear hK K)
  refine hK2 _ ?_
  refine Sm.cut (fun (x : (List TExtent)) => ref20_Normal_s1 x) (fun x => ref20_Normal_k1 n x = some r) ?_ ?_
  · refine Sm.seqA h00 mixed hΓ (by kernel_rfl) fun K4 hK4 => ?_
    simp only [rs]
    repeat (refine opsG fun K hK => ?_; simp only [z, seval]; (repeat (first | refine gcI ?_ | refine fun (_ : _ ≤ _) => ?_)); refine hK _ ?_; clear hK K)
    refine hK4 _ ?_
    refine Sm.block ?_
    obtain ⟨y5, hy5, Ho5⟩ := bind_some H
    refine Sm.loopB (fun (x : (List TExtent) × Int) => ref20_Normal_b2 n in_ x.1 x.2) (fun x => ref20_Normal_t2 in_ x.1 x.2) hy5 ?_ ?_
    · exact weak_b [some 16, none] rfl rfl rfl (by simp only [wk, z, seval]) (by simp only [wk, z, seval])
    rintro ⟨out, k⟩ z5 H
    try dsimp only at H
    unfold ref20_Normal_b2 at H
    refine Sm.seqK fun K6 hK6 => ?_
    refine Sm.seqA h00 mixed hΓ (by kernel_rfl) fun K7 hK7 => ?_
    simp only [rs]
    repeat (refine opsG fun K hK => ?_; simp only [z, seval, ref20_Normal_t2]; (repeat (first | refine gcI ?_ | refine fun (_ : _ ≤ _) => ?_)); refine hK _ ?_; clear hK K)
    refine hK7 _ ?_
    refine Sm.condK (by rfl) fun Ka Kb ha hb => ?_
    simp only [wpCond, z, seval, ref20_Normal_t2]
    refine ⟨fun h8 => ha ?_, fun h8 => hb ?_⟩
    · replace H := bif_t h8 H
      refine Sm.skip ?_
      refine hK6 _ ?_
      refine Sm.cut (fun (x : (List TExtent)) => ref20_Normal_s3 in_ x k) (fun x => ref20_Normal_k3 n in_ x k = some z5) ?_ ?_
      · refine Sm.block ?_
        refine Sm.seqK fun K9 hK9 => ?_
        obtain ⟨⟨hg24, hg25⟩, H⟩ := gd_some H
        refine Sm.seqA h00 mixed hΓ (by kernel_rfl) fun K10 hK10 => ?_
        simp only [rs]
        repeat (refine opsG fun K hK => ?_; simp only [z, seval, ref20_Normal_t2]; (repeat (first | refine gcI ?_ | refine fun (_ : _ ≤ _) => ?_)); refine hK _ ?_; clear hK K)
        refine hK10 _ ?_
        refine Sm.condK (by rfl) fun Ka Kb ha hb => ?_
        simp only [wpCond, z, seval, ref20_Normal_t2]
        refine ⟨fun h11 => ha ?_, fun h11 => hb ?_⟩
        · replace H := bif_t h11 H
          refine Sm.exit ?_
          try simp only [seval, Exit.exit.injEq]
          refine ⟨_, H, ?_⟩
          exact weak_b [some 9004, some 9005] rfl rfl rfl (by simp only [wk, z, seval, ref20_Normal_t2]) (by simp only [wk, z, seval, ref20_Normal_t2])
        replace H := bif_f h11 H
        refine Sm.skip ?_
        refine hK9 _ ?_
        refine Sm.seqA h00 mixed hΓ (by kernel_rfl) fun K12 hK12 => ?_
        simp only [rs]
        repeat (refine opsG fun K hK => ?_; simp only [z, seval, ref20_Normal_t2]; (repeat (first | refine gcI ?_ | refine fun (_ : _ ≤ _) => ?_)); refine hK _ ?_; clear hK K)
        refine hK12 _ ?_
        obtain ⟨⟨hg20, hg21, hg22, hg23⟩, H⟩ := gd_some H
        refine Sm.seqD h00 mixed hΓ (by kernel_rfl) fun K13 hK13 => ?_
        simp only [rs]
        repeat (refine opsH fun K hK => ?_; simp only [z, seval, ref20_Normal_t2]; (repeat (first | refine gcI ?_ | refine fun (_ : _ ≤ _) => ?_)); refine hK _ ?_; clear hK K)
        refine hK13 _ ?_
        refine Sm.condK (by rfl) fun Ka Kb ha hb => ?_
        simp only [wpCond, z, seval, ref20_Normal_t2]
        refine ⟨fun h14 => ha ?_, fun h14 => hb ?_⟩
        · replace H := bif_t h14 H
          obtain ⟨⟨hg15, hg16, hg17, hg18⟩, H⟩ := gd_some H
          refine Sm.regA h00 mixed hΓ (by kernel_rfl) ?_
          simp only [rs]
          repeat (refine opsG fun K hK => ?_; simp only [z, seval, ref20_Normal_t2]; (repeat (first | refine gcI ?_ | refine fun (_ : _ ≤ _) => ?_)); refine hK _ ?_; clear hK K)
          refine opsG0 ?_
          try simp only [seval, Exit.exit.injEq]
          refine ⟨_, H, ?_⟩
          exact weak_b [some 9004, some 9005] rfl rfl rfl (by simp only [wk, z, seval, ref20_Normal_t2]) (by simp only [wk, z, seval, ref20_Normal_t2])
        replace H := bif_f h14 H
        obtain ⟨hg19, H⟩ := gd_some H
        refine Sm.regA h00 mixed hΓ (by kernel_rfl) ?_
        simp only [rs]
        repeat (refine opsG fun K hK => ?_; simp only [z, seval, ref20_Normal_t2]; (repeat (first | refine gcI ?_ | refine fun (_ : _ ≤ _) => ?_)); refine hK _ ?_; clear hK K)
        refine opsG0 ?_
        try simp only [seval, Exit.exit.injEq]
        refine ⟨_, H, ?_⟩
        exact weak_b [some 9004, some 768] rfl rfl rfl (by simp only [wk, z, seval, ref20_Normal_t2]) (by simp only [wk, z, seval, ref20_Normal_t2])
      rintro out_1 H
      try dsimp only at H
      unfold ref20_Normal_k3 at H
      refine Sm.regA h00 mixed hΓ (by kernel_rfl) ?_
      simp only [rs]
      repeat (refine opsG fun K hK => ?_; simp only [z, seval, ref20_Normal_s3]; (repeat (first | refine gcI ?_ | refine fun (_ : _ ≤ _) => ?_)); refine hK _ ?_; clear hK K)
      refine opsG0 ?_
      try simp only [seval, Exit.exit.injEq]
      refine ⟨(_, _), (Option.some.inj H).symm, ?_⟩
      exact weak_b [some 9006, some 9007] rfl rfl rfl (by simp only [wk, z, seval, ref20_Normal_s3]) (by simp only [wk, z, seval, ref20_Normal_s3])
    replace H := bif_f h8 H
    refine Sm.exit ?_
    try simp only [seval, Exit.exit.injEq]
    refine ⟨⟨_, (Option.some.inj H).symm⟩, fun hz => ?_⟩
    have hyy := Sum.inr.inj ((Option.some.inj H).trans hz)
    subst hyy
    have H := Ho5
    try dsimp only at H
    try simp only [seval, Exit.exit.injEq]
    refine ⟨_, H, ?_⟩
    exact weak_b [some 9005] rfl rfl rfl (by simp only [wk, z, seval, ref20_Normal_t2]) (by simp only [wk, z, seval, ref20_Normal_t2])
  rintro out H
  try dsimp only at H
  unfold ref20_Normal_k1 at H
  refine Sm.seqA h00 mixed hΓ (by kernel_rfl) fun K3 hK3 => ?_
  simp only [rs]
  repeat (refine opsG fun K hK => ?_; simp only [z, seval, ref20_Normal_s1]; (repeat (first | refine gcI ?_ | refine fun (_ : _ ≤ _) => ?_)); refine hK _ ?_; clear hK K)
  refine hK3 _ ?_
  refine Sm.ret ?_
  try simp only [seval, Exit.exit.injEq]
  obtain rfl := Option.some.inj H
  refine Ret.ofR [some 9000] (.inr rfl) ?_
  simp only [z, seval, ref20_Normal_s1]

abbrev ref20_Same_s1 : S := stB [] []

def ref20_Same_k1 (n : Nat) : Option Bool :=
  some true

abbrev ref20_Same_t2 (a : List TExtent) (b : List TExtent) (i : Int) : S := stB [(0, .c (.slice 43) (.slice (List.map e_TExtent a))), (1, .c (.slice 43) (.slice (List.map e_TExtent b))), (5, .c (.int .i64) (.int i))] []

def ref20_Same_b2 (n : Nat) (a : List TExtent) (b : List TExtent) (i : Int) : Option ((Int) ⊕ (((Bool) ⊕ (Unit)))) :=
  bif (decide (i < (a.length : Int))) then
    gd ((0 ≤ i ∧ i < (a.length : Int)) ∧ (0 ≤ i ∧ i < (b.length : Int))) <|
    bif (!((((gt a (Int.toNat i)).At) == ((gt b (Int.toNat i)).At)) && (((gt a (Int.toNat i)).Len) == ((gt b (Int.toNat i)).Len)))) then
      some (.inr (.inl false))
    else
      some (.inl (IntKind.wrap .i64 (i + 1)))
  else
    some (.inr (.inr ()))

def ref20_Same (n : Nat) (a : List TExtent) (b : List TExtent) : Option Bool :=
  bif ((a.length : Int) != (b.length : Int)) then
    some false
  else
    (loopF (fun (x : Int) => ref20_Same_b2 n a b x) n 0).bind fun y8 =>
    match y8 with
    | .inl v =>
      some v
    | .inr v =>
      ref20_Same_k1 n

def xref20_Same (n : Nat) : Go.AE.Fn := mkFn (A := (List TExtent) × (List TExtent)) (R := Bool) 12 [(false, [.slice 43]), (false, [.slice 43])] false (fun xs => (((cg (xs.getD 0 []) 0).toSl.map d_TExtent), ((cg (xs.getD 1 []) 0).toSl.map d_TExtent))) (fun a => [[.slice (List.map e_TExtent a.1)], [.slice (List.map e_TExtent a.2)]]) (fun a => ref20_Same n a.1 a.2) (fun r => [.c .bool (.bool r)]) (fun r => [])

theorem cref20_Same (n : Nat) : Contract Try.prog (xref20_Same n) := by
  have hΓ : ∀ g, g ∈ ([] : List Go.AE.Fn) → Contract Try.prog g := by simp
  refine contract_f (Try.f12.body.getD .skip) h00 Try.func12 rfl (by intro args w; exact Try.call12 args w) (by decide) (by intro _ r; exact ⟨rfl, by simp⟩) ?_
  rintro ⟨a, b⟩ r H
  try dsimp only at H
  unfold ref20_Same at H
  simp only [Try.f12, Option.getD]
  refine Sm.seqA h00 mixed hΓ (by kernel_rfl) fun K1 hK1 => ?_
  simp only [rs]
  repeat (refine opsG fun K hK => ?_; simp only [z, seval]; (repeat (first | refine gcI ?_ | refine fun (_ : _ ≤ _) => ?_)); refine hK _ ?_; clear hK K)
  refine hK1 _ ?_
  refine Sm.seqK fun K2 hK2 => ?_
  refine Sm.seqA h00 mixed hΓ (by kernel_rfl) fun K3 hK3 => ?_
  simp only [rs]
  repeat (refine opsG fun K hK => ?_; simp only [z, seval]; (repeat (first | refine gcI ?_ | refine fun (_ : _ ≤ _) => ?_)); refine hK _ ?_; clear hK K)
  refine hK3 _ ?_
  refine Sm.condK (by rfl) fun Ka Kb ha hb => ?_
  simp only [wpCond, z, seval]
  refine ⟨fun h4 => ha ?_, fun h4 => hb ?_⟩
  · replace H := bif_t h4 H
    refine Sm.seqA h00 mixed hΓ (by kernel_rfl) fun K5 hK5 => ?_
    simp only [rs]
    repeat (refine opsG fun K hK => ?_; simp only [z, seval]; (repeat (first | refine gcI ?_ | refine fun (_ : _ ≤ _) => ?_)); refine hK _ ?_; clear hK K)
    refine hK5 _ ?_
    refine Sm.ret ?_
    try simp only [seval, Exit.exit.injEq]
    obtain rfl := Option.some.inj H
    refine Ret.ofR [] (.inr rfl) ?_
    simp only [z, seval]
  replace H := bif_f h4 H
  refine Sm.skip ?_
  refine hK2 _ ?_
  refine Sm.cut (fun (x : Unit) => ref20_Same_s1) (fun x => ref20_Same_k1 n = some r) ?_ ?_
  · refine Sm.seqA h00 mixed hΓ (by kernel_rfl) fun K7 hK7 => ?_
    simp only [rs]
    repeat (refine opsG fun K hK => ?_; simp only [z, seval]; (repeat (first | refine gcI ?_ | refine fun (_ : _ ≤ _) => ?_)); refine hK _ ?_; clear hK K)
    refine hK7 _ ?_
    refine Sm.block ?_
    obtain ⟨y8, hy8, Ho8⟩ := bind_some H
    refine Sm.loopB (fun (x : Int) => ref20_Same_b2 n a b x) (fun x => ref20_Same_t2 a b x) hy8 ?_ ?_
    · exact weak_b [] rfl rfl rfl (by simp only [wk, z, seval]) (by simp only [wk, z, seval])
    rintro i z8 H
    try dsimp only at H
    unfold ref20_Same_b2 at H
    refine Sm.seqK fun K9 hK9 => ?_
    refine Sm.seqA h00 mixed hΓ (by kernel_rfl) fun K10 hK10 => ?_
    simp only [rs]
    repeat (refine opsG fun K hK => ?_; simp only [z, seval, ref20_Same_t2]; (repeat (first | refine gcI ?_ | refine fun (_ : _ ≤ _) => ?_)); refine hK _ ?_; clear hK K)
    refine hK10 _ ?_
    refine Sm.condK (by rfl) fun Ka Kb ha hb => ?_
    simp only [wpCond, z, seval, ref20_Same_t2]
    refine ⟨fun h11 => ha ?_, fun h11 => hb ?_⟩
    · replace H := bif_t h11 H
      refine Sm.skip ?_
      refine hK9 _ ?_
      refine Sm.seqK fun K12 hK12 => ?_
      refine Sm.block ?_
      obtain ⟨⟨hg16, hg17⟩, H⟩ := gd_some H
      refine Sm.seqD h00 mixed hΓ (by kernel_rfl) fun K13 hK13 => ?_
      simp only [rs]
      repeat (refine opsH fun K hK => ?_; simp only [z, seval, ref20_Same_t2]; (repeat (first | refine gcI ?_ | refine fun (_ : _ ≤ _) => ?_)); refine hK _ ?_; clear hK K)
      refine hK13 _ ?_
      refine Sm.condK (by rfl) fun Ka Kb ha hb => ?_
      simp only [wpCond, z, seval, ref20_Same_t2]
      refine ⟨fun h14 => ha ?_, fun h14 => hb ?_⟩
      · replace H := bif_t h14 H
        refine Sm.seqA h00 mixed hΓ (by kernel_rfl) fun K15 hK15 => ?_
        simp only [rs]
        repeat (refine opsG fun K hK => ?_; simp only [z, seval, ref20_Same_t2]; (repeat (first | refine gcI ?_ | refine fun (_ : _ ≤ _) => ?_)); refine hK _ ?_; clear hK K)
        refine hK15 _ ?_
        refine Sm.ret ?_
        try simp only [seval, Exit.exit.injEq]
        refine ⟨⟨_, (Option.some.inj H).symm⟩, fun hz => ?_⟩
        have hyy := Sum.inr.inj ((Option.some.inj H).trans hz)
        subst hyy
        have H := Ho8
        try dsimp only at H
        try simp only [seval, Exit.exit.injEq]
        obtain rfl := Option.some.inj H
        refine Ret.ofR [] (.inr rfl) ?_
        simp only [z, seval, ref20_Same_t2]
      replace H := bif_f h14 H
      refine Sm.skip ?_
      refine hK12 _ ?_
      refine Sm.regA h00 mixed hΓ (by kernel_rfl) ?_
      simp only [rs]
      repeat (refine opsG fun K hK => ?_; simp only [z, seval, ref20_Same_t2]; (repeat (first | refine gcI ?_ | refine fun (_ : _ ≤ _) => ?_)); refine hK _ ?_; clear hK K)
      refine opsG0 ?_
      try simp only [seval, Exit.exit.injEq]
      refine ⟨_, (Option.some.inj H).symm, ?_⟩
      exact weak_b [] rfl rfl rfl (by simp only [wk, z, seval, ref20_Same_t2]) (by simp only [wk, z, seval, ref20_Same_t2])
    replace H := bif_f h11 H
    refine Sm.exit ?_
    try simp only [seval, Exit.exit.injEq]
    refine ⟨⟨_, (Option.some.inj H).symm⟩, fun hz => ?_⟩
    have hyy := Sum.inr.inj ((Option.some.inj H).trans hz)
    subst hyy
    have H := Ho8
    try dsimp only at H
    try simp only [seval, Exit.exit.injEq]
    refine ⟨(), H, ?_⟩
    exact weak_b [] rfl rfl rfl (by simp only [wk, z, seval, ref20_Same_t2]) (by simp only [wk, z, seval, ref20_Same_t2])
  rintro ⟨⟩ H
  try dsimp only at H
  unfold ref20_Same_k1 at H
  refine Sm.seqA h00 mixed hΓ (by kernel_rfl) fun K6 hK6 => ?_
  simp only [rs]
  repeat (refine opsG fun K hK => ?_; simp only [z, seval, ref20_Same_s1]; (repeat (first | refine gcI ?_ | refine fun (_ : _ ≤ _) => ?_)); refine hK _ ?_; clear hK K)
  refine hK6 _ ?_
  refine Sm.ret ?_
  try simp only [seval, Exit.exit.injEq]
  obtain rfl := Option.some.inj H
  refine Ret.ofR [] (.inr rfl) ?_
  simp only [z, seval, ref20_Same_s1]

abbrev ref20_Check_s1 : S := stB [] []

def ref20_Check_k1 (n : Nat) : Option Bool :=
  some true

abbrev ref20_Check_t2 (n_ : Int) (t : List Int) (i : Int) : S := stB [(1, .c (.int .i64) (.int n_)), (5, .own 9001 [.int .i64] 0 t.length), (7, .c (.int .i64) (.int i))] [(9001, .row 3 (List.map e_Int t))]

def ref20_Check_b2 (n : Nat) (n_ : Int) (t : List Int) (i : Int) : Option ((Int) ⊕ (((Bool) ⊕ (Unit)))) :=
  bif (decide (i < ((t.length : Nat) : Int))) then
    gd ((0 ≤ i ∧ i < (t.length : Int)) ∧ (Int.toNat i) < t.length) <|
    bif (decide ((gt t (Int.toNat i)) ≥ n_)) then
      some (.inr (.inl false))
    else
      some (.inl (IntKind.wrap .i64 (i + 1)))
  else
    some (.inr (.inr ()))

def ref20_Check (n : Nat) (l : List TExtent) (n_ : Int) : Option Bool :=
  (ref20_Tracks n l).bind fun r1 =>
  bif (!r1.2) then
    some false
  else
    gd ((!(!r1.2)) = true) <|
    (ref20_Set n l).bind fun r2 =>
    (ref20_Normal n r2).bind fun r3 =>
    gd ((!(!r1.2)) = true) <|
    (ref20_Same n l r3).bind fun r4 =>
    bif (!r4) then
      some false
    else
      (loopF (fun (x : Int) => ref20_Check_b2 n n_ r1.1 x) n 0).bind fun y14 =>
      match y14 with
      | .inl v =>
        some v
      | .inr v =>
        ref20_Check_k1 n

def xref20_Check (n : Nat) : Go.AE.Fn := mkFn (A := (List TExtent) × Int) (R := Bool) 15 [(false, [.slice 43]), (false, [.int .i64])] false (fun xs => (((cg (xs.getD 0 []) 0).toSl.map d_TExtent), (cg (xs.getD 1 []) 0).toInt)) (fun a => [[.slice (List.map e_TExtent a.1)], [.int a.2]]) (fun a => ref20_Check n a.1 a.2) (fun r => [.c .bool (.bool r)]) (fun r => [])

theorem cref20_Check (n : Nat) : Contract Try.prog (xref20_Check n) := by
  have hΓ : ∀ g, g ∈ ([xref20_Tracks n, xref20_Set n, xref20_Normal n, xref20_Same n] : List Go.AE.Fn) → Contract Try.prog g := by
    intro g hg; simp only [List.mem_cons, List.not_mem_nil, or_false] at hg; rcases hg with rfl | rfl | rfl | rfl; exact cref20_Tracks n; exact cref20_Set n; exact cref20_Normal n; exact cref20_Same n
  refine contract_f (Try.f15.body.getD .skip) h00 Try.func15 rfl (by intro args w; exact Try.call15 args w) (by decide) (by intro _ r; exact ⟨rfl, by simp⟩) ?_
  rintro ⟨l, n_⟩ r H
  try dsimp only at H
  unfold ref20_Check at H
  simp only [Try.f15, Option.getD]
  refine Sm.seqA h00 mixed hΓ (by kernel_rfl) fun K1 hK1 => ?_
  simp only [rs]
  repeat (refine opsG fun K hK => ?_; simp only [z, seval]; (repeat (first | refine gcI ?_ | refine fun (_ : _ ≤ _) => ?_)); refine hK _ ?_; clear hK K)
  refine hK1 _ ?_
  obtain ⟨r1, hr1, H⟩ := bind_some H
  refine Sm.seqA h00 mixed hΓ (by kernel_rfl) fun K2 hK2 => ?_
  simp only [rs]
  repeat (refine opsG fun K hK => ?_; simp only [z, seval, xref20_Tracks, hr1]; (repeat (first | refine gcI ?_ | refine fun (_ : _ ≤ _) => ?_)); refine hK _ ?_; clear hK K)
  refine hK2 _ ?_
  refine Sm.seqK fun K3 hK3 => ?_
  refine Sm.seqX h00 mixed hΓ (by kernel_rfl) fun K4 hK4 => ?_
  simp only [rs]
  iterate 5 (refine opsX fun K hK => ?_; simp only [z, seval, xref20_Tracks, xref20_Set, xref20_Normal, xref20_Same]; (repeat (first | refine gcI ?_ | refine fun (_ : _ ≤ _) => ?_)); refine hK _ ?_; clear hK K)
  refine bif_cases H (fun hs5 H => ?_) (fun hs5 H => ?_)
  · refine opsF rfl (by simp only [z, seval, xref20_Tracks, xref20_Set, xref20_Normal, xref20_Same, hs5]) ?_
    refine opsF rfl (by simp only [z, seval, xref20_Tracks, xref20_Set, xref20_Normal, xref20_Same, hs5]) ?_
    refine opsF rfl (by simp only [z, seval, xref20_Tracks, xref20_Set, xref20_Normal, xref20_Same, hs5]) ?_
    refine opsF rfl (by simp only [z, seval, xref20_Tracks, xref20_Set, xref20_Normal, xref20_Same, hs5]) ?_
    refine opsP fun K hK => ?_; simp only [z, seval, xref20_Tracks, xref20_Set, xref20_Normal, xref20_Same, hs5]; (repeat (first | refine gcI ?_ | refine fun (_ : _ ≤ _) => ?_)); refine Or.inl ?_; (repeat (first | refine gcI ?_ | refine fun (_ : _ ≤ _) => ?_)); refine hK _ ?_; clear hK K
    refine hK4 _ ?_
    refine Sm.condK (by rfl) fun Ka Kb ha hb => ?_
    simp only [wpCond, z, seval]
    refine ha ?_
    refine Sm.seqA h00 mixed hΓ (by kernel_rfl) fun K7 hK7 => ?_
    simp only [rs]
    repeat (refine opsG fun K hK => ?_; simp only [z, seval]; (repeat (first | refine gcI ?_ | refine fun (_ : _ ≤ _) => ?_)); refine hK _ ?_; clear hK K)
    refine hK7 _ ?_
    refine Sm.ret ?_
    try simp only [seval, Exit.exit.injEq]
    obtain rfl := Option.some.inj H
    refine Ret.ofR [] (.inr rfl) ?_
    simp only [z, seval]
  obtain ⟨hg8, H⟩ := gd_some H
  obtain ⟨r2, hr2, H⟩ := bind_some H
  obtain ⟨r3, hr3, H⟩ := bind_some H
  obtain ⟨hg9, H⟩ := gd_some H
  obtain ⟨r4, hr4, H⟩ := bind_some H
  refine opsTG rfl (by simp only [z, seval, xref20_Tracks, xref20_Set, xref20_Normal, xref20_Same, hs5, hr2]) fun K hK => ?_; simp only [z, seval, xref20_Tracks, xref20_Set, xref20_Normal, xref20_Same, hs5, hr2]; (repeat (first | refine gcI ?_ | refine fun (_ : _ ≤ _) => ?_)); refine hK _ ?_; clear hK K
  refine opsTG rfl (by simp only [z, seval, xref20_Tracks, xref20_Set, xref20_Normal, xref20_Same, hs5, hr2, hr3]) fun K hK => ?_; simp only [z, seval, xref20_Tracks, xref20_Set, xref20_Normal, xref20_Same, hs5, hr2, hr3]; (repeat (first | refine gcI ?_ | refine fun (_ : _ ≤ _) => ?_)); refine hK _ ?_; clear hK K
  refine opsTG rfl (by simp only [z, seval, xref20_Tracks, xref20_Set, xref20_Normal, xref20_Same, hs5, hr2, hr3, hr4]) fun K hK => ?_; simp only [z, seval, xref20_Tracks, xref20_Set, xref20_Normal, xref20_Same, hs5, hr2, hr3, hr4]; (repeat (first | refine gcI ?_ | refine fun (_ : _ ≤ _) => ?_)); refine hK _ ?_; clear hK K
  refine opsTG rfl (by simp only [z, seval, xref20_Tracks, xref20_Set, xref20_Normal, xref20_Same, hs5, hr2, hr3, hr4]) fun K hK => ?_; simp only [z, seval, xref20_Tracks, xref20_Set, xref20_Normal, xref20_Same, hs5, hr2, hr3, hr4]; (repeat (first | refine gcI ?_ | refine fun (_ : _ ≤ _) => ?_)); refine hK _ ?_; clear hK K
  refine opsP fun K hK => ?_; simp only [z, seval, xref20_Tracks, xref20_Set, xref20_Normal, xref20_Same, hs5, hr2, hr3, hr4]; (repeat (first | refine gcI ?_ | refine fun (_ : _ ≤ _) => ?_)); refine Or.inr ?_; (repeat (first | refine gcI ?_ | refine fun (_ : _ ≤ _) => ?_)); refine hK _ ?_; clear hK K
  refine hK4 _ ?_
  refine Sm.condK (by rfl) fun Ka Kb ha hb => ?_
  simp only [wpCond, z, seval]
  refine ⟨fun h10 => ha ?_, fun h10 => hb ?_⟩
  · replace H := bif_t h10 H
    refine Sm.seqA h00 mixed hΓ (by kernel_rfl) fun K11 hK11 => ?_
    simp only [rs]
    repeat (refine opsG fun K hK => ?_; simp only [z, seval]; (repeat (first | refine gcI ?_ | refine fun (_ : _ ≤ _) => ?_)); refine hK _ ?_; clear hK K)
    refine hK11 _ ?_
    refine Sm.ret ?_
    try simp only [seval, Exit.exit.injEq]
    obtain rfl := Option.some.inj H
    refine Ret.ofR [] (.inr rfl) ?_
    simp only [z, seval]
  replace H := bif_f h10 H
  refine Sm.skip ?_
  refine hK3 _ ?_
  refine Sm.cut (fun (x : Unit) => ref20_Check_s1) (fun x => ref20_Check_k1 n = some r) ?_ ?_
  · refine Sm.seqA h00 mixed hΓ (by kernel_rfl) fun K13 hK13 => ?_
    simp only [rs]
    repeat (refine opsG fun K hK => ?_; simp only [z, seval]; (repeat (first | refine gcI ?_ | refine fun (_ : _ ≤ _) => ?_)); refine hK _ ?_; clear hK K)
    refine hK13 _ ?_
    refine Sm.block ?_
    obtain ⟨y14, hy14, Ho14⟩ := bind_some H
    refine Sm.loopB (fun (x : Int) => ref20_Check_b2 n n_ r1.1 x) (fun x => ref20_Check_t2 n_ r1.1 x) hy14 ?_ ?_
    · exact weak_b [some 160] rfl rfl rfl (by simp only [wk, z, seval]) (by simp only [wk, z, seval])
    rintro i z14 H
    try dsimp only at H
    unfold ref20_Check_b2 at H
    refine Sm.seqK fun K15 hK15 => ?_
    refine Sm.seqA h00 mixed hΓ (by kernel_rfl) fun K16 hK16 => ?_
    simp only [rs]
    repeat (refine opsG fun K hK => ?_; simp only [z, seval, ref20_Check_t2]; (repeat (first | refine gcI ?_ | refine fun (_ : _ ≤ _) => ?_)); refine hK _ ?_; clear hK K)
    refine hK16 _ ?_
    refine Sm.condK (by rfl) fun Ka Kb ha hb => ?_
    simp only [wpCond, z, seval, ref20_Check_t2]
    refine ⟨fun h17 => ha ?_, fun h17 => hb ?_⟩
    · replace H := bif_t h17 H
      refine Sm.skip ?_
      refine hK15 _ ?_
      refine Sm.seqK fun K18 hK18 => ?_
      refine Sm.block ?_
      obtain ⟨⟨hg22, hg23⟩, H⟩ := gd_some H
      refine Sm.seqA h00 mixed hΓ (by kernel_rfl) fun K19 hK19 => ?_
      simp only [rs]
      repeat (refine opsG fun K hK => ?_; simp only [z, seval, ref20_Check_t2]; (repeat (first | refine gcI ?_ | refine fun (_ : _ ≤ _) => ?_)); refine hK _ ?_; clear hK K)
      refine hK19 _ ?_
      refine Sm.condK (by rfl) fun Ka Kb ha hb => ?_
      simp only [wpCond, z, seval, ref20_Check_t2]
      refine ⟨fun h20 => ha ?_, fun h20 => hb ?_⟩
      · replace H := bif_t h20 H
        refine Sm.seqA h00 mixed hΓ (by kernel_rfl) fun K21 hK21 => ?_
        simp only [rs]
        repeat (refine opsG fun K hK => ?_; simp only [z, seval, ref20_Check_t2]; (repeat (first | refine gcI ?_ | refine fun (_ : _ ≤ _) => ?_)); refine hK _ ?_; clear hK K)
        refine hK21 _ ?_
        refine Sm.ret ?_
        try simp only [seval, Exit.exit.injEq]
        refine ⟨⟨_, (Option.some.inj H).symm⟩, fun hz => ?_⟩
        have hyy := Sum.inr.inj ((Option.some.inj H).trans hz)
        subst hyy
        have H := Ho14
        try dsimp only at H
        try simp only [seval, Exit.exit.injEq]
        obtain rfl := Option.some.inj H
        refine Ret.ofR [] (.inr rfl) ?_
        simp only [z, seval, ref20_Check_t2]
      replace H := bif_f h20 H
      refine Sm.skip ?_
      refine hK18 _ ?_
      refine Sm.regA h00 mixed hΓ (by kernel_rfl) ?_
      simp only [rs]
      repeat (refine opsG fun K hK => ?_; simp only [z, seval, ref20_Check_t2]; (repeat (first | refine gcI ?_ | refine fun (_ : _ ≤ _) => ?_)); refine hK _ ?_; clear hK K)
      refine opsG0 ?_
      try simp only [seval, Exit.exit.injEq]
      refine ⟨_, (Option.some.inj H).symm, ?_⟩
      exact weak_b [some 9001] rfl rfl rfl (by simp only [wk, z, seval, ref20_Check_t2]) (by simp only [wk, z, seval, ref20_Check_t2])
    replace H := bif_f h17 H
    refine Sm.exit ?_
    try simp only [seval, Exit.exit.injEq]
    refine ⟨⟨_, (Option.some.inj H).symm⟩, fun hz => ?_⟩
    have hyy := Sum.inr.inj ((Option.some.inj H).trans hz)
    subst hyy
    have H := Ho14
    try dsimp only at H
    try simp only [seval, Exit.exit.injEq]
    refine ⟨(), H, ?_⟩
    exact weak_b [] rfl rfl rfl (by simp only [wk, z, seval, ref20_Check_t2]) (by simp only [wk, z, seval, ref20_Check_t2])
  rintro ⟨⟩ H
  try dsimp only at H
  unfold ref20_Check_k1 at H
  refine Sm.seqA h00 mixed hΓ (by kernel_rfl) fun K12 hK12 => ?_
  simp only [rs]
  repeat (refine opsG fun K hK => ?_; simp only [z, seval, ref20_Check_s1]; (repeat (first | refine gcI ?_ | refine fun (_ : _ ≤ _) => ?_)); refine hK _ ?_; clear hK K)
  refine hK12 _ ?_
  refine Sm.ret ?_
  try simp only [seval, Exit.exit.injEq]
  obtain rfl := Option.some.inj H
  refine Ret.ofR [] (.inr rfl) ?_
  simp only [z, seval, ref20_Check_s1]

abbrev ref20_drop_s1 (out : List TExtent) : S := stB [(3, .own 9000 [.int .i64, .int .i64] 0 out.length)] [(9000, .row 43 (List.map e_TExtent out))]

def ref20_drop_k1 (n : Nat) (out : List TExtent) : Option (List TExtent) :=
  some out

abbrev ref20_drop_s3 (l : List TExtent) (out_1 : List TExtent) (i : Int) : S := stB [(0, .c (.slice 43) (.slice (List.map e_TExtent l))), (3, .own 9003 [.int .i64, .int .i64] 0 out_1.length), (4, .c (.int .i64) (.int i))] [(9003, .row 43 (List.map e_TExtent out_1))]

def ref20_drop_k3 (n : Nat) (l : List TExtent) (out_1 : List TExtent) (i : Int) : Option (((List TExtent) × Int) ⊕ (((List TExtent)))) :=
  some (.inl (out_1, (IntKind.wrap .i64 (i + 1))))

abbrev ref20_drop_t2 (l : List TExtent) (out : List TExtent) (i : Int) : S := stB [(0, .c (.slice 43) (.slice (List.map e_TExtent l))), (3, .own 9002 [.int .i64, .int .i64] 0 out.length), (4, .c (.int .i64) (.int i))] [(9002, .row 43 (List.map e_TExtent out))]

def ref20_drop_b2 (n : Nat) (l : List TExtent) (out : List TExtent) (i : Int) : Option (((List TExtent) × Int) ⊕ (((List TExtent)))) :=
  bif (decide (i < (l.length : Int))) then
    gd ((0 ≤ i ∧ i < (l.length : Int))) <|
    bif (decide (((gt l (Int.toNat i)).Len) > 0)) then
      gd ((0 ≤ i ∧ i < (l.length : Int)) ∧ (out.length + 1) ≤ 2147483648) <|
      ref20_drop_k3 n l (out ++ [(gt l (Int.toNat i))]) i
    else
      ref20_drop_k3 n l out i
  else
    some (.inr out)

def ref20_drop (n : Nat) (l : List TExtent) : Option (List TExtent) :=
  (loopF (fun (x : (List TExtent) × Int) => ref20_drop_b2 n l x.1 x.2) n ([], 0)).bind fun y5 =>
  ref20_drop_k1 n y5

def xref20_drop (n : Nat) : Go.AE.Fn := mkFn (A := (List TExtent)) (R := (List TExtent)) 35 [(false, [.slice 43])] false (fun xs => ((cg (xs.getD 0 []) 0).toSl.map d_TExtent)) (fun a => [[.slice (List.map e_TExtent a)]]) (fun a => ref20_drop n a) (fun r => [.own 0 [.int .i64, .int .i64] 0 r.length]) (fun r => [.row 43 (List.map e_TExtent r)])

theorem cref20_drop (n : Nat) : Contract Try.prog (xref20_drop n) := by
  have hΓ : ∀ g, g ∈ ([] : List Go.AE.Fn) → Contract Try.prog g := by simp
  refine contract_f (Try.f35.body.getD .skip) h00 Try.func35 rfl (by intro args w; exact Try.call35 args w) (by decide) (by
    intro _ r; refine ⟨rfl, ?_⟩; simp only [List.mem_cons, List.not_mem_nil, or_false]; rintro _ rfl
    · exact ⟨43, _, _, rfl, ty43, rfl⟩) ?_
  rintro l r H
  try dsimp only at H
  unfold ref20_drop at H
  simp only [Try.f35, Option.getD]
  refine Sm.seqA h00 mixed hΓ (by kernel_rfl) fun K1 hK1 => ?_
  simp only [rs]
  repeat (refine opsG fun K hK => ?_; simp only [z, seval]; (repeat (first | refine gcI ?_ | refine fun (_ : _ ≤ _) => ?_)); refine hK _ ?_; clear hK K)
  refine hK1 _ ?_
  refine Sm.seqA h00 mixed hΓ (by kernel_rfl) fun K2 hK2 => ?_
  simp only [rs]
  repeat (refine opsG fun K hK => ?_; simp only [z, seval]; (repeat (first | refine gcI ?_ | refine fun (_ : _ ≤ _) => ?_)); refine hK _ ?_; clear hK K)
  refine hK2 _ ?_
  refine Sm.cut (fun (x : (List TExtent)) => ref20_drop_s1 x) (fun x => ref20_drop_k1 n x = some r) ?_ ?_
  · refine Sm.seqA h00 mixed hΓ (by kernel_rfl) fun K4 hK4 => ?_
    simp only [rs]
    repeat (refine opsG fun K hK => ?_; simp only [z, seval]; (repeat (first | refine gcI ?_ | refine fun (_ : _ ≤ _) => ?_)); refine hK _ ?_; clear hK K)
    refine hK4 _ ?_
    refine Sm.block ?_
    obtain ⟨y5, hy5, Ho5⟩ := bind_some H
    refine Sm.loopB (fun (x : (List TExtent) × Int) => ref20_drop_b2 n l x.1 x.2) (fun x => ref20_drop_t2 l x.1 x.2) hy5 ?_ ?_
    · exact weak_b [none] rfl rfl rfl (by simp only [wk, z, seval]) (by simp only [wk, z, seval])
    rintro ⟨out, i⟩ z5 H
    try dsimp only at H
    unfold ref20_drop_b2 at H
    refine Sm.seqK fun K6 hK6 => ?_
    refine Sm.seqA h00 mixed hΓ (by kernel_rfl) fun K7 hK7 => ?_
    simp only [rs]
    repeat (refine opsG fun K hK => ?_; simp only [z, seval, ref20_drop_t2]; (repeat (first | refine gcI ?_ | refine fun (_ : _ ≤ _) => ?_)); refine hK _ ?_; clear hK K)
    refine hK7 _ ?_
    refine Sm.condK (by rfl) fun Ka Kb ha hb => ?_
    simp only [wpCond, z, seval, ref20_drop_t2]
    refine ⟨fun h8 => ha ?_, fun h8 => hb ?_⟩
    · replace H := bif_t h8 H
      refine Sm.skip ?_
      refine hK6 _ ?_
      refine Sm.cut (fun (x : (List TExtent)) => ref20_drop_s3 l x i) (fun x => ref20_drop_k3 n l x i = some z5) ?_ ?_
      · refine Sm.block ?_
        obtain ⟨hg13, H⟩ := gd_some H
        refine Sm.seqA h00 mixed hΓ (by kernel_rfl) fun K9 hK9 => ?_
        simp only [rs]
        repeat (refine opsG fun K hK => ?_; simp only [z, seval, ref20_drop_t2]; (repeat (first | refine gcI ?_ | refine fun (_ : _ ≤ _) => ?_)); refine hK _ ?_; clear hK K)
        refine hK9 _ ?_
        refine Sm.condK (by rfl) fun Ka Kb ha hb => ?_
        simp only [wpCond, z, seval, ref20_drop_t2]
        refine ⟨fun h10 => ha ?_, fun h10 => hb ?_⟩
        · replace H := bif_t h10 H
          obtain ⟨⟨hg11, hg12⟩, H⟩ := gd_some H
          refine Sm.regA h00 mixed hΓ (by kernel_rfl) ?_
          simp only [rs]
          repeat (refine opsG fun K hK => ?_; simp only [z, seval, ref20_drop_t2]; (repeat (first | refine gcI ?_ | refine fun (_ : _ ≤ _) => ?_)); refine hK _ ?_; clear hK K)
          refine opsG0 ?_
          try simp only [seval, Exit.exit.injEq]
          refine ⟨_, H, ?_⟩
          exact weak_b [some 368] rfl rfl rfl (by simp only [wk, z, seval, ref20_drop_t2]) (by simp only [wk, z, seval, ref20_drop_t2])
        replace H := bif_f h10 H
        refine Sm.skip ?_
        try simp only [seval, Exit.exit.injEq]
        refine ⟨_, H, ?_⟩
        exact weak_b [some 9002] rfl rfl rfl (by simp only [wk, z, seval, ref20_drop_t2]) (by simp only [wk, z, seval, ref20_drop_t2])
      rintro out_1 H
      try dsimp only at H
      unfold ref20_drop_k3 at H
      refine Sm.regA h00 mixed hΓ (by kernel_rfl) ?_
      simp only [rs]
      repeat (refine opsG fun K hK => ?_; simp only [z, seval, ref20_drop_s3]; (repeat (first | refine gcI ?_ | refine fun (_ : _ ≤ _) => ?_)); refine hK _ ?_; clear hK K)
      refine opsG0 ?_
      try simp only [seval, Exit.exit.injEq]
      refine ⟨(_, _), (Option.some.inj H).symm, ?_⟩
      exact weak_b [some 9003] rfl rfl rfl (by simp only [wk, z, seval, ref20_drop_s3]) (by simp only [wk, z, seval, ref20_drop_s3])
    replace H := bif_f h8 H
    refine Sm.exit ?_
    try simp only [seval, Exit.exit.injEq]
    refine ⟨⟨_, (Option.some.inj H).symm⟩, fun hz => ?_⟩
    have hyy := Sum.inr.inj ((Option.some.inj H).trans hz)
    subst hyy
    have H := Ho5
    try dsimp only at H
    try simp only [seval, Exit.exit.injEq]
    refine ⟨_, H, ?_⟩
    exact weak_b [some 9002] rfl rfl rfl (by simp only [wk, z, seval, ref20_drop_t2]) (by simp only [wk, z, seval, ref20_drop_t2])
  rintro out H
  try dsimp only at H
  unfold ref20_drop_k1 at H
  refine Sm.seqA h00 mixed hΓ (by kernel_rfl) fun K3 hK3 => ?_
  simp only [rs]
  repeat (refine opsG fun K hK => ?_; simp only [z, seval, ref20_drop_s1]; (repeat (first | refine gcI ?_ | refine fun (_ : _ ≤ _) => ?_)); refine hK _ ?_; clear hK K)
  refine hK3 _ ?_
  refine Sm.ret ?_
  try simp only [seval, Exit.exit.injEq]
  obtain rfl := Option.some.inj H
  refine Ret.ofR [some 9000] (.inr rfl) ?_
  simp only [z, seval, ref20_drop_s1]

abbrev ref20_Take_s1 : S := stB [] []

def ref20_Take_k1 (n : Nat) : Option ((List TExtent) × (List TExtent) × Int) :=
  some ([], [], 200)

abbrev ref20_Take_s3 (want_1 : Int) (pieces : Int) (rest : List TExtent) (got : List TExtent) (first : Int) (longest : Int) : S := stB [(1, .c (.int .i64) (.int want_1)), (2, .c (.int .i64) (.int pieces)), (9, .own 9005 [.int .i64, .int .i64] 0 rest.length), (10, .own 9006 [.int .i64, .int .i64] 0 got.length), (11, .c (.int .i64) (.int first)), (12, .c (.int .i64) (.int longest))] [(9005, .row 43 (List.map e_TExtent rest)), (9006, .row 43 (List.map e_TExtent got))]

def ref20_Take_k3 (n : Nat) (want_1 : Int) (pieces : Int) (rest : List TExtent) (got : List TExtent) (first : Int) (longest : Int) : Option ((Int × (List TExtent) × (List TExtent)) ⊕ ((((List TExtent) × (List TExtent) × Int) ⊕ (Unit)))) :=
  bif (decide (first ≥ 0)) then
    gd ((0 ≤ first ∧ first < (rest.length : Int)) ∧ (Int.toNat first) < rest.length ∧ (got.length + 1) ≤ 2147483648) <|
    gd ((0 ≤ first ∧ first < (rest.length : Int)) ∧ (Int.toNat first) < rest.length ∧ (0 ≤ first ∧ first < (rest.length : Int)) ∧ (Int.toNat first) < rest.length ∧ (0 ≤ first ∧ first < (rest.length : Int)) ∧ (Int.toNat first) < rest.length) <|
    (ref20_drop n (List.set rest (Int.toNat first) (⟨(IntKind.wrap .i64 (((gt rest (Int.toNat first)).At) + want_1)), (IntKind.wrap .i64 (((gt rest (Int.toNat first)).Len) - want_1))⟩ : TExtent))).bind fun r2 =>
    some (.inr (.inl ((got ++ [(⟨(gt rest (Int.toNat first)).At, want_1⟩ : TExtent)]), r2, 0)))
  else
    gd ((0 ≤ longest ∧ longest < (rest.length : Int)) ∧ (Int.toNat longest) < rest.length ∧ (got.length + 1) ≤ 2147483648) <|
    gd ((0 ≤ longest ∧ longest < (rest.length : Int)) ∧ (Int.toNat longest) < rest.length) <|
    gd ((0 ≤ longest ∧ longest < (rest.length : Int)) ∧ (Int.toNat longest) < rest.length) <|
    (ref20_drop n (List.set rest (Int.toNat longest) (⟨(gt rest (Int.toNat longest)).At, 0⟩ : TExtent))).bind fun r3 =>
    some (.inl ((IntKind.wrap .i64 (want_1 - ((gt rest (Int.toNat longest)).Len))), r3, (got ++ [(gt rest (Int.toNat longest))])))

abbrev ref20_Take_s5 (want_1 : Int) (pieces : Int) (rest : List TExtent) (got : List TExtent) (first_1 : Int) (longest_1 : Int) (i : Int) : S := stB [(1, .c (.int .i64) (.int want_1)), (2, .c (.int .i64) (.int pieces)), (9, .own 9011 [.int .i64, .int .i64] 0 rest.length), (10, .own 9012 [.int .i64, .int .i64] 0 got.length), (11, .c (.int .i64) (.int first_1)), (12, .c (.int .i64) (.int longest_1)), (13, .c (.int .i64) (.int i))] [(9011, .row 43 (List.map e_TExtent rest)), (9012, .row 43 (List.map e_TExtent got))]

def ref20_Take_k5 (n : Nat) (want_1 : Int) (pieces : Int) (rest : List TExtent) (got : List TExtent) (first_1 : Int) (longest_1 : Int) (i : Int) : Option ((Int × Int × Int) ⊕ ((Int × Int))) :=
  some (.inl (first_1, longest_1, (IntKind.wrap .i64 (i - 1))))

abbrev ref20_Take_s6 (want_1 : Int) (pieces : Int) (rest : List TExtent) (got : List TExtent) (first_1 : Int) (longest : Int) (i : Int) : S := stB [(1, .c (.int .i64) (.int want_1)), (2, .c (.int .i64) (.int pieces)), (9, .own 9013 [.int .i64, .int .i64] 0 rest.length), (10, .own 9014 [.int .i64, .int .i64] 0 got.length), (11, .c (.int .i64) (.int first_1)), (12, .c (.int .i64) (.int longest)), (13, .c (.int .i64) (.int i))] [(9013, .row 43 (List.map e_TExtent rest)), (9014, .row 43 (List.map e_TExtent got))]

def ref20_Take_k6 (n : Nat) (want_1 : Int) (pieces : Int) (rest : List TExtent) (got : List TExtent) (first_1 : Int) (longest : Int) (i : Int) : Option ((Int × Int × Int) ⊕ ((Int × Int))) :=
  gd ((0 ≤ i ∧ i < (rest.length : Int)) ∧ (Int.toNat i) < rest.length ∧ (0 ≤ longest ∧ longest < (rest.length : Int)) ∧ (Int.toNat longest) < rest.length) <|
  bif (decide (((gt rest (Int.toNat i)).Len) ≥ ((gt rest (Int.toNat longest)).Len))) then
    ref20_Take_k5 n want_1 pieces rest got first_1 i i
  else
    ref20_Take_k5 n want_1 pieces rest got first_1 longest i

abbrev ref20_Take_t4 (want_1 : Int) (pieces : Int) (rest : List TExtent) (got : List TExtent) (first : Int) (longest : Int) (i : Int) : S := stB [(1, .c (.int .i64) (.int want_1)), (2, .c (.int .i64) (.int pieces)), (9, .own 9009 [.int .i64, .int .i64] 0 rest.length), (10, .own 9010 [.int .i64, .int .i64] 0 got.length), (11, .c (.int .i64) (.int first)), (12, .c (.int .i64) (.int longest)), (13, .c (.int .i64) (.int i))] [(9009, .row 43 (List.map e_TExtent rest)), (9010, .row 43 (List.map e_TExtent got))]

def ref20_Take_b4 (n : Nat) (want_1 : Int) (pieces : Int) (rest : List TExtent) (got : List TExtent) (first : Int) (longest : Int) (i : Int) : Option ((Int × Int × Int) ⊕ ((Int × Int))) :=
  bif (decide (i ≥ 0)) then
    gd ((0 ≤ i ∧ i < (rest.length : Int)) ∧ (Int.toNat i) < rest.length) <|
    bif (decide (((gt rest (Int.toNat i)).Len) ≥ want_1)) then
      ref20_Take_k6 n want_1 pieces rest got i longest i
    else
      ref20_Take_k6 n want_1 pieces rest got first longest i
  else
    some (.inr (first, longest))

abbrev ref20_Take_t2 (pieces : Int) (want_1 : Int) (rest : List TExtent) (got : List TExtent) : S := stB [(1, .c (.int .i64) (.int want_1)), (2, .c (.int .i64) (.int pieces)), (9, .own 9003 [.int .i64, .int .i64] 0 rest.length), (10, .own 9004 [.int .i64, .int .i64] 0 got.length)] [(9003, .row 43 (List.map e_TExtent rest)), (9004, .row 43 (List.map e_TExtent got))]

def ref20_Take_b2 (n : Nat) (pieces : Int) (want_1 : Int) (rest : List TExtent) (got : List TExtent) : Option ((Int × (List TExtent) × (List TExtent)) ⊕ ((((List TExtent) × (List TExtent) × Int) ⊕ (Unit)))) :=
  bif (if (decide (((got.length : Nat) : Int) < pieces)) = true then (decide (((rest.length : Nat) : Int) > 0)) else false) then
    (loopF (fun (x : Int × Int × Int) => ref20_Take_b4 n want_1 pieces rest got x.1 x.2.1 x.2.2) n ((-1), 0, (IntKind.wrap .i64 (((rest.length : Nat) : Int) - 1)))).bind fun y41 =>
    ref20_Take_k3 n want_1 pieces rest got y41.1 y41.2
  else
    some (.inr (.inr ()))

def ref20_Take (n : Nat) (free : List TExtent) (want : Int) (pieces : Int) : Option ((List TExtent) × (List TExtent) × Int) :=
  (ref20_Check n free 512).bind fun r1 =>
  bif (if (if (!r1) = true then true else (decide (want < 1))) = true then true else (decide (pieces < 1))) then
    some ([], [], 1)
  else
    gd (free.length ≤ 2147483648) <|
    (loopF (fun (x : Int × (List TExtent) × (List TExtent)) => ref20_Take_b2 n pieces x.1 x.2.1 x.2.2) n (want, free, [])).bind fun y10 =>
    match y10 with
    | .inl v =>
      some (v.1, v.2.1, v.2.2)
    | .inr v =>
      ref20_Take_k1 n

def xref20_Take (n : Nat) : Go.AE.Fn := mkFn (A := (List TExtent) × Int × Int) (R := (List TExtent) × (List TExtent) × Int) 11 [(false, [.slice 43]), (false, [.int .i64]), (false, [.int .i64])] false (fun xs => (((cg (xs.getD 0 []) 0).toSl.map d_TExtent), (cg (xs.getD 1 []) 0).toInt, (cg (xs.getD 2 []) 0).toInt)) (fun a => [[.slice (List.map e_TExtent a.1)], [.int a.2.1], [.int a.2.2]]) (fun a => ref20_Take n a.1 a.2.1 a.2.2) (fun r => [.own 0 [.int .i64, .int .i64] 0 r.1.length, .own 1 [.int .i64, .int .i64] 0 r.2.1.length, .c (.int .i64) (.int r.2.2)]) (fun r => [.row 43 (List.map e_TExtent r.1), .row 43 (List.map e_TExtent r.2.1)])

theorem cref20_Take (n : Nat) : Contract Try.prog (xref20_Take n) := by
  have hΓ : ∀ g, g ∈ ([xref20_Check n, xref20_drop n] : List Go.AE.Fn) → Contract Try.prog g := by
    intro g hg; simp only [List.mem_cons, List.not_mem_nil, or_false] at hg; rcases hg with rfl | rfl; exact cref20_Check n; exact cref20_drop n
  refine contract_f (Try.f11.body.getD .skip) h00 Try.func11 rfl (by intro args w; exact Try.call11 args w) (by decide) (by
    intro _ r; refine ⟨rfl, ?_⟩; simp only [List.mem_cons, List.not_mem_nil, or_false]; rintro _ (rfl | rfl)
    · exact ⟨43, _, _, rfl, ty43, rfl⟩
    · exact ⟨43, _, _, rfl, ty43, rfl⟩) ?_
  rintro ⟨free, want, pieces⟩ r H
  try dsimp only at H
  unfold ref20_Take at H
  simp only [Try.f11, Option.getD]
  refine Sm.seqA h00 mixed hΓ (by kernel_rfl) fun K1 hK1 => ?_
  simp only [rs]
  repeat (refine opsG fun K hK => ?_; simp only [z, seval]; (repeat (first | refine gcI ?_ | refine fun (_ : _ ≤ _) => ?_)); refine hK _ ?_; clear hK K)
  refine hK1 _ ?_
  refine Sm.seqK fun K2 hK2 => ?_
  obtain ⟨r1, hr1, H⟩ := bind_some H
  refine Sm.seqA h00 mixed hΓ (by kernel_rfl) fun K3 hK3 => ?_
  simp only [rs]
  repeat (refine opsG fun K hK => ?_; simp only [z, seval, xref20_Check, hr1]; (repeat (first | refine gcI ?_ | refine fun (_ : _ ≤ _) => ?_)); refine hK _ ?_; clear hK K)
  refine hK3 _ ?_
  refine Sm.condK (by rfl) fun Ka Kb ha hb => ?_
  simp only [wpCond, z, seval]
  refine ⟨fun h4 => ha ?_, fun h4 => hb ?_⟩
  · replace H := bif_t h4 H
    refine Sm.seqA h00 mixed hΓ (by kernel_rfl) fun K5 hK5 => ?_
    simp only [rs]
    repeat (refine opsG fun K hK => ?_; simp only [z, seval]; (repeat (first | refine gcI ?_ | refine fun (_ : _ ≤ _) => ?_)); refine hK _ ?_; clear hK K)
    refine hK5 _ ?_
    refine Sm.ret ?_
    try simp only [seval, Exit.exit.injEq]
    obtain rfl := Option.some.inj H
    refine Ret.ofR [none, none] (.inr rfl) ?_
    simp only [z, seval]
  replace H := bif_f h4 H
  refine Sm.skip ?_
  refine hK2 _ ?_
  refine Sm.seqA h00 mixed hΓ (by kernel_rfl) fun K6 hK6 => ?_
  simp only [rs]
  repeat (refine opsG fun K hK => ?_; simp only [z, seval]; (repeat (first | refine gcI ?_ | refine fun (_ : _ ≤ _) => ?_)); refine hK _ ?_; clear hK K)
  refine hK6 _ ?_
  obtain ⟨hg55, H⟩ := gd_some H
  refine Sm.seqA h00 mixed hΓ (by kernel_rfl) fun K7 hK7 => ?_
  simp only [rs]
  repeat (refine opsG fun K hK => ?_; simp only [z, seval]; (repeat (first | refine gcI ?_ | refine fun (_ : _ ≤ _) => ?_)); refine hK _ ?_; clear hK K)
  refine hK7 _ ?_
  refine Sm.seqA h00 mixed hΓ (by kernel_rfl) fun K8 hK8 => ?_
  simp only [rs]
  repeat (refine opsG fun K hK => ?_; simp only [z, seval]; (repeat (first | refine gcI ?_ | refine fun (_ : _ ≤ _) => ?_)); refine hK _ ?_; clear hK K)
  refine hK8 _ ?_
  refine Sm.cut (fun (x : Unit) => ref20_Take_s1) (fun x => ref20_Take_k1 n = some r) ?_ ?_
  · refine Sm.block ?_
    obtain ⟨y10, hy10, Ho10⟩ := bind_some H
    refine Sm.loopB (fun (x : Int × (List TExtent) × (List TExtent)) => ref20_Take_b2 n pieces x.1 x.2.1 x.2.2) (fun x => ref20_Take_t2 pieces x.1 x.2.1 x.2.2) hy10 ?_ ?_
    · exact weak_b [some 432, none] rfl rfl rfl (by simp only [wk, z, seval]) (by simp only [wk, z, seval])
    rintro ⟨want_1, rest, got⟩ z10 H
    try dsimp only at H
    unfold ref20_Take_b2 at H
    refine Sm.seqK fun K11 hK11 => ?_
    refine Sm.seqA h00 mixed hΓ (by kernel_rfl) fun K12 hK12 => ?_
    simp only [rs]
    repeat (refine opsG fun K hK => ?_; simp only [z, seval, ref20_Take_t2]; (repeat (first | refine gcI ?_ | refine fun (_ : _ ≤ _) => ?_)); refine hK _ ?_; clear hK K)
    refine hK12 _ ?_
    refine Sm.condK (by rfl) fun Ka Kb ha hb => ?_
    simp only [wpCond, z, seval, ref20_Take_t2]
    refine ⟨fun h13 => ha ?_, fun h13 => hb ?_⟩
    · replace H := bif_t h13 H
      refine Sm.skip ?_
      refine hK11 _ ?_
      refine Sm.block ?_
      refine Sm.seqA h00 mixed hΓ (by kernel_rfl) fun K14 hK14 => ?_
      simp only [rs]
      repeat (refine opsG fun K hK => ?_; simp only [z, seval, ref20_Take_t2]; (repeat (first | refine gcI ?_ | refine fun (_ : _ ≤ _) => ?_)); refine hK _ ?_; clear hK K)
      refine hK14 _ ?_
      refine Sm.cut (fun (x : Int × Int) => ref20_Take_s3 want_1 pieces rest got x.1 x.2) (fun x => ref20_Take_k3 n want_1 pieces rest got x.1 x.2 = some z10) ?_ ?_
      · refine Sm.seqA h00 mixed hΓ (by kernel_rfl) fun K40 hK40 => ?_
        simp only [rs]
        repeat (refine opsG fun K hK => ?_; simp only [z, seval, ref20_Take_t2]; (repeat (first | refine gcI ?_ | refine fun (_ : _ ≤ _) => ?_)); refine hK _ ?_; clear hK K)
        refine hK40 _ ?_
        refine Sm.block ?_
        obtain ⟨y41, hy41, Ho41⟩ := bind_some H
        refine Sm.loopB (fun (x : Int × Int × Int) => ref20_Take_b4 n want_1 pieces rest got x.1 x.2.1 x.2.2) (fun x => ref20_Take_t4 want_1 pieces rest got x.1 x.2.1 x.2.2) hy41 ?_ ?_
        · exact weak_b [some 9003, some 9004] rfl rfl rfl (by simp only [wk, z, seval, ref20_Take_t2]) (by simp only [wk, z, seval, ref20_Take_t2])
        rintro ⟨first, longest, i⟩ z41 H
        try dsimp only at H
        unfold ref20_Take_b4 at H
        refine Sm.seqK fun K42 hK42 => ?_
        refine Sm.seqA h00 mixed hΓ (by kernel_rfl) fun K43 hK43 => ?_
        simp only [rs]
        repeat (refine opsG fun K hK => ?_; simp only [z, seval, ref20_Take_t4]; (repeat (first | refine gcI ?_ | refine fun (_ : _ ≤ _) => ?_)); refine hK _ ?_; clear hK K)
        refine hK43 _ ?_
        refine Sm.condK (by rfl) fun Ka Kb ha hb => ?_
        simp only [wpCond, z, seval, ref20_Take_t4]
        refine ⟨fun h44 => ha ?_, fun h44 => hb ?_⟩
        · replace H := bif_t h44 H
          refine Sm.skip ?_
          refine hK42 _ ?_
          refine Sm.cut (fun (x : Int × Int) => ref20_Take_s5 want_1 pieces rest got x.1 x.2 i) (fun x => ref20_Take_k5 n want_1 pieces rest got x.1 x.2 i = some z41) ?_ ?_
          · refine Sm.block ?_
            refine Sm.cut (fun (x : Int) => ref20_Take_s6 want_1 pieces rest got x longest i) (fun x => ref20_Take_k6 n want_1 pieces rest got x longest i = some z41) ?_ ?_
            · obtain ⟨⟨hg53, hg54⟩, H⟩ := gd_some H
              refine Sm.seqA h00 mixed hΓ (by kernel_rfl) fun K51 hK51 => ?_
              simp only [rs]
              repeat (refine opsG fun K hK => ?_; simp only [z, seval, ref20_Take_t4]; (repeat (first | refine gcI ?_ | refine fun (_ : _ ≤ _) => ?_)); refine hK _ ?_; clear hK K)
              refine hK51 _ ?_
              refine Sm.condK (by rfl) fun Ka Kb ha hb => ?_
              simp only [wpCond, z, seval, ref20_Take_t4]
              refine ⟨fun h52 => ha ?_, fun h52 => hb ?_⟩
              · replace H := bif_t h52 H
                refine Sm.regA h00 mixed hΓ (by kernel_rfl) ?_
                simp only [rs]
                repeat (refine opsG fun K hK => ?_; simp only [z, seval, ref20_Take_t4]; (repeat (first | refine gcI ?_ | refine fun (_ : _ ≤ _) => ?_)); refine hK _ ?_; clear hK K)
                refine opsG0 ?_
                try simp only [seval, Exit.exit.injEq]
                refine ⟨_, H, ?_⟩
                exact weak_b [some 9009, some 9010] rfl rfl rfl (by simp only [wk, z, seval, ref20_Take_t4]) (by simp only [wk, z, seval, ref20_Take_t4])
              replace H := bif_f h52 H
              refine Sm.skip ?_
              try simp only [seval, Exit.exit.injEq]
              refine ⟨_, H, ?_⟩
              exact weak_b [some 9009, some 9010] rfl rfl rfl (by simp only [wk, z, seval, ref20_Take_t4]) (by simp only [wk, z, seval, ref20_Take_t4])
            rintro first_1 H
            try dsimp only at H
            unfold ref20_Take_k6 at H
            obtain ⟨⟨hg47, hg48, hg49, hg50⟩, H⟩ := gd_some H
            refine Sm.seqD h00 mixed hΓ (by kernel_rfl) fun K45 hK45 => ?_
            simp only [rs]
            repeat (refine opsH fun K hK => ?_; simp only [z, seval, ref20_Take_s6]; (repeat (first | refine gcI ?_ | refine fun (_ : _ ≤ _) => ?_)); refine hK _ ?_; clear hK K)
            refine hK45 _ ?_
            refine Sm.condK (by rfl) fun Ka Kb ha hb => ?_
            simp only [wpCond, z, seval, ref20_Take_s6]
            refine ⟨fun h46 => ha ?_, fun h46 => hb ?_⟩
            · replace H := bif_t h46 H
              refine Sm.regA h00 mixed hΓ (by kernel_rfl) ?_
              simp only [rs]
              repeat (refine opsG fun K hK => ?_; simp only [z, seval, ref20_Take_s6]; (repeat (first | refine gcI ?_ | refine fun (_ : _ ≤ _) => ?_)); refine hK _ ?_; clear hK K)
              refine opsG0 ?_
              try simp only [seval, Exit.exit.injEq]
              refine ⟨(first_1, i), H, ?_⟩
              exact weak_b [some 9013, some 9014] rfl rfl rfl (by simp only [wk, z, seval, ref20_Take_s6]) (by simp only [wk, z, seval, ref20_Take_s6])
            replace H := bif_f h46 H
            refine Sm.skip ?_
            try simp only [seval, Exit.exit.injEq]
            refine ⟨(first_1, longest), H, ?_⟩
            exact weak_b [some 9013, some 9014] rfl rfl rfl (by simp only [wk, z, seval, ref20_Take_s6]) (by simp only [wk, z, seval, ref20_Take_s6])
          rintro ⟨first_1, longest_1⟩ H
          try dsimp only at H
          unfold ref20_Take_k5 at H
          refine Sm.regA h00 mixed hΓ (by kernel_rfl) ?_
          simp only [rs]
          repeat (refine opsG fun K hK => ?_; simp only [z, seval, ref20_Take_s5]; (repeat (first | refine gcI ?_ | refine fun (_ : _ ≤ _) => ?_)); refine hK _ ?_; clear hK K)
          refine opsG0 ?_
          try simp only [seval, Exit.exit.injEq]
          refine ⟨(_, _, _), (Option.some.inj H).symm, ?_⟩
          exact weak_b [some 9011, some 9012] rfl rfl rfl (by simp only [wk, z, seval, ref20_Take_s5]) (by simp only [wk, z, seval, ref20_Take_s5])
        replace H := bif_f h44 H
        refine Sm.exit ?_
        try simp only [seval, Exit.exit.injEq]
        refine ⟨⟨_, (Option.some.inj H).symm⟩, fun hz => ?_⟩
        have hyy := Sum.inr.inj ((Option.some.inj H).trans hz)
        subst hyy
        have H := Ho41
        try dsimp only at H
        try simp only [seval, Exit.exit.injEq]
        refine ⟨(first, longest), H, ?_⟩
        exact weak_b [some 9009, some 9010] rfl rfl rfl (by simp only [wk, z, seval, ref20_Take_t4]) (by simp only [wk, z, seval, ref20_Take_t4])
      rintro ⟨first, longest⟩ H
      try dsimp only at H
      unfold ref20_Take_k3 at H
      refine Sm.seqK fun K15 hK15 => ?_
      refine Sm.seqA h00 mixed hΓ (by kernel_rfl) fun K16 hK16 => ?_
      simp only [rs]
      repeat (refine opsG fun K hK => ?_; simp only [z, seval, ref20_Take_s3]; (repeat (first | refine gcI ?_ | refine fun (_ : _ ≤ _) => ?_)); refine hK _ ?_; clear hK K)
      refine hK16 _ ?_
      refine Sm.condK (by rfl) fun Ka Kb ha hb => ?_
      simp only [wpCond, z, seval, ref20_Take_s3]
      refine ⟨fun h17 => ha ?_, fun h17 => hb ?_⟩
      · replace H := bif_t h17 H
        obtain ⟨⟨hg27, hg28, hg29⟩, H⟩ := gd_some H
        refine Sm.seqA h00 mixed hΓ (by kernel_rfl) fun K18 hK18 => ?_
        simp only [rs]
        repeat (refine opsG fun K hK => ?_; simp only [z, seval, ref20_Take_s3]; (repeat (first | refine gcI ?_ | refine fun (_ : _ ≤ _) => ?_)); refine hK _ ?_; clear hK K)
        refine hK18 _ ?_
        obtain ⟨⟨hg21, hg22, hg23, hg24, hg25, hg26⟩, H⟩ := gd_some H
        refine Sm.seqD h00 mixed hΓ (by kernel_rfl) fun K19 hK19 => ?_
        simp only [rs]
        repeat (refine opsH fun K hK => ?_; simp only [z, seval, ref20_Take_s3]; (repeat (first | refine gcI ?_ | refine fun (_ : _ ≤ _) => ?_)); refine hK _ ?_; clear hK K)
        refine hK19 _ ?_
        obtain ⟨r2, hr2, H⟩ := bind_some H
        refine Sm.seqA h00 mixed hΓ (by kernel_rfl) fun K20 hK20 => ?_
        simp only [rs]
        repeat (refine opsG fun K hK => ?_; simp only [z, seval, ref20_Take_s3, xref20_Check, xref20_drop, hr2]; (repeat (first | refine gcI ?_ | refine fun (_ : _ ≤ _) => ?_)); refine hK _ ?_; clear hK K)
        refine hK20 _ ?_
        refine Sm.ret ?_
        try simp only [seval, Exit.exit.injEq]
        refine ⟨⟨_, (Option.some.inj H).symm⟩, fun hz => ?_⟩
        have hyy := Sum.inr.inj ((Option.some.inj H).trans hz)
        subst hyy
        have H := Ho10
        try dsimp only at H
        try simp only [seval, Exit.exit.injEq]
        obtain rfl := Option.some.inj H
        refine Ret.ofR [some 1200, some 1536] (.inr rfl) ?_
        simp only [z, seval, ref20_Take_s3]
      replace H := bif_f h17 H
      refine Sm.skip ?_
      refine hK15 _ ?_
      obtain ⟨⟨hg37, hg38, hg39⟩, H⟩ := gd_some H
      refine Sm.seqA h00 mixed hΓ (by kernel_rfl) fun K30 hK30 => ?_
      simp only [rs]
      repeat (refine opsG fun K hK => ?_; simp only [z, seval, ref20_Take_s3]; (repeat (first | refine gcI ?_ | refine fun (_ : _ ≤ _) => ?_)); refine hK _ ?_; clear hK K)
      refine hK30 _ ?_
      obtain ⟨⟨hg35, hg36⟩, H⟩ := gd_some H
      refine Sm.seqA h00 mixed hΓ (by kernel_rfl) fun K31 hK31 => ?_
      simp only [rs]
      repeat (refine opsG fun K hK => ?_; simp only [z, seval, ref20_Take_s3]; (repeat (first | refine gcI ?_ | refine fun (_ : _ ≤ _) => ?_)); refine hK _ ?_; clear hK K)
      refine hK31 _ ?_
      obtain ⟨⟨hg33, hg34⟩, H⟩ := gd_some H
      refine Sm.seqA h00 mixed hΓ (by kernel_rfl) fun K32 hK32 => ?_
      simp only [rs]
      repeat (refine opsG fun K hK => ?_; simp only [z, seval, ref20_Take_s3]; (repeat (first | refine gcI ?_ | refine fun (_ : _ ≤ _) => ?_)); refine hK _ ?_; clear hK K)
      refine hK32 _ ?_
      obtain ⟨r3, hr3, H⟩ := bind_some H
      refine Sm.regA h00 mixed hΓ (by kernel_rfl) ?_
      simp only [rs]
      repeat (refine opsG fun K hK => ?_; simp only [z, seval, ref20_Take_s3, xref20_Check, xref20_drop, hr3]; (repeat (first | refine gcI ?_ | refine fun (_ : _ ≤ _) => ?_)); refine hK _ ?_; clear hK K)
      refine opsG0 ?_
      try simp only [seval, Exit.exit.injEq]
      refine ⟨(_, _, _), (Option.some.inj H).symm, ?_⟩
      exact weak_b [some 1856, some 1648] rfl rfl rfl (by simp only [wk, z, seval, ref20_Take_s3]) (by simp only [wk, z, seval, ref20_Take_s3])
    replace H := bif_f h13 H
    refine Sm.exit ?_
    try simp only [seval, Exit.exit.injEq]
    refine ⟨⟨_, (Option.some.inj H).symm⟩, fun hz => ?_⟩
    have hyy := Sum.inr.inj ((Option.some.inj H).trans hz)
    subst hyy
    have H := Ho10
    try dsimp only at H
    try simp only [seval, Exit.exit.injEq]
    refine ⟨(), H, ?_⟩
    exact weak_b [] rfl rfl rfl (by simp only [wk, z, seval, ref20_Take_t2]) (by simp only [wk, z, seval, ref20_Take_t2])
  rintro ⟨⟩ H
  try dsimp only at H
  unfold ref20_Take_k1 at H
  refine Sm.seqA h00 mixed hΓ (by kernel_rfl) fun K9 hK9 => ?_
  simp only [rs]
  repeat (refine opsG fun K hK => ?_; simp only [z, seval, ref20_Take_s1]; (repeat (first | refine gcI ?_ | refine fun (_ : _ ≤ _) => ?_)); refine hK _ ?_; clear hK K)
  refine hK9 _ ?_
  refine Sm.ret ?_
  try simp only [seval, Exit.exit.injEq]
  obtain rfl := Option.some.inj H
  refine Ret.ofR [none, none] (.inr rfl) ?_
  simp only [z, seval, ref20_Take_s1]

def law20_works (n : Nat) : Option Bool :=
  (extent_Take n [(⟨0, 3⟩ : TExtent), (⟨5, 8⟩ : TExtent)] 4 1).bind fun r1 =>
  bif (r1.2.2 == 0) then
    gd ((r1.2.2 == 0) = true ∧ (r1.2.2 == 0) = true) <|
    (ref20_Same n r1.1 [(⟨5, 4⟩ : TExtent)]).bind fun r2 =>
    bif r2 then
      gd (r2 = true ∧ r2 = true) <|
      (ref20_Same n r1.2.1 [(⟨0, 3⟩ : TExtent), (⟨9, 4⟩ : TExtent)]).bind fun r3 =>
      some r3
    else
      some false
  else
    some false

def xlaw20_works (n : Nat) : Go.AE.Fn := mkFn (A := Unit) (R := Bool) 13 [] false (fun xs => ()) (fun a => []) (fun a => law20_works n) (fun r => [.c .bool (.bool r)]) (fun r => [])

theorem claw20_works (n : Nat) : Contract Try.prog (xlaw20_works n) := by
  have hΓ : ∀ g, g ∈ ([xextent_Take n, xref20_Same n] : List Go.AE.Fn) → Contract Try.prog g := by
    intro g hg; simp only [List.mem_cons, List.not_mem_nil, or_false] at hg; rcases hg with rfl | rfl; exact cextent_Take n; exact cref20_Same n
  refine contract_f (Try.f13.body.getD .skip) h00 Try.func13 rfl (by intro args w; exact Try.call13 args w) (by decide) (by intro _ r; exact ⟨rfl, by simp⟩) ?_
  rintro ⟨⟩ r H
  try dsimp only at H
  unfold law20_works at H
  simp only [Try.f13, Option.getD]
  refine Sm.seqA h00 mixed hΓ (by kernel_rfl) fun K1 hK1 => ?_
  simp only [rs]
  repeat (refine opsG fun K hK => ?_; simp only [z, seval]; (repeat (first | refine gcI ?_ | refine fun (_ : _ ≤ _) => ?_)); refine hK _ ?_; clear hK K)
  refine hK1 _ ?_
  obtain ⟨r1, hr1, H⟩ := bind_some H
  refine Sm.seqA h00 mixed hΓ (by kernel_rfl) fun K2 hK2 => ?_
  simp only [rs]
  repeat (refine opsG fun K hK => ?_; simp only [z, seval, xextent_Take, hr1]; (repeat (first | refine gcI ?_ | refine fun (_ : _ ≤ _) => ?_)); refine hK _ ?_; clear hK K)
  refine hK2 _ ?_
  refine Sm.seqX h00 mixed hΓ (by kernel_rfl) fun K3 hK3 => ?_
  simp only [rs]
  iterate 5 (refine opsX fun K hK => ?_; simp only [z, seval, xextent_Take, xref20_Same]; (repeat (first | refine gcI ?_ | refine fun (_ : _ ≤ _) => ?_)); refine hK _ ?_; clear hK K)
  refine bif_cases H (fun hs4 H => ?_) (fun hs4 H => ?_)
  · obtain ⟨⟨hg5, hg6⟩, H⟩ := gd_some H
    obtain ⟨r2, hr2, H⟩ := bind_some H
    refine opsTG rfl (by simp only [z, seval, xextent_Take, xref20_Same, hs4]) fun K hK => ?_; simp only [z, seval, xextent_Take, xref20_Same, hs4]; (repeat (first | refine gcI ?_ | refine fun (_ : _ ≤ _) => ?_)); refine hK _ ?_; clear hK K
    refine opsTG rfl (by simp only [z, seval, xextent_Take, xref20_Same, hs4, hr2]) fun K hK => ?_; simp only [z, seval, xextent_Take, xref20_Same, hs4, hr2]; (repeat (first | refine gcI ?_ | refine fun (_ : _ ≤ _) => ?_)); refine hK _ ?_; clear hK K
    refine opsP fun K hK => ?_; simp only [z, seval, xextent_Take, xref20_Same, hs4, hr2]; (repeat (first | refine gcI ?_ | refine fun (_ : _ ≤ _) => ?_)); refine Or.inl ?_; (repeat (first | refine gcI ?_ | refine fun (_ : _ ≤ _) => ?_)); refine hK _ ?_; clear hK K
    iterate 4 (refine opsX fun K hK => ?_; simp only [z, seval, xextent_Take, xref20_Same, hs4, hr2]; (repeat (first | refine gcI ?_ | refine fun (_ : _ ≤ _) => ?_)); refine hK _ ?_; clear hK K)
    refine bif_cases H (fun hs7 H => ?_) (fun hs7 H => ?_)
    · obtain ⟨⟨hg8, hg9⟩, H⟩ := gd_some H
      obtain ⟨r3, hr3, H⟩ := bind_some H
      refine opsTG rfl (by simp only [z, seval, xextent_Take, xref20_Same, hs4, hr2, hs7]) fun K hK => ?_; simp only [z, seval, xextent_Take, xref20_Same, hs4, hr2, hs7]; (repeat (first | refine gcI ?_ | refine fun (_ : _ ≤ _) => ?_)); refine hK _ ?_; clear hK K
      refine opsTG rfl (by simp only [z, seval, xextent_Take, xref20_Same, hs4, hr2, hs7, hr3]) fun K hK => ?_; simp only [z, seval, xextent_Take, xref20_Same, hs4, hr2, hs7, hr3]; (repeat (first | refine gcI ?_ | refine fun (_ : _ ≤ _) => ?_)); refine hK _ ?_; clear hK K
      refine opsP fun K hK => ?_; simp only [z, seval, xextent_Take, xref20_Same, hs4, hr2, hs7, hr3]; (repeat (first | refine gcI ?_ | refine fun (_ : _ ≤ _) => ?_)); refine Or.inl ?_; (repeat (first | refine gcI ?_ | refine fun (_ : _ ≤ _) => ?_)); refine hK _ ?_; clear hK K
      (refine opsX fun K hK => ?_; simp only [z, seval, xextent_Take, xref20_Same, hs4, hr2, hs7, hr3]; (repeat (first | refine gcI ?_ | refine fun (_ : _ ≤ _) => ?_)); refine hK _ ?_; clear hK K)
      refine hK3 _ ?_
      refine Sm.ret ?_
      try simp only [seval, Exit.exit.injEq]
      obtain rfl := Option.some.inj H
      refine Ret.ofR [] (.inr rfl) ?_
      simp only [z, seval]
    refine opsF rfl (by simp only [z, seval, xextent_Take, xref20_Same, hs4, hr2, hs7]) ?_
    refine opsF rfl (by simp only [z, seval, xextent_Take, xref20_Same, hs4, hr2, hs7]) ?_
    refine opsP fun K hK => ?_; simp only [z, seval, xextent_Take, xref20_Same, hs4, hr2, hs7]; (repeat (first | refine gcI ?_ | refine fun (_ : _ ≤ _) => ?_)); refine Or.inr ?_; (repeat (first | refine gcI ?_ | refine fun (_ : _ ≤ _) => ?_)); refine hK _ ?_; clear hK K
    (refine opsX fun K hK => ?_; simp only [z, seval, xextent_Take, xref20_Same, hs4, hr2, hs7]; (repeat (first | refine gcI ?_ | refine fun (_ : _ ≤ _) => ?_)); refine hK _ ?_; clear hK K)
    refine hK3 _ ?_
    refine Sm.ret ?_
    try simp only [seval, Exit.exit.injEq]
    obtain rfl := Option.some.inj H
    refine Ret.ofR [] (.inr rfl) ?_
    simp only [z, seval]
  refine opsF rfl (by simp only [z, seval, xextent_Take, xref20_Same, hs4]) ?_
  refine opsF rfl (by simp only [z, seval, xextent_Take, xref20_Same, hs4]) ?_
  refine opsP fun K hK => ?_; simp only [z, seval, xextent_Take, xref20_Same, hs4]; (repeat (first | refine gcI ?_ | refine fun (_ : _ ≤ _) => ?_)); refine Or.inr ?_; (repeat (first | refine gcI ?_ | refine fun (_ : _ ≤ _) => ?_)); refine hK _ ?_; clear hK K
  (refine opsX fun K hK => ?_; simp only [z, seval, xextent_Take, xref20_Same, hs4]; (repeat (first | refine gcI ?_ | refine fun (_ : _ ≤ _) => ?_)); refine hK _ ?_; clear hK K)
  refine opsF rfl (by simp only [z, seval, xextent_Take, xref20_Same, hs4]) ?_
  refine opsF rfl (by simp only [z, seval, xextent_Take, xref20_Same, hs4]) ?_
  refine opsF rfl (by simp only [z, seval, xextent_Take, xref20_Same, hs4]) ?_
  refine opsF rfl (by simp only [z, seval, xextent_Take, xref20_Same, hs4]) ?_
  refine opsF rfl (by simp only [z, seval, xextent_Take, xref20_Same, hs4]) ?_
  refine opsP fun K hK => ?_; simp only [z, seval, xextent_Take, xref20_Same, hs4]; (repeat (first | refine gcI ?_ | refine fun (_ : _ ≤ _) => ?_)); refine Or.inr ?_; (repeat (first | refine gcI ?_ | refine fun (_ : _ ≤ _) => ?_)); refine hK _ ?_; clear hK K
  (refine opsX fun K hK => ?_; simp only [z, seval, xextent_Take, xref20_Same, hs4]; (repeat (first | refine gcI ?_ | refine fun (_ : _ ≤ _) => ?_)); refine hK _ ?_; clear hK K)
  refine hK3 _ ?_
  refine Sm.ret ?_
  try simp only [seval, Exit.exit.injEq]
  obtain rfl := Option.some.inj H
  refine Ret.ofR [] (.inr rfl) ?_
  simp only [z, seval]

def law20_ExtentTakes (n : Nat) (free : List TExtent) (want : Int) (most : Int) : Option Bool :=
  (extent_Take n free want most).bind fun r1 =>
  (ref20_Take n free want most).bind fun r2 =>
  gd (((r1.2.2 == r2.2.2) = true → (ref20_Same n r1.1 r2.1).isSome = true) ∧ ((if (r1.2.2 == r2.2.2) = true then ((ref20_Same n r1.1 r2.1).getD default) else false) = true → (ref20_Same n r1.2.1 r2.2.1).isSome = true) ∧ ((if (if (r1.2.2 == r2.2.2) = true then ((ref20_Same n r1.1 r2.1).getD default) else false) = true then ((ref20_Same n r1.2.1 r2.2.1).getD default) else false) = true → (law20_works n).isSome = true)) <|
  some (if (if (if (r1.2.2 == r2.2.2) = true then ((ref20_Same n r1.1 r2.1).getD default) else false) = true then ((ref20_Same n r1.2.1 r2.2.1).getD default) else false) = true then ((law20_works n).getD default) else false)

def xlaw20_ExtentTakes (n : Nat) : Go.AE.Fn := mkFn (A := (List TExtent) × Int × Int) (R := Bool) 3 [(false, [.slice 43]), (false, [.int .i64]), (false, [.int .i64])] false (fun xs => (((cg (xs.getD 0 []) 0).toSl.map d_TExtent), (cg (xs.getD 1 []) 0).toInt, (cg (xs.getD 2 []) 0).toInt)) (fun a => [[.slice (List.map e_TExtent a.1)], [.int a.2.1], [.int a.2.2]]) (fun a => law20_ExtentTakes n a.1 a.2.1 a.2.2) (fun r => [.c .bool (.bool r)]) (fun r => [])

theorem claw20_ExtentTakes (n : Nat) : Contract Try.prog (xlaw20_ExtentTakes n) := by
  have hΓ : ∀ g, g ∈ ([xextent_Take n, xref20_Take n, xref20_Same n, xlaw20_works n] : List Go.AE.Fn) → Contract Try.prog g := by
    intro g hg; simp only [List.mem_cons, List.not_mem_nil, or_false] at hg; rcases hg with rfl | rfl | rfl | rfl; exact cextent_Take n; exact cref20_Take n; exact cref20_Same n; exact claw20_works n
  refine contract_f (Try.f3.body.getD .skip) h00 Try.func3 rfl (by intro args w; exact Try.call3 args w) (by decide) (by intro _ r; exact ⟨rfl, by simp⟩) ?_
  rintro ⟨free, want, most⟩ r H
  try dsimp only at H
  unfold law20_ExtentTakes at H
  simp only [Try.f3, Option.getD]
  refine Sm.seqA h00 mixed hΓ (by kernel_rfl) fun K1 hK1 => ?_
  simp only [rs]
  repeat (refine opsG fun K hK => ?_; simp only [z, seval]; (repeat (first | refine gcI ?_ | refine fun (_ : _ ≤ _) => ?_)); refine hK _ ?_; clear hK K)
  refine hK1 _ ?_
  obtain ⟨r1, hr1, H⟩ := bind_some H
  refine Sm.seqA h00 mixed hΓ (by kernel_rfl) fun K2 hK2 => ?_
  simp only [rs]
  repeat (refine opsG fun K hK => ?_; simp only [z, seval, xextent_Take, hr1]; (repeat (first | refine gcI ?_ | refine fun (_ : _ ≤ _) => ?_)); refine hK _ ?_; clear hK K)
  refine hK2 _ ?_
  obtain ⟨r2, hr2, H⟩ := bind_some H
  refine Sm.seqA h00 mixed hΓ (by kernel_rfl) fun K3 hK3 => ?_
  simp only [rs]
  repeat (refine opsG fun K hK => ?_; simp only [z, seval, xextent_Take, xref20_Take, hr2]; (repeat (first | refine gcI ?_ | refine fun (_ : _ ≤ _) => ?_)); refine hK _ ?_; clear hK K)
  refine hK3 _ ?_
  obtain ⟨⟨hg5, hg6, hg7⟩, H⟩ := gd_some H
  refine Sm.seqA h00 mixed hΓ (by kernel_rfl) fun K4 hK4 => ?_
  simp only [rs]
  repeat (refine opsG fun K hK => ?_; simp only [z, seval, xextent_Take, xref20_Take, xref20_Same, xlaw20_works]; (repeat (first | refine gcI ?_ | refine fun (_ : _ ≤ _) => ?_)); refine hK _ ?_; clear hK K)
  refine hK4 _ ?_
  refine Sm.ret ?_
  try simp only [seval, Exit.exit.injEq]
  obtain rfl := Option.some.inj H
  refine Ret.ofR [] (.inr rfl) ?_
  simp only [z, seval]

def cmp_isNaN_f49 (n : Nat) (x : Int) : Option Bool :=
  some (x != x)

def xcmp_isNaN_f49 (n : Nat) : Go.AE.Fn := mkFn (A := Int) (R := Bool) 49 [(false, [.int .i64])] false (fun xs => (cg (xs.getD 0 []) 0).toInt) (fun a => [[.int a]]) (fun a => cmp_isNaN_f49 n a) (fun r => [.c .bool (.bool r)]) (fun r => [])

theorem ccmp_isNaN_f49 (n : Nat) : Contract Try.prog (xcmp_isNaN_f49 n) := by
  have hΓ : ∀ g, g ∈ ([] : List Go.AE.Fn) → Contract Try.prog g := by simp
  refine contract_f (Try.f49.body.getD .skip) h00 Try.func49 rfl (by intro args w; exact Try.call49 args w) (by decide) (by intro _ r; exact ⟨rfl, by simp⟩) ?_
  rintro x r H
  try dsimp only at H
  unfold cmp_isNaN_f49 at H
  simp only [Try.f49, Option.getD]
  refine Sm.seqA h00 mixed hΓ (by kernel_rfl) fun K1 hK1 => ?_
  simp only [rs]
  repeat (refine opsG fun K hK => ?_; simp only [z, seval]; (repeat (first | refine gcI ?_ | refine fun (_ : _ ≤ _) => ?_)); refine hK _ ?_; clear hK K)
  refine hK1 _ ?_
  refine Sm.seqA h00 mixed hΓ (by kernel_rfl) fun K2 hK2 => ?_
  simp only [rs]
  repeat (refine opsG fun K hK => ?_; simp only [z, seval]; (repeat (first | refine gcI ?_ | refine fun (_ : _ ≤ _) => ?_)); refine hK _ ?_; clear hK K)
  refine hK2 _ ?_
  refine Sm.ret ?_
  try simp only [seval, Exit.exit.injEq]
  obtain rfl := Option.some.inj H
  refine Ret.ofR [] (.inr rfl) ?_
  simp only [z, seval]

def cmp_Compare_f45 (n : Nat) (x : Int) (y : Int) : Option Int :=
  (cmp_isNaN_f49 n x).bind fun r1 =>
  (cmp_isNaN_f49 n y).bind fun r2 =>
  bif r1 then
    bif r2 then
      some 0
    else
      some (-1)
  else
    bif r2 then
      some 1
    else
      bif (decide (x < y)) then
        some (-1)
      else
        bif (decide (x > y)) then
          some 1
        else
          some 0

def xcmp_Compare_f45 (n : Nat) : Go.AE.Fn := mkFn (A := Int × Int) (R := Int) 45 [(false, [.int .i64]), (false, [.int .i64])] false (fun xs => ((cg (xs.getD 0 []) 0).toInt, (cg (xs.getD 1 []) 0).toInt)) (fun a => [[.int a.1], [.int a.2]]) (fun a => cmp_Compare_f45 n a.1 a.2) (fun r => [.c (.int .i64) (.int r)]) (fun r => [])

theorem ccmp_Compare_f45 (n : Nat) : Contract Try.prog (xcmp_Compare_f45 n) := by
  have hΓ : ∀ g, g ∈ ([xcmp_isNaN_f49 n] : List Go.AE.Fn) → Contract Try.prog g := by
    intro g hg; simp only [List.mem_cons, List.not_mem_nil, or_false] at hg; subst hg; exact ccmp_isNaN_f49 n
  refine contract_f (Try.f45.body.getD .skip) h00 Try.func45 rfl (by intro args w; exact Try.call45 args w) (by decide) (by intro _ r; exact ⟨rfl, by simp⟩) ?_
  rintro ⟨x, y⟩ r H
  try dsimp only at H
  unfold cmp_Compare_f45 at H
  simp only [Try.f45, Option.getD]
  refine Sm.seqA h00 mixed hΓ (by kernel_rfl) fun K1 hK1 => ?_
  simp only [rs]
  repeat (refine opsG fun K hK => ?_; simp only [z, seval]; (repeat (first | refine gcI ?_ | refine fun (_ : _ ≤ _) => ?_)); refine hK _ ?_; clear hK K)
  refine hK1 _ ?_
  obtain ⟨r1, hr1, H⟩ := bind_some H
  refine Sm.seqA h00 mixed hΓ (by kernel_rfl) fun K2 hK2 => ?_
  simp only [rs]
  repeat (refine opsG fun K hK => ?_; simp only [z, seval, xcmp_isNaN_f49, hr1]; (repeat (first | refine gcI ?_ | refine fun (_ : _ ≤ _) => ?_)); refine hK _ ?_; clear hK K)
  refine hK2 _ ?_
  obtain ⟨r2, hr2, H⟩ := bind_some H
  refine Sm.seqA h00 mixed hΓ (by kernel_rfl) fun K3 hK3 => ?_
  simp only [rs]
  repeat (refine opsG fun K hK => ?_; simp only [z, seval, xcmp_isNaN_f49, hr2]; (repeat (first | refine gcI ?_ | refine fun (_ : _ ≤ _) => ?_)); refine hK _ ?_; clear hK K)
  refine hK3 _ ?_
  refine Sm.seqK fun K4 hK4 => ?_
  refine Sm.seqA h00 mixed hΓ (by kernel_rfl) fun K5 hK5 => ?_
  simp only [rs]
  repeat (refine opsG fun K hK => ?_; simp only [z, seval]; (repeat (first | refine gcI ?_ | refine fun (_ : _ ≤ _) => ?_)); refine hK _ ?_; clear hK K)
  refine hK5 _ ?_
  refine Sm.condK (by rfl) fun Ka Kb ha hb => ?_
  simp only [wpCond, z, seval]
  refine ⟨fun h6 => ha ?_, fun h6 => hb ?_⟩
  · replace H := bif_t h6 H
    refine Sm.seqK fun K7 hK7 => ?_
    refine Sm.seqA h00 mixed hΓ (by kernel_rfl) fun K8 hK8 => ?_
    simp only [rs]
    repeat (refine opsG fun K hK => ?_; simp only [z, seval]; (repeat (first | refine gcI ?_ | refine fun (_ : _ ≤ _) => ?_)); refine hK _ ?_; clear hK K)
    refine hK8 _ ?_
    refine Sm.condK (by rfl) fun Ka Kb ha hb => ?_
    simp only [wpCond, z, seval]
    refine ⟨fun h9 => ha ?_, fun h9 => hb ?_⟩
    · replace H := bif_t h9 H
      refine Sm.seqA h00 mixed hΓ (by kernel_rfl) fun K10 hK10 => ?_
      simp only [rs]
      repeat (refine opsG fun K hK => ?_; simp only [z, seval]; (repeat (first | refine gcI ?_ | refine fun (_ : _ ≤ _) => ?_)); refine hK _ ?_; clear hK K)
      refine hK10 _ ?_
      refine Sm.ret ?_
      try simp only [seval, Exit.exit.injEq]
      obtain rfl := Option.some.inj H
      refine Ret.ofR [] (.inr rfl) ?_
      simp only [z, seval]
    replace H := bif_f h9 H
    refine Sm.skip ?_
    refine hK7 _ ?_
    refine Sm.seqA h00 mixed hΓ (by kernel_rfl) fun K11 hK11 => ?_
    simp only [rs]
    repeat (refine opsG fun K hK => ?_; simp only [z, seval]; (repeat (first | refine gcI ?_ | refine fun (_ : _ ≤ _) => ?_)); refine hK _ ?_; clear hK K)
    refine hK11 _ ?_
    refine Sm.ret ?_
    try simp only [seval, Exit.exit.injEq]
    obtain rfl := Option.some.inj H
    refine Ret.ofR [] (.inr rfl) ?_
    simp only [z, seval]
  replace H := bif_f h6 H
  refine Sm.skip ?_
  refine hK4 _ ?_
  refine Sm.seqK fun K12 hK12 => ?_
  refine Sm.seqA h00 mixed hΓ (by kernel_rfl) fun K13 hK13 => ?_
  simp only [rs]
  repeat (refine opsG fun K hK => ?_; simp only [z, seval]; (repeat (first | refine gcI ?_ | refine fun (_ : _ ≤ _) => ?_)); refine hK _ ?_; clear hK K)
  refine hK13 _ ?_
  refine Sm.condK (by rfl) fun Ka Kb ha hb => ?_
  simp only [wpCond, z, seval]
  refine ⟨fun h14 => ha ?_, fun h14 => hb ?_⟩
  · replace H := bif_t h14 H
    refine Sm.seqA h00 mixed hΓ (by kernel_rfl) fun K15 hK15 => ?_
    simp only [rs]
    repeat (refine opsG fun K hK => ?_; simp only [z, seval]; (repeat (first | refine gcI ?_ | refine fun (_ : _ ≤ _) => ?_)); refine hK _ ?_; clear hK K)
    refine hK15 _ ?_
    refine Sm.ret ?_
    try simp only [seval, Exit.exit.injEq]
    obtain rfl := Option.some.inj H
    refine Ret.ofR [] (.inr rfl) ?_
    simp only [z, seval]
  replace H := bif_f h14 H
  refine Sm.skip ?_
  refine hK12 _ ?_
  refine Sm.seqK fun K16 hK16 => ?_
  refine Sm.seqA h00 mixed hΓ (by kernel_rfl) fun K17 hK17 => ?_
  simp only [rs]
  repeat (refine opsG fun K hK => ?_; simp only [z, seval]; (repeat (first | refine gcI ?_ | refine fun (_ : _ ≤ _) => ?_)); refine hK _ ?_; clear hK K)
  refine hK17 _ ?_
  refine Sm.condK (by rfl) fun Ka Kb ha hb => ?_
  simp only [wpCond, z, seval]
  refine ⟨fun h18 => ha ?_, fun h18 => hb ?_⟩
  · replace H := bif_t h18 H
    refine Sm.seqA h00 mixed hΓ (by kernel_rfl) fun K19 hK19 => ?_
    simp only [rs]
    repeat (refine opsG fun K hK => ?_; simp only [z, seval]; (repeat (first | refine gcI ?_ | refine fun (_ : _ ≤ _) => ?_)); refine hK _ ?_; clear hK K)
    refine hK19 _ ?_
    refine Sm.ret ?_
    try simp only [seval, Exit.exit.injEq]
    obtain rfl := Option.some.inj H
    refine Ret.ofR [] (.inr rfl) ?_
    simp only [z, seval]
  replace H := bif_f h18 H
  refine Sm.skip ?_
  refine hK16 _ ?_
  refine Sm.seqK fun K20 hK20 => ?_
  refine Sm.seqA h00 mixed hΓ (by kernel_rfl) fun K21 hK21 => ?_
  simp only [rs]
  repeat (refine opsG fun K hK => ?_; simp only [z, seval]; (repeat (first | refine gcI ?_ | refine fun (_ : _ ≤ _) => ?_)); refine hK _ ?_; clear hK K)
  refine hK21 _ ?_
  refine Sm.condK (by rfl) fun Ka Kb ha hb => ?_
  simp only [wpCond, z, seval]
  refine ⟨fun h22 => ha ?_, fun h22 => hb ?_⟩
  · replace H := bif_t h22 H
    refine Sm.seqA h00 mixed hΓ (by kernel_rfl) fun K23 hK23 => ?_
    simp only [rs]
    repeat (refine opsG fun K hK => ?_; simp only [z, seval]; (repeat (first | refine gcI ?_ | refine fun (_ : _ ≤ _) => ?_)); refine hK _ ?_; clear hK K)
    refine hK23 _ ?_
    refine Sm.ret ?_
    try simp only [seval, Exit.exit.injEq]
    obtain rfl := Option.some.inj H
    refine Ret.ofR [] (.inr rfl) ?_
    simp only [z, seval]
  replace H := bif_f h22 H
  refine Sm.skip ?_
  refine hK20 _ ?_
  refine Sm.seqA h00 mixed hΓ (by kernel_rfl) fun K24 hK24 => ?_
  simp only [rs]
  repeat (refine opsG fun K hK => ?_; simp only [z, seval]; (repeat (first | refine gcI ?_ | refine fun (_ : _ ≤ _) => ?_)); refine hK _ ?_; clear hK K)
  refine hK24 _ ?_
  refine Sm.ret ?_
  try simp only [seval, Exit.exit.injEq]
  obtain rfl := Option.some.inj H
  refine Ret.ofR [] (.inr rfl) ?_
  simp only [z, seval]

def extent_sorted_1 (n : Nat) (a : TExtent) (b : TExtent) : Option Int :=
  (cmp_Compare_f45 n a.At b.At).bind fun r1 =>
  some r1

def xextent_sorted_1 (n : Nat) : Go.AE.Fn := mkFn (A := TExtent × TExtent) (R := Int) 44 [(true, [.int .i64, .int .i64]), (true, [.int .i64, .int .i64])] false (fun xs => ((⟨(cg (xs.getD 0 []) 0).toInt, (cg (xs.getD 0 []) 1).toInt⟩ : TExtent), (⟨(cg (xs.getD 1 []) 0).toInt, (cg (xs.getD 1 []) 1).toInt⟩ : TExtent))) (fun a => [[.int a.1.At, .int a.1.Len], [.int a.2.At, .int a.2.Len]]) (fun a => extent_sorted_1 n a.1 a.2) (fun r => [.c (.int .i64) (.int r)]) (fun r => [])

theorem cextent_sorted_1 (n : Nat) : Contract Try.prog (xextent_sorted_1 n) := by
  have hΓ : ∀ g, g ∈ ([xcmp_Compare_f45 n] : List Go.AE.Fn) → Contract Try.prog g := by
    intro g hg; simp only [List.mem_cons, List.not_mem_nil, or_false] at hg; subst hg; exact ccmp_Compare_f45 n
  refine contract_f (Try.f44.body.getD .skip) h00 Try.func44 rfl (by intro args w; exact Try.call44 args w) (by decide) (by intro _ r; exact ⟨rfl, by simp⟩) ?_
  rintro ⟨a, b⟩ r H
  try dsimp only at H
  unfold extent_sorted_1 at H
  simp only [Try.f44, Option.getD]
  refine Sm.seqA h00 mixed hΓ (by kernel_rfl) fun K1 hK1 => ?_
  simp only [rs]
  repeat (refine opsG fun K hK => ?_; simp only [z, seval]; (repeat (first | refine gcI ?_ | refine fun (_ : _ ≤ _) => ?_)); refine hK _ ?_; clear hK K)
  refine hK1 _ ?_
  obtain ⟨r1, hr1, H⟩ := bind_some H
  refine Sm.seqA h00 mixed hΓ (by kernel_rfl) fun K2 hK2 => ?_
  simp only [rs]
  repeat (refine opsG fun K hK => ?_; simp only [z, seval, xcmp_Compare_f45, hr1]; (repeat (first | refine gcI ?_ | refine fun (_ : _ ≤ _) => ?_)); refine hK _ ?_; clear hK K)
  refine hK2 _ ?_
  refine Sm.ret ?_
  try simp only [seval, Exit.exit.injEq]
  obtain rfl := Option.some.inj H
  refine Ret.ofR [] (.inr rfl) ?_
  simp only [z, seval]

def slices_SortFunc_f43_c44 (n : Nat) (s : List TExtent) : Option (List TExtent) := sortG (fun x y => extent_sorted_1 n x y) s

theorem cslices_SortFunc_f43_c44 (n : Nat) (s : List TExtent) (r : List TExtent) (H : slices_SortFunc_f43_c44 n s = some r) : CallsM Try.prog 43 [.ref (.own 0 [.int .i64, .int .i64] 0 s.length), .ref (.fnv 44 [])] [.row 43 (List.map e_TExtent s)] [] [.row 43 (List.map e_TExtent r)] :=
  callsM_sortG lay43 ty43 Try.isAgg43 Try.sizeOf43 (by decide) (by decide) (by intro args w; exact Try.call44 args w) e_TExtent (fun _ => rfl) (fun x y => extent_sorted_1 n x y) (fun x y c h => raw44 _ _ _ _ _ (by
    simp only [extent_sorted_1, cmp_Compare_f45, cmp_isNaN_f49, Option.bind_some, bne_self_eq_false, cond_false, gt_iff_lt] at h
    by_cases h1 : x.At < y.At <;> by_cases h2 : y.At < x.At <;> simp [h1, h2] at h ⊢ <;> first | exact h.symm | omega)) s r H

def extent_sorted (n : Nat) (l : List TExtent) : Option (List TExtent) :=
  (slices_Clone_f33 n l).bind fun r1 =>
  (slices_SortFunc_f43_c44 n r1).bind fun r2 =>
  some (List.take r1.length r2)

def xextent_sorted (n : Nat) : Go.AE.Fn := mkFn (A := (List TExtent)) (R := (List TExtent)) 40 [(false, [.slice 43])] true (fun xs => ((cg (xs.getD 0 []) 0).toSl.map d_TExtent)) (fun a => [[.slice (List.map e_TExtent a)]]) (fun a => extent_sorted n a) (fun r => [.c (.slice 43) (.slice (List.map e_TExtent r))]) (fun r => [])

theorem cextent_sorted (n : Nat) : Contract Try.prog (xextent_sorted n) := by
  have hΓ : ∀ g, g ∈ ([xslices_Clone_f33 n] : List Go.AE.Fn) → Contract Try.prog g := by
    intro g hg; simp only [List.mem_cons, List.not_mem_nil, or_false] at hg; subst hg; exact cslices_Clone_f33 n
  refine contract_f (Try.f40.body.getD .skip) h00 Try.func40 rfl (by intro args w; exact Try.call40 args w) (by decide) (by intro h; cases h) ?_
  rintro l r H
  try dsimp only at H
  unfold extent_sorted at H
  simp only [Try.f40, Option.getD]
  refine Sm.seqA h00 mixed hΓ (by kernel_rfl) fun K1 hK1 => ?_
  simp only [rs]
  repeat (refine opsG fun K hK => ?_; simp only [z, seval]; (repeat (first | refine gcI ?_ | refine fun (_ : _ ≤ _) => ?_)); refine hK _ ?_; clear hK K)
  refine hK1 _ ?_
  obtain ⟨r1, hr1, H⟩ := bind_some H
  refine Sm.seqA h00 mixed hΓ (by kernel_rfl) fun K2 hK2 => ?_
  simp only [rs]
  repeat (refine opsG fun K hK => ?_; simp only [z, seval, xslices_Clone_f33, hr1]; (repeat (first | refine gcI ?_ | refine fun (_ : _ ≤ _) => ?_)); refine hK _ ?_; clear hK K)
  refine hK2 _ ?_
  refine Sm.seqX h00 mixed hΓ (by kernel_rfl) fun K3 hK3 => ?_
  simp only [rs]
  obtain ⟨r2, hr2, H⟩ := bind_some H
  (refine opsX fun K hK => ?_; simp only [z, seval]; (repeat (first | refine gcI ?_ | refine fun (_ : _ ≤ _) => ?_)); refine hK _ ?_; clear hK K)
  refine opsM (cslices_SortFunc_f43_c44 n _ r2 hr2) [80] [] (by simp only [z, seval, hr2]; try rfl) (by simp only [z, seval, hr2]) (by simp only [z, seval, hr2]) (by simp only [z, seval, hr2]) (by simp only [z, seval, hr2]) rfl (by simp only [z, seval, hr2]) rfl ?_
  refine hK3 _ ?_
  refine Sm.seqA h00 mixed hΓ (by kernel_rfl) fun K4 hK4 => ?_
  simp only [rs]
  repeat (refine opsG fun K hK => ?_; simp only [z, seval]; (repeat (first | refine gcI ?_ | refine fun (_ : _ ≤ _) => ?_)); refine hK _ ?_; clear hK K)
  refine hK4 _ ?_
  refine Sm.ret ?_
  try simp only [seval, Exit.exit.injEq]
  obtain rfl := Option.some.inj H
  refine Ret.ofR [] (.inr rfl) ?_
  simp only [z, seval]

abbrev extent_Valid_s2 : S := stB [] []

def extent_Valid_k2 (n : Nat) : Option Bool :=
  some true

abbrev extent_Valid_t3 (s : List TExtent) (i : Int) : S := stB [(5, .c (.slice 43) (.slice (List.map e_TExtent s))), (6, .c (.int .i64) (.int i))] []

def extent_Valid_b3 (n : Nat) (s : List TExtent) (i : Int) : Option ((Int) ⊕ (((Bool) ⊕ (Unit)))) :=
  bif (decide (i < (s.length : Int))) then
    gd ((0 ≤ i ∧ i < (s.length : Int)) ∧ (0 ≤ (IntKind.wrap .i64 (i - 1)) ∧ (IntKind.wrap .i64 (i - 1)) < (s.length : Int)) ∧ (0 ≤ (IntKind.wrap .i64 (i - 1)) ∧ (IntKind.wrap .i64 (i - 1)) < (s.length : Int))) <|
    bif (decide (((gt s (Int.toNat i)).At) < (IntKind.wrap .i64 (((gt s (Int.toNat (IntKind.wrap .i64 (i - 1)))).At) + ((gt s (Int.toNat (IntKind.wrap .i64 (i - 1)))).Len))))) then
      some (.inr (.inl false))
    else
      some (.inl (IntKind.wrap .i64 (i + 1)))
  else
    some (.inr (.inr ()))

abbrev extent_Valid_s1 (l : List TExtent) : S := stB [(0, .c (.slice 43) (.slice (List.map e_TExtent l)))] []

def extent_Valid_k1 (n : Nat) (l : List TExtent) : Option Bool :=
  (extent_sorted n l).bind fun r1 =>
  (loopF (fun (x : Int) => extent_Valid_b3 n r1 x) n 1).bind fun y9 =>
  match y9 with
  | .inl v =>
    some v
  | .inr v =>
    extent_Valid_k2 n

abbrev extent_Valid_t4 (l : List TExtent) (v11 : Int) (v12 : Int) : S := stB [(0, .c (.slice 43) (.slice (List.map e_TExtent l))), (10, .c (.slice 43) (.slice (List.map e_TExtent l))), (11, .c (.int .i64) (.int v11)), (12, .c (.int .i64) (.int v12))] []

def extent_Valid_b4 (n : Nat) (l : List TExtent) (v11 : Int) (v12 : Int) : Option ((Int) ⊕ (((Bool) ⊕ (Unit)))) :=
  bif (decide (v12 < v11)) then
    gd ((0 ≤ v12 ∧ v12 < (l.length : Int))) <|
    (extent_valid n (gt l (Int.toNat v12))).bind fun r2 =>
    bif (!r2) then
      some (.inr (.inl false))
    else
      some (.inl (IntKind.wrap .i64 (v12 + 1)))
  else
    some (.inr (.inr ()))

def extent_Valid (n : Nat) (l : List TExtent) : Option Bool :=
  bif (decide ((l.length : Int) > 512)) then
    some false
  else
    (loopF (fun (x : Int) => extent_Valid_b4 n l (l.length : Int) x) n 0).bind fun y21 =>
    match y21 with
    | .inl v =>
      some v
    | .inr v =>
      extent_Valid_k1 n l

def xextent_Valid (n : Nat) : Go.AE.Fn := mkFn (A := (List TExtent)) (R := Bool) 16 [(false, [.slice 43])] false (fun xs => ((cg (xs.getD 0 []) 0).toSl.map d_TExtent)) (fun a => [[.slice (List.map e_TExtent a)]]) (fun a => extent_Valid n a) (fun r => [.c .bool (.bool r)]) (fun r => [])

theorem cextent_Valid (n : Nat) : Contract Try.prog (xextent_Valid n) := by
  have hΓ : ∀ g, g ∈ ([xextent_valid n, xextent_sorted n] : List Go.AE.Fn) → Contract Try.prog g := by
    intro g hg; simp only [List.mem_cons, List.not_mem_nil, or_false] at hg; rcases hg with rfl | rfl; exact cextent_valid n; exact cextent_sorted n
  refine contract_f (Try.f16.body.getD .skip) h00 Try.func16 rfl (by intro args w; exact Try.call16 args w) (by decide) (by intro _ r; exact ⟨rfl, by simp⟩) ?_
  rintro l r H
  try dsimp only at H
  unfold extent_Valid at H
  simp only [Try.f16, Option.getD]
  refine Sm.seqA h00 mixed hΓ (by kernel_rfl) fun K1 hK1 => ?_
  simp only [rs]
  repeat (refine opsG fun K hK => ?_; simp only [z, seval]; (repeat (first | refine gcI ?_ | refine fun (_ : _ ≤ _) => ?_)); refine hK _ ?_; clear hK K)
  refine hK1 _ ?_
  refine Sm.seqK fun K2 hK2 => ?_
  refine Sm.seqA h00 mixed hΓ (by kernel_rfl) fun K3 hK3 => ?_
  simp only [rs]
  repeat (refine opsG fun K hK => ?_; simp only [z, seval]; (repeat (first | refine gcI ?_ | refine fun (_ : _ ≤ _) => ?_)); refine hK _ ?_; clear hK K)
  refine hK3 _ ?_
  refine Sm.condK (by rfl) fun Ka Kb ha hb => ?_
  simp only [wpCond, z, seval]
  refine ⟨fun h4 => ha ?_, fun h4 => hb ?_⟩
  · replace H := bif_t h4 H
    refine Sm.seqA h00 mixed hΓ (by kernel_rfl) fun K5 hK5 => ?_
    simp only [rs]
    repeat (refine opsG fun K hK => ?_; simp only [z, seval]; (repeat (first | refine gcI ?_ | refine fun (_ : _ ≤ _) => ?_)); refine hK _ ?_; clear hK K)
    refine hK5 _ ?_
    refine Sm.ret ?_
    try simp only [seval, Exit.exit.injEq]
    obtain rfl := Option.some.inj H
    refine Ret.ofR [] (.inr rfl) ?_
    simp only [z, seval]
  replace H := bif_f h4 H
  refine Sm.skip ?_
  refine hK2 _ ?_
  refine Sm.cut (fun (x : Unit) => extent_Valid_s1 l) (fun x => extent_Valid_k1 n l = some r) ?_ ?_
  · refine Sm.seqA h00 mixed hΓ (by kernel_rfl) fun K20 hK20 => ?_
    simp only [rs]
    repeat (refine opsG fun K hK => ?_; simp only [z, seval]; (repeat (first | refine gcI ?_ | refine fun (_ : _ ≤ _) => ?_)); refine hK _ ?_; clear hK K)
    refine hK20 _ ?_
    refine Sm.block ?_
    obtain ⟨y21, hy21, Ho21⟩ := bind_some H
    refine Sm.loopB (fun (x : Int) => extent_Valid_b4 n l (l.length : Int) x) (fun x => extent_Valid_t4 l (l.length : Int) x) hy21 ?_ ?_
    · exact weak_b [] rfl rfl rfl (by simp only [wk, z, seval]) (by simp only [wk, z, seval])
    rintro v12 z21 H
    try dsimp only at H
    unfold extent_Valid_b4 at H
    refine Sm.seqA h00 mixed hΓ (by kernel_rfl) fun K22 hK22 => ?_
    simp only [rs]
    repeat (refine opsG fun K hK => ?_; simp only [z, seval, extent_Valid_t4]; (repeat (first | refine gcI ?_ | refine fun (_ : _ ≤ _) => ?_)); refine hK _ ?_; clear hK K)
    refine hK22 _ ?_
    refine Sm.seqK fun K23 hK23 => ?_
    refine Sm.condK (by rfl) fun Ka Kb ha hb => ?_
    simp only [wpCond, z, seval, extent_Valid_t4]
    refine ⟨fun h24 => ha ?_, fun h24 => hb ?_⟩
    · replace H := bif_t h24 H
      refine Sm.skip ?_
      refine hK23 _ ?_
      refine Sm.seqK fun K25 hK25 => ?_
      refine Sm.block ?_
      obtain ⟨hg30, H⟩ := gd_some H
      refine Sm.seqA h00 mixed hΓ (by kernel_rfl) fun K26 hK26 => ?_
      simp only [rs]
      repeat (refine opsG fun K hK => ?_; simp only [z, seval, extent_Valid_t4]; (repeat (first | refine gcI ?_ | refine fun (_ : _ ≤ _) => ?_)); refine hK _ ?_; clear hK K)
      refine hK26 _ ?_
      obtain ⟨r2, hr2, H⟩ := bind_some H
      refine Sm.seqA h00 mixed hΓ (by kernel_rfl) fun K27 hK27 => ?_
      simp only [rs]
      repeat (refine opsG fun K hK => ?_; simp only [z, seval, extent_Valid_t4, xextent_valid, hr2]; (repeat (first | refine gcI ?_ | refine fun (_ : _ ≤ _) => ?_)); refine hK _ ?_; clear hK K)
      refine hK27 _ ?_
      refine Sm.condK (by rfl) fun Ka Kb ha hb => ?_
      simp only [wpCond, z, seval, extent_Valid_t4]
      refine ⟨fun h28 => ha ?_, fun h28 => hb ?_⟩
      · replace H := bif_t h28 H
        refine Sm.seqA h00 mixed hΓ (by kernel_rfl) fun K29 hK29 => ?_
        simp only [rs]
        repeat (refine opsG fun K hK => ?_; simp only [z, seval, extent_Valid_t4]; (repeat (first | refine gcI ?_ | refine fun (_ : _ ≤ _) => ?_)); refine hK _ ?_; clear hK K)
        refine hK29 _ ?_
        refine Sm.ret ?_
        try simp only [seval, Exit.exit.injEq]
        refine ⟨⟨_, (Option.some.inj H).symm⟩, fun hz => ?_⟩
        have hyy := Sum.inr.inj ((Option.some.inj H).trans hz)
        subst hyy
        have H := Ho21
        try dsimp only at H
        try simp only [seval, Exit.exit.injEq]
        obtain rfl := Option.some.inj H
        refine Ret.ofR [] (.inr rfl) ?_
        simp only [z, seval, extent_Valid_t4]
      replace H := bif_f h28 H
      refine Sm.skip ?_
      refine hK25 _ ?_
      refine Sm.regA h00 mixed hΓ (by kernel_rfl) ?_
      simp only [rs]
      repeat (refine opsG fun K hK => ?_; simp only [z, seval, extent_Valid_t4]; (repeat (first | refine gcI ?_ | refine fun (_ : _ ≤ _) => ?_)); refine hK _ ?_; clear hK K)
      refine opsG0 ?_
      try simp only [seval, Exit.exit.injEq]
      refine ⟨_, (Option.some.inj H).symm, ?_⟩
      exact weak_b [] rfl rfl rfl (by simp only [wk, z, seval, extent_Valid_t4]) (by simp only [wk, z, seval, extent_Valid_t4])
    replace H := bif_f h24 H
    refine Sm.exit ?_
    try simp only [seval, Exit.exit.injEq]
    refine ⟨⟨_, (Option.some.inj H).symm⟩, fun hz => ?_⟩
    have hyy := Sum.inr.inj ((Option.some.inj H).trans hz)
    subst hyy
    have H := Ho21
    try dsimp only at H
    try simp only [seval, Exit.exit.injEq]
    refine ⟨(), H, ?_⟩
    exact weak_b [] rfl rfl rfl (by simp only [wk, z, seval, extent_Valid_t4]) (by simp only [wk, z, seval, extent_Valid_t4])
  rintro ⟨⟩ H
  try dsimp only at H
  unfold extent_Valid_k1 at H
  obtain ⟨r1, hr1, H⟩ := bind_some H
  refine Sm.seqA h00 mixed hΓ (by kernel_rfl) fun K6 hK6 => ?_
  simp only [rs]
  repeat (refine opsG fun K hK => ?_; simp only [z, seval, extent_Valid_s1, xextent_valid, xextent_sorted, hr1]; (repeat (first | refine gcI ?_ | refine fun (_ : _ ≤ _) => ?_)); refine hK _ ?_; clear hK K)
  refine hK6 _ ?_
  refine Sm.cut (fun (x : Unit) => extent_Valid_s2) (fun x => extent_Valid_k2 n = some r) ?_ ?_
  · refine Sm.seqA h00 mixed hΓ (by kernel_rfl) fun K8 hK8 => ?_
    simp only [rs]
    repeat (refine opsG fun K hK => ?_; simp only [z, seval, extent_Valid_s1]; (repeat (first | refine gcI ?_ | refine fun (_ : _ ≤ _) => ?_)); refine hK _ ?_; clear hK K)
    refine hK8 _ ?_
    refine Sm.block ?_
    obtain ⟨y9, hy9, Ho9⟩ := bind_some H
    refine Sm.loopB (fun (x : Int) => extent_Valid_b3 n r1 x) (fun x => extent_Valid_t3 r1 x) hy9 ?_ ?_
    · exact weak_b [] rfl rfl rfl (by simp only [wk, z, seval, extent_Valid_s1]) (by simp only [wk, z, seval, extent_Valid_s1])
    rintro i z9 H
    try dsimp only at H
    unfold extent_Valid_b3 at H
    refine Sm.seqK fun K10 hK10 => ?_
    refine Sm.seqA h00 mixed hΓ (by kernel_rfl) fun K11 hK11 => ?_
    simp only [rs]
    repeat (refine opsG fun K hK => ?_; simp only [z, seval, extent_Valid_t3]; (repeat (first | refine gcI ?_ | refine fun (_ : _ ≤ _) => ?_)); refine hK _ ?_; clear hK K)
    refine hK11 _ ?_
    refine Sm.condK (by rfl) fun Ka Kb ha hb => ?_
    simp only [wpCond, z, seval, extent_Valid_t3]
    refine ⟨fun h12 => ha ?_, fun h12 => hb ?_⟩
    · replace H := bif_t h12 H
      refine Sm.skip ?_
      refine hK10 _ ?_
      refine Sm.seqK fun K13 hK13 => ?_
      refine Sm.block ?_
      obtain ⟨⟨hg17, hg18, hg19⟩, H⟩ := gd_some H
      refine Sm.seqD h00 mixed hΓ (by kernel_rfl) fun K14 hK14 => ?_
      simp only [rs]
      repeat (refine opsH fun K hK => ?_; simp only [z, seval, extent_Valid_t3]; (repeat (first | refine gcI ?_ | refine fun (_ : _ ≤ _) => ?_)); refine hK _ ?_; clear hK K)
      refine hK14 _ ?_
      refine Sm.condK (by rfl) fun Ka Kb ha hb => ?_
      simp only [wpCond, z, seval, extent_Valid_t3]
      refine ⟨fun h15 => ha ?_, fun h15 => hb ?_⟩
      · replace H := bif_t h15 H
        refine Sm.seqA h00 mixed hΓ (by kernel_rfl) fun K16 hK16 => ?_
        simp only [rs]
        repeat (refine opsG fun K hK => ?_; simp only [z, seval, extent_Valid_t3]; (repeat (first | refine gcI ?_ | refine fun (_ : _ ≤ _) => ?_)); refine hK _ ?_; clear hK K)
        refine hK16 _ ?_
        refine Sm.ret ?_
        try simp only [seval, Exit.exit.injEq]
        refine ⟨⟨_, (Option.some.inj H).symm⟩, fun hz => ?_⟩
        have hyy := Sum.inr.inj ((Option.some.inj H).trans hz)
        subst hyy
        have H := Ho9
        try dsimp only at H
        try simp only [seval, Exit.exit.injEq]
        obtain rfl := Option.some.inj H
        refine Ret.ofR [] (.inr rfl) ?_
        simp only [z, seval, extent_Valid_t3]
      replace H := bif_f h15 H
      refine Sm.skip ?_
      refine hK13 _ ?_
      refine Sm.regA h00 mixed hΓ (by kernel_rfl) ?_
      simp only [rs]
      repeat (refine opsG fun K hK => ?_; simp only [z, seval, extent_Valid_t3]; (repeat (first | refine gcI ?_ | refine fun (_ : _ ≤ _) => ?_)); refine hK _ ?_; clear hK K)
      refine opsG0 ?_
      try simp only [seval, Exit.exit.injEq]
      refine ⟨_, (Option.some.inj H).symm, ?_⟩
      exact weak_b [] rfl rfl rfl (by simp only [wk, z, seval, extent_Valid_t3]) (by simp only [wk, z, seval, extent_Valid_t3])
    replace H := bif_f h12 H
    refine Sm.exit ?_
    try simp only [seval, Exit.exit.injEq]
    refine ⟨⟨_, (Option.some.inj H).symm⟩, fun hz => ?_⟩
    have hyy := Sum.inr.inj ((Option.some.inj H).trans hz)
    subst hyy
    have H := Ho9
    try dsimp only at H
    try simp only [seval, Exit.exit.injEq]
    refine ⟨(), H, ?_⟩
    exact weak_b [] rfl rfl rfl (by simp only [wk, z, seval, extent_Valid_t3]) (by simp only [wk, z, seval, extent_Valid_t3])
  rintro ⟨⟩ H
  try dsimp only at H
  unfold extent_Valid_k2 at H
  refine Sm.seqA h00 mixed hΓ (by kernel_rfl) fun K7 hK7 => ?_
  simp only [rs]
  repeat (refine opsG fun K hK => ?_; simp only [z, seval, extent_Valid_s2]; (repeat (first | refine gcI ?_ | refine fun (_ : _ ≤ _) => ?_)); refine hK _ ?_; clear hK K)
  refine hK7 _ ?_
  refine Sm.ret ?_
  try simp only [seval, Exit.exit.injEq]
  obtain rfl := Option.some.inj H
  refine Ret.ofR [] (.inr rfl) ?_
  simp only [z, seval, extent_Valid_s2]

def ref20_Valid (n : Nat) (l : List TExtent) : Option Bool :=
  (ref20_Tracks n l).bind fun r1 =>
  some r1.2

def xref20_Valid (n : Nat) : Go.AE.Fn := mkFn (A := (List TExtent)) (R := Bool) 17 [(false, [.slice 43])] false (fun xs => ((cg (xs.getD 0 []) 0).toSl.map d_TExtent)) (fun a => [[.slice (List.map e_TExtent a)]]) (fun a => ref20_Valid n a) (fun r => [.c .bool (.bool r)]) (fun r => [])

theorem cref20_Valid (n : Nat) : Contract Try.prog (xref20_Valid n) := by
  have hΓ : ∀ g, g ∈ ([xref20_Tracks n] : List Go.AE.Fn) → Contract Try.prog g := by
    intro g hg; simp only [List.mem_cons, List.not_mem_nil, or_false] at hg; subst hg; exact cref20_Tracks n
  refine contract_f (Try.f17.body.getD .skip) h00 Try.func17 rfl (by intro args w; exact Try.call17 args w) (by decide) (by intro _ r; exact ⟨rfl, by simp⟩) ?_
  rintro l r H
  try dsimp only at H
  unfold ref20_Valid at H
  simp only [Try.f17, Option.getD]
  refine Sm.seqA h00 mixed hΓ (by kernel_rfl) fun K1 hK1 => ?_
  simp only [rs]
  repeat (refine opsG fun K hK => ?_; simp only [z, seval]; (repeat (first | refine gcI ?_ | refine fun (_ : _ ≤ _) => ?_)); refine hK _ ?_; clear hK K)
  refine hK1 _ ?_
  obtain ⟨r1, hr1, H⟩ := bind_some H
  refine Sm.seqA h00 mixed hΓ (by kernel_rfl) fun K2 hK2 => ?_
  simp only [rs]
  repeat (refine opsG fun K hK => ?_; simp only [z, seval, xref20_Tracks, hr1]; (repeat (first | refine gcI ?_ | refine fun (_ : _ ≤ _) => ?_)); refine hK _ ?_; clear hK K)
  refine hK2 _ ?_
  refine Sm.seqA h00 mixed hΓ (by kernel_rfl) fun K3 hK3 => ?_
  simp only [rs]
  repeat (refine opsG fun K hK => ?_; simp only [z, seval]; (repeat (first | refine gcI ?_ | refine fun (_ : _ ≤ _) => ?_)); refine hK _ ?_; clear hK K)
  refine hK3 _ ?_
  refine Sm.ret ?_
  try simp only [seval, Exit.exit.injEq]
  obtain rfl := Option.some.inj H
  refine Ret.ofR [] (.inr rfl) ?_
  simp only [z, seval]

abbrev extent_Total_s1 (n_ : Int) : S := stB [(3, .c (.int .i64) (.int n_))] []

def extent_Total_k1 (n : Nat) (n_ : Int) : Option Int :=
  some n_

abbrev extent_Total_t2 (l : List TExtent) (v10 : Int) (n_ : Int) (v11 : Int) : S := stB [(3, .c (.int .i64) (.int n_)), (9, .c (.slice 43) (.slice (List.map e_TExtent l))), (10, .c (.int .i64) (.int v10)), (11, .c (.int .i64) (.int v11))] []

def extent_Total_b2 (n : Nat) (l : List TExtent) (v10 : Int) (n_ : Int) (v11 : Int) : Option ((Int × Int) ⊕ ((Int))) :=
  bif (decide (v11 < v10)) then
    gd ((0 ≤ v11 ∧ v11 < (l.length : Int))) <|
    some (.inl ((IntKind.wrap .i64 (n_ + ((gt l (Int.toNat v11)).Len))), (IntKind.wrap .i64 (v11 + 1))))
  else
    some (.inr n_)

def extent_Total (n : Nat) (l : List TExtent) : Option Int :=
  (extent_Valid n l).bind fun r1 =>
  bif (!r1) then
    some 0
  else
    (loopF (fun (x : Int × Int) => extent_Total_b2 n l (l.length : Int) x.1 x.2) n (0, 0)).bind fun y9 =>
    extent_Total_k1 n y9

def xextent_Total (n : Nat) : Go.AE.Fn := mkFn (A := (List TExtent)) (R := Int) 18 [(false, [.slice 43])] false (fun xs => ((cg (xs.getD 0 []) 0).toSl.map d_TExtent)) (fun a => [[.slice (List.map e_TExtent a)]]) (fun a => extent_Total n a) (fun r => [.c (.int .i64) (.int r)]) (fun r => [])

theorem cextent_Total (n : Nat) : Contract Try.prog (xextent_Total n) := by
  have hΓ : ∀ g, g ∈ ([xextent_Valid n] : List Go.AE.Fn) → Contract Try.prog g := by
    intro g hg; simp only [List.mem_cons, List.not_mem_nil, or_false] at hg; subst hg; exact cextent_Valid n
  refine contract_f (Try.f18.body.getD .skip) h00 Try.func18 rfl (by intro args w; exact Try.call18 args w) (by decide) (by intro _ r; exact ⟨rfl, by simp⟩) ?_
  rintro l r H
  try dsimp only at H
  unfold extent_Total at H
  simp only [Try.f18, Option.getD]
  refine Sm.seqA h00 mixed hΓ (by kernel_rfl) fun K1 hK1 => ?_
  simp only [rs]
  repeat (refine opsG fun K hK => ?_; simp only [z, seval]; (repeat (first | refine gcI ?_ | refine fun (_ : _ ≤ _) => ?_)); refine hK _ ?_; clear hK K)
  refine hK1 _ ?_
  refine Sm.seqK fun K2 hK2 => ?_
  obtain ⟨r1, hr1, H⟩ := bind_some H
  refine Sm.seqA h00 mixed hΓ (by kernel_rfl) fun K3 hK3 => ?_
  simp only [rs]
  repeat (refine opsG fun K hK => ?_; simp only [z, seval, xextent_Valid, hr1]; (repeat (first | refine gcI ?_ | refine fun (_ : _ ≤ _) => ?_)); refine hK _ ?_; clear hK K)
  refine hK3 _ ?_
  refine Sm.condK (by rfl) fun Ka Kb ha hb => ?_
  simp only [wpCond, z, seval]
  refine ⟨fun h4 => ha ?_, fun h4 => hb ?_⟩
  · replace H := bif_t h4 H
    refine Sm.seqA h00 mixed hΓ (by kernel_rfl) fun K5 hK5 => ?_
    simp only [rs]
    repeat (refine opsG fun K hK => ?_; simp only [z, seval]; (repeat (first | refine gcI ?_ | refine fun (_ : _ ≤ _) => ?_)); refine hK _ ?_; clear hK K)
    refine hK5 _ ?_
    refine Sm.ret ?_
    try simp only [seval, Exit.exit.injEq]
    obtain rfl := Option.some.inj H
    refine Ret.ofR [] (.inr rfl) ?_
    simp only [z, seval]
  replace H := bif_f h4 H
  refine Sm.skip ?_
  refine hK2 _ ?_
  refine Sm.seqA h00 mixed hΓ (by kernel_rfl) fun K6 hK6 => ?_
  simp only [rs]
  repeat (refine opsG fun K hK => ?_; simp only [z, seval]; (repeat (first | refine gcI ?_ | refine fun (_ : _ ≤ _) => ?_)); refine hK _ ?_; clear hK K)
  refine hK6 _ ?_
  refine Sm.cut (fun (x : Int) => extent_Total_s1 x) (fun x => extent_Total_k1 n x = some r) ?_ ?_
  · refine Sm.seqA h00 mixed hΓ (by kernel_rfl) fun K8 hK8 => ?_
    simp only [rs]
    repeat (refine opsG fun K hK => ?_; simp only [z, seval]; (repeat (first | refine gcI ?_ | refine fun (_ : _ ≤ _) => ?_)); refine hK _ ?_; clear hK K)
    refine hK8 _ ?_
    refine Sm.block ?_
    obtain ⟨y9, hy9, Ho9⟩ := bind_some H
    refine Sm.loopB (fun (x : Int × Int) => extent_Total_b2 n l (l.length : Int) x.1 x.2) (fun x => extent_Total_t2 l (l.length : Int) x.1 x.2) hy9 ?_ ?_
    · exact weak_b [] rfl rfl rfl (by simp only [wk, z, seval]) (by simp only [wk, z, seval])
    rintro ⟨n_, v11⟩ z9 H
    try dsimp only at H
    unfold extent_Total_b2 at H
    refine Sm.seqA h00 mixed hΓ (by kernel_rfl) fun K10 hK10 => ?_
    simp only [rs]
    repeat (refine opsG fun K hK => ?_; simp only [z, seval, extent_Total_t2]; (repeat (first | refine gcI ?_ | refine fun (_ : _ ≤ _) => ?_)); refine hK _ ?_; clear hK K)
    refine hK10 _ ?_
    refine Sm.seqK fun K11 hK11 => ?_
    refine Sm.condK (by rfl) fun Ka Kb ha hb => ?_
    simp only [wpCond, z, seval, extent_Total_t2]
    refine ⟨fun h12 => ha ?_, fun h12 => hb ?_⟩
    · replace H := bif_t h12 H
      refine Sm.skip ?_
      refine hK11 _ ?_
      refine Sm.seqK fun K13 hK13 => ?_
      refine Sm.block ?_
      obtain ⟨hg15, H⟩ := gd_some H
      refine Sm.seqA h00 mixed hΓ (by kernel_rfl) fun K14 hK14 => ?_
      simp only [rs]
      repeat (refine opsG fun K hK => ?_; simp only [z, seval, extent_Total_t2]; (repeat (first | refine gcI ?_ | refine fun (_ : _ ≤ _) => ?_)); refine hK _ ?_; clear hK K)
      refine hK14 _ ?_
      refine Sm.regA h00 mixed hΓ (by kernel_rfl) ?_
      simp only [rs]
      repeat (refine opsG fun K hK => ?_; simp only [z, seval, extent_Total_t2]; (repeat (first | refine gcI ?_ | refine fun (_ : _ ≤ _) => ?_)); refine hK _ ?_; clear hK K)
      refine opsG0 ?_
      refine hK13 _ ?_
      refine Sm.regA h00 mixed hΓ (by kernel_rfl) ?_
      simp only [rs]
      repeat (refine opsG fun K hK => ?_; simp only [z, seval, extent_Total_t2]; (repeat (first | refine gcI ?_ | refine fun (_ : _ ≤ _) => ?_)); refine hK _ ?_; clear hK K)
      refine opsG0 ?_
      try simp only [seval, Exit.exit.injEq]
      refine ⟨(_, _), (Option.some.inj H).symm, ?_⟩
      exact weak_b [] rfl rfl rfl (by simp only [wk, z, seval, extent_Total_t2]) (by simp only [wk, z, seval, extent_Total_t2])
    replace H := bif_f h12 H
    refine Sm.exit ?_
    try simp only [seval, Exit.exit.injEq]
    refine ⟨⟨_, (Option.some.inj H).symm⟩, fun hz => ?_⟩
    have hyy := Sum.inr.inj ((Option.some.inj H).trans hz)
    subst hyy
    have H := Ho9
    try dsimp only at H
    try simp only [seval, Exit.exit.injEq]
    refine ⟨_, H, ?_⟩
    exact weak_b [] rfl rfl rfl (by simp only [wk, z, seval, extent_Total_t2]) (by simp only [wk, z, seval, extent_Total_t2])
  rintro n_ H
  try dsimp only at H
  unfold extent_Total_k1 at H
  refine Sm.seqA h00 mixed hΓ (by kernel_rfl) fun K7 hK7 => ?_
  simp only [rs]
  repeat (refine opsG fun K hK => ?_; simp only [z, seval, extent_Total_s1]; (repeat (first | refine gcI ?_ | refine fun (_ : _ ≤ _) => ?_)); refine hK _ ?_; clear hK K)
  refine hK7 _ ?_
  refine Sm.ret ?_
  try simp only [seval, Exit.exit.injEq]
  obtain rfl := Option.some.inj H
  refine Ret.ofR [] (.inr rfl) ?_
  simp only [z, seval, extent_Total_s1]

def ref20_Total (n : Nat) (l : List TExtent) : Option Int :=
  (ref20_Tracks n l).bind fun r1 =>
  some ((r1.1.length : Nat) : Int)

def xref20_Total (n : Nat) : Go.AE.Fn := mkFn (A := (List TExtent)) (R := Int) 19 [(false, [.slice 43])] false (fun xs => ((cg (xs.getD 0 []) 0).toSl.map d_TExtent)) (fun a => [[.slice (List.map e_TExtent a)]]) (fun a => ref20_Total n a) (fun r => [.c (.int .i64) (.int r)]) (fun r => [])

theorem cref20_Total (n : Nat) : Contract Try.prog (xref20_Total n) := by
  have hΓ : ∀ g, g ∈ ([xref20_Tracks n] : List Go.AE.Fn) → Contract Try.prog g := by
    intro g hg; simp only [List.mem_cons, List.not_mem_nil, or_false] at hg; subst hg; exact cref20_Tracks n
  refine contract_f (Try.f19.body.getD .skip) h00 Try.func19 rfl (by intro args w; exact Try.call19 args w) (by decide) (by intro _ r; exact ⟨rfl, by simp⟩) ?_
  rintro l r H
  try dsimp only at H
  unfold ref20_Total at H
  simp only [Try.f19, Option.getD]
  refine Sm.seqA h00 mixed hΓ (by kernel_rfl) fun K1 hK1 => ?_
  simp only [rs]
  repeat (refine opsG fun K hK => ?_; simp only [z, seval]; (repeat (first | refine gcI ?_ | refine fun (_ : _ ≤ _) => ?_)); refine hK _ ?_; clear hK K)
  refine hK1 _ ?_
  obtain ⟨r1, hr1, H⟩ := bind_some H
  refine Sm.seqA h00 mixed hΓ (by kernel_rfl) fun K2 hK2 => ?_
  simp only [rs]
  repeat (refine opsG fun K hK => ?_; simp only [z, seval, xref20_Tracks, hr1]; (repeat (first | refine gcI ?_ | refine fun (_ : _ ≤ _) => ?_)); refine hK _ ?_; clear hK K)
  refine hK2 _ ?_
  refine Sm.seqA h00 mixed hΓ (by kernel_rfl) fun K3 hK3 => ?_
  simp only [rs]
  repeat (refine opsG fun K hK => ?_; simp only [z, seval]; (repeat (first | refine gcI ?_ | refine fun (_ : _ ≤ _) => ?_)); refine hK _ ?_; clear hK K)
  refine hK3 _ ?_
  refine Sm.ret ?_
  try simp only [seval, Exit.exit.injEq]
  obtain rfl := Option.some.inj H
  refine Ret.ofR [] (.inr rfl) ?_
  simp only [z, seval]

def law20_ExtentChecks (n : Nat) (l : List TExtent) (n_ : Int) : Option Bool :=
  (extent_Check n l n_).bind fun r1 =>
  (ref20_Check n l n_).bind fun r2 =>
  gd (((r1 == r2) = true → (extent_Valid n l).isSome = true) ∧ ((r1 == r2) = true → (ref20_Valid n l).isSome = true) ∧ ((if (r1 == r2) = true then (((extent_Valid n l).getD default) == ((ref20_Valid n l).getD default)) else false) = true → (extent_Total n l).isSome = true) ∧ ((if (r1 == r2) = true then (((extent_Valid n l).getD default) == ((ref20_Valid n l).getD default)) else false) = true → (ref20_Total n l).isSome = true) ∧ ((if (if (r1 == r2) = true then (((extent_Valid n l).getD default) == ((ref20_Valid n l).getD default)) else false) = true then (((extent_Total n l).getD default) == ((ref20_Total n l).getD default)) else false) = true → (law20_works n).isSome = true)) <|
  some (if (if (if (r1 == r2) = true then (((extent_Valid n l).getD default) == ((ref20_Valid n l).getD default)) else false) = true then (((extent_Total n l).getD default) == ((ref20_Total n l).getD default)) else false) = true then ((law20_works n).getD default) else false)

def xlaw20_ExtentChecks (n : Nat) : Go.AE.Fn := mkFn (A := (List TExtent) × Int) (R := Bool) 4 [(false, [.slice 43]), (false, [.int .i64])] false (fun xs => (((cg (xs.getD 0 []) 0).toSl.map d_TExtent), (cg (xs.getD 1 []) 0).toInt)) (fun a => [[.slice (List.map e_TExtent a.1)], [.int a.2]]) (fun a => law20_ExtentChecks n a.1 a.2) (fun r => [.c .bool (.bool r)]) (fun r => [])

theorem claw20_ExtentChecks (n : Nat) : Contract Try.prog (xlaw20_ExtentChecks n) := by
  have hΓ : ∀ g, g ∈ ([xextent_Check n, xref20_Check n, xextent_Valid n, xref20_Valid n, xextent_Total n, xref20_Total n, xlaw20_works n] : List Go.AE.Fn) → Contract Try.prog g := by
    intro g hg; simp only [List.mem_cons, List.not_mem_nil, or_false] at hg; rcases hg with rfl | rfl | rfl | rfl | rfl | rfl | rfl; exact cextent_Check n; exact cref20_Check n; exact cextent_Valid n; exact cref20_Valid n; exact cextent_Total n; exact cref20_Total n; exact claw20_works n
  refine contract_f (Try.f4.body.getD .skip) h00 Try.func4 rfl (by intro args w; exact Try.call4 args w) (by decide) (by intro _ r; exact ⟨rfl, by simp⟩) ?_
  rintro ⟨l, n_⟩ r H
  try dsimp only at H
  unfold law20_ExtentChecks at H
  simp only [Try.f4, Option.getD]
  refine Sm.seqA h00 mixed hΓ (by kernel_rfl) fun K1 hK1 => ?_
  simp only [rs]
  repeat (refine opsG fun K hK => ?_; simp only [z, seval]; (repeat (first | refine gcI ?_ | refine fun (_ : _ ≤ _) => ?_)); refine hK _ ?_; clear hK K)
  refine hK1 _ ?_
  obtain ⟨r1, hr1, H⟩ := bind_some H
  obtain ⟨r2, hr2, H⟩ := bind_some H
  obtain ⟨⟨hg3, hg4, hg5, hg6, hg7⟩, H⟩ := gd_some H
  refine Sm.seqA h00 mixed hΓ (by kernel_rfl) fun K2 hK2 => ?_
  simp only [rs]
  repeat (refine opsG fun K hK => ?_; simp only [z, seval, xextent_Check, xref20_Check, xextent_Valid, xref20_Valid, xextent_Total, xref20_Total, xlaw20_works, hr1, hr2]; (repeat (first | refine gcI ?_ | refine fun (_ : _ ≤ _) => ?_)); refine hK _ ?_; clear hK K)
  refine hK2 _ ?_
  refine Sm.ret ?_
  try simp only [seval, Exit.exit.injEq]
  obtain rfl := Option.some.inj H
  refine Ret.ofR [] (.inr rfl) ?_
  simp only [z, seval]

abbrev extent_Free_s2 (out : List TExtent) : S := stB [(5, .own 9001 [.int .i64, .int .i64] 0 out.length)] [(9001, .row 43 (List.map e_TExtent out))]

def extent_Free_k2 (n : Nat) (out : List TExtent) : Option (List TExtent) :=
  some out

abbrev extent_Free_s1 (n_ : Int) (out : List TExtent) (at_ : Int) : S := stB [(1, .c (.int .i64) (.int n_)), (5, .own 9000 [.int .i64, .int .i64] 0 out.length), (6, .c (.int .i64) (.int at_))] [(9000, .row 43 (List.map e_TExtent out))]

def extent_Free_k1 (n : Nat) (n_ : Int) (out : List TExtent) (at_ : Int) : Option (List TExtent) :=
  bif (decide (n_ > at_)) then
    gd ((out.length + 1) ≤ 2147483648) <|
    extent_Free_k2 n (out ++ [(⟨at_, (IntKind.wrap .i64 (n_ - at_))⟩ : TExtent)])
  else
    extent_Free_k2 n out

abbrev extent_Free_s4 (n_ : Int) (out_2 : List TExtent) (at__1 : Int) (v22 : List TExtent) (v23 : Int) (v24 : Int) : S := stB [(1, .c (.int .i64) (.int n_)), (5, .own 9004 [.int .i64, .int .i64] 0 out_2.length), (6, .c (.int .i64) (.int at__1)), (22, .c (.slice 43) (.slice (List.map e_TExtent v22))), (23, .c (.int .i64) (.int v23)), (24, .c (.int .i64) (.int v24))] [(9004, .row 43 (List.map e_TExtent out_2))]

def extent_Free_k4 (n : Nat) (n_ : Int) (out_2 : List TExtent) (at__1 : Int) (v22 : List TExtent) (v23 : Int) (v24 : Int) : Option (((List TExtent) × Int × Int) ⊕ (((List TExtent) × Int))) :=
  some (.inl (out_2, at__1, (IntKind.wrap .i64 (v24 + 1))))

abbrev extent_Free_s5 (n_ : Int) (out_2 : List TExtent) (x : Int) (x_1 : Int) (v22 : List TExtent) (v23 : Int) (v24 : Int) : S := stB [(1, .c (.int .i64) (.int n_)), (5, .own 9005 [.int .i64, .int .i64] 0 out_2.length), (8, .box 9006 0), (22, .c (.slice 43) (.slice (List.map e_TExtent v22))), (23, .c (.int .i64) (.int v23)), (24, .c (.int .i64) (.int v24))] [(9005, .row 43 (List.map e_TExtent out_2)), (9006, .box [.c (.int .i64) (.int x), .c (.int .i64) (.int x_1)])]

def extent_Free_k5 (n : Nat) (n_ : Int) (out_2 : List TExtent) (x : Int) (x_1 : Int) (v22 : List TExtent) (v23 : Int) (v24 : Int) : Option (((List TExtent) × Int × Int) ⊕ (((List TExtent) × Int))) :=
  extent_Free_k4 n n_ out_2 (IntKind.wrap .i64 (x + x_1)) v22 v23 v24

abbrev extent_Free_t3 (n_ : Int) (v22 : List TExtent) (v23 : Int) (out_1 : List TExtent) (at_ : Int) (v24 : Int) : S := stB [(1, .c (.int .i64) (.int n_)), (5, .own 9003 [.int .i64, .int .i64] 0 out_1.length), (6, .c (.int .i64) (.int at_)), (22, .c (.slice 43) (.slice (List.map e_TExtent v22))), (23, .c (.int .i64) (.int v23)), (24, .c (.int .i64) (.int v24))] [(9003, .row 43 (List.map e_TExtent out_1))]

def extent_Free_b3 (n : Nat) (n_ : Int) (v22 : List TExtent) (v23 : Int) (out_1 : List TExtent) (at_ : Int) (v24 : Int) : Option (((List TExtent) × Int × Int) ⊕ (((List TExtent) × Int))) :=
  bif (decide (v24 < v23)) then
    gd ((0 ≤ v24 ∧ v24 < (v22.length : Int))) <|
    bif (decide ((if n_ < ((gt v22 (Int.toNat v24)).At) then n_ else ((gt v22 (Int.toNat v24)).At)) > at_)) then
      gd ((out_1.length + 1) ≤ 2147483648) <|
      extent_Free_k5 n n_ (out_1 ++ [(⟨at_, (IntKind.wrap .i64 ((if n_ < ((gt v22 (Int.toNat v24)).At) then n_ else ((gt v22 (Int.toNat v24)).At)) - at_))⟩ : TExtent)]) ((gt v22 (Int.toNat v24)).At) ((gt v22 (Int.toNat v24)).Len) v22 v23 v24
    else
      extent_Free_k5 n n_ out_1 ((gt v22 (Int.toNat v24)).At) ((gt v22 (Int.toNat v24)).Len) v22 v23 v24
  else
    some (.inr (out_1, at_))

def extent_Free (n : Nat) (used : List TExtent) (n_ : Int) : Option (List TExtent) :=
  (extent_Valid n used).bind fun r1 =>
  bif (if (if (!r1) = true then true else (decide (n_ < 0))) = true then true else (decide (n_ > 512))) then
    some []
  else
    (extent_sorted n used).bind fun r2 =>
    (loopF (fun (x : (List TExtent) × Int × Int) => extent_Free_b3 n n_ r2 (r2.length : Int) x.1 x.2.1 x.2.2) n ([], 0, 0)).bind fun y13 =>
    extent_Free_k1 n n_ y13.1 y13.2

def xextent_Free (n : Nat) : Go.AE.Fn := mkFn (A := (List TExtent) × Int) (R := (List TExtent)) 20 [(false, [.slice 43]), (false, [.int .i64])] false (fun xs => (((cg (xs.getD 0 []) 0).toSl.map d_TExtent), (cg (xs.getD 1 []) 0).toInt)) (fun a => [[.slice (List.map e_TExtent a.1)], [.int a.2]]) (fun a => extent_Free n a.1 a.2) (fun r => [.own 0 [.int .i64, .int .i64] 0 r.length]) (fun r => [.row 43 (List.map e_TExtent r)])

theorem cextent_Free (n : Nat) : Contract Try.prog (xextent_Free n) := by
  have hΓ : ∀ g, g ∈ ([xextent_Valid n, xextent_sorted n] : List Go.AE.Fn) → Contract Try.prog g := by
    intro g hg; simp only [List.mem_cons, List.not_mem_nil, or_false] at hg; rcases hg with rfl | rfl; exact cextent_Valid n; exact cextent_sorted n
  refine contract_f (Try.f20.body.getD .skip) h00 Try.func20 rfl (by intro args w; exact Try.call20 args w) (by decide) (by
    intro _ r; refine ⟨rfl, ?_⟩; simp only [List.mem_cons, List.not_mem_nil, or_false]; rintro _ rfl
    · exact ⟨43, _, _, rfl, ty43, rfl⟩) ?_
  rintro ⟨used, n_⟩ r H
  try dsimp only at H
  unfold extent_Free at H
  simp only [Try.f20, Option.getD]
  refine Sm.seqA h00 mixed hΓ (by kernel_rfl) fun K1 hK1 => ?_
  simp only [rs]
  repeat (refine opsG fun K hK => ?_; simp only [z, seval]; (repeat (first | refine gcI ?_ | refine fun (_ : _ ≤ _) => ?_)); refine hK _ ?_; clear hK K)
  refine hK1 _ ?_
  refine Sm.seqK fun K2 hK2 => ?_
  obtain ⟨r1, hr1, H⟩ := bind_some H
  refine Sm.seqA h00 mixed hΓ (by kernel_rfl) fun K3 hK3 => ?_
  simp only [rs]
  repeat (refine opsG fun K hK => ?_; simp only [z, seval, xextent_Valid, hr1]; (repeat (first | refine gcI ?_ | refine fun (_ : _ ≤ _) => ?_)); refine hK _ ?_; clear hK K)
  refine hK3 _ ?_
  refine Sm.condK (by rfl) fun Ka Kb ha hb => ?_
  simp only [wpCond, z, seval]
  refine ⟨fun h4 => ha ?_, fun h4 => hb ?_⟩
  · replace H := bif_t h4 H
    refine Sm.seqA h00 mixed hΓ (by kernel_rfl) fun K5 hK5 => ?_
    simp only [rs]
    repeat (refine opsG fun K hK => ?_; simp only [z, seval]; (repeat (first | refine gcI ?_ | refine fun (_ : _ ≤ _) => ?_)); refine hK _ ?_; clear hK K)
    refine hK5 _ ?_
    refine Sm.ret ?_
    try simp only [seval, Exit.exit.injEq]
    obtain rfl := Option.some.inj H
    refine Ret.ofR [none] (.inr rfl) ?_
    simp only [z, seval]
  replace H := bif_f h4 H
  refine Sm.skip ?_
  refine hK2 _ ?_
  refine Sm.seqA h00 mixed hΓ (by kernel_rfl) fun K6 hK6 => ?_
  simp only [rs]
  repeat (refine opsG fun K hK => ?_; simp only [z, seval]; (repeat (first | refine gcI ?_ | refine fun (_ : _ ≤ _) => ?_)); refine hK _ ?_; clear hK K)
  refine hK6 _ ?_
  refine Sm.seqA h00 mixed hΓ (by kernel_rfl) fun K7 hK7 => ?_
  simp only [rs]
  repeat (refine opsG fun K hK => ?_; simp only [z, seval]; (repeat (first | refine gcI ?_ | refine fun (_ : _ ≤ _) => ?_)); refine hK _ ?_; clear hK K)
  refine hK7 _ ?_
  refine Sm.cut (fun (x : (List TExtent) × Int) => extent_Free_s1 n_ x.1 x.2) (fun x => extent_Free_k1 n n_ x.1 x.2 = some r) ?_ ?_
  · obtain ⟨r2, hr2, H⟩ := bind_some H
    refine Sm.seqA h00 mixed hΓ (by kernel_rfl) fun K12 hK12 => ?_
    simp only [rs]
    repeat (refine opsG fun K hK => ?_; simp only [z, seval, xextent_Valid, xextent_sorted, hr2]; (repeat (first | refine gcI ?_ | refine fun (_ : _ ≤ _) => ?_)); refine hK _ ?_; clear hK K)
    refine hK12 _ ?_
    refine Sm.block ?_
    obtain ⟨y13, hy13, Ho13⟩ := bind_some H
    refine Sm.loopB (fun (x : (List TExtent) × Int × Int) => extent_Free_b3 n n_ r2 (r2.length : Int) x.1 x.2.1 x.2.2) (fun x => extent_Free_t3 n_ r2 (r2.length : Int) x.1 x.2.1 x.2.2) hy13 ?_ ?_
    · exact weak_b [none] rfl rfl rfl (by simp only [wk, z, seval]) (by simp only [wk, z, seval])
    rintro ⟨out_1, at_, v24⟩ z13 H
    try dsimp only at H
    unfold extent_Free_b3 at H
    refine Sm.seqA h00 mixed hΓ (by kernel_rfl) fun K14 hK14 => ?_
    simp only [rs]
    repeat (refine opsG fun K hK => ?_; simp only [z, seval, extent_Free_t3]; (repeat (first | refine gcI ?_ | refine fun (_ : _ ≤ _) => ?_)); refine hK _ ?_; clear hK K)
    refine hK14 _ ?_
    refine Sm.seqK fun K15 hK15 => ?_
    refine Sm.condK (by rfl) fun Ka Kb ha hb => ?_
    simp only [wpCond, z, seval, extent_Free_t3]
    refine ⟨fun h16 => ha ?_, fun h16 => hb ?_⟩
    · replace H := bif_t h16 H
      refine Sm.skip ?_
      refine hK15 _ ?_
      refine Sm.cut (fun (x : (List TExtent) × Int) => extent_Free_s4 n_ x.1 x.2 r2 (r2.length : Int) v24) (fun x => extent_Free_k4 n n_ x.1 x.2 r2 (r2.length : Int) v24 = some z13) ?_ ?_
      · refine Sm.block ?_
        obtain ⟨hg22, H⟩ := gd_some H
        refine Sm.seqA h00 mixed hΓ (by kernel_rfl) fun K17 hK17 => ?_
        simp only [rs]
        repeat (refine opsG fun K hK => ?_; simp only [z, seval, extent_Free_t3]; (repeat (first | refine gcI ?_ | refine fun (_ : _ ≤ _) => ?_)); refine hK _ ?_; clear hK K)
        refine hK17 _ ?_
        refine Sm.cut (fun (x : (List TExtent)) => extent_Free_s5 n_ x ((gt r2 (Int.toNat v24)).At) ((gt r2 (Int.toNat v24)).Len) r2 (r2.length : Int) v24) (fun x => extent_Free_k5 n n_ x ((gt r2 (Int.toNat v24)).At) ((gt r2 (Int.toNat v24)).Len) r2 (r2.length : Int) v24 = some z13) ?_ ?_
        · refine Sm.seqA h00 mixed hΓ (by kernel_rfl) fun K18 hK18 => ?_
          simp only [rs]
          repeat (refine opsG fun K hK => ?_; simp only [z, seval, extent_Free_t3]; (repeat (first | refine gcI ?_ | refine fun (_ : _ ≤ _) => ?_)); refine hK _ ?_; clear hK K)
          refine hK18 _ ?_
          refine Sm.seqA h00 mixed hΓ (by kernel_rfl) fun K19 hK19 => ?_
          simp only [rs]
          repeat (refine opsG fun K hK => ?_; simp only [z, seval, extent_Free_t3]; (repeat (first | refine gcI ?_ | refine fun (_ : _ ≤ _) => ?_)); refine hK _ ?_; clear hK K)
          refine hK19 _ ?_
          refine Sm.condK (by rfl) fun Ka Kb ha hb => ?_
          simp only [wpCond, z, seval, extent_Free_t3]
          refine ⟨fun h20 => ha ?_, fun h20 => hb ?_⟩
          · replace H := bif_t h20 H
            obtain ⟨hg21, H⟩ := gd_some H
            refine Sm.regA h00 mixed hΓ (by kernel_rfl) ?_
            simp only [rs]
            repeat (refine opsG fun K hK => ?_; simp only [z, seval, extent_Free_t3]; (repeat (first | refine gcI ?_ | refine fun (_ : _ ≤ _) => ?_)); refine hK _ ?_; clear hK K)
            refine opsG0 ?_
            try simp only [seval, Exit.exit.injEq]
            refine ⟨_, H, ?_⟩
            exact weak_b [some 672, some 128] rfl rfl rfl (by simp only [wk, z, seval, extent_Free_t3]) (by simp only [wk, z, seval, extent_Free_t3])
          replace H := bif_f h20 H
          refine Sm.skip ?_
          try simp only [seval, Exit.exit.injEq]
          refine ⟨_, H, ?_⟩
          exact weak_b [some 9003, some 128] rfl rfl rfl (by simp only [wk, z, seval, extent_Free_t3]) (by simp only [wk, z, seval, extent_Free_t3])
        rintro out_2 H
        try dsimp only at H
        unfold extent_Free_k5 at H
        refine Sm.regA h00 mixed hΓ (by kernel_rfl) ?_
        simp only [rs]
        repeat (refine opsG fun K hK => ?_; simp only [z, seval, extent_Free_s5]; (repeat (first | refine gcI ?_ | refine fun (_ : _ ≤ _) => ?_)); refine hK _ ?_; clear hK K)
        refine opsG0 ?_
        try simp only [seval, Exit.exit.injEq]
        refine ⟨(out_2, (IntKind.wrap .i64 ((gt r2 (Int.toNat v24)).At + (gt r2 (Int.toNat v24)).Len))), H, ?_⟩
        exact weak_b [some 9005] rfl rfl rfl (by simp only [wk, z, seval, extent_Free_s5]) (by simp only [wk, z, seval, extent_Free_s5])
      rintro ⟨out_2, at__1⟩ H
      try dsimp only at H
      unfold extent_Free_k4 at H
      refine Sm.regA h00 mixed hΓ (by kernel_rfl) ?_
      simp only [rs]
      repeat (refine opsG fun K hK => ?_; simp only [z, seval, extent_Free_s4]; (repeat (first | refine gcI ?_ | refine fun (_ : _ ≤ _) => ?_)); refine hK _ ?_; clear hK K)
      refine opsG0 ?_
      try simp only [seval, Exit.exit.injEq]
      refine ⟨(_, _, _), (Option.some.inj H).symm, ?_⟩
      exact weak_b [some 9004] rfl rfl rfl (by simp only [wk, z, seval, extent_Free_s4]) (by simp only [wk, z, seval, extent_Free_s4])
    replace H := bif_f h16 H
    refine Sm.exit ?_
    try simp only [seval, Exit.exit.injEq]
    refine ⟨⟨_, (Option.some.inj H).symm⟩, fun hz => ?_⟩
    have hyy := Sum.inr.inj ((Option.some.inj H).trans hz)
    subst hyy
    have H := Ho13
    try dsimp only at H
    try simp only [seval, Exit.exit.injEq]
    refine ⟨(out_1, at_), H, ?_⟩
    exact weak_b [some 9003] rfl rfl rfl (by simp only [wk, z, seval, extent_Free_t3]) (by simp only [wk, z, seval, extent_Free_t3])
  rintro ⟨out, at_⟩ H
  try dsimp only at H
  unfold extent_Free_k1 at H
  refine Sm.cut (fun (x : (List TExtent)) => extent_Free_s2 x) (fun x => extent_Free_k2 n x = some r) ?_ ?_
  · refine Sm.seqA h00 mixed hΓ (by kernel_rfl) fun K9 hK9 => ?_
    simp only [rs]
    repeat (refine opsG fun K hK => ?_; simp only [z, seval, extent_Free_s1]; (repeat (first | refine gcI ?_ | refine fun (_ : _ ≤ _) => ?_)); refine hK _ ?_; clear hK K)
    refine hK9 _ ?_
    refine Sm.condK (by rfl) fun Ka Kb ha hb => ?_
    simp only [wpCond, z, seval, extent_Free_s1]
    refine ⟨fun h10 => ha ?_, fun h10 => hb ?_⟩
    · replace H := bif_t h10 H
      obtain ⟨hg11, H⟩ := gd_some H
      refine Sm.regA h00 mixed hΓ (by kernel_rfl) ?_
      simp only [rs]
      repeat (refine opsG fun K hK => ?_; simp only [z, seval, extent_Free_s1]; (repeat (first | refine gcI ?_ | refine fun (_ : _ ≤ _) => ?_)); refine hK _ ?_; clear hK K)
      refine opsG0 ?_
      try simp only [seval, Exit.exit.injEq]
      refine ⟨_, H, ?_⟩
      exact weak_b [some 944] rfl rfl rfl (by simp only [wk, z, seval, extent_Free_s1]) (by simp only [wk, z, seval, extent_Free_s1])
    replace H := bif_f h10 H
    refine Sm.skip ?_
    try simp only [seval, Exit.exit.injEq]
    refine ⟨_, H, ?_⟩
    exact weak_b [some 9000] rfl rfl rfl (by simp only [wk, z, seval, extent_Free_s1]) (by simp only [wk, z, seval, extent_Free_s1])
  rintro out H
  try dsimp only at H
  unfold extent_Free_k2 at H
  refine Sm.seqA h00 mixed hΓ (by kernel_rfl) fun K8 hK8 => ?_
  simp only [rs]
  repeat (refine opsG fun K hK => ?_; simp only [z, seval, extent_Free_s2]; (repeat (first | refine gcI ?_ | refine fun (_ : _ ≤ _) => ?_)); refine hK _ ?_; clear hK K)
  refine hK8 _ ?_
  refine Sm.ret ?_
  try simp only [seval, Exit.exit.injEq]
  obtain rfl := Option.some.inj H
  refine Ret.ofR [some 9001] (.inr rfl) ?_
  simp only [z, seval, extent_Free_s2]

abbrev ref20_Free_s1 (out : List Bool) : S := stB [(6, .elt 9000 1 [.bool] 0 0)] [(9000, .row 4 (List.map e_Bool out))]

def ref20_Free_k1 (n : Nat) (out : List Bool) : Option (List TExtent) :=
  gd (out.length = 512) <|
  (ref20_Normal n out).bind fun r3 =>
  some r3

abbrev ref20_Free_t2 (n_ : Int) (in_ : List Bool) (out : List Bool) (k : Int) : S := stB [(1, .c (.int .i64) (.int n_)), (5, .elt 9003 1 [.bool] 0 0), (6, .elt 9004 1 [.bool] 0 0), (7, .c (.int .i64) (.int k))] [(9003, .row 4 (List.map e_Bool in_)), (9004, .row 4 (List.map e_Bool out))]

def ref20_Free_b2 (n : Nat) (n_ : Int) (in_ : List Bool) (out : List Bool) (k : Int) : Option (((List Bool) × Int) ⊕ (((List Bool)))) :=
  bif (decide (k < n_)) then
    gd ((0 ≤ k ∧ k < 512 ∧ in_.length = 512) ∧ (Int.toNat k) < in_.length ∧ (0 ≤ k ∧ k < 512 ∧ out.length = 512) ∧ (Int.toNat k) < out.length) <|
    some (.inl ((List.set out (Int.toNat k) (!(gt in_ (Int.toNat k)))), (IntKind.wrap .i64 (k + 1))))
  else
    some (.inr out)

def ref20_Free (n : Nat) (used : List TExtent) (n_ : Int) : Option (List TExtent) :=
  (ref20_Valid n used).bind fun r1 =>
  bif (if (if (!r1) = true then true else (decide (n_ < 0))) = true then true else (decide (n_ > 512))) then
    some []
  else
    (ref20_Set n used).bind fun r2 =>
    gd (512 = 512) <|
    (loopF (fun (x : (List Bool) × Int) => ref20_Free_b2 n n_ r2 x.1 x.2) n ((zreps 512 false), 0)).bind fun y12 =>
    ref20_Free_k1 n y12

def xref20_Free (n : Nat) : Go.AE.Fn := mkFn (A := (List TExtent) × Int) (R := (List TExtent)) 21 [(false, [.slice 43]), (false, [.int .i64])] false (fun xs => (((cg (xs.getD 0 []) 0).toSl.map d_TExtent), (cg (xs.getD 1 []) 0).toInt)) (fun a => [[.slice (List.map e_TExtent a.1)], [.int a.2]]) (fun a => ref20_Free n a.1 a.2) (fun r => [.own 0 [.int .i64, .int .i64] 0 r.length]) (fun r => [.row 43 (List.map e_TExtent r)])

theorem cref20_Free (n : Nat) : Contract Try.prog (xref20_Free n) := by
  have hΓ : ∀ g, g ∈ ([xref20_Valid n, xref20_Set n, xref20_Normal n] : List Go.AE.Fn) → Contract Try.prog g := by
    intro g hg; simp only [List.mem_cons, List.not_mem_nil, or_false] at hg; rcases hg with rfl | rfl | rfl; exact cref20_Valid n; exact cref20_Set n; exact cref20_Normal n
  refine contract_f (Try.f21.body.getD .skip) h00 Try.func21 rfl (by intro args w; exact Try.call21 args w) (by decide) (by
    intro _ r; refine ⟨rfl, ?_⟩; simp only [List.mem_cons, List.not_mem_nil, or_false]; rintro _ rfl
    · exact ⟨43, _, _, rfl, ty43, rfl⟩) ?_
  rintro ⟨used, n_⟩ r H
  try dsimp only at H
  unfold ref20_Free at H
  simp only [Try.f21, Option.getD]
  refine Sm.seqA h00 mixed hΓ (by kernel_rfl) fun K1 hK1 => ?_
  simp only [rs]
  repeat (refine opsG fun K hK => ?_; simp only [z, seval]; (repeat (first | refine gcI ?_ | refine fun (_ : _ ≤ _) => ?_)); refine hK _ ?_; clear hK K)
  refine hK1 _ ?_
  refine Sm.seqK fun K2 hK2 => ?_
  obtain ⟨r1, hr1, H⟩ := bind_some H
  refine Sm.seqA h00 mixed hΓ (by kernel_rfl) fun K3 hK3 => ?_
  simp only [rs]
  repeat (refine opsG fun K hK => ?_; simp only [z, seval, xref20_Valid, hr1]; (repeat (first | refine gcI ?_ | refine fun (_ : _ ≤ _) => ?_)); refine hK _ ?_; clear hK K)
  refine hK3 _ ?_
  refine Sm.condK (by rfl) fun Ka Kb ha hb => ?_
  simp only [wpCond, z, seval]
  refine ⟨fun h4 => ha ?_, fun h4 => hb ?_⟩
  · replace H := bif_t h4 H
    refine Sm.seqA h00 mixed hΓ (by kernel_rfl) fun K5 hK5 => ?_
    simp only [rs]
    repeat (refine opsG fun K hK => ?_; simp only [z, seval]; (repeat (first | refine gcI ?_ | refine fun (_ : _ ≤ _) => ?_)); refine hK _ ?_; clear hK K)
    refine hK5 _ ?_
    refine Sm.ret ?_
    try simp only [seval, Exit.exit.injEq]
    obtain rfl := Option.some.inj H
    refine Ret.ofR [none] (.inr rfl) ?_
    simp only [z, seval]
  replace H := bif_f h4 H
  refine Sm.skip ?_
  refine hK2 _ ?_
  refine Sm.seqX h00 mixed hΓ (by kernel_rfl) fun K6 hK6 => ?_
  simp only [rs]
  obtain ⟨r2, hr2, H⟩ := bind_some H
  obtain ⟨hg7, H⟩ := gd_some H
  (refine opsX fun K hK => ?_; simp only [z, seval, xref20_Valid, xref20_Set]; (repeat (first | refine gcI ?_ | refine fun (_ : _ ≤ _) => ?_)); refine hK _ ?_; clear hK K)
  (refine opsX fun K hK => ?_; simp only [z, seval, xref20_Valid, xref20_Set, hr2]; (repeat (first | refine gcI ?_ | refine fun (_ : _ ≤ _) => ?_)); refine hK _ ?_; clear hK K)
  refine opsY fun K hK => ?_; simp only [z, seval, xref20_Valid, xref20_Set, hr2]; (repeat (first | refine gcI ?_ | refine fun (_ : _ ≤ _) => ?_)); refine hK _ ?_; clear hK K
  refine opsY fun K hK => ?_; simp only [z, seval, xref20_Valid, xref20_Set, hr2]; (repeat (first | refine gcI ?_ | refine fun (_ : _ ≤ _) => ?_)); refine hK _ ?_; clear hK K
  refine hK6 _ ?_
  refine Sm.seqX h00 mixed hΓ (by kernel_rfl) fun K8 hK8 => ?_
  simp only [rs]
  refine opsY fun K hK => ?_; simp only [z, seval]; (repeat (first | refine gcI ?_ | refine fun (_ : _ ≤ _) => ?_)); refine hK _ ?_; clear hK K
  refine hK8 _ ?_
  refine Sm.cut (fun (x : (List Bool)) => ref20_Free_s1 x) (fun x => ref20_Free_k1 n x = some r) ?_ ?_
  · refine Sm.seqA h00 mixed hΓ (by kernel_rfl) fun K11 hK11 => ?_
    simp only [rs]
    repeat (refine opsG fun K hK => ?_; simp only [z, seval]; (repeat (first | refine gcI ?_ | refine fun (_ : _ ≤ _) => ?_)); refine hK _ ?_; clear hK K)
    refine hK11 _ ?_
    refine Sm.block ?_
    obtain ⟨y12, hy12, Ho12⟩ := bind_some H
    refine Sm.loopB (fun (x : (List Bool) × Int) => ref20_Free_b2 n n_ r2 x.1 x.2) (fun x => ref20_Free_t2 n_ r2 x.1 x.2) hy12 ?_ ?_
    · exact weak_b [some 80, some 96] rfl rfl rfl (by simp only [wk, z, seval]) (by simp only [wk, z, seval])
    rintro ⟨out, k⟩ z12 H
    try dsimp only at H
    unfold ref20_Free_b2 at H
    refine Sm.seqK fun K13 hK13 => ?_
    refine Sm.seqA h00 mixed hΓ (by kernel_rfl) fun K14 hK14 => ?_
    simp only [rs]
    repeat (refine opsG fun K hK => ?_; simp only [z, seval, ref20_Free_t2]; (repeat (first | refine gcI ?_ | refine fun (_ : _ ≤ _) => ?_)); refine hK _ ?_; clear hK K)
    refine hK14 _ ?_
    refine Sm.condK (by rfl) fun Ka Kb ha hb => ?_
    simp only [wpCond, z, seval, ref20_Free_t2]
    refine ⟨fun h15 => ha ?_, fun h15 => hb ?_⟩
    · replace H := bif_t h15 H
      refine Sm.skip ?_
      refine hK13 _ ?_
      refine Sm.seqK fun K16 hK16 => ?_
      refine Sm.block ?_
      obtain ⟨⟨hg17, hg18, hg19, hg20⟩, H⟩ := gd_some H
      refine Sm.regA h00 mixed hΓ (by kernel_rfl) ?_
      simp only [rs]
      repeat (refine opsG fun K hK => ?_; simp only [z, seval, ref20_Free_t2]; (repeat (first | refine gcI ?_ | refine fun (_ : _ ≤ _) => ?_)); refine hK _ ?_; clear hK K)
      refine opsG0 ?_
      refine hK16 _ ?_
      refine Sm.regA h00 mixed hΓ (by kernel_rfl) ?_
      simp only [rs]
      repeat (refine opsG fun K hK => ?_; simp only [z, seval, ref20_Free_t2]; (repeat (first | refine gcI ?_ | refine fun (_ : _ ≤ _) => ?_)); refine hK _ ?_; clear hK K)
      refine opsG0 ?_
      try simp only [seval, Exit.exit.injEq]
      refine ⟨(_, _), (Option.some.inj H).symm, ?_⟩
      exact weak_b [some 9003, some 9004] rfl rfl rfl (by simp only [wk, z, seval, ref20_Free_t2]) (by simp only [wk, z, seval, ref20_Free_t2])
    replace H := bif_f h15 H
    refine Sm.exit ?_
    try simp only [seval, Exit.exit.injEq]
    refine ⟨⟨_, (Option.some.inj H).symm⟩, fun hz => ?_⟩
    have hyy := Sum.inr.inj ((Option.some.inj H).trans hz)
    subst hyy
    have H := Ho12
    try dsimp only at H
    try simp only [seval, Exit.exit.injEq]
    refine ⟨_, H, ?_⟩
    exact weak_b [some 9004] rfl rfl rfl (by simp only [wk, z, seval, ref20_Free_t2]) (by simp only [wk, z, seval, ref20_Free_t2])
  rintro out H
  try dsimp only at H
  unfold ref20_Free_k1 at H
  refine Sm.seqX h00 mixed hΓ (by kernel_rfl) fun K9 hK9 => ?_
  simp only [rs]
  obtain ⟨hg10, H⟩ := gd_some H
  obtain ⟨r3, hr3, H⟩ := bind_some H
  refine opsY fun K hK => ?_; simp only [z, seval, ref20_Free_s1, xref20_Valid, xref20_Set, xref20_Normal]; (repeat (first | refine gcI ?_ | refine fun (_ : _ ≤ _) => ?_)); refine hK _ ?_; clear hK K
  iterate 2 (refine opsX fun K hK => ?_; simp only [z, seval, ref20_Free_s1, xref20_Valid, xref20_Set, xref20_Normal, hr3]; (repeat (first | refine gcI ?_ | refine fun (_ : _ ≤ _) => ?_)); refine hK _ ?_; clear hK K)
  refine hK9 _ ?_
  refine Sm.ret ?_
  try simp only [seval, Exit.exit.injEq]
  obtain rfl := Option.some.inj H
  refine Ret.ofR [some 528] (.inr rfl) ?_
  simp only [z, seval, ref20_Free_s1]

def law20_ExtentFree (n : Nat) (used : List TExtent) (n_ : Int) : Option Bool :=
  (extent_Free n used n_).bind fun r1 =>
  (ref20_Free n used n_).bind fun r2 =>
  (ref20_Same n r1 r2).bind fun r3 =>
  gd ((r3 = true → (law20_works n).isSome = true)) <|
  some (if r3 = true then ((law20_works n).getD default) else false)

def xlaw20_ExtentFree (n : Nat) : Go.AE.Fn := mkFn (A := (List TExtent) × Int) (R := Bool) 5 [(false, [.slice 43]), (false, [.int .i64])] false (fun xs => (((cg (xs.getD 0 []) 0).toSl.map d_TExtent), (cg (xs.getD 1 []) 0).toInt)) (fun a => [[.slice (List.map e_TExtent a.1)], [.int a.2]]) (fun a => law20_ExtentFree n a.1 a.2) (fun r => [.c .bool (.bool r)]) (fun r => [])

theorem claw20_ExtentFree (n : Nat) : Contract Try.prog (xlaw20_ExtentFree n) := by
  have hΓ : ∀ g, g ∈ ([xextent_Free n, xref20_Free n, xref20_Same n, xlaw20_works n] : List Go.AE.Fn) → Contract Try.prog g := by
    intro g hg; simp only [List.mem_cons, List.not_mem_nil, or_false] at hg; rcases hg with rfl | rfl | rfl | rfl; exact cextent_Free n; exact cref20_Free n; exact cref20_Same n; exact claw20_works n
  refine contract_f (Try.f5.body.getD .skip) h00 Try.func5 rfl (by intro args w; exact Try.call5 args w) (by decide) (by intro _ r; exact ⟨rfl, by simp⟩) ?_
  rintro ⟨used, n_⟩ r H
  try dsimp only at H
  unfold law20_ExtentFree at H
  simp only [Try.f5, Option.getD]
  refine Sm.seqA h00 mixed hΓ (by kernel_rfl) fun K1 hK1 => ?_
  simp only [rs]
  repeat (refine opsG fun K hK => ?_; simp only [z, seval]; (repeat (first | refine gcI ?_ | refine fun (_ : _ ≤ _) => ?_)); refine hK _ ?_; clear hK K)
  refine hK1 _ ?_
  obtain ⟨r1, hr1, H⟩ := bind_some H
  obtain ⟨r2, hr2, H⟩ := bind_some H
  obtain ⟨r3, hr3, H⟩ := bind_some H
  obtain ⟨hg3, H⟩ := gd_some H
  refine Sm.seqA h00 mixed hΓ (by kernel_rfl) fun K2 hK2 => ?_
  simp only [rs]
  repeat (refine opsG fun K hK => ?_; simp only [z, seval, xextent_Free, xref20_Free, xref20_Same, xlaw20_works, hr1, hr2, hr3]; (repeat (first | refine gcI ?_ | refine fun (_ : _ ≤ _) => ?_)); refine hK _ ?_; clear hK K)
  refine hK2 _ ?_
  refine Sm.ret ?_
  try simp only [seval, Exit.exit.injEq]
  obtain rfl := Option.some.inj H
  refine Ret.ofR [] (.inr rfl) ?_
  simp only [z, seval]

def extent_Overlap (n : Nat) (a : List TExtent) (b : List TExtent) : Option Bool :=
  (extent_Valid n a).bind fun r1 =>
  gd ((r1 = true → (extent_Valid n b).isSome = true)) <|
  bif (if r1 = true then ((extent_Valid n b).getD default) else false) then
    gd ((if r1 = true then ((extent_Valid n b).getD default) else false) = true) <|
    (slices_Clone_f33 n a).bind fun r2 =>
    gd ((r2.length + b.length) ≤ 2147483648) <|
    (extent_Valid n (r2 ++ b)).bind fun r3 =>
    some (!r3)
  else
    some false

def xextent_Overlap (n : Nat) : Go.AE.Fn := mkFn (A := (List TExtent) × (List TExtent)) (R := Bool) 25 [(false, [.slice 43]), (false, [.slice 43])] false (fun xs => (((cg (xs.getD 0 []) 0).toSl.map d_TExtent), ((cg (xs.getD 1 []) 0).toSl.map d_TExtent))) (fun a => [[.slice (List.map e_TExtent a.1)], [.slice (List.map e_TExtent a.2)]]) (fun a => extent_Overlap n a.1 a.2) (fun r => [.c .bool (.bool r)]) (fun r => [])

theorem cextent_Overlap (n : Nat) : Contract Try.prog (xextent_Overlap n) := by
  have hΓ : ∀ g, g ∈ ([xextent_Valid n, xslices_Clone_f33 n] : List Go.AE.Fn) → Contract Try.prog g := by
    intro g hg; simp only [List.mem_cons, List.not_mem_nil, or_false] at hg; rcases hg with rfl | rfl; exact cextent_Valid n; exact cslices_Clone_f33 n
  refine contract_f (Try.f25.body.getD .skip) h00 Try.func25 rfl (by intro args w; exact Try.call25 args w) (by decide) (by intro _ r; exact ⟨rfl, by simp⟩) ?_
  rintro ⟨a, b⟩ r H
  try dsimp only at H
  unfold extent_Overlap at H
  simp only [Try.f25, Option.getD]
  refine Sm.seqA h00 mixed hΓ (by kernel_rfl) fun K1 hK1 => ?_
  simp only [rs]
  repeat (refine opsG fun K hK => ?_; simp only [z, seval]; (repeat (first | refine gcI ?_ | refine fun (_ : _ ≤ _) => ?_)); refine hK _ ?_; clear hK K)
  refine hK1 _ ?_
  refine Sm.seqX h00 mixed hΓ (by kernel_rfl) fun K2 hK2 => ?_
  simp only [rs]
  obtain ⟨r1, hr1, H⟩ := bind_some H
  obtain ⟨hg3, H⟩ := gd_some H
  (refine opsX fun K hK => ?_; simp only [z, seval, xextent_Valid, xslices_Clone_f33]; (repeat (first | refine gcI ?_ | refine fun (_ : _ ≤ _) => ?_)); refine hK _ ?_; clear hK K)
  iterate 7 (refine opsX fun K hK => ?_; simp only [z, seval, xextent_Valid, xslices_Clone_f33, hr1]; (repeat (first | refine gcI ?_ | refine fun (_ : _ ≤ _) => ?_)); refine hK _ ?_; clear hK K)
  refine bif_cases H (fun hs4 H => ?_) (fun hs4 H => ?_)
  · obtain ⟨hg5, H⟩ := gd_some H
    obtain ⟨r2, hr2, H⟩ := bind_some H
    obtain ⟨hg6, H⟩ := gd_some H
    obtain ⟨r3, hr3, H⟩ := bind_some H
    refine opsTG rfl (by simp only [z, seval, xextent_Valid, xslices_Clone_f33, hr1, hs4, hr2]) fun K hK => ?_; simp only [z, seval, xextent_Valid, xslices_Clone_f33, hr1, hs4, hr2]; (repeat (first | refine gcI ?_ | refine fun (_ : _ ≤ _) => ?_)); refine hK _ ?_; clear hK K
    refine opsTG rfl (by simp only [z, seval, xextent_Valid, xslices_Clone_f33, hr1, hs4, hr2]) fun K hK => ?_; simp only [z, seval, xextent_Valid, xslices_Clone_f33, hr1, hs4, hr2]; (repeat (first | refine gcI ?_ | refine fun (_ : _ ≤ _) => ?_)); refine hK _ ?_; clear hK K
    refine opsTG rfl (by simp only [z, seval, xextent_Valid, xslices_Clone_f33, hr1, hs4, hr2]) fun K hK => ?_; simp only [z, seval, xextent_Valid, xslices_Clone_f33, hr1, hs4, hr2]; (repeat (first | refine gcI ?_ | refine fun (_ : _ ≤ _) => ?_)); refine hK _ ?_; clear hK K
    refine opsTG rfl (by simp only [z, seval, xextent_Valid, xslices_Clone_f33, hr1, hs4, hr2, hr3]) fun K hK => ?_; simp only [z, seval, xextent_Valid, xslices_Clone_f33, hr1, hs4, hr2, hr3]; (repeat (first | refine gcI ?_ | refine fun (_ : _ ≤ _) => ?_)); refine hK _ ?_; clear hK K
    refine opsTG rfl (by simp only [z, seval, xextent_Valid, xslices_Clone_f33, hr1, hs4, hr2, hr3]) fun K hK => ?_; simp only [z, seval, xextent_Valid, xslices_Clone_f33, hr1, hs4, hr2, hr3]; (repeat (first | refine gcI ?_ | refine fun (_ : _ ≤ _) => ?_)); refine hK _ ?_; clear hK K
    refine opsP fun K hK => ?_; simp only [z, seval, xextent_Valid, xslices_Clone_f33, hr1, hs4, hr2, hr3]; (repeat (first | refine gcI ?_ | refine fun (_ : _ ≤ _) => ?_)); refine Or.inl ?_; (repeat (first | refine gcI ?_ | refine fun (_ : _ ≤ _) => ?_)); refine hK _ ?_; clear hK K
    (refine opsX fun K hK => ?_; simp only [z, seval, xextent_Valid, xslices_Clone_f33, hr1, hs4, hr2, hr3]; (repeat (first | refine gcI ?_ | refine fun (_ : _ ≤ _) => ?_)); refine hK _ ?_; clear hK K)
    refine hK2 _ ?_
    refine Sm.ret ?_
    try simp only [seval, Exit.exit.injEq]
    obtain rfl := Option.some.inj H
    refine Ret.ofR [] (.inr rfl) ?_
    simp only [z, seval]
  refine opsF rfl (by simp only [z, seval, xextent_Valid, xslices_Clone_f33, hr1, hs4]) ?_
  refine opsF rfl (by simp only [z, seval, xextent_Valid, xslices_Clone_f33, hr1, hs4]) ?_
  refine opsF rfl (by simp only [z, seval, xextent_Valid, xslices_Clone_f33, hr1, hs4]) ?_
  refine opsF rfl (by simp only [z, seval, xextent_Valid, xslices_Clone_f33, hr1, hs4]) ?_
  refine opsF rfl (by simp only [z, seval, xextent_Valid, xslices_Clone_f33, hr1, hs4]) ?_
  refine opsP fun K hK => ?_; simp only [z, seval, xextent_Valid, xslices_Clone_f33, hr1, hs4]; (repeat (first | refine gcI ?_ | refine fun (_ : _ ≤ _) => ?_)); refine Or.inr ?_; (repeat (first | refine gcI ?_ | refine fun (_ : _ ≤ _) => ?_)); refine hK _ ?_; clear hK K
  (refine opsX fun K hK => ?_; simp only [z, seval, xextent_Valid, xslices_Clone_f33, hr1, hs4]; (repeat (first | refine gcI ?_ | refine fun (_ : _ ≤ _) => ?_)); refine hK _ ?_; clear hK K)
  refine hK2 _ ?_
  refine Sm.ret ?_
  try simp only [seval, Exit.exit.injEq]
  obtain rfl := Option.some.inj H
  refine Ret.ofR [] (.inr rfl) ?_
  simp only [z, seval]

abbrev extent_Give_s1 (out : List TExtent) : S := stB [(6, .own 9000 [.int .i64, .int .i64] 0 out.length)] [(9000, .row 43 (List.map e_TExtent out))]

def extent_Give_k1 (n : Nat) (out : List TExtent) : Option ((List TExtent) × Int) :=
  some (out, 0)

abbrev extent_Give_s3 (out_1 : List TExtent) (v27 : List TExtent) (v28 : Int) (v29 : Int) : S := stB [(6, .own 9003 [.int .i64, .int .i64] 0 out_1.length), (27, .c (.slice 43) (.slice (List.map e_TExtent v27))), (28, .c (.int .i64) (.int v28)), (29, .c (.int .i64) (.int v29))] [(9003, .row 43 (List.map e_TExtent out_1))]

def extent_Give_k3 (n : Nat) (out_1 : List TExtent) (v27 : List TExtent) (v28 : Int) (v29 : Int) : Option (((List TExtent) × Int) ⊕ (((List TExtent)))) :=
  some (.inl (out_1, (IntKind.wrap .i64 (v29 + 1))))

abbrev extent_Give_t2 (v27 : List TExtent) (v28 : Int) (out : List TExtent) (v29 : Int) : S := stB [(6, .own 9002 [.int .i64, .int .i64] 0 out.length), (27, .c (.slice 43) (.slice (List.map e_TExtent v27))), (28, .c (.int .i64) (.int v28)), (29, .c (.int .i64) (.int v29))] [(9002, .row 43 (List.map e_TExtent out))]

def extent_Give_b2 (n : Nat) (v27 : List TExtent) (v28 : Int) (out : List TExtent) (v29 : Int) : Option (((List TExtent) × Int) ⊕ (((List TExtent)))) :=
  bif (decide (v29 < v28)) then
    gd ((0 ≤ v29 ∧ v29 < (v27.length : Int))) <|
    gd (((decide (((out.length : Nat) : Int) > 0)) = true → (0 ≤ (IntKind.wrap .i64 (((out.length : Nat) : Int) - 1)) ∧ (IntKind.wrap .i64 (((out.length : Nat) : Int) - 1)) < (out.length : Int))) ∧ ((decide (((out.length : Nat) : Int) > 0)) = true → (Int.toNat (IntKind.wrap .i64 (((out.length : Nat) : Int) - 1))) < out.length) ∧ ((decide (((out.length : Nat) : Int) > 0)) = true → (0 ≤ (IntKind.wrap .i64 (((out.length : Nat) : Int) - 1)) ∧ (IntKind.wrap .i64 (((out.length : Nat) : Int) - 1)) < (out.length : Int))) ∧ ((decide (((out.length : Nat) : Int) > 0)) = true → (Int.toNat (IntKind.wrap .i64 (((out.length : Nat) : Int) - 1))) < out.length)) <|
    bif (if (decide (((out.length : Nat) : Int) > 0)) = true then ((IntKind.wrap .i64 (((gt out (Int.toNat (IntKind.wrap .i64 (((out.length : Nat) : Int) - 1)))).At) + ((gt out (Int.toNat (IntKind.wrap .i64 (((out.length : Nat) : Int) - 1)))).Len))) == ((gt v27 (Int.toNat v29)).At)) else false) then
      gd ((0 ≤ (IntKind.wrap .i64 (((out.length : Nat) : Int) - 1)) ∧ (IntKind.wrap .i64 (((out.length : Nat) : Int) - 1)) < (out.length : Int)) ∧ (Int.toNat (IntKind.wrap .i64 (((out.length : Nat) : Int) - 1))) < out.length ∧ (0 ≤ (IntKind.wrap .i64 (((out.length : Nat) : Int) - 1)) ∧ (IntKind.wrap .i64 (((out.length : Nat) : Int) - 1)) < (out.length : Int)) ∧ (Int.toNat (IntKind.wrap .i64 (((out.length : Nat) : Int) - 1))) < out.length) <|
      extent_Give_k3 n (List.set out (Int.toNat (IntKind.wrap .i64 (((out.length : Nat) : Int) - 1))) (⟨(gt out (Int.toNat (IntKind.wrap .i64 (((out.length : Nat) : Int) - 1)))).At, (IntKind.wrap .i64 (((gt out (Int.toNat (IntKind.wrap .i64 (((out.length : Nat) : Int) - 1)))).Len) + ((gt v27 (Int.toNat v29)).Len)))⟩ : TExtent)) v27 v28 v29
    else
      gd ((out.length + 1) ≤ 2147483648) <|
      extent_Give_k3 n (out ++ [(gt v27 (Int.toNat v29))]) v27 v28 v29
  else
    some (.inr out)

def extent_Give (n : Nat) (free : List TExtent) (back : List TExtent) : Option ((List TExtent) × Int) :=
  (extent_Check n free 512).bind fun r1 =>
  gd (((!(!r1)) = true → (extent_Valid n back).isSome = true) ∧ ((!(if (!r1) = true then true else (!((extent_Valid n back).getD default)))) = true → (extent_Overlap n free back).isSome = true)) <|
  bif (if (if (!r1) = true then true else (!((extent_Valid n back).getD default))) = true then true else ((extent_Overlap n free back).getD default)) then
    some ([], 1)
  else
    (slices_Clone_f33 n free).bind fun r2 =>
    gd ((r2.length + back.length) ≤ 2147483648) <|
    (extent_sorted n (r2 ++ back)).bind fun r3 =>
    (loopF (fun (x : (List TExtent) × Int) => extent_Give_b2 n r3 (r3.length : Int) x.1 x.2) n ([], 0)).bind fun y9 =>
    extent_Give_k1 n y9

def xextent_Give (n : Nat) : Go.AE.Fn := mkFn (A := (List TExtent) × (List TExtent)) (R := (List TExtent) × Int) 22 [(false, [.slice 43]), (false, [.slice 43])] false (fun xs => (((cg (xs.getD 0 []) 0).toSl.map d_TExtent), ((cg (xs.getD 1 []) 0).toSl.map d_TExtent))) (fun a => [[.slice (List.map e_TExtent a.1)], [.slice (List.map e_TExtent a.2)]]) (fun a => extent_Give n a.1 a.2) (fun r => [.own 0 [.int .i64, .int .i64] 0 r.1.length, .c (.int .i64) (.int r.2)]) (fun r => [.row 43 (List.map e_TExtent r.1)])

theorem cextent_Give (n : Nat) : Contract Try.prog (xextent_Give n) := by
  have hΓ : ∀ g, g ∈ ([xextent_Check n, xextent_Valid n, xextent_Overlap n, xslices_Clone_f33 n, xextent_sorted n] : List Go.AE.Fn) → Contract Try.prog g := by
    intro g hg; simp only [List.mem_cons, List.not_mem_nil, or_false] at hg; rcases hg with rfl | rfl | rfl | rfl | rfl; exact cextent_Check n; exact cextent_Valid n; exact cextent_Overlap n; exact cslices_Clone_f33 n; exact cextent_sorted n
  refine contract_f (Try.f22.body.getD .skip) h00 Try.func22 rfl (by intro args w; exact Try.call22 args w) (by decide) (by
    intro _ r; refine ⟨rfl, ?_⟩; simp only [List.mem_cons, List.not_mem_nil, or_false]; rintro _ rfl
    · exact ⟨43, _, _, rfl, ty43, rfl⟩) ?_
  rintro ⟨free, back⟩ r H
  try dsimp only at H
  unfold extent_Give at H
  simp only [Try.f22, Option.getD]
  refine Sm.seqA h00 mixed hΓ (by kernel_rfl) fun K1 hK1 => ?_
  simp only [rs]
  repeat (refine opsG fun K hK => ?_; simp only [z, seval]; (repeat (first | refine gcI ?_ | refine fun (_ : _ ≤ _) => ?_)); refine hK _ ?_; clear hK K)
  refine hK1 _ ?_
  refine Sm.seqK fun K2 hK2 => ?_
  obtain ⟨r1, hr1, H⟩ := bind_some H
  obtain ⟨⟨hg28, hg29⟩, H⟩ := gd_some H
  refine Sm.seqA h00 mixed hΓ (by kernel_rfl) fun K3 hK3 => ?_
  simp only [rs]
  repeat (refine opsG fun K hK => ?_; simp only [z, seval, xextent_Check, xextent_Valid, xextent_Overlap, hr1]; (repeat (first | refine gcI ?_ | refine fun (_ : _ ≤ _) => ?_)); refine hK _ ?_; clear hK K)
  refine hK3 _ ?_
  refine Sm.condK (by rfl) fun Ka Kb ha hb => ?_
  simp only [wpCond, z, seval]
  refine ⟨fun h4 => ha ?_, fun h4 => hb ?_⟩
  · replace H := bif_t h4 H
    refine Sm.seqA h00 mixed hΓ (by kernel_rfl) fun K5 hK5 => ?_
    simp only [rs]
    repeat (refine opsG fun K hK => ?_; simp only [z, seval]; (repeat (first | refine gcI ?_ | refine fun (_ : _ ≤ _) => ?_)); refine hK _ ?_; clear hK K)
    refine hK5 _ ?_
    refine Sm.ret ?_
    try simp only [seval, Exit.exit.injEq]
    obtain rfl := Option.some.inj H
    refine Ret.ofR [none] (.inr rfl) ?_
    simp only [z, seval]
  replace H := bif_f h4 H
  refine Sm.skip ?_
  refine hK2 _ ?_
  refine Sm.seqA h00 mixed hΓ (by kernel_rfl) fun K6 hK6 => ?_
  simp only [rs]
  repeat (refine opsG fun K hK => ?_; simp only [z, seval]; (repeat (first | refine gcI ?_ | refine fun (_ : _ ≤ _) => ?_)); refine hK _ ?_; clear hK K)
  refine hK6 _ ?_
  refine Sm.cut (fun (x : (List TExtent)) => extent_Give_s1 x) (fun x => extent_Give_k1 n x = some r) ?_ ?_
  · obtain ⟨r2, hr2, H⟩ := bind_some H
    obtain ⟨hg27, H⟩ := gd_some H
    obtain ⟨r3, hr3, H⟩ := bind_some H
    refine Sm.seqA h00 mixed hΓ (by kernel_rfl) fun K8 hK8 => ?_
    simp only [rs]
    repeat (refine opsG fun K hK => ?_; simp only [z, seval, xextent_Check, xextent_Valid, xextent_Overlap, xslices_Clone_f33, xextent_sorted, hr2, hr3]; (repeat (first | refine gcI ?_ | refine fun (_ : _ ≤ _) => ?_)); refine hK _ ?_; clear hK K)
    refine hK8 _ ?_
    refine Sm.block ?_
    obtain ⟨y9, hy9, Ho9⟩ := bind_some H
    refine Sm.loopB (fun (x : (List TExtent) × Int) => extent_Give_b2 n r3 (r3.length : Int) x.1 x.2) (fun x => extent_Give_t2 r3 (r3.length : Int) x.1 x.2) hy9 ?_ ?_
    · exact weak_b [none] rfl rfl rfl (by simp only [wk, z, seval]) (by simp only [wk, z, seval])
    rintro ⟨out, v29⟩ z9 H
    try dsimp only at H
    unfold extent_Give_b2 at H
    refine Sm.seqA h00 mixed hΓ (by kernel_rfl) fun K10 hK10 => ?_
    simp only [rs]
    repeat (refine opsG fun K hK => ?_; simp only [z, seval, extent_Give_t2]; (repeat (first | refine gcI ?_ | refine fun (_ : _ ≤ _) => ?_)); refine hK _ ?_; clear hK K)
    refine hK10 _ ?_
    refine Sm.seqK fun K11 hK11 => ?_
    refine Sm.condK (by rfl) fun Ka Kb ha hb => ?_
    simp only [wpCond, z, seval, extent_Give_t2]
    refine ⟨fun h12 => ha ?_, fun h12 => hb ?_⟩
    · replace H := bif_t h12 H
      refine Sm.skip ?_
      refine hK11 _ ?_
      refine Sm.cut (fun (x : (List TExtent)) => extent_Give_s3 x r3 (r3.length : Int) v29) (fun x => extent_Give_k3 n x r3 (r3.length : Int) v29 = some z9) ?_ ?_
      · refine Sm.block ?_
        obtain ⟨hg26, H⟩ := gd_some H
        refine Sm.seqA h00 mixed hΓ (by kernel_rfl) fun K13 hK13 => ?_
        simp only [rs]
        repeat (refine opsG fun K hK => ?_; simp only [z, seval, extent_Give_t2]; (repeat (first | refine gcI ?_ | refine fun (_ : _ ≤ _) => ?_)); refine hK _ ?_; clear hK K)
        refine hK13 _ ?_
        refine Sm.seqA h00 mixed hΓ (by kernel_rfl) fun K14 hK14 => ?_
        simp only [rs]
        repeat (refine opsG fun K hK => ?_; simp only [z, seval, extent_Give_t2]; (repeat (first | refine gcI ?_ | refine fun (_ : _ ≤ _) => ?_)); refine hK _ ?_; clear hK K)
        refine hK14 _ ?_
        obtain ⟨⟨hg22, hg23, hg24, hg25⟩, H⟩ := gd_some H
        refine Sm.seqD h00 mixed hΓ (by kernel_rfl) fun K15 hK15 => ?_
        simp only [rs]
        repeat (refine opsH fun K hK => ?_; simp only [z, seval, extent_Give_t2]; (repeat (first | refine gcI ?_ | refine fun (_ : _ ≤ _) => ?_)); refine hK _ ?_; clear hK K)
        refine hK15 _ ?_
        refine Sm.condK (by rfl) fun Ka Kb ha hb => ?_
        simp only [wpCond, z, seval, extent_Give_t2]
        refine ⟨fun h16 => ha ?_, fun h16 => hb ?_⟩
        · replace H := bif_t h16 H
          obtain ⟨⟨hg17, hg18, hg19, hg20⟩, H⟩ := gd_some H
          refine Sm.regD h00 mixed hΓ (by kernel_rfl) ?_
          simp only [rs]
          repeat (refine opsH fun K hK => ?_; simp only [z, seval, extent_Give_t2]; (repeat (first | refine gcI ?_ | refine fun (_ : _ ≤ _) => ?_)); refine hK _ ?_; clear hK K)
          refine opsH0 ?_
          try simp only [seval, Exit.exit.injEq]
          refine ⟨_, H, ?_⟩
          exact weak_b [some 9002] rfl rfl rfl (by simp only [wk, z, seval, extent_Give_t2]) (by simp only [wk, z, seval, extent_Give_t2])
        replace H := bif_f h16 H
        obtain ⟨hg21, H⟩ := gd_some H
        refine Sm.regA h00 mixed hΓ (by kernel_rfl) ?_
        simp only [rs]
        repeat (refine opsG fun K hK => ?_; simp only [z, seval, extent_Give_t2]; (repeat (first | refine gcI ?_ | refine fun (_ : _ ≤ _) => ?_)); refine hK _ ?_; clear hK K)
        refine opsG0 ?_
        try simp only [seval, Exit.exit.injEq]
        refine ⟨_, H, ?_⟩
        exact weak_b [some 1104] rfl rfl rfl (by simp only [wk, z, seval, extent_Give_t2]) (by simp only [wk, z, seval, extent_Give_t2])
      rintro out_1 H
      try dsimp only at H
      unfold extent_Give_k3 at H
      refine Sm.regA h00 mixed hΓ (by kernel_rfl) ?_
      simp only [rs]
      repeat (refine opsG fun K hK => ?_; simp only [z, seval, extent_Give_s3]; (repeat (first | refine gcI ?_ | refine fun (_ : _ ≤ _) => ?_)); refine hK _ ?_; clear hK K)
      refine opsG0 ?_
      try simp only [seval, Exit.exit.injEq]
      refine ⟨(_, _), (Option.some.inj H).symm, ?_⟩
      exact weak_b [some 9003] rfl rfl rfl (by simp only [wk, z, seval, extent_Give_s3]) (by simp only [wk, z, seval, extent_Give_s3])
    replace H := bif_f h12 H
    refine Sm.exit ?_
    try simp only [seval, Exit.exit.injEq]
    refine ⟨⟨_, (Option.some.inj H).symm⟩, fun hz => ?_⟩
    have hyy := Sum.inr.inj ((Option.some.inj H).trans hz)
    subst hyy
    have H := Ho9
    try dsimp only at H
    try simp only [seval, Exit.exit.injEq]
    refine ⟨_, H, ?_⟩
    exact weak_b [some 9002] rfl rfl rfl (by simp only [wk, z, seval, extent_Give_t2]) (by simp only [wk, z, seval, extent_Give_t2])
  rintro out H
  try dsimp only at H
  unfold extent_Give_k1 at H
  refine Sm.seqA h00 mixed hΓ (by kernel_rfl) fun K7 hK7 => ?_
  simp only [rs]
  repeat (refine opsG fun K hK => ?_; simp only [z, seval, extent_Give_s1]; (repeat (first | refine gcI ?_ | refine fun (_ : _ ≤ _) => ?_)); refine hK _ ?_; clear hK K)
  refine hK7 _ ?_
  refine Sm.ret ?_
  try simp only [seval, Exit.exit.injEq]
  obtain rfl := Option.some.inj H
  refine Ret.ofR [some 9000] (.inr rfl) ?_
  simp only [z, seval, extent_Give_s1]

abbrev ref20_Give_s1 (in_ : List Bool) : S := stB [(8, .elt 9000 1 [.bool] 0 0)] [(9000, .row 4 (List.map e_Bool in_))]

def ref20_Give_k1 (n : Nat) (in_ : List Bool) : Option ((List TExtent) × Int) :=
  gd (in_.length = 512) <|
  (ref20_Normal n in_).bind fun r4 =>
  some (r4, 0)

abbrev ref20_Give_t2 (t : List Int) (in_ : List Bool) (i : Int) : S := stB [(6, .own 9003 [.int .i64] 0 t.length), (8, .elt 9004 1 [.bool] 0 0), (9, .c (.int .i64) (.int i))] [(9003, .row 3 (List.map e_Int t)), (9004, .row 4 (List.map e_Bool in_))]

def ref20_Give_b2 (n : Nat) (t : List Int) (in_ : List Bool) (i : Int) : Option (((List Bool) × Int) ⊕ ((((List TExtent) × Int) ⊕ ((List Bool))))) :=
  bif (decide (i < ((t.length : Nat) : Int))) then
    gd ((0 ≤ i ∧ i < (t.length : Int)) ∧ (Int.toNat i) < t.length ∧ (0 ≤ (gt t (Int.toNat i)) ∧ (gt t (Int.toNat i)) < 512 ∧ in_.length = 512) ∧ (Int.toNat (gt t (Int.toNat i))) < in_.length) <|
    bif (gt in_ (Int.toNat (gt t (Int.toNat i)))) then
      some (.inr (.inl ([], 1)))
    else
      gd ((0 ≤ i ∧ i < (t.length : Int)) ∧ (Int.toNat i) < t.length ∧ (0 ≤ (gt t (Int.toNat i)) ∧ (gt t (Int.toNat i)) < 512 ∧ in_.length = 512) ∧ (Int.toNat (gt t (Int.toNat i))) < in_.length) <|
      some (.inl ((List.set in_ (Int.toNat (gt t (Int.toNat i))) true), (IntKind.wrap .i64 (i + 1))))
  else
    some (.inr (.inr in_))

def ref20_Give (n : Nat) (free : List TExtent) (back : List TExtent) : Option ((List TExtent) × Int) :=
  (ref20_Tracks n back).bind fun r1 =>
  (ref20_Check n free 512).bind fun r2 =>
  bif (if (!r2) = true then true else (!r1.2)) then
    some ([], 1)
  else
    (ref20_Set n free).bind fun r3 =>
    gd (512 = 512) <|
    (loopF (fun (x : (List Bool) × Int) => ref20_Give_b2 n r1.1 x.1 x.2) n (r3, 0)).bind fun y12 =>
    match y12 with
    | .inl v =>
      some (v.1, v.2)
    | .inr v =>
      ref20_Give_k1 n v

def xref20_Give (n : Nat) : Go.AE.Fn := mkFn (A := (List TExtent) × (List TExtent)) (R := (List TExtent) × Int) 23 [(false, [.slice 43]), (false, [.slice 43])] false (fun xs => (((cg (xs.getD 0 []) 0).toSl.map d_TExtent), ((cg (xs.getD 1 []) 0).toSl.map d_TExtent))) (fun a => [[.slice (List.map e_TExtent a.1)], [.slice (List.map e_TExtent a.2)]]) (fun a => ref20_Give n a.1 a.2) (fun r => [.own 0 [.int .i64, .int .i64] 0 r.1.length, .c (.int .i64) (.int r.2)]) (fun r => [.row 43 (List.map e_TExtent r.1)])

theorem cref20_Give (n : Nat) : Contract Try.prog (xref20_Give n) := by
  have hΓ : ∀ g, g ∈ ([xref20_Tracks n, xref20_Check n, xref20_Set n, xref20_Normal n] : List Go.AE.Fn) → Contract Try.prog g := by
    intro g hg; simp only [List.mem_cons, List.not_mem_nil, or_false] at hg; rcases hg with rfl | rfl | rfl | rfl; exact cref20_Tracks n; exact cref20_Check n; exact cref20_Set n; exact cref20_Normal n
  refine contract_f (Try.f23.body.getD .skip) h00 Try.func23 rfl (by intro args w; exact Try.call23 args w) (by decide) (by
    intro _ r; refine ⟨rfl, ?_⟩; simp only [List.mem_cons, List.not_mem_nil, or_false]; rintro _ rfl
    · exact ⟨43, _, _, rfl, ty43, rfl⟩) ?_
  rintro ⟨free, back⟩ r H
  try dsimp only at H
  unfold ref20_Give at H
  simp only [Try.f23, Option.getD]
  refine Sm.seqA h00 mixed hΓ (by kernel_rfl) fun K1 hK1 => ?_
  simp only [rs]
  repeat (refine opsG fun K hK => ?_; simp only [z, seval]; (repeat (first | refine gcI ?_ | refine fun (_ : _ ≤ _) => ?_)); refine hK _ ?_; clear hK K)
  refine hK1 _ ?_
  obtain ⟨r1, hr1, H⟩ := bind_some H
  refine Sm.seqA h00 mixed hΓ (by kernel_rfl) fun K2 hK2 => ?_
  simp only [rs]
  repeat (refine opsG fun K hK => ?_; simp only [z, seval, xref20_Tracks, hr1]; (repeat (first | refine gcI ?_ | refine fun (_ : _ ≤ _) => ?_)); refine hK _ ?_; clear hK K)
  refine hK2 _ ?_
  refine Sm.seqK fun K3 hK3 => ?_
  obtain ⟨r2, hr2, H⟩ := bind_some H
  refine Sm.seqA h00 mixed hΓ (by kernel_rfl) fun K4 hK4 => ?_
  simp only [rs]
  repeat (refine opsG fun K hK => ?_; simp only [z, seval, xref20_Tracks, xref20_Check, hr2]; (repeat (first | refine gcI ?_ | refine fun (_ : _ ≤ _) => ?_)); refine hK _ ?_; clear hK K)
  refine hK4 _ ?_
  refine Sm.condK (by rfl) fun Ka Kb ha hb => ?_
  simp only [wpCond, z, seval]
  refine ⟨fun h5 => ha ?_, fun h5 => hb ?_⟩
  · replace H := bif_t h5 H
    refine Sm.seqA h00 mixed hΓ (by kernel_rfl) fun K6 hK6 => ?_
    simp only [rs]
    repeat (refine opsG fun K hK => ?_; simp only [z, seval]; (repeat (first | refine gcI ?_ | refine fun (_ : _ ≤ _) => ?_)); refine hK _ ?_; clear hK K)
    refine hK6 _ ?_
    refine Sm.ret ?_
    try simp only [seval, Exit.exit.injEq]
    obtain rfl := Option.some.inj H
    refine Ret.ofR [none] (.inr rfl) ?_
    simp only [z, seval]
  replace H := bif_f h5 H
  refine Sm.skip ?_
  refine hK3 _ ?_
  refine Sm.seqX h00 mixed hΓ (by kernel_rfl) fun K7 hK7 => ?_
  simp only [rs]
  obtain ⟨r3, hr3, H⟩ := bind_some H
  obtain ⟨hg8, H⟩ := gd_some H
  (refine opsX fun K hK => ?_; simp only [z, seval, xref20_Tracks, xref20_Check, xref20_Set]; (repeat (first | refine gcI ?_ | refine fun (_ : _ ≤ _) => ?_)); refine hK _ ?_; clear hK K)
  (refine opsX fun K hK => ?_; simp only [z, seval, xref20_Tracks, xref20_Check, xref20_Set, hr3]; (repeat (first | refine gcI ?_ | refine fun (_ : _ ≤ _) => ?_)); refine hK _ ?_; clear hK K)
  refine opsY fun K hK => ?_; simp only [z, seval, xref20_Tracks, xref20_Check, xref20_Set, hr3]; (repeat (first | refine gcI ?_ | refine fun (_ : _ ≤ _) => ?_)); refine hK _ ?_; clear hK K
  refine opsY fun K hK => ?_; simp only [z, seval, xref20_Tracks, xref20_Check, xref20_Set, hr3]; (repeat (first | refine gcI ?_ | refine fun (_ : _ ≤ _) => ?_)); refine hK _ ?_; clear hK K
  refine hK7 _ ?_
  refine Sm.cut (fun (x : (List Bool)) => ref20_Give_s1 x) (fun x => ref20_Give_k1 n x = some r) ?_ ?_
  · refine Sm.seqA h00 mixed hΓ (by kernel_rfl) fun K11 hK11 => ?_
    simp only [rs]
    repeat (refine opsG fun K hK => ?_; simp only [z, seval]; (repeat (first | refine gcI ?_ | refine fun (_ : _ ≤ _) => ?_)); refine hK _ ?_; clear hK K)
    refine hK11 _ ?_
    refine Sm.block ?_
    obtain ⟨y12, hy12, Ho12⟩ := bind_some H
    refine Sm.loopB (fun (x : (List Bool) × Int) => ref20_Give_b2 n r1.1 x.1 x.2) (fun x => ref20_Give_t2 r1.1 x.1 x.2) hy12 ?_ ?_
    · exact weak_b [some 192, some 128] rfl rfl rfl (by simp only [wk, z, seval]) (by simp only [wk, z, seval])
    rintro ⟨in_, i⟩ z12 H
    try dsimp only at H
    unfold ref20_Give_b2 at H
    refine Sm.seqK fun K13 hK13 => ?_
    refine Sm.seqA h00 mixed hΓ (by kernel_rfl) fun K14 hK14 => ?_
    simp only [rs]
    repeat (refine opsG fun K hK => ?_; simp only [z, seval, ref20_Give_t2]; (repeat (first | refine gcI ?_ | refine fun (_ : _ ≤ _) => ?_)); refine hK _ ?_; clear hK K)
    refine hK14 _ ?_
    refine Sm.condK (by rfl) fun Ka Kb ha hb => ?_
    simp only [wpCond, z, seval, ref20_Give_t2]
    refine ⟨fun h15 => ha ?_, fun h15 => hb ?_⟩
    · replace H := bif_t h15 H
      refine Sm.skip ?_
      refine hK13 _ ?_
      refine Sm.seqK fun K16 hK16 => ?_
      refine Sm.block ?_
      refine Sm.seqK fun K17 hK17 => ?_
      obtain ⟨⟨hg25, hg26, hg27, hg28⟩, H⟩ := gd_some H
      refine Sm.seqA h00 mixed hΓ (by kernel_rfl) fun K18 hK18 => ?_
      simp only [rs]
      repeat (refine opsG fun K hK => ?_; simp only [z, seval, ref20_Give_t2]; (repeat (first | refine gcI ?_ | refine fun (_ : _ ≤ _) => ?_)); refine hK _ ?_; clear hK K)
      refine hK18 _ ?_
      refine Sm.condK (by rfl) fun Ka Kb ha hb => ?_
      simp only [wpCond, z, seval, ref20_Give_t2]
      refine ⟨fun h19 => ha ?_, fun h19 => hb ?_⟩
      · replace H := bif_t h19 H
        refine Sm.seqA h00 mixed hΓ (by kernel_rfl) fun K20 hK20 => ?_
        simp only [rs]
        repeat (refine opsG fun K hK => ?_; simp only [z, seval, ref20_Give_t2]; (repeat (first | refine gcI ?_ | refine fun (_ : _ ≤ _) => ?_)); refine hK _ ?_; clear hK K)
        refine hK20 _ ?_
        refine Sm.ret ?_
        try simp only [seval, Exit.exit.injEq]
        refine ⟨⟨_, (Option.some.inj H).symm⟩, fun hz => ?_⟩
        have hyy := Sum.inr.inj ((Option.some.inj H).trans hz)
        subst hyy
        have H := Ho12
        try dsimp only at H
        try simp only [seval, Exit.exit.injEq]
        obtain rfl := Option.some.inj H
        refine Ret.ofR [none] (.inr rfl) ?_
        simp only [z, seval, ref20_Give_t2]
      replace H := bif_f h19 H
      refine Sm.skip ?_
      refine hK17 _ ?_
      obtain ⟨⟨hg21, hg22, hg23, hg24⟩, H⟩ := gd_some H
      refine Sm.regA h00 mixed hΓ (by kernel_rfl) ?_
      simp only [rs]
      repeat (refine opsG fun K hK => ?_; simp only [z, seval, ref20_Give_t2]; (repeat (first | refine gcI ?_ | refine fun (_ : _ ≤ _) => ?_)); refine hK _ ?_; clear hK K)
      refine opsG0 ?_
      refine hK16 _ ?_
      refine Sm.regA h00 mixed hΓ (by kernel_rfl) ?_
      simp only [rs]
      repeat (refine opsG fun K hK => ?_; simp only [z, seval, ref20_Give_t2]; (repeat (first | refine gcI ?_ | refine fun (_ : _ ≤ _) => ?_)); refine hK _ ?_; clear hK K)
      refine opsG0 ?_
      try simp only [seval, Exit.exit.injEq]
      refine ⟨(_, _), (Option.some.inj H).symm, ?_⟩
      exact weak_b [some 9003, some 9004] rfl rfl rfl (by simp only [wk, z, seval, ref20_Give_t2]) (by simp only [wk, z, seval, ref20_Give_t2])
    replace H := bif_f h15 H
    refine Sm.exit ?_
    try simp only [seval, Exit.exit.injEq]
    refine ⟨⟨_, (Option.some.inj H).symm⟩, fun hz => ?_⟩
    have hyy := Sum.inr.inj ((Option.some.inj H).trans hz)
    subst hyy
    have H := Ho12
    try dsimp only at H
    try simp only [seval, Exit.exit.injEq]
    refine ⟨_, H, ?_⟩
    exact weak_b [some 9004] rfl rfl rfl (by simp only [wk, z, seval, ref20_Give_t2]) (by simp only [wk, z, seval, ref20_Give_t2])
  rintro in_ H
  try dsimp only at H
  unfold ref20_Give_k1 at H
  refine Sm.seqX h00 mixed hΓ (by kernel_rfl) fun K9 hK9 => ?_
  simp only [rs]
  obtain ⟨hg10, H⟩ := gd_some H
  obtain ⟨r4, hr4, H⟩ := bind_some H
  refine opsY fun K hK => ?_; simp only [z, seval, ref20_Give_s1, xref20_Tracks, xref20_Check, xref20_Set, xref20_Normal]; (repeat (first | refine gcI ?_ | refine fun (_ : _ ≤ _) => ?_)); refine hK _ ?_; clear hK K
  iterate 3 (refine opsX fun K hK => ?_; simp only [z, seval, ref20_Give_s1, xref20_Tracks, xref20_Check, xref20_Set, xref20_Normal, hr4]; (repeat (first | refine gcI ?_ | refine fun (_ : _ ≤ _) => ?_)); refine hK _ ?_; clear hK K)
  refine hK9 _ ?_
  refine Sm.ret ?_
  try simp only [seval, Exit.exit.injEq]
  obtain rfl := Option.some.inj H
  refine Ret.ofR [some 672] (.inr rfl) ?_
  simp only [z, seval, ref20_Give_s1]

def law20_ExtentGives (n : Nat) (free : List TExtent) (back : List TExtent) : Option Bool :=
  (extent_Give n free back).bind fun r1 =>
  (ref20_Give n free back).bind fun r2 =>
  gd (((r1.2 == r2.2) = true → (ref20_Same n r1.1 r2.1).isSome = true) ∧ ((if (r1.2 == r2.2) = true then ((ref20_Same n r1.1 r2.1).getD default) else false) = true → (law20_works n).isSome = true)) <|
  some (if (if (r1.2 == r2.2) = true then ((ref20_Same n r1.1 r2.1).getD default) else false) = true then ((law20_works n).getD default) else false)

def xlaw20_ExtentGives (n : Nat) : Go.AE.Fn := mkFn (A := (List TExtent) × (List TExtent)) (R := Bool) 6 [(false, [.slice 43]), (false, [.slice 43])] false (fun xs => (((cg (xs.getD 0 []) 0).toSl.map d_TExtent), ((cg (xs.getD 1 []) 0).toSl.map d_TExtent))) (fun a => [[.slice (List.map e_TExtent a.1)], [.slice (List.map e_TExtent a.2)]]) (fun a => law20_ExtentGives n a.1 a.2) (fun r => [.c .bool (.bool r)]) (fun r => [])

theorem claw20_ExtentGives (n : Nat) : Contract Try.prog (xlaw20_ExtentGives n) := by
  have hΓ : ∀ g, g ∈ ([xextent_Give n, xref20_Give n, xref20_Same n, xlaw20_works n] : List Go.AE.Fn) → Contract Try.prog g := by
    intro g hg; simp only [List.mem_cons, List.not_mem_nil, or_false] at hg; rcases hg with rfl | rfl | rfl | rfl; exact cextent_Give n; exact cref20_Give n; exact cref20_Same n; exact claw20_works n
  refine contract_f (Try.f6.body.getD .skip) h00 Try.func6 rfl (by intro args w; exact Try.call6 args w) (by decide) (by intro _ r; exact ⟨rfl, by simp⟩) ?_
  rintro ⟨free, back⟩ r H
  try dsimp only at H
  unfold law20_ExtentGives at H
  simp only [Try.f6, Option.getD]
  refine Sm.seqA h00 mixed hΓ (by kernel_rfl) fun K1 hK1 => ?_
  simp only [rs]
  repeat (refine opsG fun K hK => ?_; simp only [z, seval]; (repeat (first | refine gcI ?_ | refine fun (_ : _ ≤ _) => ?_)); refine hK _ ?_; clear hK K)
  refine hK1 _ ?_
  obtain ⟨r1, hr1, H⟩ := bind_some H
  refine Sm.seqA h00 mixed hΓ (by kernel_rfl) fun K2 hK2 => ?_
  simp only [rs]
  repeat (refine opsG fun K hK => ?_; simp only [z, seval, xextent_Give, hr1]; (repeat (first | refine gcI ?_ | refine fun (_ : _ ≤ _) => ?_)); refine hK _ ?_; clear hK K)
  refine hK2 _ ?_
  obtain ⟨r2, hr2, H⟩ := bind_some H
  refine Sm.seqA h00 mixed hΓ (by kernel_rfl) fun K3 hK3 => ?_
  simp only [rs]
  repeat (refine opsG fun K hK => ?_; simp only [z, seval, xextent_Give, xref20_Give, hr2]; (repeat (first | refine gcI ?_ | refine fun (_ : _ ≤ _) => ?_)); refine hK _ ?_; clear hK K)
  refine hK3 _ ?_
  obtain ⟨⟨hg5, hg6⟩, H⟩ := gd_some H
  refine Sm.seqA h00 mixed hΓ (by kernel_rfl) fun K4 hK4 => ?_
  simp only [rs]
  repeat (refine opsG fun K hK => ?_; simp only [z, seval, xextent_Give, xref20_Give, xref20_Same, xlaw20_works]; (repeat (first | refine gcI ?_ | refine fun (_ : _ ≤ _) => ?_)); refine hK _ ?_; clear hK K)
  refine hK4 _ ?_
  refine Sm.ret ?_
  try simp only [seval, Exit.exit.injEq]
  obtain rfl := Option.some.inj H
  refine Ret.ofR [] (.inr rfl) ?_
  simp only [z, seval]

abbrev law20_longest_s1 (n_ : Int) : S := stB [(6, .c (.int .i64) (.int n_))] []

def law20_longest_k1 (n : Nat) (n_ : Int) : Option Int :=
  some n_

abbrev law20_longest_s3 (l : List TExtent) (most : Int) (used_1 : List Bool) (n__1 : Int) (k : Int) : S := stB [(0, .c (.slice 43) (.slice (List.map e_TExtent l))), (1, .c (.int .i64) (.int most)), (5, .own 9002 [.bool] 0 used_1.length), (6, .c (.int .i64) (.int n__1)), (7, .c (.int .i64) (.int k))] [(9002, .row 4 (List.map e_Bool used_1))]

def law20_longest_k3 (n : Nat) (l : List TExtent) (most : Int) (used_1 : List Bool) (n__1 : Int) (k : Int) : Option (((List Bool) × Int × Int) ⊕ ((Int))) :=
  some (.inl (used_1, n__1, (IntKind.wrap .i64 (k + 1))))

abbrev law20_longest_s4 (l : List TExtent) (most : Int) (used : List Bool) (n_ : Int) (k : Int) (best : Int) : S := stB [(0, .c (.slice 43) (.slice (List.map e_TExtent l))), (1, .c (.int .i64) (.int most)), (5, .own 9003 [.bool] 0 used.length), (6, .c (.int .i64) (.int n_)), (7, .c (.int .i64) (.int k)), (8, .c (.int .i64) (.int best))] [(9003, .row 4 (List.map e_Bool used))]

def law20_longest_k4 (n : Nat) (l : List TExtent) (most : Int) (used : List Bool) (n_ : Int) (k : Int) (best : Int) : Option (((List Bool) × Int × Int) ⊕ ((Int))) :=
  gd ((0 ≤ best ∧ best < (used.length : Int)) ∧ (Int.toNat best) < used.length) <|
  gd ((0 ≤ best ∧ best < (l.length : Int))) <|
  law20_longest_k3 n l most (List.set used (Int.toNat best) true) (IntKind.wrap .i64 (n_ + ((gt l (Int.toNat best)).Len))) k

abbrev law20_longest_s6 (l : List TExtent) (most : Int) (used : List Bool) (n_ : Int) (k : Int) (best_1 : Int) (i : Int) : S := stB [(0, .c (.slice 43) (.slice (List.map e_TExtent l))), (1, .c (.int .i64) (.int most)), (5, .own 9006 [.bool] 0 used.length), (6, .c (.int .i64) (.int n_)), (7, .c (.int .i64) (.int k)), (8, .c (.int .i64) (.int best_1)), (9, .c (.int .i64) (.int i))] [(9006, .row 4 (List.map e_Bool used))]

def law20_longest_k6 (n : Nat) (l : List TExtent) (most : Int) (used : List Bool) (n_ : Int) (k : Int) (best_1 : Int) (i : Int) : Option ((Int × Int) ⊕ ((Int))) :=
  some (.inl (best_1, (IntKind.wrap .i64 (i + 1))))

abbrev law20_longest_t5 (l : List TExtent) (most : Int) (used : List Bool) (n_ : Int) (k : Int) (best : Int) (i : Int) : S := stB [(0, .c (.slice 43) (.slice (List.map e_TExtent l))), (1, .c (.int .i64) (.int most)), (5, .own 9005 [.bool] 0 used.length), (6, .c (.int .i64) (.int n_)), (7, .c (.int .i64) (.int k)), (8, .c (.int .i64) (.int best)), (9, .c (.int .i64) (.int i))] [(9005, .row 4 (List.map e_Bool used))]

def law20_longest_b5 (n : Nat) (l : List TExtent) (most : Int) (used : List Bool) (n_ : Int) (k : Int) (best : Int) (i : Int) : Option ((Int × Int) ⊕ ((Int))) :=
  bif (decide (i < (l.length : Int))) then
    gd ((0 ≤ i ∧ i < (used.length : Int)) ∧ (Int.toNat i) < used.length ∧ (((!(gt used (Int.toNat i))) && (!(decide (best < 0)))) = true → (0 ≤ i ∧ i < (l.length : Int))) ∧ (((!(gt used (Int.toNat i))) && (!(decide (best < 0)))) = true → (0 ≤ best ∧ best < (l.length : Int))) ∧ (((!(gt used (Int.toNat i))) && !(decide (best < 0))) = true → ((!(gt used (Int.toNat i))) && (!(decide (best < 0)))) = true)) <|
    bif (if (!(gt used (Int.toNat i))) = true then (if (decide (best < 0)) = true then true else (decide (((gt l (Int.toNat i)).Len) > ((gt l (Int.toNat best)).Len)))) else false) then
      law20_longest_k6 n l most used n_ k i i
    else
      law20_longest_k6 n l most used n_ k best i
  else
    some (.inr best)

abbrev law20_longest_t2 (l : List TExtent) (most : Int) (used : List Bool) (n_ : Int) (k : Int) : S := stB [(0, .c (.slice 43) (.slice (List.map e_TExtent l))), (1, .c (.int .i64) (.int most)), (5, .own 9001 [.bool] 0 used.length), (6, .c (.int .i64) (.int n_)), (7, .c (.int .i64) (.int k))] [(9001, .row 4 (List.map e_Bool used))]

def law20_longest_b2 (n : Nat) (l : List TExtent) (most : Int) (used : List Bool) (n_ : Int) (k : Int) : Option (((List Bool) × Int × Int) ⊕ ((Int))) :=
  bif (if (decide (k < most)) = true then (decide (k < (l.length : Int))) else false) then
    (loopF (fun (x : Int × Int) => law20_longest_b5 n l most used n_ k x.1 x.2) n ((-1), 0)).bind fun y17 =>
    law20_longest_k4 n l most used n_ k y17
  else
    some (.inr n_)

def law20_longest (n : Nat) (l : List TExtent) (most : Int) : Option Int :=
  gd ((0 ≤ (l.length : Int) ∧ (l.length : Int) ≤ (l.length : Int) ∧ (l.length : Int) ≤ 2147483648)) <|
  (loopF (fun (x : (List Bool) × Int × Int) => law20_longest_b2 n l most x.1 x.2.1 x.2.2) n ((zreps (Int.toNat (l.length : Int)) false), 0, 0)).bind fun y7 =>
  law20_longest_k1 n y7

def xlaw20_longest (n : Nat) : Go.AE.Fn := mkFn (A := (List TExtent) × Int) (R := Int) 24 [(false, [.slice 43]), (false, [.int .i64])] false (fun xs => (((cg (xs.getD 0 []) 0).toSl.map d_TExtent), (cg (xs.getD 1 []) 0).toInt)) (fun a => [[.slice (List.map e_TExtent a.1)], [.int a.2]]) (fun a => law20_longest n a.1 a.2) (fun r => [.c (.int .i64) (.int r)]) (fun r => [])

theorem claw20_longest (n : Nat) : Contract Try.prog (xlaw20_longest n) := by
  have hΓ : ∀ g, g ∈ ([] : List Go.AE.Fn) → Contract Try.prog g := by simp
  refine contract_f (Try.f24.body.getD .skip) h00 Try.func24 rfl (by intro args w; exact Try.call24 args w) (by decide) (by intro _ r; exact ⟨rfl, by simp⟩) ?_
  rintro ⟨l, most⟩ r H
  try dsimp only at H
  unfold law20_longest at H
  simp only [Try.f24, Option.getD]
  refine Sm.seqA h00 mixed hΓ (by kernel_rfl) fun K1 hK1 => ?_
  simp only [rs]
  repeat (refine opsG fun K hK => ?_; simp only [z, seval]; (repeat (first | refine gcI ?_ | refine fun (_ : _ ≤ _) => ?_)); refine hK _ ?_; clear hK K)
  refine hK1 _ ?_
  refine Sm.seqX h00 mixed hΓ (by kernel_rfl) fun K2 hK2 => ?_
  simp only [rs]
  obtain ⟨hg3, H⟩ := gd_some H
  iterate 2 (refine opsX fun K hK => ?_; simp only [z, seval]; (repeat (first | refine gcI ?_ | refine fun (_ : _ ≤ _) => ?_)); refine hK _ ?_; clear hK K)
  refine opsY fun K hK => ?_; simp only [z, seval]; (repeat (first | refine gcI ?_ | refine fun (_ : _ ≤ _) => ?_)); refine hK _ ?_; clear hK K
  (refine opsX fun K hK => ?_; simp only [z, seval]; (repeat (first | refine gcI ?_ | refine fun (_ : _ ≤ _) => ?_)); refine hK _ ?_; clear hK K)
  refine hK2 _ ?_
  refine Sm.seqA h00 mixed hΓ (by kernel_rfl) fun K4 hK4 => ?_
  simp only [rs]
  repeat (refine opsG fun K hK => ?_; simp only [z, seval]; (repeat (first | refine gcI ?_ | refine fun (_ : _ ≤ _) => ?_)); refine hK _ ?_; clear hK K)
  refine hK4 _ ?_
  refine Sm.cut (fun (x : Int) => law20_longest_s1 x) (fun x => law20_longest_k1 n x = some r) ?_ ?_
  · refine Sm.seqA h00 mixed hΓ (by kernel_rfl) fun K6 hK6 => ?_
    simp only [rs]
    repeat (refine opsG fun K hK => ?_; simp only [z, seval]; (repeat (first | refine gcI ?_ | refine fun (_ : _ ≤ _) => ?_)); refine hK _ ?_; clear hK K)
    refine hK6 _ ?_
    refine Sm.block ?_
    obtain ⟨y7, hy7, Ho7⟩ := bind_some H
    refine Sm.loopB (fun (x : (List Bool) × Int × Int) => law20_longest_b2 n l most x.1 x.2.1 x.2.2) (fun x => law20_longest_t2 l most x.1 x.2.1 x.2.2) hy7 ?_ ?_
    · exact weak_b [some 192] rfl rfl rfl (by simp only [wk, z, seval]) (by simp only [wk, z, seval])
    rintro ⟨used, n_, k⟩ z7 H
    try dsimp only at H
    unfold law20_longest_b2 at H
    refine Sm.seqK fun K8 hK8 => ?_
    refine Sm.seqA h00 mixed hΓ (by kernel_rfl) fun K9 hK9 => ?_
    simp only [rs]
    repeat (refine opsG fun K hK => ?_; simp only [z, seval, law20_longest_t2]; (repeat (first | refine gcI ?_ | refine fun (_ : _ ≤ _) => ?_)); refine hK _ ?_; clear hK K)
    refine hK9 _ ?_
    refine Sm.condK (by rfl) fun Ka Kb ha hb => ?_
    simp only [wpCond, z, seval, law20_longest_t2]
    refine ⟨fun h10 => ha ?_, fun h10 => hb ?_⟩
    · replace H := bif_t h10 H
      refine Sm.skip ?_
      refine hK8 _ ?_
      refine Sm.cut (fun (x : (List Bool) × Int) => law20_longest_s3 l most x.1 x.2 k) (fun x => law20_longest_k3 n l most x.1 x.2 k = some z7) ?_ ?_
      · refine Sm.block ?_
        refine Sm.seqA h00 mixed hΓ (by kernel_rfl) fun K11 hK11 => ?_
        simp only [rs]
        repeat (refine opsG fun K hK => ?_; simp only [z, seval, law20_longest_t2]; (repeat (first | refine gcI ?_ | refine fun (_ : _ ≤ _) => ?_)); refine hK _ ?_; clear hK K)
        refine hK11 _ ?_
        refine Sm.cut (fun (x : Int) => law20_longest_s4 l most used n_ k x) (fun x => law20_longest_k4 n l most used n_ k x = some z7) ?_ ?_
        · refine Sm.seqA h00 mixed hΓ (by kernel_rfl) fun K16 hK16 => ?_
          simp only [rs]
          repeat (refine opsG fun K hK => ?_; simp only [z, seval, law20_longest_t2]; (repeat (first | refine gcI ?_ | refine fun (_ : _ ≤ _) => ?_)); refine hK _ ?_; clear hK K)
          refine hK16 _ ?_
          refine Sm.block ?_
          obtain ⟨y17, hy17, Ho17⟩ := bind_some H
          refine Sm.loopB (fun (x : Int × Int) => law20_longest_b5 n l most used n_ k x.1 x.2) (fun x => law20_longest_t5 l most used n_ k x.1 x.2) hy17 ?_ ?_
          · exact weak_b [some 9001] rfl rfl rfl (by simp only [wk, z, seval, law20_longest_t2]) (by simp only [wk, z, seval, law20_longest_t2])
          rintro ⟨best, i⟩ z17 H
          try dsimp only at H
          unfold law20_longest_b5 at H
          refine Sm.seqK fun K18 hK18 => ?_
          refine Sm.seqA h00 mixed hΓ (by kernel_rfl) fun K19 hK19 => ?_
          simp only [rs]
          repeat (refine opsG fun K hK => ?_; simp only [z, seval, law20_longest_t5]; (repeat (first | refine gcI ?_ | refine fun (_ : _ ≤ _) => ?_)); refine hK _ ?_; clear hK K)
          refine hK19 _ ?_
          refine Sm.condK (by rfl) fun Ka Kb ha hb => ?_
          simp only [wpCond, z, seval, law20_longest_t5]
          refine ⟨fun h20 => ha ?_, fun h20 => hb ?_⟩
          · replace H := bif_t h20 H
            refine Sm.skip ?_
            refine hK18 _ ?_
            refine Sm.cut (fun (x : Int) => law20_longest_s6 l most used n_ k x i) (fun x => law20_longest_k6 n l most used n_ k x i = some z17) ?_ ?_
            · refine Sm.block ?_
              obtain ⟨⟨hg23, hg24, hg25, hg26, hg27⟩, H⟩ := gd_some H
              refine Sm.seqD h00 mixed hΓ (by kernel_rfl) fun K21 hK21 => ?_
              simp only [rs]
              repeat (refine opsH fun K hK => ?_; simp only [z, seval, law20_longest_t5]; (repeat (first | refine gcI ?_ | refine fun (_ : _ ≤ _) => ?_)); refine hK _ ?_; clear hK K)
              refine hK21 _ ?_
              refine Sm.condK (by rfl) fun Ka Kb ha hb => ?_
              simp only [wpCond, z, seval, law20_longest_t5]
              refine ⟨fun h22 => ha ?_, fun h22 => hb ?_⟩
              · replace H := bif_t h22 H
                refine Sm.regA h00 mixed hΓ (by kernel_rfl) ?_
                simp only [rs]
                repeat (refine opsG fun K hK => ?_; simp only [z, seval, law20_longest_t5]; (repeat (first | refine gcI ?_ | refine fun (_ : _ ≤ _) => ?_)); refine hK _ ?_; clear hK K)
                refine opsG0 ?_
                try simp only [seval, Exit.exit.injEq]
                refine ⟨_, H, ?_⟩
                exact weak_b [some 9005] rfl rfl rfl (by simp only [wk, z, seval, law20_longest_t5]) (by simp only [wk, z, seval, law20_longest_t5])
              replace H := bif_f h22 H
              refine Sm.skip ?_
              try simp only [seval, Exit.exit.injEq]
              refine ⟨_, H, ?_⟩
              exact weak_b [some 9005] rfl rfl rfl (by simp only [wk, z, seval, law20_longest_t5]) (by simp only [wk, z, seval, law20_longest_t5])
            rintro best_1 H
            try dsimp only at H
            unfold law20_longest_k6 at H
            refine Sm.regA h00 mixed hΓ (by kernel_rfl) ?_
            simp only [rs]
            repeat (refine opsG fun K hK => ?_; simp only [z, seval, law20_longest_s6]; (repeat (first | refine gcI ?_ | refine fun (_ : _ ≤ _) => ?_)); refine hK _ ?_; clear hK K)
            refine opsG0 ?_
            try simp only [seval, Exit.exit.injEq]
            refine ⟨(_, _), (Option.some.inj H).symm, ?_⟩
            exact weak_b [some 9006] rfl rfl rfl (by simp only [wk, z, seval, law20_longest_s6]) (by simp only [wk, z, seval, law20_longest_s6])
          replace H := bif_f h20 H
          refine Sm.exit ?_
          try simp only [seval, Exit.exit.injEq]
          refine ⟨⟨_, (Option.some.inj H).symm⟩, fun hz => ?_⟩
          have hyy := Sum.inr.inj ((Option.some.inj H).trans hz)
          subst hyy
          have H := Ho17
          try dsimp only at H
          try simp only [seval, Exit.exit.injEq]
          refine ⟨_, H, ?_⟩
          exact weak_b [some 9005] rfl rfl rfl (by simp only [wk, z, seval, law20_longest_t5]) (by simp only [wk, z, seval, law20_longest_t5])
        rintro best H
        try dsimp only at H
        unfold law20_longest_k4 at H
        obtain ⟨⟨hg14, hg15⟩, H⟩ := gd_some H
        refine Sm.seqA h00 mixed hΓ (by kernel_rfl) fun K12 hK12 => ?_
        simp only [rs]
        repeat (refine opsG fun K hK => ?_; simp only [z, seval, law20_longest_s4]; (repeat (first | refine gcI ?_ | refine fun (_ : _ ≤ _) => ?_)); refine hK _ ?_; clear hK K)
        refine hK12 _ ?_
        obtain ⟨hg13, H⟩ := gd_some H
        refine Sm.regA h00 mixed hΓ (by kernel_rfl) ?_
        simp only [rs]
        repeat (refine opsG fun K hK => ?_; simp only [z, seval, law20_longest_s4]; (repeat (first | refine gcI ?_ | refine fun (_ : _ ≤ _) => ?_)); refine hK _ ?_; clear hK K)
        refine opsG0 ?_
        try simp only [seval, Exit.exit.injEq]
        refine ⟨((List.set used (Int.toNat best) true), (IntKind.wrap .i64 (n_ + ((gt l (Int.toNat best)).Len)))), H, ?_⟩
        exact weak_b [some 9003] rfl rfl rfl (by simp only [wk, z, seval, law20_longest_s4]) (by simp only [wk, z, seval, law20_longest_s4])
      rintro ⟨used_1, n__1⟩ H
      try dsimp only at H
      unfold law20_longest_k3 at H
      refine Sm.regA h00 mixed hΓ (by kernel_rfl) ?_
      simp only [rs]
      repeat (refine opsG fun K hK => ?_; simp only [z, seval, law20_longest_s3]; (repeat (first | refine gcI ?_ | refine fun (_ : _ ≤ _) => ?_)); refine hK _ ?_; clear hK K)
      refine opsG0 ?_
      try simp only [seval, Exit.exit.injEq]
      refine ⟨(_, _, _), (Option.some.inj H).symm, ?_⟩
      exact weak_b [some 9002] rfl rfl rfl (by simp only [wk, z, seval, law20_longest_s3]) (by simp only [wk, z, seval, law20_longest_s3])
    replace H := bif_f h10 H
    refine Sm.exit ?_
    try simp only [seval, Exit.exit.injEq]
    refine ⟨⟨_, (Option.some.inj H).symm⟩, fun hz => ?_⟩
    have hyy := Sum.inr.inj ((Option.some.inj H).trans hz)
    subst hyy
    have H := Ho7
    try dsimp only at H
    try simp only [seval, Exit.exit.injEq]
    refine ⟨_, H, ?_⟩
    exact weak_b [] rfl rfl rfl (by simp only [wk, z, seval, law20_longest_t2]) (by simp only [wk, z, seval, law20_longest_t2])
  rintro n_ H
  try dsimp only at H
  unfold law20_longest_k1 at H
  refine Sm.seqA h00 mixed hΓ (by kernel_rfl) fun K5 hK5 => ?_
  simp only [rs]
  repeat (refine opsG fun K hK => ?_; simp only [z, seval, law20_longest_s1]; (repeat (first | refine gcI ?_ | refine fun (_ : _ ≤ _) => ?_)); refine hK _ ?_; clear hK K)
  refine hK5 _ ?_
  refine Sm.ret ?_
  try simp only [seval, Exit.exit.injEq]
  obtain rfl := Option.some.inj H
  refine Ret.ofR [] (.inr rfl) ?_
  simp only [z, seval, law20_longest_s1]

def law20_ExtentConserves (n : Nat) (free : List TExtent) (want : Int) (most : Int) : Option Bool :=
  (extent_Take n free want most).bind fun r1 =>
  bif (r1.2.2 == 1) then
    (extent_Check n free 512).bind fun r2 =>
    gd (((if (if (if (if (!r2) = true then true else (decide (want < 1))) = true then true else (decide (most < 1))) = true then (((r1.1.length : Nat) : Int) == 0) else false) = true then ((r1.2.1.length : Int) == 0) else false) = true → (law20_works n).isSome = true)) <|
    some (if (if (if (if (if (!r2) = true then true else (decide (want < 1))) = true then true else (decide (most < 1))) = true then (((r1.1.length : Nat) : Int) == 0) else false) = true then ((r1.2.1.length : Int) == 0) else false) = true then ((law20_works n).getD default) else false)
  else
    bif (r1.2.2 == 200) then
      (law20_longest n free most).bind fun r3 =>
      gd (((decide (r3 < want)) = true → (law20_works n).isSome = true)) <|
      some (if (decide (r3 < want)) = true then ((law20_works n).getD default) else false)
    else
      (extent_Give n r1.2.1 r1.1).bind fun r4 =>
      gd (((if (r1.2.2 == 0) = true then (r4.2 == 0) else false) = true → (extent_Total n r1.1).isSome = true) ∧ ((if (if (if (r1.2.2 == 0) = true then (r4.2 == 0) else false) = true then (((extent_Total n r1.1).getD default) == want) else false) = true then (decide (((r1.1.length : Nat) : Int) ≤ most)) else false) = true → (extent_Overlap n r1.1 r1.2.1).isSome = true) ∧ ((if (if (if (if (r1.2.2 == 0) = true then (r4.2 == 0) else false) = true then (((extent_Total n r1.1).getD default) == want) else false) = true then (decide (((r1.1.length : Nat) : Int) ≤ most)) else false) = true then (!((extent_Overlap n r1.1 r1.2.1).getD default)) else false) = true → (ref20_Same n r4.1 free).isSome = true) ∧ ((if (if (if (if (if (r1.2.2 == 0) = true then (r4.2 == 0) else false) = true then (((extent_Total n r1.1).getD default) == want) else false) = true then (decide (((r1.1.length : Nat) : Int) ≤ most)) else false) = true then (!((extent_Overlap n r1.1 r1.2.1).getD default)) else false) = true then ((ref20_Same n r4.1 free).getD default) else false) = true → (law20_works n).isSome = true)) <|
      some (if (if (if (if (if (if (r1.2.2 == 0) = true then (r4.2 == 0) else false) = true then (((extent_Total n r1.1).getD default) == want) else false) = true then (decide (((r1.1.length : Nat) : Int) ≤ most)) else false) = true then (!((extent_Overlap n r1.1 r1.2.1).getD default)) else false) = true then ((ref20_Same n r4.1 free).getD default) else false) = true then ((law20_works n).getD default) else false)

def xlaw20_ExtentConserves (n : Nat) : Go.AE.Fn := mkFn (A := (List TExtent) × Int × Int) (R := Bool) 7 [(false, [.slice 43]), (false, [.int .i64]), (false, [.int .i64])] false (fun xs => (((cg (xs.getD 0 []) 0).toSl.map d_TExtent), (cg (xs.getD 1 []) 0).toInt, (cg (xs.getD 2 []) 0).toInt)) (fun a => [[.slice (List.map e_TExtent a.1)], [.int a.2.1], [.int a.2.2]]) (fun a => law20_ExtentConserves n a.1 a.2.1 a.2.2) (fun r => [.c .bool (.bool r)]) (fun r => [])

theorem claw20_ExtentConserves (n : Nat) : Contract Try.prog (xlaw20_ExtentConserves n) := by
  have hΓ : ∀ g, g ∈ ([xextent_Take n, xextent_Check n, xlaw20_works n, xlaw20_longest n, xextent_Give n, xextent_Total n, xextent_Overlap n, xref20_Same n] : List Go.AE.Fn) → Contract Try.prog g := by
    intro g hg; simp only [List.mem_cons, List.not_mem_nil, or_false] at hg; rcases hg with rfl | rfl | rfl | rfl | rfl | rfl | rfl | rfl; exact cextent_Take n; exact cextent_Check n; exact claw20_works n; exact claw20_longest n; exact cextent_Give n; exact cextent_Total n; exact cextent_Overlap n; exact cref20_Same n
  refine contract_f (Try.f7.body.getD .skip) h00 Try.func7 rfl (by intro args w; exact Try.call7 args w) (by decide) (by intro _ r; exact ⟨rfl, by simp⟩) ?_
  rintro ⟨free, want, most⟩ r H
  try dsimp only at H
  unfold law20_ExtentConserves at H
  simp only [Try.f7, Option.getD]
  refine Sm.seqA h00 mixed hΓ (by kernel_rfl) fun K1 hK1 => ?_
  simp only [rs]
  repeat (refine opsG fun K hK => ?_; simp only [z, seval]; (repeat (first | refine gcI ?_ | refine fun (_ : _ ≤ _) => ?_)); refine hK _ ?_; clear hK K)
  refine hK1 _ ?_
  obtain ⟨r1, hr1, H⟩ := bind_some H
  refine Sm.seqA h00 mixed hΓ (by kernel_rfl) fun K2 hK2 => ?_
  simp only [rs]
  repeat (refine opsG fun K hK => ?_; simp only [z, seval, xextent_Take, hr1]; (repeat (first | refine gcI ?_ | refine fun (_ : _ ≤ _) => ?_)); refine hK _ ?_; clear hK K)
  refine hK2 _ ?_
  refine Sm.seqK fun K3 hK3 => ?_
  refine Sm.seqA h00 mixed hΓ (by kernel_rfl) fun K4 hK4 => ?_
  simp only [rs]
  repeat (refine opsG fun K hK => ?_; simp only [z, seval]; (repeat (first | refine gcI ?_ | refine fun (_ : _ ≤ _) => ?_)); refine hK _ ?_; clear hK K)
  refine hK4 _ ?_
  refine Sm.condK (by rfl) fun Ka Kb ha hb => ?_
  simp only [wpCond, z, seval]
  refine ⟨fun h5 => ha ?_, fun h5 => hb ?_⟩
  · replace H := bif_t h5 H
    obtain ⟨r2, hr2, H⟩ := bind_some H
    obtain ⟨hg7, H⟩ := gd_some H
    refine Sm.seqA h00 mixed hΓ (by kernel_rfl) fun K6 hK6 => ?_
    simp only [rs]
    repeat (refine opsG fun K hK => ?_; simp only [z, seval, xextent_Take, xextent_Check, xlaw20_works, hr2]; (repeat (first | refine gcI ?_ | refine fun (_ : _ ≤ _) => ?_)); refine hK _ ?_; clear hK K)
    refine hK6 _ ?_
    refine Sm.ret ?_
    try simp only [seval, Exit.exit.injEq]
    obtain rfl := Option.some.inj H
    refine Ret.ofR [] (.inr rfl) ?_
    simp only [z, seval]
  replace H := bif_f h5 H
  refine Sm.skip ?_
  refine hK3 _ ?_
  refine Sm.seqK fun K8 hK8 => ?_
  refine Sm.seqA h00 mixed hΓ (by kernel_rfl) fun K9 hK9 => ?_
  simp only [rs]
  repeat (refine opsG fun K hK => ?_; simp only [z, seval]; (repeat (first | refine gcI ?_ | refine fun (_ : _ ≤ _) => ?_)); refine hK _ ?_; clear hK K)
  refine hK9 _ ?_
  refine Sm.condK (by rfl) fun Ka Kb ha hb => ?_
  simp only [wpCond, z, seval]
  refine ⟨fun h10 => ha ?_, fun h10 => hb ?_⟩
  · replace H := bif_t h10 H
    obtain ⟨r3, hr3, H⟩ := bind_some H
    obtain ⟨hg12, H⟩ := gd_some H
    refine Sm.seqA h00 mixed hΓ (by kernel_rfl) fun K11 hK11 => ?_
    simp only [rs]
    repeat (refine opsG fun K hK => ?_; simp only [z, seval, xextent_Take, xextent_Check, xlaw20_works, xlaw20_longest, hr3]; (repeat (first | refine gcI ?_ | refine fun (_ : _ ≤ _) => ?_)); refine hK _ ?_; clear hK K)
    refine hK11 _ ?_
    refine Sm.ret ?_
    try simp only [seval, Exit.exit.injEq]
    obtain rfl := Option.some.inj H
    refine Ret.ofR [] (.inr rfl) ?_
    simp only [z, seval]
  replace H := bif_f h10 H
  refine Sm.skip ?_
  refine hK8 _ ?_
  obtain ⟨r4, hr4, H⟩ := bind_some H
  refine Sm.seqA h00 mixed hΓ (by kernel_rfl) fun K13 hK13 => ?_
  simp only [rs]
  repeat (refine opsG fun K hK => ?_; simp only [z, seval, xextent_Take, xextent_Check, xlaw20_works, xlaw20_longest, xextent_Give, hr4]; (repeat (first | refine gcI ?_ | refine fun (_ : _ ≤ _) => ?_)); refine hK _ ?_; clear hK K)
  refine hK13 _ ?_
  obtain ⟨⟨hg15, hg16, hg17, hg18⟩, H⟩ := gd_some H
  refine Sm.seqA h00 mixed hΓ (by kernel_rfl) fun K14 hK14 => ?_
  simp only [rs]
  repeat (refine opsG fun K hK => ?_; simp only [z, seval, xextent_Take, xextent_Check, xlaw20_works, xlaw20_longest, xextent_Give, xextent_Total, xextent_Overlap, xref20_Same]; (repeat (first | refine gcI ?_ | refine fun (_ : _ ≤ _) => ?_)); refine hK _ ?_; clear hK K)
  refine hK14 _ ?_
  refine Sm.ret ?_
  try simp only [seval, Exit.exit.injEq]
  obtain rfl := Option.some.inj H
  refine Ret.ofR [] (.inr rfl) ?_
  simp only [z, seval]
end Go.Proofs.Ytojnggohjbidaaa
