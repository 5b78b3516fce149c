/-
  The functions of the seat, as functions; their contracts.
-/
import Derived.Test.YtcdofkflbnpjjaaF1
set_option maxHeartbeats 8000000
set_option linter.unusedVariables false
set_option linter.unusedSimpArgs false
set_option maxRecDepth 100000
namespace Go.Proofs.Ytcdofkflbnpjjaa
open Go.AE
abbrev ref37_with_s2 (out : List TWant) : S := stB [(5, .own 9002 [.str, .bool] 0 out.length)] [(9002, .row 95 (List.map e_TWant out))]

def ref37_with_k2 (n : Nat) (out : List TWant) : Option (List TWant) :=
  some out

abbrev ref37_with_s1 (w : TWant) (w_1 : Bool) (out : List TWant) (done : Bool) : S := stB [(3, .box 9000 0), (5, .own 9001 [.str, .bool] 0 out.length), (6, .c .bool (.bool done))] [(9000, .box [.c .str (.str w.Name), .c .bool (.bool w_1)]), (9001, .row 95 (List.map e_TWant out))]

def ref37_with_k1 (n : Nat) (w : TWant) (w_1 : Bool) (out : List TWant) (done : Bool) : Option (List TWant) :=
  bif (!done) then
    gd ((out.length + 1) ≤ 2147483648) <|
    ref37_with_k2 n (out ++ [(⟨w.Name, w_1⟩ : TWant)])
  else
    ref37_with_k2 n out

abbrev ref37_with_s4 (l : List TWant) (w : TWant) (w_2 : Bool) (out_2 : List TWant) (done_1 : Bool) (k : Int) : S := stB [(0, .c (.slice 95) (.slice (List.map e_TWant l))), (3, .box 9008 0), (5, .own 9009 [.str, .bool] 0 out_2.length), (6, .c .bool (.bool done_1)), (7, .c (.int .i64) (.int k))] [(9008, .box [.c .str (.str w.Name), .c .bool (.bool w_2)]), (9009, .row 95 (List.map e_TWant out_2))]

def ref37_with_k4 (n : Nat) (l : List TWant) (w : TWant) (w_2 : Bool) (out_2 : List TWant) (done_1 : Bool) (k : Int) : Option ((Bool × (List TWant) × Bool × Int) ⊕ ((Bool × (List TWant) × Bool))) :=
  some (.inl (w_2, out_2, done_1, (IntKind.wrap .i64 (k + 1))))

abbrev ref37_with_s5 (l : List TWant) (w : TWant) (w_2 : Bool) (out_3 : List TWant) (done_1 : Bool) (k : Int) : S := stB [(0, .c (.slice 95) (.slice (List.map e_TWant l))), (3, .box 9010 0), (5, .own 9011 [.str, .bool] 0 out_3.length), (6, .c .bool (.bool done_1)), (7, .c (.int .i64) (.int k))] [(9010, .box [.c .str (.str w.Name), .c .bool (.bool w_2)]), (9011, .row 95 (List.map e_TWant out_3))]

def ref37_with_k5 (n : Nat) (l : List TWant) (w : TWant) (w_2 : Bool) (out_3 : List TWant) (done_1 : Bool) (k : Int) : Option ((Bool × (List TWant) × Bool × Int) ⊕ ((Bool × (List TWant) × Bool))) :=
  gd ((0 ≤ k ∧ k < (l.length : Int))) <|
  bif (((gt l (Int.toNat k)).Name) != w.Name) then
    gd ((0 ≤ k ∧ k < (l.length : Int)) ∧ (out_3.length + 1) ≤ 2147483648) <|
    ref37_with_k4 n l w w_2 (out_3 ++ [(gt l (Int.toNat k))]) done_1 k
  else
    ref37_with_k4 n l w w_2 out_3 done_1 k

abbrev ref37_with_s6 (l : List TWant) (w : TWant) (w_3 : Bool) (out_1 : List TWant) (k : Int) : S := stB [(0, .c (.slice 95) (.slice (List.map e_TWant l))), (3, .box 9012 0), (5, .own 9013 [.str, .bool] 0 out_1.length), (7, .c (.int .i64) (.int k))] [(9012, .box [.c .str (.str w.Name), .c .bool (.bool w_3)]), (9013, .row 95 (List.map e_TWant out_1))]

def ref37_with_k6 (n : Nat) (l : List TWant) (w : TWant) (w_3 : Bool) (out_1 : List TWant) (k : Int) : Option ((Bool × (List TWant) × Bool × Int) ⊕ ((Bool × (List TWant) × Bool))) :=
  gd ((out_1.length + 1) ≤ 2147483648) <|
  ref37_with_k5 n l w w_3 (out_1 ++ [(⟨w.Name, w_3⟩ : TWant)]) true k

abbrev ref37_with_t3 (l : List TWant) (w : TWant) (w_1 : Bool) (out_1 : List TWant) (done : Bool) (k : Int) : S := stB [(0, .c (.slice 95) (.slice (List.map e_TWant l))), (3, .box 9006 0), (5, .own 9007 [.str, .bool] 0 out_1.length), (6, .c .bool (.bool done)), (7, .c (.int .i64) (.int k))] [(9006, .box [.c .str (.str w.Name), .c .bool (.bool w_1)]), (9007, .row 95 (List.map e_TWant out_1))]

def ref37_with_b3 (n : Nat) (l : List TWant) (w : TWant) (w_1 : Bool) (out_1 : List TWant) (done : Bool) (k : Int) : Option ((Bool × (List TWant) × Bool × Int) ⊕ ((Bool × (List TWant) × Bool))) :=
  bif (decide (k < (l.length : Int))) then
    gd (((!done) = true → (0 ≤ k ∧ k < (l.length : Int)))) <|
    bif (if (!done) = true then (!Op.bytesLess ((gt l (Int.toNat k)).Name) w.Name) else false) then
      gd ((0 ≤ k ∧ k < (l.length : Int))) <|
      bif (((gt l (Int.toNat k)).Name) == w.Name) then
        gd (((!w_1) = true → (0 ≤ k ∧ k < (l.length : Int)))) <|
        ref37_with_k6 n l w (if w_1 = true then true else (gt l (Int.toNat k)).Exclusive) out_1 k
      else
        ref37_with_k6 n l w w_1 out_1 k
    else
      ref37_with_k5 n l w w_1 out_1 done k
  else
    some (.inr (w_1, out_1, done))

def ref37_with (n : Nat) (l : List TWant) (w : TWant) : Option (List TWant) :=
  (loopF (fun (x : Bool × (List TWant) × Bool × Int) => ref37_with_b3 n l w x.1 x.2.1 x.2.2.1 x.2.2.2) n (w.Exclusive, [], false, 0)).bind fun y9 =>
  ref37_with_k1 n w y9.1 y9.2.1 y9.2.2

def xref37_with (n : Nat) : Go.AE.Fn := mkFn (A := (List TWant) × TWant) (R := (List TWant)) 70 [(false, [.slice 95]), (true, [.str, .bool])] false (fun xs => (((cg (xs.getD 0 []) 0).toSl.map d_TWant), (⟨(cg (xs.getD 1 []) 0).toStr, (cg (xs.getD 1 []) 1).toBool⟩ : TWant))) (fun a => [[.slice (List.map e_TWant a.1)], [.str a.2.Name, .bool a.2.Exclusive]]) (fun a => ref37_with n a.1 a.2) (fun r => [.own 0 [.str, .bool] 0 r.length]) (fun r => [.row 95 (List.map e_TWant r)])

theorem cref37_with (n : Nat) : Contract Try.prog (xref37_with n) := by
  have hΓ : ∀ g, g ∈ ([] : List Go.AE.Fn) → Contract Try.prog g := by simp
  refine contract_f (Try.f70.body.getD .skip) h00 Try.func70 rfl (by intro args w; exact Try.call70 args w) (by decide) (by
    intro _ r; refine ⟨rfl, ?_⟩; simp only [List.mem_cons, List.not_mem_nil, or_false]; rintro _ rfl
    · exact ⟨95, _, _, rfl, ty95, rfl⟩) ?_
  rintro ⟨l, w⟩ r H
  try dsimp only at H
  unfold ref37_with at H
  simp only [Try.f70, Option.getD]
  refine Sm.seqA h00 mixed hΓ (by kernel_rfl) fun K1 hK1 => ?_
  simp only [rs]
  repeat (refine opsG fun K hK => ?_; simp only [z, seval]; (repeat (first | refine gcI ?_ | refine fun (_ : _ ≤ _) => ?_)); refine hK _ ?_; clear hK K)
  refine hK1 _ ?_
  refine Sm.seqA h00 mixed hΓ (by kernel_rfl) fun K2 hK2 => ?_
  simp only [rs]
  repeat (refine opsG fun K hK => ?_; simp only [z, seval]; (repeat (first | refine gcI ?_ | refine fun (_ : _ ≤ _) => ?_)); refine hK _ ?_; clear hK K)
  refine hK2 _ ?_
  refine Sm.seqA h00 mixed hΓ (by kernel_rfl) fun K3 hK3 => ?_
  simp only [rs]
  repeat (refine opsG fun K hK => ?_; simp only [z, seval]; (repeat (first | refine gcI ?_ | refine fun (_ : _ ≤ _) => ?_)); refine hK _ ?_; clear hK K)
  refine hK3 _ ?_
  refine Sm.cut (fun (x : Bool × (List TWant) × Bool) => ref37_with_s1 w x.1 x.2.1 x.2.2) (fun x => ref37_with_k1 n w x.1 x.2.1 x.2.2 = some r) ?_ ?_
  · refine Sm.seqA h00 mixed hΓ (by kernel_rfl) fun K8 hK8 => ?_
    simp only [rs]
    repeat (refine opsG fun K hK => ?_; simp only [z, seval]; (repeat (first | refine gcI ?_ | refine fun (_ : _ ≤ _) => ?_)); refine hK _ ?_; clear hK K)
    refine hK8 _ ?_
    refine Sm.block ?_
    obtain ⟨y9, hy9, Ho9⟩ := bind_some H
    refine Sm.loopB (fun (x : Bool × (List TWant) × Bool × Int) => ref37_with_b3 n l w x.1 x.2.1 x.2.2.1 x.2.2.2) (fun x => ref37_with_t3 l w x.1 x.2.1 x.2.2.1 x.2.2.2) hy9 ?_ ?_
    · exact weak_b [some 48, none] rfl rfl rfl (by simp only [wk, z, seval]) (by simp only [wk, z, seval])
    rintro ⟨w_1, out_1, done, k⟩ z9 H
    try dsimp only at H
    unfold ref37_with_b3 at H
    refine Sm.seqK fun K10 hK10 => ?_
    refine Sm.seqA h00 mixed hΓ (by kernel_rfl) fun K11 hK11 => ?_
    simp only [rs]
    repeat (refine opsG fun K hK => ?_; simp only [z, seval, ref37_with_t3]; (repeat (first | refine gcI ?_ | refine fun (_ : _ ≤ _) => ?_)); refine hK _ ?_; clear hK K)
    refine hK11 _ ?_
    refine Sm.condK (by rfl) fun Ka Kb ha hb => ?_
    simp only [wpCond, z, seval, ref37_with_t3]
    refine ⟨fun h12 => ha ?_, fun h12 => hb ?_⟩
    · first | replace H := bif_t h12 H | replace H := bif_t2 h12 H (by simp only [List.length_append])
      refine Sm.skip ?_
      refine hK10 _ ?_
      refine Sm.cut (fun (x : Bool × (List TWant) × Bool) => ref37_with_s4 l w x.1 x.2.1 x.2.2 k) (fun x => ref37_with_k4 n l w x.1 x.2.1 x.2.2 k = some z9) ?_ ?_
      · refine Sm.block ?_
        refine Sm.cut (fun (x : Bool × (List TWant) × Bool) => ref37_with_s5 l w x.1 x.2.1 x.2.2 k) (fun x => ref37_with_k5 n l w x.1 x.2.1 x.2.2 k = some z9) ?_ ?_
        · obtain ⟨hg26, H⟩ := gd_some H
          refine Sm.seqD h00 mixed hΓ (by kernel_rfl) fun K18 hK18 => ?_
          simp only [rs]
          repeat (refine opsH fun K hK => ?_; simp only [z, seval, ref37_with_t3]; (repeat (first | refine gcI ?_ | refine fun (_ : _ ≤ _) => ?_)); refine hK _ ?_; clear hK K)
          refine hK18 _ ?_
          refine Sm.condK (by rfl) fun Ka Kb ha hb => ?_
          simp only [wpCond, z, seval, ref37_with_t3]
          refine ⟨fun h19 => ha ?_, fun h19 => hb ?_⟩
          · first | replace H := bif_t h19 H | replace H := bif_t2 h19 H (by simp only [List.length_append])
            refine Sm.cut (fun (x : Bool) => ref37_with_s6 l w x out_1 k) (fun x => ref37_with_k6 n l w x out_1 k = some z9) ?_ ?_
            · obtain ⟨hg25, H⟩ := gd_some H
              refine Sm.seqD h00 mixed hΓ (by kernel_rfl) fun K22 hK22 => ?_
              simp only [rs]
              repeat (refine opsH fun K hK => ?_; simp only [z, seval, ref37_with_t3]; (repeat (first | refine gcI ?_ | refine fun (_ : _ ≤ _) => ?_)); refine hK _ ?_; clear hK K)
              refine hK22 _ ?_
              refine Sm.condK (by rfl) fun Ka Kb ha hb => ?_
              simp only [wpCond, z, seval, ref37_with_t3]
              refine ⟨fun h23 => ha ?_, fun h23 => hb ?_⟩
              · first | replace H := bif_t h23 H | replace H := bif_t2 h23 H (by simp only [List.length_append])
                obtain ⟨hg24, H⟩ := gd_some H
                refine Sm.regA h00 mixed hΓ (by kernel_rfl) ?_
                simp only [rs]
                repeat (refine opsG fun K hK => ?_; simp only [z, seval, ref37_with_t3]; (repeat (first | refine gcI ?_ | refine fun (_ : _ ≤ _) => ?_)); refine hK _ ?_; clear hK K)
                refine opsG0 ?_
                try simp only [seval, Exit.exit.injEq]
                refine ⟨_, H, ?_⟩
                exact weak_b [some 9006, some 9007] rfl rfl rfl (by simp only [wk, z, seval, ref37_with_t3]) (by simp only [wk, z, seval, ref37_with_t3])
              first | replace H := bif_f h23 H | replace H := bif_f2 h23 H (by simp only [List.length_append])
              refine Sm.skip ?_
              try simp only [seval, Exit.exit.injEq]
              refine ⟨_, H, ?_⟩
              exact weak_b [some 9006, some 9007] rfl rfl rfl (by simp only [wk, z, seval, ref37_with_t3]) (by simp only [wk, z, seval, ref37_with_t3])
            rintro w_3 H
            try dsimp only at H
            unfold ref37_with_k6 at H
            obtain ⟨hg21, H⟩ := gd_some H
            refine Sm.seqA h00 mixed hΓ (by kernel_rfl) fun K20 hK20 => ?_
            simp only [rs]
            repeat (refine opsG fun K hK => ?_; simp only [z, seval, ref37_with_s6]; (repeat (first | refine gcI ?_ | refine fun (_ : _ ≤ _) => ?_)); refine hK _ ?_; clear hK K)
            refine hK20 _ ?_
            refine Sm.regA h00 mixed hΓ (by kernel_rfl) ?_
            simp only [rs]
            repeat (refine opsG fun K hK => ?_; simp only [z, seval, ref37_with_s6]; (repeat (first | refine gcI ?_ | refine fun (_ : _ ≤ _) => ?_)); refine hK _ ?_; clear hK K)
            refine opsG0 ?_
            try simp only [seval, Exit.exit.injEq]
            refine ⟨(w_3, (out_1 ++ [(⟨w.Name, w_3⟩ : TWant)]), true), H, ?_⟩
            exact weak_b [some 9012, some 752] rfl rfl rfl (by simp only [wk, z, seval, ref37_with_s6]) (by simp only [wk, z, seval, ref37_with_s6])
          first | replace H := bif_f h19 H | replace H := bif_f2 h19 H (by simp only [List.length_append])
          refine Sm.skip ?_
          try simp only [seval, Exit.exit.injEq]
          refine ⟨(w_1, out_1, done), H, ?_⟩
          exact weak_b [some 9006, some 9007] rfl rfl rfl (by simp only [wk, z, seval, ref37_with_t3]) (by simp only [wk, z, seval, ref37_with_t3])
        rintro ⟨w_2, out_3, done_1⟩ H
        try dsimp only at H
        unfold ref37_with_k5 at H
        obtain ⟨hg17, H⟩ := gd_some H
        refine Sm.seqD h00 mixed hΓ (by kernel_rfl) fun K13 hK13 => ?_
        simp only [rs]
        repeat (refine opsH fun K hK => ?_; simp only [z, seval, ref37_with_s5]; (repeat (first | refine gcI ?_ | refine fun (_ : _ ≤ _) => ?_)); refine hK _ ?_; clear hK K)
        refine hK13 _ ?_
        refine Sm.condK (by rfl) fun Ka Kb ha hb => ?_
        simp only [wpCond, z, seval, ref37_with_s5]
        refine ⟨fun h14 => ha ?_, fun h14 => hb ?_⟩
        · first | replace H := bif_t h14 H | replace H := bif_t2 h14 H (by simp only [List.length_append])
          obtain ⟨⟨hg15, hg16⟩, H⟩ := gd_some H
          refine Sm.regA h00 mixed hΓ (by kernel_rfl) ?_
          simp only [rs]
          repeat (refine opsG fun K hK => ?_; simp only [z, seval, ref37_with_s5]; (repeat (first | refine gcI ?_ | refine fun (_ : _ ≤ _) => ?_)); refine hK _ ?_; clear hK K)
          refine opsG0 ?_
          try simp only [seval, Exit.exit.injEq]
          refine ⟨(w_2, (out_3 ++ [(gt l (Int.toNat k))]), done_1), H, ?_⟩
          exact weak_b [some 9010, some 992] rfl rfl rfl (by simp only [wk, z, seval, ref37_with_s5]) (by simp only [wk, z, seval, ref37_with_s5])
        first | replace H := bif_f h14 H | replace H := bif_f2 h14 H (by simp only [List.length_append])
        refine Sm.skip ?_
        try simp only [seval, Exit.exit.injEq]
        refine ⟨(w_2, out_3, done_1), H, ?_⟩
        exact weak_b [some 9010, some 9011] rfl rfl rfl (by simp only [wk, z, seval, ref37_with_s5]) (by simp only [wk, z, seval, ref37_with_s5])
      rintro ⟨w_2, out_2, done_1⟩ H
      try dsimp only at H
      unfold ref37_with_k4 at H
      refine Sm.regA h00 mixed hΓ (by kernel_rfl) ?_
      simp only [rs]
      repeat (refine opsG fun K hK => ?_; simp only [z, seval, ref37_with_s4]; (repeat (first | refine gcI ?_ | refine fun (_ : _ ≤ _) => ?_)); refine hK _ ?_; clear hK K)
      refine opsG0 ?_
      try simp only [seval, Exit.exit.injEq]
      refine ⟨(_, _, _, _), (Option.some.inj H).symm, ?_⟩
      exact weak_b [some 9008, some 9009] rfl rfl rfl (by simp only [wk, z, seval, ref37_with_s4]) (by simp only [wk, z, seval, ref37_with_s4])
    first | replace H := bif_f h12 H | replace H := bif_f2 h12 H (by simp only [List.length_append])
    refine Sm.exit ?_
    try simp only [seval, Exit.exit.injEq]
    refine ⟨⟨_, (Option.some.inj H).symm⟩, fun hz => ?_⟩
    have hyy := Sum.inr.inj ((Option.some.inj H).trans hz)
    subst hyy
    have H := Ho9
    try dsimp only at H
    try simp only [seval, Exit.exit.injEq]
    refine ⟨(w_1, out_1, done), H, ?_⟩
    exact weak_b [some 9006, some 9007] rfl rfl rfl (by simp only [wk, z, seval, ref37_with_t3]) (by simp only [wk, z, seval, ref37_with_t3])
  rintro ⟨w_1, out, done⟩ H
  try dsimp only at H
  unfold ref37_with_k1 at H
  refine Sm.cut (fun (x : (List TWant)) => ref37_with_s2 x) (fun x => ref37_with_k2 n x = some r) ?_ ?_
  · refine Sm.seqA h00 mixed hΓ (by kernel_rfl) fun K5 hK5 => ?_
    simp only [rs]
    repeat (refine opsG fun K hK => ?_; simp only [z, seval, ref37_with_s1]; (repeat (first | refine gcI ?_ | refine fun (_ : _ ≤ _) => ?_)); refine hK _ ?_; clear hK K)
    refine hK5 _ ?_
    refine Sm.condK (by rfl) fun Ka Kb ha hb => ?_
    simp only [wpCond, z, seval, ref37_with_s1]
    refine ⟨fun h6 => ha ?_, fun h6 => hb ?_⟩
    · first | replace H := bif_t h6 H | replace H := bif_t2 h6 H (by simp only [List.length_append])
      obtain ⟨hg7, H⟩ := gd_some H
      refine Sm.regA h00 mixed hΓ (by kernel_rfl) ?_
      simp only [rs]
      repeat (refine opsG fun K hK => ?_; simp only [z, seval, ref37_with_s1]; (repeat (first | refine gcI ?_ | refine fun (_ : _ ≤ _) => ?_)); refine hK _ ?_; clear hK K)
      refine opsG0 ?_
      try simp only [seval, Exit.exit.injEq]
      refine ⟨_, H, ?_⟩
      exact weak_b [some 1088] rfl rfl rfl (by simp only [wk, z, seval, ref37_with_s1]) (by simp only [wk, z, seval, ref37_with_s1])
    first | replace H := bif_f h6 H | replace H := bif_f2 h6 H (by simp only [List.length_append])
    refine Sm.skip ?_
    try simp only [seval, Exit.exit.injEq]
    refine ⟨_, H, ?_⟩
    exact weak_b [some 9001] rfl rfl rfl (by simp only [wk, z, seval, ref37_with_s1]) (by simp only [wk, z, seval, ref37_with_s1])
  rintro out H
  try dsimp only at H
  unfold ref37_with_k2 at H
  refine Sm.seqA h00 mixed hΓ (by kernel_rfl) fun K4 hK4 => ?_
  simp only [rs]
  repeat (refine opsG fun K hK => ?_; simp only [z, seval, ref37_with_s2]; (repeat (first | refine gcI ?_ | refine fun (_ : _ ≤ _) => ?_)); refine hK _ ?_; clear hK K)
  refine hK4 _ ?_
  refine Sm.ret ?_
  try simp only [seval, Exit.exit.injEq]
  obtain rfl := Option.some.inj H
  refine Ret.ofR [some 9002] (.inr rfl) ?_
  simp only [z, seval, ref37_with_s2]

abbrev ref37_Normal_s1 (out : List TWant) : S := stB [(3, .own 9000 [.str, .bool] 0 out.length)] [(9000, .row 95 (List.map e_TWant out))]

def ref37_Normal_k1 (n : Nat) (out : List TWant) : Option (List TWant) :=
  some out

abbrev ref37_Normal_t2 (l : List TWant) (out : List TWant) (k : Int) : S := stB [(0, .c (.slice 95) (.slice (List.map e_TWant l))), (3, .own 9002 [.str, .bool] 0 out.length), (4, .c (.int .i64) (.int k))] [(9002, .row 95 (List.map e_TWant out))]

def ref37_Normal_b2 (n : Nat) (l : List TWant) (out : List TWant) (k : Int) : Option (((List TWant) × Int) ⊕ (((List TWant)))) :=
  bif (decide (k < (l.length : Int))) then
    gd ((0 ≤ k ∧ k < (l.length : Int))) <|
    (ref37_with n out (gt l (Int.toNat k))).bind fun r1 =>
    some (.inl (r1, (IntKind.wrap .i64 (k + 1))))
  else
    some (.inr out)

def ref37_Normal (n : Nat) (l : List TWant) : Option (List TWant) :=
  (loopF (fun (x : (List TWant) × Int) => ref37_Normal_b2 n l x.1 x.2) n ([], 0)).bind fun y5 =>
  ref37_Normal_k1 n y5

def xref37_Normal (n : Nat) : Go.AE.Fn := mkFn (A := (List TWant)) (R := (List TWant)) 44 [(false, [.slice 95])] false (fun xs => ((cg (xs.getD 0 []) 0).toSl.map d_TWant)) (fun a => [[.slice (List.map e_TWant a)]]) (fun a => ref37_Normal n a) (fun r => [.own 0 [.str, .bool] 0 r.length]) (fun r => [.row 95 (List.map e_TWant r)])

theorem cref37_Normal (n : Nat) : Contract Try.prog (xref37_Normal n) := by
  have hΓ : ∀ g, g ∈ ([xref37_with n] : List Go.AE.Fn) → Contract Try.prog g := by
    intro g hg; simp only [List.mem_cons, List.not_mem_nil, or_false] at hg; subst hg; exact cref37_with n
  refine contract_f (Try.f44.body.getD .skip) h00 Try.func44 rfl (by intro args w; exact Try.call44 args w) (by decide) (by
    intro _ r; refine ⟨rfl, ?_⟩; simp only [List.mem_cons, List.not_mem_nil, or_false]; rintro _ rfl
    · exact ⟨95, _, _, rfl, ty95, rfl⟩) ?_
  rintro l r H
  try dsimp only at H
  unfold ref37_Normal at H
  simp only [Try.f44, Option.getD]
  refine Sm.seqA h00 mixed hΓ (by kernel_rfl) fun K1 hK1 => ?_
  simp only [rs]
  repeat (refine opsG fun K hK => ?_; simp only [z, seval]; (repeat (first | refine gcI ?_ | refine fun (_ : _ ≤ _) => ?_)); refine hK _ ?_; clear hK K)
  refine hK1 _ ?_
  refine Sm.seqA h00 mixed hΓ (by kernel_rfl) fun K2 hK2 => ?_
  simp only [rs]
  repeat (refine opsG fun K hK => ?_; simp only [z, seval]; (repeat (first | refine gcI ?_ | refine fun (_ : _ ≤ _) => ?_)); refine hK _ ?_; clear hK K)
  refine hK2 _ ?_
  refine Sm.cut (fun (x : (List TWant)) => ref37_Normal_s1 x) (fun x => ref37_Normal_k1 n x = some r) ?_ ?_
  · refine Sm.seqA h00 mixed hΓ (by kernel_rfl) fun K4 hK4 => ?_
    simp only [rs]
    repeat (refine opsG fun K hK => ?_; simp only [z, seval]; (repeat (first | refine gcI ?_ | refine fun (_ : _ ≤ _) => ?_)); refine hK _ ?_; clear hK K)
    refine hK4 _ ?_
    refine Sm.block ?_
    obtain ⟨y5, hy5, Ho5⟩ := bind_some H
    refine Sm.loopB (fun (x : (List TWant) × Int) => ref37_Normal_b2 n l x.1 x.2) (fun x => ref37_Normal_t2 l x.1 x.2) hy5 ?_ ?_
    · exact weak_b [none] rfl rfl rfl (by simp only [wk, z, seval]) (by simp only [wk, z, seval])
    rintro ⟨out, k⟩ z5 H
    try dsimp only at H
    unfold ref37_Normal_b2 at H
    refine Sm.seqK fun K6 hK6 => ?_
    refine Sm.seqA h00 mixed hΓ (by kernel_rfl) fun K7 hK7 => ?_
    simp only [rs]
    repeat (refine opsG fun K hK => ?_; simp only [z, seval, ref37_Normal_t2]; (repeat (first | refine gcI ?_ | refine fun (_ : _ ≤ _) => ?_)); refine hK _ ?_; clear hK K)
    refine hK7 _ ?_
    refine Sm.condK (by rfl) fun Ka Kb ha hb => ?_
    simp only [wpCond, z, seval, ref37_Normal_t2]
    refine ⟨fun h8 => ha ?_, fun h8 => hb ?_⟩
    · first | replace H := bif_t h8 H | replace H := bif_t2 h8 H (by simp only [List.length_append])
      refine Sm.skip ?_
      refine hK6 _ ?_
      refine Sm.seqK fun K9 hK9 => ?_
      refine Sm.block ?_
      obtain ⟨hg10, H⟩ := gd_some H
      obtain ⟨r1, hr1, H⟩ := bind_some H
      refine Sm.regA h00 mixed hΓ (by kernel_rfl) ?_
      simp only [rs]
      repeat (refine opsG fun K hK => ?_; simp only [z, seval, ref37_Normal_t2, xref37_with, hr1]; (repeat (first | refine gcI ?_ | refine fun (_ : _ ≤ _) => ?_)); refine hK _ ?_; clear hK K)
      refine opsG0 ?_
      refine hK9 _ ?_
      refine Sm.regA h00 mixed hΓ (by kernel_rfl) ?_
      simp only [rs]
      repeat (refine opsG fun K hK => ?_; simp only [z, seval, ref37_Normal_t2]; (repeat (first | refine gcI ?_ | refine fun (_ : _ ≤ _) => ?_)); refine hK _ ?_; clear hK K)
      refine opsG0 ?_
      try simp only [seval, Exit.exit.injEq]
      refine ⟨(_, _), (Option.some.inj H).symm, ?_⟩
      exact weak_b [some 256] rfl rfl rfl (by simp only [wk, z, seval, ref37_Normal_t2]) (by simp only [wk, z, seval, ref37_Normal_t2])
    first | replace H := bif_f h8 H | replace H := bif_f2 h8 H (by simp only [List.length_append])
    refine Sm.exit ?_
    try simp only [seval, Exit.exit.injEq]
    refine ⟨⟨_, (Option.some.inj H).symm⟩, fun hz => ?_⟩
    have hyy := Sum.inr.inj ((Option.some.inj H).trans hz)
    subst hyy
    have H := Ho5
    try dsimp only at H
    try simp only [seval, Exit.exit.injEq]
    refine ⟨_, H, ?_⟩
    exact weak_b [some 9002] rfl rfl rfl (by simp only [wk, z, seval, ref37_Normal_t2]) (by simp only [wk, z, seval, ref37_Normal_t2])
  rintro out H
  try dsimp only at H
  unfold ref37_Normal_k1 at H
  refine Sm.seqA h00 mixed hΓ (by kernel_rfl) fun K3 hK3 => ?_
  simp only [rs]
  repeat (refine opsG fun K hK => ?_; simp only [z, seval, ref37_Normal_s1]; (repeat (first | refine gcI ?_ | refine fun (_ : _ ≤ _) => ?_)); refine hK _ ?_; clear hK K)
  refine hK3 _ ?_
  refine Sm.ret ?_
  try simp only [seval, Exit.exit.injEq]
  obtain rfl := Option.some.inj H
  refine Ret.ofR [some 9000] (.inr rfl) ?_
  simp only [z, seval, ref37_Normal_s1]

def ref37_Ask (n : Nat) (t : TTable) (job : Int) (wants : List TWant) : Option (TTable × Bool × Int) :=
  (ref37_Valid n t).bind fun r1 =>
  bif (!r1) then
    some ((⟨[], []⟩ : TTable), false, 5)
  else
    (ref37_place n t.Held job).bind fun r2 =>
    gd (((!(decide (r2 ≥ 0))) = true → (ref37_place n t.Waiting job).isSome = true)) <|
    bif (if (decide (r2 ≥ 0)) = true then true else (decide (((ref37_place n t.Waiting job).getD default) ≥ 0))) then
      some ((⟨[], []⟩ : TTable), false, 4)
    else
      (ref37_Normal n wants).bind fun r3 =>
      bif (decide (((r3.length : Nat) : Int) > 512)) then
        some ((⟨[], []⟩ : TTable), false, 2)
      else
        (ref37_free n (⟨job, r3⟩ : TRequest) t.Held).bind fun r4 =>
        gd ((r4 = true → (ref37_free n (⟨job, r3⟩ : TRequest) t.Waiting).isSome = true)) <|
        bif (if r4 = true then ((ref37_free n (⟨job, r3⟩ : TRequest) t.Waiting).getD default) else false) then
          gd (t.Held.length ≤ 2147483648 ∧ (t.Held.length + 1) ≤ 2147483648) <|
          some ((⟨(t.Held ++ [(⟨job, r3⟩ : TRequest)]), t.Waiting⟩ : TTable), true, 0)
        else
          gd (t.Waiting.length ≤ 2147483648 ∧ (t.Waiting.length + 1) ≤ 2147483648) <|
          some ((⟨t.Held, (t.Waiting ++ [(⟨job, r3⟩ : TRequest)])⟩ : TTable), false, 0)

def xref37_Ask (n : Nat) : Go.AE.Fn := mkFn (A := TTable × Int × (List TWant)) (R := TTable × Bool × Int) 21 [(true, [.slice 88, .slice 88]), (false, [.int .i64]), (false, [.slice 95])] true (fun xs => ((⟨((cg (xs.getD 0 []) 0).toSl.map d_TRequest), ((cg (xs.getD 0 []) 1).toSl.map d_TRequest)⟩ : TTable), (cg (xs.getD 1 []) 0).toInt, ((cg (xs.getD 2 []) 0).toSl.map d_TWant))) (fun a => [[.slice (List.map e_TRequest a.1.Held), .slice (List.map e_TRequest a.1.Waiting)], [.int a.2.1], [.slice (List.map e_TWant a.2.2)]]) (fun a => ref37_Ask n a.1 a.2.1 a.2.2) (fun r => [.agg [.c (.slice 88) (.slice (List.map e_TRequest r.1.Held)), .c (.slice 88) (.slice (List.map e_TRequest r.1.Waiting))], .c .bool (.bool r.2.1), .c (.int .i64) (.int r.2.2)]) (fun r => [])

theorem cref37_Ask (n : Nat) : Contract Try.prog (xref37_Ask n) := by
  have hΓ : ∀ g, g ∈ ([xref37_Valid n, xref37_place n, xref37_Normal n, xref37_free n] : List Go.AE.Fn) → Contract Try.prog g := by
    intro g hg; simp only [List.mem_cons, List.not_mem_nil, or_false] at hg; rcases hg with rfl | rfl | rfl | rfl; exact cref37_Valid n; exact cref37_place n; exact cref37_Normal n; exact cref37_free n
  refine contract_f (Try.f21.body.getD .skip) h00 Try.func21 rfl (by intro args w; exact Try.call21 args w) (by decide) (by intro h; cases h) ?_
  rintro ⟨t, job, wants⟩ r H
  try dsimp only at H
  unfold ref37_Ask at H
  simp only [Try.f21, Option.getD]
  refine Sm.seqA h00 mixed hΓ (by kernel_rfl) fun K1 hK1 => ?_
  simp only [rs]
  repeat (refine opsG fun K hK => ?_; simp only [z, seval]; (repeat (first | refine gcI ?_ | refine fun (_ : _ ≤ _) => ?_)); refine hK _ ?_; clear hK K)
  refine hK1 _ ?_
  refine Sm.seqK fun K2 hK2 => ?_
  obtain ⟨r1, hr1, H⟩ := bind_some H
  refine Sm.seqA h00 mixed hΓ (by kernel_rfl) fun K3 hK3 => ?_
  simp only [rs]
  repeat (refine opsG fun K hK => ?_; simp only [z, seval, xref37_Valid, hr1]; (repeat (first | refine gcI ?_ | refine fun (_ : _ ≤ _) => ?_)); refine hK _ ?_; clear hK K)
  refine hK3 _ ?_
  refine Sm.condK (by rfl) fun Ka Kb ha hb => ?_
  simp only [wpCond, z, seval]
  refine ⟨fun h4 => ha ?_, fun h4 => hb ?_⟩
  · first | replace H := bif_t h4 H | replace H := bif_t2 h4 H (by simp only [List.length_append])
    refine Sm.seqA h00 mixed hΓ (by kernel_rfl) fun K5 hK5 => ?_
    simp only [rs]
    repeat (refine opsG fun K hK => ?_; simp only [z, seval]; (repeat (first | refine gcI ?_ | refine fun (_ : _ ≤ _) => ?_)); refine hK _ ?_; clear hK K)
    refine hK5 _ ?_
    refine Sm.ret ?_
    try simp only [seval, Exit.exit.injEq]
    obtain rfl := Option.some.inj H
    refine Ret.ofR [] (.inr rfl) ?_
    simp only [z, seval]
  first | replace H := bif_f h4 H | replace H := bif_f2 h4 H (by simp only [List.length_append])
  refine Sm.skip ?_
  refine hK2 _ ?_
  refine Sm.seqK fun K6 hK6 => ?_
  obtain ⟨r2, hr2, H⟩ := bind_some H
  obtain ⟨hg25, H⟩ := gd_some H
  refine Sm.seqA h00 mixed hΓ (by kernel_rfl) fun K7 hK7 => ?_
  simp only [rs]
  repeat (refine opsG fun K hK => ?_; simp only [z, seval, xref37_Valid, xref37_place, hr2]; (repeat (first | refine gcI ?_ | refine fun (_ : _ ≤ _) => ?_)); refine hK _ ?_; clear hK K)
  refine hK7 _ ?_
  refine Sm.condK (by rfl) fun Ka Kb ha hb => ?_
  simp only [wpCond, z, seval]
  refine ⟨fun h8 => ha ?_, fun h8 => hb ?_⟩
  · first | replace H := bif_t h8 H | replace H := bif_t2 h8 H (by simp only [List.length_append])
    refine Sm.seqA h00 mixed hΓ (by kernel_rfl) fun K9 hK9 => ?_
    simp only [rs]
    repeat (refine opsG fun K hK => ?_; simp only [z, seval]; (repeat (first | refine gcI ?_ | refine fun (_ : _ ≤ _) => ?_)); refine hK _ ?_; clear hK K)
    refine hK9 _ ?_
    refine Sm.ret ?_
    try simp only [seval, Exit.exit.injEq]
    obtain rfl := Option.some.inj H
    refine Ret.ofR [] (.inr rfl) ?_
    simp only [z, seval]
  first | replace H := bif_f h8 H | replace H := bif_f2 h8 H (by simp only [List.length_append])
  refine Sm.skip ?_
  refine hK6 _ ?_
  obtain ⟨r3, hr3, H⟩ := bind_some H
  refine Sm.seqA h00 mixed hΓ (by kernel_rfl) fun K10 hK10 => ?_
  simp only [rs]
  repeat (refine opsG fun K hK => ?_; simp only [z, seval, xref37_Valid, xref37_place, xref37_Normal, hr3]; (repeat (first | refine gcI ?_ | refine fun (_ : _ ≤ _) => ?_)); refine hK _ ?_; clear hK K)
  refine hK10 _ ?_
  refine Sm.seqK fun K11 hK11 => ?_
  refine Sm.seqA h00 mixed hΓ (by kernel_rfl) fun K12 hK12 => ?_
  simp only [rs]
  repeat (refine opsG fun K hK => ?_; simp only [z, seval]; (repeat (first | refine gcI ?_ | refine fun (_ : _ ≤ _) => ?_)); refine hK _ ?_; clear hK K)
  refine hK12 _ ?_
  refine Sm.condK (by rfl) fun Ka Kb ha hb => ?_
  simp only [wpCond, z, seval]
  refine ⟨fun h13 => ha ?_, fun h13 => hb ?_⟩
  · first | replace H := bif_t h13 H | replace H := bif_t2 h13 H (by simp only [List.length_append])
    refine Sm.seqA h00 mixed hΓ (by kernel_rfl) fun K14 hK14 => ?_
    simp only [rs]
    repeat (refine opsG fun K hK => ?_; simp only [z, seval]; (repeat (first | refine gcI ?_ | refine fun (_ : _ ≤ _) => ?_)); refine hK _ ?_; clear hK K)
    refine hK14 _ ?_
    refine Sm.ret ?_
    try simp only [seval, Exit.exit.injEq]
    obtain rfl := Option.some.inj H
    refine Ret.ofR [] (.inr rfl) ?_
    simp only [z, seval]
  first | replace H := bif_f h13 H | replace H := bif_f2 h13 H (by simp only [List.length_append])
  refine Sm.skip ?_
  refine hK11 _ ?_
  refine Sm.seqK fun K15 hK15 => ?_
  obtain ⟨r4, hr4, H⟩ := bind_some H
  obtain ⟨hg24, H⟩ := gd_some H
  refine Sm.seqA h00 mixed hΓ (by kernel_rfl) fun K16 hK16 => ?_
  simp only [rs]
  repeat (refine opsG fun K hK => ?_; simp only [z, seval, xref37_Valid, xref37_place, xref37_Normal, xref37_free, hr4]; (repeat (first | refine gcI ?_ | refine fun (_ : _ ≤ _) => ?_)); refine hK _ ?_; clear hK K)
  refine hK16 _ ?_
  refine Sm.condK (by rfl) fun Ka Kb ha hb => ?_
  simp only [wpCond, z, seval]
  refine ⟨fun h17 => ha ?_, fun h17 => hb ?_⟩
  · first | replace H := bif_t h17 H | replace H := bif_t2 h17 H (by simp only [List.length_append])
    obtain ⟨⟨hg19, hg20⟩, H⟩ := gd_some H
    refine Sm.seqQ h00 mixed hΓ [0, 1, 2, 3, 4, 5, 6, 7, 8, 9, 10, 11, 12] [(none, [], [736]), (none, [48], []), (none, [48], []), (none, [736], [784, 736]), (none, [144], []), (none, [464], [816, 464]), (none, [784, 816], [832, 784, 816]), (none, [48], []), (none, [48], []), (none, [832], []), (none, [96, 832], [96]), (none, [], []), (none, [], [])] (by kernel_rfl) rfl fun K18 hK18 => ?_
    simp only [rs]
    iterate 13 (refine opsQ fun K hK => ?_; simp only [z, seval]; (repeat (first | refine gcI ?_ | refine fun (_ : _ ≤ _) => ?_)); refine hK _ ?_; clear hK K)
    refine opsQ0 ?_
    refine hK18 _ ?_
    refine Sm.ret ?_
    try simp only [seval, Exit.exit.injEq]
    obtain rfl := Option.some.inj H
    refine Ret.ofR [] (.inr rfl) ?_
    simp only [z, seval]
  first | replace H := bif_f h17 H | replace H := bif_f2 h17 H (by simp only [List.length_append])
  refine Sm.skip ?_
  refine hK15 _ ?_
  obtain ⟨⟨hg22, hg23⟩, H⟩ := gd_some H
  refine Sm.seqQ h00 mixed hΓ [0, 1, 2, 3, 4, 5, 6, 7, 8, 9, 10, 11, 12] [(none, [48], []), (none, [48], []), (none, [], [928]), (none, [48], []), (none, [48], []), (none, [928], [976, 928]), (none, [144], []), (none, [464], [1008, 464]), (none, [976, 1008], [1024, 976, 1008]), (none, [1024], []), (none, [96, 1024], [96]), (none, [], []), (none, [], [])] (by kernel_rfl) rfl fun K21 hK21 => ?_
  simp only [rs]
  iterate 13 (refine opsQ fun K hK => ?_; simp only [z, seval]; (repeat (first | refine gcI ?_ | refine fun (_ : _ ≤ _) => ?_)); refine hK _ ?_; clear hK K)
  refine opsQ0 ?_
  refine hK21 _ ?_
  refine Sm.ret ?_
  try simp only [seval, Exit.exit.injEq]
  obtain rfl := Option.some.inj H
  refine Ret.ofR [] (.inr rfl) ?_
  simp only [z, seval]

abbrev law37_EnqueueRuns_s1 : S := stB [] []

def law37_EnqueueRuns_k1 (n : Nat) : Option Bool :=
  some true

abbrev law37_EnqueueRuns_s3 (l : List TAct) (t_2 : List TRequest) (t_3 : List TRequest) (u_2 : List TRequest) (u_3 : List TRequest) (k : Int) : S := stB [(0, .c (.slice 45) (.slice (List.map e_TAct l))), (3, .box 9007 0), (4, .box 9008 0), (5, .c (.int .i64) (.int k))] [(9007, .box [.c (.slice 61) (.slice (List.map e_TRequest t_2)), .c (.slice 61) (.slice (List.map e_TRequest t_3))]), (9008, .box [.c (.slice 88) (.slice (List.map e_TRequest u_2)), .c (.slice 88) (.slice (List.map e_TRequest u_3))])]

def law37_EnqueueRuns_k3 (n : Nat) (l : List TAct) (t_2 : List TRequest) (t_3 : List TRequest) (u_2 : List TRequest) (u_3 : List TRequest) (k : Int) : Option (((List TRequest) × (List TRequest) × (List TRequest) × (List TRequest) × Int) ⊕ (((Bool) ⊕ (Unit)))) :=
  some (.inl (t_2, t_3, u_2, u_3, (IntKind.wrap .i64 (k + 1))))

abbrev law37_EnqueueRuns_s4 (l : List TAct) (t_2 : List TRequest) (t_3 : List TRequest) (u_2 : List TRequest) (u_3 : List TRequest) (k : Int) : S := stB [(0, .c (.slice 45) (.slice (List.map e_TAct l))), (3, .box 9009 0), (4, .box 9010 0), (5, .c (.int .i64) (.int k))] [(9009, .box [.c (.slice 61) (.slice (List.map e_TRequest t_2)), .c (.slice 61) (.slice (List.map e_TRequest t_3))]), (9010, .box [.c (.slice 88) (.slice (List.map e_TRequest u_2)), .c (.slice 88) (.slice (List.map e_TRequest u_3))])]

def law37_EnqueueRuns_k4 (n : Nat) (l : List TAct) (t_2 : List TRequest) (t_3 : List TRequest) (u_2 : List TRequest) (u_3 : List TRequest) (k : Int) : Option (((List TRequest) × (List TRequest) × (List TRequest) × (List TRequest) × Int) ⊕ (((Bool) ⊕ (Unit)))) :=
  (law37_same n (⟨t_2, t_3⟩ : TTable) (⟨u_2, u_3⟩ : TTable)).bind fun r3 =>
  bif (!r3) then
    some (.inr (.inl false))
  else
    law37_EnqueueRuns_k3 n l t_2 t_3 u_2 u_3 k

abbrev law37_EnqueueRuns_t2 (l : List TAct) (t : List TRequest) (t_1 : List TRequest) (u : List TRequest) (u_1 : List TRequest) (k : Int) : S := stB [(0, .c (.slice 45) (.slice (List.map e_TAct l))), (3, .box 9005 0), (4, .box 9006 0), (5, .c (.int .i64) (.int k))] [(9005, .box [.c (.slice 61) (.slice (List.map e_TRequest t)), .c (.slice 61) (.slice (List.map e_TRequest t_1))]), (9006, .box [.c (.slice 88) (.slice (List.map e_TRequest u)), .c (.slice 88) (.slice (List.map e_TRequest u_1))])]

def law37_EnqueueRuns_b2 (n : Nat) (l : List TAct) (t : List TRequest) (t_1 : List TRequest) (u : List TRequest) (u_1 : List TRequest) (k : Int) : Option (((List TRequest) × (List TRequest) × (List TRequest) × (List TRequest) × Int) ⊕ (((Bool) ⊕ (Unit)))) :=
  bif (if (decide (k < (l.length : Int))) = true then (decide (k < 40)) else false) then
    gd ((0 ≤ k ∧ k < (l.length : Int))) <|
    (law37_few n ((gt l (Int.toNat k)).Wants)).bind fun r2 =>
    bif (!r2) then
      some (.inr (.inl true))
    else
      gd ((0 ≤ k ∧ k < (l.length : Int))) <|
      gd ((0 ≤ k ∧ k < (l.length : Int))) <|
      bif (gt l (Int.toNat k)).Free then
        (enqueue_Release n (⟨t, t_1⟩ : TTable) (IntKind.wrap .i64 ((Int.tmod ((gt l (Int.toNat k)).Job) 12)))).bind fun r4 =>
        (ref37_Release n (⟨u, u_1⟩ : TTable) (IntKind.wrap .i64 ((Int.tmod ((gt l (Int.toNat k)).Job) 12)))).bind fun r5 =>
        gd (((!(r4.2.2 != r5.2.2)) = true → (law37_ints n r4.2.1 r5.2.1).isSome = true)) <|
        bif (if (r4.2.2 != r5.2.2) = true then true else (!((law37_ints n r4.2.1 r5.2.1).getD default))) then
          some (.inr (.inl false))
        else
          bif (r4.2.2 == 0) then
            law37_EnqueueRuns_k4 n l r4.1.Held r4.1.Waiting r5.1.Held r5.1.Waiting k
          else
            law37_EnqueueRuns_k4 n l t t_1 u u_1 k
      else
        gd ((0 ≤ k ∧ k < (l.length : Int))) <|
        (enqueue_Ask n (⟨t, t_1⟩ : TTable) (IntKind.wrap .i64 ((Int.tmod ((gt l (Int.toNat k)).Job) 12))) ((gt l (Int.toNat k)).Wants)).bind fun r6 =>
        gd ((0 ≤ k ∧ k < (l.length : Int))) <|
        (law37_wants n ((gt l (Int.toNat k)).Wants)).bind fun r7 =>
        (ref37_Ask n (⟨u, u_1⟩ : TTable) (IntKind.wrap .i64 ((Int.tmod ((gt l (Int.toNat k)).Job) 12))) r7).bind fun r8 =>
        bif (if (r6.2.2 != r8.2.2) = true then true else (r6.2.1 != r8.2.1)) then
          some (.inr (.inl false))
        else
          bif (r6.2.2 == 0) then
            law37_EnqueueRuns_k4 n l r6.1.Held r6.1.Waiting r8.1.Held r8.1.Waiting k
          else
            law37_EnqueueRuns_k4 n l t t_1 u u_1 k
  else
    some (.inr (.inr ()))

def law37_EnqueueRuns (n : Nat) (l : List TAct) : Option Bool :=
  (law37_works n).bind fun r1 =>
  bif (!r1) then
    some false
  else
    (loopF (fun (x : (List TRequest) × (List TRequest) × (List TRequest) × (List TRequest) × Int) => law37_EnqueueRuns_b2 n l x.1 x.2.1 x.2.2.1 x.2.2.2.1 x.2.2.2.2) n ([], [], [], [], 0)).bind fun y10 =>
    match y10 with
    | .inl v =>
      some v
    | .inr v =>
      law37_EnqueueRuns_k1 n

def xlaw37_EnqueueRuns (n : Nat) : Go.AE.Fn := mkFn (A := (List TAct)) (R := Bool) 4 [(false, [.slice 45])] false (fun xs => ((cg (xs.getD 0 []) 0).toSl.map d_TAct)) (fun a => [[.slice (List.map e_TAct a)]]) (fun a => law37_EnqueueRuns n a) (fun r => [.c .bool (.bool r)]) (fun r => [])

theorem claw37_EnqueueRuns (n : Nat) : Contract Try.prog (xlaw37_EnqueueRuns n) := by
  have hΓ : ∀ g, g ∈ ([xlaw37_works n, xlaw37_few n, xenqueue_Release n, xref37_Release n, xlaw37_ints n, xenqueue_Ask n, xlaw37_wants n, xref37_Ask n, xlaw37_same n] : List Go.AE.Fn) → Contract Try.prog g := by
    intro g hg; simp only [List.mem_cons, List.not_mem_nil, or_false] at hg; rcases hg with rfl | rfl | rfl | rfl | rfl | rfl | rfl | rfl | rfl; exact claw37_works n; exact claw37_few n; exact cenqueue_Release n; exact cref37_Release n; exact claw37_ints n; exact cenqueue_Ask n; exact claw37_wants n; exact cref37_Ask n; exact claw37_same n
  refine contract_f (Try.f4.body.getD .skip) h00 Try.func4 rfl (by intro args w; exact Try.call4 args w) (by decide) (by intro _ r; exact ⟨rfl, by simp⟩) ?_
  rintro l r H
  try dsimp only at H
  unfold law37_EnqueueRuns at H
  simp only [Try.f4, Option.getD]
  refine Sm.seqA h00 mixed hΓ (by kernel_rfl) fun K1 hK1 => ?_
  simp only [rs]
  repeat (refine opsG fun K hK => ?_; simp only [z, seval]; (repeat (first | refine gcI ?_ | refine fun (_ : _ ≤ _) => ?_)); refine hK _ ?_; clear hK K)
  refine hK1 _ ?_
  refine Sm.seqK fun K2 hK2 => ?_
  obtain ⟨r1, hr1, H⟩ := bind_some H
  refine Sm.seqA h00 mixed hΓ (by kernel_rfl) fun K3 hK3 => ?_
  simp only [rs]
  repeat (refine opsG fun K hK => ?_; simp only [z, seval, xlaw37_works, hr1]; (repeat (first | refine gcI ?_ | refine fun (_ : _ ≤ _) => ?_)); refine hK _ ?_; clear hK K)
  refine hK3 _ ?_
  refine Sm.condK (by rfl) fun Ka Kb ha hb => ?_
  simp only [wpCond, z, seval]
  refine ⟨fun h4 => ha ?_, fun h4 => hb ?_⟩
  · first | replace H := bif_t h4 H | replace H := bif_t2 h4 H (by simp only [List.length_append])
    refine Sm.seqA h00 mixed hΓ (by kernel_rfl) fun K5 hK5 => ?_
    simp only [rs]
    repeat (refine opsG fun K hK => ?_; simp only [z, seval]; (repeat (first | refine gcI ?_ | refine fun (_ : _ ≤ _) => ?_)); refine hK _ ?_; clear hK K)
    refine hK5 _ ?_
    refine Sm.ret ?_
    try simp only [seval, Exit.exit.injEq]
    obtain rfl := Option.some.inj H
    refine Ret.ofR [] (.inr rfl) ?_
    simp only [z, seval]
  first | replace H := bif_f h4 H | replace H := bif_f2 h4 H (by simp only [List.length_append])
  refine Sm.skip ?_
  refine hK2 _ ?_
  refine Sm.seqA h00 mixed hΓ (by kernel_rfl) fun K6 hK6 => ?_
  simp only [rs]
  repeat (refine opsG fun K hK => ?_; simp only [z, seval]; (repeat (first | refine gcI ?_ | refine fun (_ : _ ≤ _) => ?_)); refine hK _ ?_; clear hK K)
  refine hK6 _ ?_
  refine Sm.seqA h00 mixed hΓ (by kernel_rfl) fun K7 hK7 => ?_
  simp only [rs]
  repeat (refine opsG fun K hK => ?_; simp only [z, seval]; (repeat (first | refine gcI ?_ | refine fun (_ : _ ≤ _) => ?_)); refine hK _ ?_; clear hK K)
  refine hK7 _ ?_
  refine Sm.cut (fun (x : Unit) => law37_EnqueueRuns_s1) (fun x => law37_EnqueueRuns_k1 n = some r) ?_ ?_
  · refine Sm.seqA h00 mixed hΓ (by kernel_rfl) fun K9 hK9 => ?_
    simp only [rs]
    repeat (refine opsG fun K hK => ?_; simp only [z, seval]; (repeat (first | refine gcI ?_ | refine fun (_ : _ ≤ _) => ?_)); refine hK _ ?_; clear hK K)
    refine hK9 _ ?_
    refine Sm.block ?_
    obtain ⟨y10, hy10, Ho10⟩ := bind_some H
    refine Sm.loopB (fun (x : (List TRequest) × (List TRequest) × (List TRequest) × (List TRequest) × Int) => law37_EnqueueRuns_b2 n l x.1 x.2.1 x.2.2.1 x.2.2.2.1 x.2.2.2.2) (fun x => law37_EnqueueRuns_t2 l x.1 x.2.1 x.2.2.1 x.2.2.2.1 x.2.2.2.2) hy10 ?_ ?_
    · exact weak_b [some 48, some 64] rfl rfl rfl (by simp only [wk, z, seval]) (by simp only [wk, z, seval])
    rintro ⟨t, t_1, u, u_1, k⟩ z10 H
    try dsimp only at H
    unfold law37_EnqueueRuns_b2 at H
    refine Sm.seqK fun K11 hK11 => ?_
    refine Sm.seqA h00 mixed hΓ (by kernel_rfl) fun K12 hK12 => ?_
    simp only [rs]
    repeat (refine opsG fun K hK => ?_; simp only [z, seval, law37_EnqueueRuns_t2]; (repeat (first | refine gcI ?_ | refine fun (_ : _ ≤ _) => ?_)); refine hK _ ?_; clear hK K)
    refine hK12 _ ?_
    refine Sm.condK (by rfl) fun Ka Kb ha hb => ?_
    simp only [wpCond, z, seval, law37_EnqueueRuns_t2]
    refine ⟨fun h13 => ha ?_, fun h13 => hb ?_⟩
    · first | replace H := bif_t h13 H | replace H := bif_t2 h13 H (by simp only [List.length_append])
      refine Sm.skip ?_
      refine hK11 _ ?_
      refine Sm.cut (fun (x : (List TRequest) × (List TRequest) × (List TRequest) × (List TRequest)) => law37_EnqueueRuns_s3 l x.1 x.2.1 x.2.2.1 x.2.2.2 k) (fun x => law37_EnqueueRuns_k3 n l x.1 x.2.1 x.2.2.1 x.2.2.2 k = some z10) ?_ ?_
      · refine Sm.block ?_
        refine Sm.seqK fun K14 hK14 => ?_
        obtain ⟨hg45, H⟩ := gd_some H
        obtain ⟨r2, hr2, H⟩ := bind_some H
        refine Sm.seqA h00 mixed hΓ (by kernel_rfl) fun K15 hK15 => ?_
        simp only [rs]
        repeat (refine opsG fun K hK => ?_; simp only [z, seval, law37_EnqueueRuns_t2, xlaw37_works, xlaw37_few, hr2]; (repeat (first | refine gcI ?_ | refine fun (_ : _ ≤ _) => ?_)); refine hK _ ?_; clear hK K)
        refine hK15 _ ?_
        refine Sm.condK (by rfl) fun Ka Kb ha hb => ?_
        simp only [wpCond, z, seval, law37_EnqueueRuns_t2]
        refine ⟨fun h16 => ha ?_, fun h16 => hb ?_⟩
        · first | replace H := bif_t h16 H | replace H := bif_t2 h16 H (by simp only [List.length_append])
          refine Sm.seqA h00 mixed hΓ (by kernel_rfl) fun K17 hK17 => ?_
          simp only [rs]
          repeat (refine opsG fun K hK => ?_; simp only [z, seval, law37_EnqueueRuns_t2]; (repeat (first | refine gcI ?_ | refine fun (_ : _ ≤ _) => ?_)); refine hK _ ?_; clear hK K)
          refine hK17 _ ?_
          refine Sm.ret ?_
          try simp only [seval, Exit.exit.injEq]
          refine ⟨⟨_, (Option.some.inj H).symm⟩, fun hz => ?_⟩
          have hyy := Sum.inr.inj ((Option.some.inj H).trans hz)
          subst hyy
          have H := Ho10
          try dsimp only at H
          try simp only [seval, Exit.exit.injEq]
          obtain rfl := Option.some.inj H
          refine Ret.ofR [] (.inr rfl) ?_
          simp only [z, seval, law37_EnqueueRuns_t2]
        first | replace H := bif_f h16 H | replace H := bif_f2 h16 H (by simp only [List.length_append])
        refine Sm.skip ?_
        refine hK14 _ ?_
        obtain ⟨hg44, H⟩ := gd_some H
        refine Sm.seqA h00 mixed hΓ (by kernel_rfl) fun K18 hK18 => ?_
        simp only [rs]
        repeat (refine opsG fun K hK => ?_; simp only [z, seval, law37_EnqueueRuns_t2]; (repeat (first | refine gcI ?_ | refine fun (_ : _ ≤ _) => ?_)); refine hK _ ?_; clear hK K)
        refine hK18 _ ?_
        refine Sm.cut (fun (x : (List TRequest) × (List TRequest) × (List TRequest) × (List TRequest)) => law37_EnqueueRuns_s4 l x.1 x.2.1 x.2.2.1 x.2.2.2 k) (fun x => law37_EnqueueRuns_k4 n l x.1 x.2.1 x.2.2.1 x.2.2.2 k = some z10) ?_ ?_
        · obtain ⟨hg43, H⟩ := gd_some H
          refine Sm.seqA h00 mixed hΓ (by kernel_rfl) fun K22 hK22 => ?_
          simp only [rs]
          repeat (refine opsG fun K hK => ?_; simp only [z, seval, law37_EnqueueRuns_t2]; (repeat (first | refine gcI ?_ | refine fun (_ : _ ≤ _) => ?_)); refine hK _ ?_; clear hK K)
          refine hK22 _ ?_
          refine Sm.condK (by rfl) fun Ka Kb ha hb => ?_
          simp only [wpCond, z, seval, law37_EnqueueRuns_t2]
          refine ⟨fun h23 => ha ?_, fun h23 => hb ?_⟩
          · first | replace H := bif_t h23 H | replace H := bif_t2 h23 H (by simp only [List.length_append])
            obtain ⟨r4, hr4, H⟩ := bind_some H
            refine Sm.seqA h00 mixed hΓ (by kernel_rfl) fun K24 hK24 => ?_
            simp only [rs]
            repeat (refine opsG fun K hK => ?_; simp only [z, seval, law37_EnqueueRuns_t2, xlaw37_works, xlaw37_few, xenqueue_Release, hr4]; (repeat (first | refine gcI ?_ | refine fun (_ : _ ≤ _) => ?_)); refine hK _ ?_; clear hK K)
            refine hK24 _ ?_
            obtain ⟨r5, hr5, H⟩ := bind_some H
            refine Sm.seqA h00 mixed hΓ (by kernel_rfl) fun K25 hK25 => ?_
            simp only [rs]
            repeat (refine opsG fun K hK => ?_; simp only [z, seval, law37_EnqueueRuns_t2, xlaw37_works, xlaw37_few, xenqueue_Release, xref37_Release, hr5]; (repeat (first | refine gcI ?_ | refine fun (_ : _ ≤ _) => ?_)); refine hK _ ?_; clear hK K)
            refine hK25 _ ?_
            refine Sm.seqK fun K26 hK26 => ?_
            obtain ⟨hg32, H⟩ := gd_some H
            refine Sm.seqA h00 mixed hΓ (by kernel_rfl) fun K27 hK27 => ?_
            simp only [rs]
            repeat (refine opsG fun K hK => ?_; simp only [z, seval, law37_EnqueueRuns_t2, xlaw37_works, xlaw37_few, xenqueue_Release, xref37_Release, xlaw37_ints]; (repeat (first | refine gcI ?_ | refine fun (_ : _ ≤ _) => ?_)); refine hK _ ?_; clear hK K)
            refine hK27 _ ?_
            refine Sm.condK (by rfl) fun Ka Kb ha hb => ?_
            simp only [wpCond, z, seval, law37_EnqueueRuns_t2]
            refine ⟨fun h28 => ha ?_, fun h28 => hb ?_⟩
            · first | replace H := bif_t h28 H | replace H := bif_t2 h28 H (by simp only [List.length_append])
              refine Sm.seqA h00 mixed hΓ (by kernel_rfl) fun K29 hK29 => ?_
              simp only [rs]
              repeat (refine opsG fun K hK => ?_; simp only [z, seval, law37_EnqueueRuns_t2]; (repeat (first | refine gcI ?_ | refine fun (_ : _ ≤ _) => ?_)); refine hK _ ?_; clear hK K)
              refine hK29 _ ?_
              refine Sm.ret ?_
              try simp only [seval, Exit.exit.injEq]
              refine ⟨⟨_, (Option.some.inj H).symm⟩, fun hz => ?_⟩
              have hyy := Sum.inr.inj ((Option.some.inj H).trans hz)
              subst hyy
              have H := Ho10
              try dsimp only at H
              try simp only [seval, Exit.exit.injEq]
              obtain rfl := Option.some.inj H
              refine Ret.ofR [] (.inr rfl) ?_
              simp only [z, seval, law37_EnqueueRuns_t2]
            first | replace H := bif_f h28 H | replace H := bif_f2 h28 H (by simp only [List.length_append])
            refine Sm.skip ?_
            refine hK26 _ ?_
            refine Sm.seqA h00 mixed hΓ (by kernel_rfl) fun K30 hK30 => ?_
            simp only [rs]
            repeat (refine opsG fun K hK => ?_; simp only [z, seval, law37_EnqueueRuns_t2]; (repeat (first | refine gcI ?_ | refine fun (_ : _ ≤ _) => ?_)); refine hK _ ?_; clear hK K)
            refine hK30 _ ?_
            refine Sm.condK (by rfl) fun Ka Kb ha hb => ?_
            simp only [wpCond, z, seval, law37_EnqueueRuns_t2]
            refine ⟨fun h31 => ha ?_, fun h31 => hb ?_⟩
            · first | replace H := bif_t h31 H | replace H := bif_t2 h31 H (by simp only [List.length_append])
              refine Sm.regQ h00 mixed hΓ [0, 1, 2, 3] [(none, [112], []), (none, [160], []), (none, [848, 9005], [9005]), (none, [9006], [9006])] (by kernel_rfl) rfl ?_
              simp only [rs]
              iterate 4 (refine opsQ fun K hK => ?_; simp only [z, seval, law37_EnqueueRuns_t2]; (repeat (first | refine gcI ?_ | refine fun (_ : _ ≤ _) => ?_)); refine hK _ ?_; clear hK K)
              refine opsQ0 ?_
              try simp only [seval, Exit.exit.injEq]
              refine ⟨(r4.1.Held, r4.1.Waiting, r5.1.Held, r5.1.Waiting), H, ?_⟩
              exact weak_bf [848] [some 9005, some 9006] rfl rfl rfl (by simp only [wk, z, seval, law37_EnqueueRuns_t2]) (by simp only [wk, z, seval, law37_EnqueueRuns_t2])
            first | replace H := bif_f h31 H | replace H := bif_f2 h31 H (by simp only [List.length_append])
            refine Sm.skip ?_
            try simp only [seval, Exit.exit.injEq]
            refine ⟨(t, t_1, u, u_1), H, ?_⟩
            exact weak_b [some 9005, some 9006] rfl rfl rfl (by simp only [wk, z, seval, law37_EnqueueRuns_t2]) (by simp only [wk, z, seval, law37_EnqueueRuns_t2])
          first | replace H := bif_f h23 H | replace H := bif_f2 h23 H (by simp only [List.length_append])
          obtain ⟨hg34, H⟩ := gd_some H
          obtain ⟨r6, hr6, H⟩ := bind_some H
          refine Sm.seqQ h00 mixed hΓ [0, 1, 2, 3, 4, 5, 6, 7, 8, 9, 10, 11, 12, 13, 14, 15] [(none, [9005], []), (none, [], []), (none, [], []), (none, [], []), (none, [], []), (none, [], []), (none, [], []), (none, [], [1375, 1374, 1373, 1372, 1371, 1370, 1369, 1368, 1367, 1366, 1365, 1364, 1363, 1362, 1361, 1360]), (none, [], []), (none, [], []), (none, [], []), (none, [], []), (none, [], [208]), (none, [208, 1360, 1361], [208]), (none, [], []), (none, [], [])] (by kernel_rfl) rfl fun K33 hK33 => ?_
          simp only [rs]
          iterate 16 (refine opsQ fun K hK => ?_; simp only [z, seval, law37_EnqueueRuns_t2, xlaw37_works, xlaw37_few, xenqueue_Release, xref37_Release, xlaw37_ints, xenqueue_Ask, hr6]; (repeat (first | refine gcI ?_ | refine fun (_ : _ ≤ _) => ?_)); refine hK _ ?_; clear hK K)
          refine opsQ0 ?_
          refine hK33 _ ?_
          obtain ⟨hg36, H⟩ := gd_some H
          obtain ⟨r7, hr7, H⟩ := bind_some H
          obtain ⟨r8, hr8, H⟩ := bind_some H
          refine Sm.seqQ h00 mixed hΓ [0, 1, 2, 3, 4, 5, 6, 7, 8, 9, 10, 11, 12, 13, 14, 15, 16] [(none, [9006], []), (none, [], []), (none, [], []), (none, [], []), (none, [], []), (none, [], []), (none, [], []), (none, [], [1567, 1566, 1565, 1564, 1563, 1562, 1561, 1560, 1559, 1558, 1557, 1556, 1555, 1554, 1553, 1552]), (none, [1552], [1583, 1582, 1581, 1580, 1579, 1578, 1577, 1576, 1575, 1574, 1573, 1572, 1571, 1570, 1569, 1568, 1552]), (none, [], []), (none, [], []), (none, [], []), (none, [], []), (none, [], [256]), (none, [256], [256]), (none, [], []), (none, [], [])] (by kernel_rfl) rfl fun K35 hK35 => ?_
          simp only [rs]
          iterate 17 (refine opsQ fun K hK => ?_; simp only [z, seval, law37_EnqueueRuns_t2, xlaw37_works, xlaw37_few, xenqueue_Release, xref37_Release, xlaw37_ints, xenqueue_Ask, xlaw37_wants, xref37_Ask, hr7, hr8]; (repeat (first | refine gcI ?_ | refine fun (_ : _ ≤ _) => ?_)); refine hK _ ?_; clear hK K)
          refine opsQ0 ?_
          refine hK35 _ ?_
          refine Sm.seqK fun K37 hK37 => ?_
          refine Sm.seqA h00 mixed hΓ (by kernel_rfl) fun K38 hK38 => ?_
          simp only [rs]
          repeat (refine opsG fun K hK => ?_; simp only [z, seval, law37_EnqueueRuns_t2]; (repeat (first | refine gcI ?_ | refine fun (_ : _ ≤ _) => ?_)); refine hK _ ?_; clear hK K)
          refine hK38 _ ?_
          refine Sm.condK (by rfl) fun Ka Kb ha hb => ?_
          simp only [wpCond, z, seval, law37_EnqueueRuns_t2]
          refine ⟨fun h39 => ha ?_, fun h39 => hb ?_⟩
          · first | replace H := bif_t h39 H | replace H := bif_t2 h39 H (by simp only [List.length_append])
            refine Sm.seqA h00 mixed hΓ (by kernel_rfl) fun K40 hK40 => ?_
            simp only [rs]
            repeat (refine opsG fun K hK => ?_; simp only [z, seval, law37_EnqueueRuns_t2]; (repeat (first | refine gcI ?_ | refine fun (_ : _ ≤ _) => ?_)); refine hK _ ?_; clear hK K)
            refine hK40 _ ?_
            refine Sm.ret ?_
            try simp only [seval, Exit.exit.injEq]
            refine ⟨⟨_, (Option.some.inj H).symm⟩, fun hz => ?_⟩
            have hyy := Sum.inr.inj ((Option.some.inj H).trans hz)
            subst hyy
            have H := Ho10
            try dsimp only at H
            try simp only [seval, Exit.exit.injEq]
            obtain rfl := Option.some.inj H
            refine Ret.ofR [] (.inr rfl) ?_
            simp only [z, seval, law37_EnqueueRuns_t2]
          first | replace H := bif_f h39 H | replace H := bif_f2 h39 H (by simp only [List.length_append])
          refine Sm.skip ?_
          refine hK37 _ ?_
          refine Sm.seqA h00 mixed hΓ (by kernel_rfl) fun K41 hK41 => ?_
          simp only [rs]
          repeat (refine opsG fun K hK => ?_; simp only [z, seval, law37_EnqueueRuns_t2]; (repeat (first | refine gcI ?_ | refine fun (_ : _ ≤ _) => ?_)); refine hK _ ?_; clear hK K)
          refine hK41 _ ?_
          refine Sm.condK (by rfl) fun Ka Kb ha hb => ?_
          simp only [wpCond, z, seval, law37_EnqueueRuns_t2]
          refine ⟨fun h42 => ha ?_, fun h42 => hb ?_⟩
          · first | replace H := bif_t h42 H | replace H := bif_t2 h42 H (by simp only [List.length_append])
            refine Sm.regQ h00 mixed hΓ [0, 1, 2, 3] [(none, [208], []), (none, [256], []), (none, [1360, 1361, 9005], [9005]), (none, [9006], [9006])] (by kernel_rfl) rfl ?_
            simp only [rs]
            iterate 4 (refine opsQ fun K hK => ?_; simp only [z, seval, law37_EnqueueRuns_t2]; (repeat (first | refine gcI ?_ | refine fun (_ : _ ≤ _) => ?_)); refine hK _ ?_; clear hK K)
            refine opsQ0 ?_
            try simp only [seval, Exit.exit.injEq]
            refine ⟨(r6.1.Held, r6.1.Waiting, r8.1.Held, r8.1.Waiting), H, ?_⟩
            exact weak_bf [1360, 1361] [some 9005, some 9006] rfl rfl rfl (by simp only [wk, z, seval, law37_EnqueueRuns_t2]) (by simp only [wk, z, seval, law37_EnqueueRuns_t2])
          first | replace H := bif_f h42 H | replace H := bif_f2 h42 H (by simp only [List.length_append])
          refine Sm.skip ?_
          try simp only [seval, Exit.exit.injEq]
          refine ⟨(t, t_1, u, u_1), H, ?_⟩
          exact weak_b [some 9005, some 9006] rfl rfl rfl (by simp only [wk, z, seval, law37_EnqueueRuns_t2]) (by simp only [wk, z, seval, law37_EnqueueRuns_t2])
        rintro ⟨t_2, t_3, u_2, u_3⟩ H
        try dsimp only at H
        unfold law37_EnqueueRuns_k4 at H
        obtain ⟨r3, hr3, H⟩ := bind_some H
        refine Sm.seqA h00 mixed hΓ (by kernel_rfl) fun K19 hK19 => ?_
        simp only [rs]
        repeat (refine opsG fun K hK => ?_; simp only [z, seval, law37_EnqueueRuns_s4, xlaw37_works, xlaw37_few, xenqueue_Release, xref37_Release, xlaw37_ints, xenqueue_Ask, xlaw37_wants, xref37_Ask, xlaw37_same, hr3]; (repeat (first | refine gcI ?_ | refine fun (_ : _ ≤ _) => ?_)); refine hK _ ?_; clear hK K)
        refine hK19 _ ?_
        refine Sm.condK (by rfl) fun Ka Kb ha hb => ?_
        simp only [wpCond, z, seval, law37_EnqueueRuns_s4]
        refine ⟨fun h20 => ha ?_, fun h20 => hb ?_⟩
        · first | replace H := bif_t h20 H | replace H := bif_t2 h20 H (by simp only [List.length_append])
          refine Sm.seqA h00 mixed hΓ (by kernel_rfl) fun K21 hK21 => ?_
          simp only [rs]
          repeat (refine opsG fun K hK => ?_; simp only [z, seval, law37_EnqueueRuns_s4]; (repeat (first | refine gcI ?_ | refine fun (_ : _ ≤ _) => ?_)); refine hK _ ?_; clear hK K)
          refine hK21 _ ?_
          refine Sm.ret ?_
          try simp only [seval, Exit.exit.injEq]
          refine ⟨⟨_, (Option.some.inj H).symm⟩, fun hz => ?_⟩
          have hyy := Sum.inr.inj ((Option.some.inj H).trans hz)
          subst hyy
          have H := Ho10
          try dsimp only at H
          try simp only [seval, Exit.exit.injEq]
          obtain rfl := Option.some.inj H
          refine Ret.ofR [] (.inr rfl) ?_
          simp only [z, seval, law37_EnqueueRuns_s4]
        first | replace H := bif_f h20 H | replace H := bif_f2 h20 H (by simp only [List.length_append])
        refine Sm.skip ?_
        try simp only [seval, Exit.exit.injEq]
        refine ⟨(t_2, t_3, u_2, u_3), H, ?_⟩
        exact weak_b [some 9009, some 9010] rfl rfl rfl (by simp only [wk, z, seval, law37_EnqueueRuns_s4]) (by simp only [wk, z, seval, law37_EnqueueRuns_s4])
      rintro ⟨t_2, t_3, u_2, u_3⟩ H
      try dsimp only at H
      unfold law37_EnqueueRuns_k3 at H
      refine Sm.regA h00 mixed hΓ (by kernel_rfl) ?_
      simp only [rs]
      repeat (refine opsG fun K hK => ?_; simp only [z, seval, law37_EnqueueRuns_s3]; (repeat (first | refine gcI ?_ | refine fun (_ : _ ≤ _) => ?_)); refine hK _ ?_; clear hK K)
      refine opsG0 ?_
      try simp only [seval, Exit.exit.injEq]
      refine ⟨(_, _, _, _, _), (Option.some.inj H).symm, ?_⟩
      exact weak_b [some 9007, some 9008] rfl rfl rfl (by simp only [wk, z, seval, law37_EnqueueRuns_s3]) (by simp only [wk, z, seval, law37_EnqueueRuns_s3])
    first | replace H := bif_f h13 H | replace H := bif_f2 h13 H (by simp only [List.length_append])
    refine Sm.exit ?_
    try simp only [seval, Exit.exit.injEq]
    refine ⟨⟨_, (Option.some.inj H).symm⟩, fun hz => ?_⟩
    have hyy := Sum.inr.inj ((Option.some.inj H).trans hz)
    subst hyy
    have H := Ho10
    try dsimp only at H
    try simp only [seval, Exit.exit.injEq]
    refine ⟨(), H, ?_⟩
    exact weak_b [] rfl rfl rfl (by simp only [wk, z, seval, law37_EnqueueRuns_t2]) (by simp only [wk, z, seval, law37_EnqueueRuns_t2])
  rintro ⟨⟩ H
  try dsimp only at H
  unfold law37_EnqueueRuns_k1 at H
  refine Sm.seqA h00 mixed hΓ (by kernel_rfl) fun K8 hK8 => ?_
  simp only [rs]
  repeat (refine opsG fun K hK => ?_; simp only [z, seval, law37_EnqueueRuns_s1]; (repeat (first | refine gcI ?_ | refine fun (_ : _ ≤ _) => ?_)); refine hK _ ?_; clear hK K)
  refine hK8 _ ?_
  refine Sm.ret ?_
  try simp only [seval, Exit.exit.injEq]
  obtain rfl := Option.some.inj H
  refine Ret.ofR [] (.inr rfl) ?_
  simp only [z, seval, law37_EnqueueRuns_s1]

abbrev law37_play_s1 (t : List TRequest) (t_1 : List TRequest) : S := stB [(2, .box 9000 0), (4, .box 9001 0)] [(9000, .box [.nilsl, .nilsl]), (9001, .box [.c (.slice 61) (.slice (List.map e_TRequest t)), .c (.slice 61) (.slice (List.map e_TRequest t_1))])]

def law37_play_k1 (n : Nat) (t : List TRequest) (t_1 : List TRequest) : Option (TTable × Bool) :=
  some ((⟨t, t_1⟩ : TTable), true)

abbrev law37_play_s3 (l : List TAct) (t_2 : List TRequest) (t_3 : List TRequest) (k : Int) : S := stB [(0, .c (.slice 45) (.slice (List.map e_TAct l))), (2, .box 9009 0), (4, .box 9010 0), (5, .c (.int .i64) (.int k))] [(9009, .box [.nilsl, .nilsl]), (9010, .box [.c (.slice 61) (.slice (List.map e_TRequest t_2)), .c (.slice 61) (.slice (List.map e_TRequest t_3))])]

def law37_play_k3 (n : Nat) (l : List TAct) (t_2 : List TRequest) (t_3 : List TRequest) (k : Int) : Option (((List TRequest) × (List TRequest) × Int) ⊕ (((TTable × Bool) ⊕ ((List TRequest) × (List TRequest))))) :=
  some (.inl (t_2, t_3, (IntKind.wrap .i64 (k + 1))))

abbrev law37_play_t2 (l : List TAct) (t : List TRequest) (t_1 : List TRequest) (k : Int) : S := stB [(0, .c (.slice 45) (.slice (List.map e_TAct l))), (2, .box 9007 0), (4, .box 9008 0), (5, .c (.int .i64) (.int k))] [(9007, .box [.nilsl, .nilsl]), (9008, .box [.c (.slice 61) (.slice (List.map e_TRequest t)), .c (.slice 61) (.slice (List.map e_TRequest t_1))])]

def law37_play_b2 (n : Nat) (l : List TAct) (t : List TRequest) (t_1 : List TRequest) (k : Int) : Option (((List TRequest) × (List TRequest) × Int) ⊕ (((TTable × Bool) ⊕ ((List TRequest) × (List TRequest))))) :=
  bif (if (decide (k < (l.length : Int))) = true then (decide (k < 40)) else false) then
    gd ((0 ≤ k ∧ k < (l.length : Int))) <|
    (law37_few n ((gt l (Int.toNat k)).Wants)).bind fun r1 =>
    bif (!r1) then
      some (.inr (.inl ((⟨t, t_1⟩ : TTable), false)))
    else
      gd ((0 ≤ k ∧ k < (l.length : Int))) <|
      gd ((0 ≤ k ∧ k < (l.length : Int))) <|
      bif (gt l (Int.toNat k)).Free then
        (enqueue_Release n (⟨t, t_1⟩ : TTable) (IntKind.wrap .i64 ((Int.tmod ((gt l (Int.toNat k)).Job) 12)))).bind fun r2 =>
        bif (r2.2.2 == 0) then
          law37_play_k3 n l r2.1.Held r2.1.Waiting k
        else
          law37_play_k3 n l t t_1 k
      else
        gd ((0 ≤ k ∧ k < (l.length : Int))) <|
        (enqueue_Ask n (⟨t, t_1⟩ : TTable) (IntKind.wrap .i64 ((Int.tmod ((gt l (Int.toNat k)).Job) 12))) ((gt l (Int.toNat k)).Wants)).bind fun r3 =>
        bif (r3.2.2 == 0) then
          law37_play_k3 n l r3.1.Held r3.1.Waiting k
        else
          law37_play_k3 n l t t_1 k
  else
    some (.inr (.inr (t, t_1)))

def law37_play (n : Nat) (l : List TAct) : Option (TTable × Bool) :=
  (loopF (fun (x : (List TRequest) × (List TRequest) × Int) => law37_play_b2 n l x.1 x.2.1 x.2.2) n ([], [], 0)).bind fun y5 =>
  match y5 with
  | .inl v =>
    some (v.1, v.2)
  | .inr v =>
    law37_play_k1 n v.1 v.2

def xlaw37_play (n : Nat) : Go.AE.Fn := mkFn (A := (List TAct)) (R := TTable × Bool) 27 [(false, [.slice 45])] true (fun xs => ((cg (xs.getD 0 []) 0).toSl.map d_TAct)) (fun a => [[.slice (List.map e_TAct a)]]) (fun a => law37_play n a) (fun r => [.agg [.c (.slice 61) (.slice (List.map e_TRequest r.1.Held)), .c (.slice 61) (.slice (List.map e_TRequest r.1.Waiting))], .c .bool (.bool r.2)]) (fun r => [])

theorem claw37_play (n : Nat) : Contract Try.prog (xlaw37_play n) := by
  have hΓ : ∀ g, g ∈ ([xlaw37_few n, xenqueue_Release n, xenqueue_Ask n] : List Go.AE.Fn) → Contract Try.prog g := by
    intro g hg; simp only [List.mem_cons, List.not_mem_nil, or_false] at hg; rcases hg with rfl | rfl | rfl; exact claw37_few n; exact cenqueue_Release n; exact cenqueue_Ask n
  refine contract_f (Try.f27.body.getD .skip) h00 Try.func27 rfl (by intro args w; exact Try.call27 args w) (by decide) (by intro h; cases h) ?_
  rintro l r H
  try dsimp only at H
  unfold law37_play at H
  simp only [Try.f27, Option.getD]
  refine Sm.seqA h00 mixed hΓ (by kernel_rfl) fun K1 hK1 => ?_
  simp only [rs]
  repeat (refine opsG fun K hK => ?_; simp only [z, seval]; (repeat (first | refine gcI ?_ | refine fun (_ : _ ≤ _) => ?_)); refine hK _ ?_; clear hK K)
  refine hK1 _ ?_
  refine Sm.seqA h00 mixed hΓ (by kernel_rfl) fun K2 hK2 => ?_
  simp only [rs]
  repeat (refine opsG fun K hK => ?_; simp only [z, seval]; (repeat (first | refine gcI ?_ | refine fun (_ : _ ≤ _) => ?_)); refine hK _ ?_; clear hK K)
  refine hK2 _ ?_
  refine Sm.cut (fun (x : (List TRequest) × (List TRequest)) => law37_play_s1 x.1 x.2) (fun x => law37_play_k1 n x.1 x.2 = some r) ?_ ?_
  · refine Sm.seqA h00 mixed hΓ (by kernel_rfl) fun K4 hK4 => ?_
    simp only [rs]
    repeat (refine opsG fun K hK => ?_; simp only [z, seval]; (repeat (first | refine gcI ?_ | refine fun (_ : _ ≤ _) => ?_)); refine hK _ ?_; clear hK K)
    refine hK4 _ ?_
    refine Sm.block ?_
    obtain ⟨y5, hy5, Ho5⟩ := bind_some H
    refine Sm.loopB (fun (x : (List TRequest) × (List TRequest) × Int) => law37_play_b2 n l x.1 x.2.1 x.2.2) (fun x => law37_play_t2 l x.1 x.2.1 x.2.2) hy5 ?_ ?_
    · exact weak_b [some 32, some 64] rfl rfl rfl (by simp only [wk, z, seval]) (by simp only [wk, z, seval])
    rintro ⟨t, t_1, k⟩ z5 H
    try dsimp only at H
    unfold law37_play_b2 at H
    refine Sm.seqK fun K6 hK6 => ?_
    refine Sm.seqA h00 mixed hΓ (by kernel_rfl) fun K7 hK7 => ?_
    simp only [rs]
    repeat (refine opsG fun K hK => ?_; simp only [z, seval, law37_play_t2]; (repeat (first | refine gcI ?_ | refine fun (_ : _ ≤ _) => ?_)); refine hK _ ?_; clear hK K)
    refine hK7 _ ?_
    refine Sm.condK (by rfl) fun Ka Kb ha hb => ?_
    simp only [wpCond, z, seval, law37_play_t2]
    refine ⟨fun h8 => ha ?_, fun h8 => hb ?_⟩
    · first | replace H := bif_t h8 H | replace H := bif_t2 h8 H (by simp only [List.length_append])
      refine Sm.skip ?_
      refine hK6 _ ?_
      refine Sm.cut (fun (x : (List TRequest) × (List TRequest)) => law37_play_s3 l x.1 x.2 k) (fun x => law37_play_k3 n l x.1 x.2 k = some z5) ?_ ?_
      · refine Sm.block ?_
        refine Sm.seqK fun K9 hK9 => ?_
        obtain ⟨hg25, H⟩ := gd_some H
        obtain ⟨r1, hr1, H⟩ := bind_some H
        refine Sm.seqA h00 mixed hΓ (by kernel_rfl) fun K10 hK10 => ?_
        simp only [rs]
        repeat (refine opsG fun K hK => ?_; simp only [z, seval, law37_play_t2, xlaw37_few, hr1]; (repeat (first | refine gcI ?_ | refine fun (_ : _ ≤ _) => ?_)); refine hK _ ?_; clear hK K)
        refine hK10 _ ?_
        refine Sm.condK (by rfl) fun Ka Kb ha hb => ?_
        simp only [wpCond, z, seval, law37_play_t2]
        refine ⟨fun h11 => ha ?_, fun h11 => hb ?_⟩
        · first | replace H := bif_t h11 H | replace H := bif_t2 h11 H (by simp only [List.length_append])
          refine Sm.seqA h00 mixed hΓ (by kernel_rfl) fun K12 hK12 => ?_
          simp only [rs]
          repeat (refine opsG fun K hK => ?_; simp only [z, seval, law37_play_t2]; (repeat (first | refine gcI ?_ | refine fun (_ : _ ≤ _) => ?_)); refine hK _ ?_; clear hK K)
          refine hK12 _ ?_
          refine Sm.ret ?_
          try simp only [seval, Exit.exit.injEq]
          refine ⟨⟨_, (Option.some.inj H).symm⟩, fun hz => ?_⟩
          have hyy := Sum.inr.inj ((Option.some.inj H).trans hz)
          subst hyy
          have H := Ho5
          try dsimp only at H
          try simp only [seval, Exit.exit.injEq]
          obtain rfl := Option.some.inj H
          refine Ret.ofR [] (.inr rfl) ?_
          simp only [z, seval, law37_play_t2]
        first | replace H := bif_f h11 H | replace H := bif_f2 h11 H (by simp only [List.length_append])
        refine Sm.skip ?_
        refine hK9 _ ?_
        obtain ⟨hg24, H⟩ := gd_some H
        refine Sm.seqA h00 mixed hΓ (by kernel_rfl) fun K13 hK13 => ?_
        simp only [rs]
        repeat (refine opsG fun K hK => ?_; simp only [z, seval, law37_play_t2]; (repeat (first | refine gcI ?_ | refine fun (_ : _ ≤ _) => ?_)); refine hK _ ?_; clear hK K)
        refine hK13 _ ?_
        obtain ⟨hg23, H⟩ := gd_some H
        refine Sm.seqA h00 mixed hΓ (by kernel_rfl) fun K14 hK14 => ?_
        simp only [rs]
        repeat (refine opsG fun K hK => ?_; simp only [z, seval, law37_play_t2]; (repeat (first | refine gcI ?_ | refine fun (_ : _ ≤ _) => ?_)); refine hK _ ?_; clear hK K)
        refine hK14 _ ?_
        refine Sm.condK (by rfl) fun Ka Kb ha hb => ?_
        simp only [wpCond, z, seval, law37_play_t2]
        refine ⟨fun h15 => ha ?_, fun h15 => hb ?_⟩
        · first | replace H := bif_t h15 H | replace H := bif_t2 h15 H (by simp only [List.length_append])
          obtain ⟨r2, hr2, H⟩ := bind_some H
          refine Sm.seqA h00 mixed hΓ (by kernel_rfl) fun K16 hK16 => ?_
          simp only [rs]
          repeat (refine opsG fun K hK => ?_; simp only [z, seval, law37_play_t2, xlaw37_few, xenqueue_Release, hr2]; (repeat (first | refine gcI ?_ | refine fun (_ : _ ≤ _) => ?_)); refine hK _ ?_; clear hK K)
          refine hK16 _ ?_
          refine Sm.seqA h00 mixed hΓ (by kernel_rfl) fun K17 hK17 => ?_
          simp only [rs]
          repeat (refine opsG fun K hK => ?_; simp only [z, seval, law37_play_t2]; (repeat (first | refine gcI ?_ | refine fun (_ : _ ≤ _) => ?_)); refine hK _ ?_; clear hK K)
          refine hK17 _ ?_
          refine Sm.condK (by rfl) fun Ka Kb ha hb => ?_
          simp only [wpCond, z, seval, law37_play_t2]
          refine ⟨fun h18 => ha ?_, fun h18 => hb ?_⟩
          · first | replace H := bif_t h18 H | replace H := bif_t2 h18 H (by simp only [List.length_append])
            refine Sm.regA h00 mixed hΓ (by kernel_rfl) ?_
            simp only [rs]
            repeat (refine opsG fun K hK => ?_; simp only [z, seval, law37_play_t2]; (repeat (first | refine gcI ?_ | refine fun (_ : _ ≤ _) => ?_)); refine hK _ ?_; clear hK K)
            refine opsG0 ?_
            try simp only [seval, Exit.exit.injEq]
            refine ⟨(r2.1.Held, r2.1.Waiting), H, ?_⟩
            exact weak_bf [736] [some 9007, some 9008] rfl rfl rfl (by simp only [wk, z, seval, law37_play_t2]) (by simp only [wk, z, seval, law37_play_t2])
          first | replace H := bif_f h18 H | replace H := bif_f2 h18 H (by simp only [List.length_append])
          refine Sm.skip ?_
          try simp only [seval, Exit.exit.injEq]
          refine ⟨(t, t_1), H, ?_⟩
          exact weak_b [some 9007, some 9008] rfl rfl rfl (by simp only [wk, z, seval, law37_play_t2]) (by simp only [wk, z, seval, law37_play_t2])
        first | replace H := bif_f h15 H | replace H := bif_f2 h15 H (by simp only [List.length_append])
        obtain ⟨hg20, H⟩ := gd_some H
        obtain ⟨r3, hr3, H⟩ := bind_some H
        refine Sm.seqQ h00 mixed hΓ [0, 1, 2, 3, 4, 5, 6, 7, 8, 9, 10, 11, 12, 13, 14, 15] [(none, [9008], []), (none, [], []), (none, [], []), (none, [], []), (none, [], []), (none, [], []), (none, [], []), (none, [], [991, 990, 989, 988, 987, 986, 985, 984, 983, 982, 981, 980, 979, 978, 977, 976]), (none, [], []), (none, [], []), (none, [], []), (none, [], []), (none, [], [160]), (none, [160, 976, 977], [160]), (none, [], []), (none, [], [])] (by kernel_rfl) rfl fun K19 hK19 => ?_
        simp only [rs]
        iterate 16 (refine opsQ fun K hK => ?_; simp only [z, seval, law37_play_t2, xlaw37_few, xenqueue_Release, xenqueue_Ask, hr3]; (repeat (first | refine gcI ?_ | refine fun (_ : _ ≤ _) => ?_)); refine hK _ ?_; clear hK K)
        refine opsQ0 ?_
        refine hK19 _ ?_
        refine Sm.seqA h00 mixed hΓ (by kernel_rfl) fun K21 hK21 => ?_
        simp only [rs]
        repeat (refine opsG fun K hK => ?_; simp only [z, seval, law37_play_t2]; (repeat (first | refine gcI ?_ | refine fun (_ : _ ≤ _) => ?_)); refine hK _ ?_; clear hK K)
        refine hK21 _ ?_
        refine Sm.condK (by rfl) fun Ka Kb ha hb => ?_
        simp only [wpCond, z, seval, law37_play_t2]
        refine ⟨fun h22 => ha ?_, fun h22 => hb ?_⟩
        · first | replace H := bif_t h22 H | replace H := bif_t2 h22 H (by simp only [List.length_append])
          refine Sm.regA h00 mixed hΓ (by kernel_rfl) ?_
          simp only [rs]
          repeat (refine opsG fun K hK => ?_; simp only [z, seval, law37_play_t2]; (repeat (first | refine gcI ?_ | refine fun (_ : _ ≤ _) => ?_)); refine hK _ ?_; clear hK K)
          refine opsG0 ?_
          try simp only [seval, Exit.exit.injEq]
          refine ⟨(r3.1.Held, r3.1.Waiting), H, ?_⟩
          exact weak_bf [976, 977] [some 9007, some 9008] rfl rfl rfl (by simp only [wk, z, seval, law37_play_t2]) (by simp only [wk, z, seval, law37_play_t2])
        first | replace H := bif_f h22 H | replace H := bif_f2 h22 H (by simp only [List.length_append])
        refine Sm.skip ?_
        try simp only [seval, Exit.exit.injEq]
        refine ⟨(t, t_1), H, ?_⟩
        exact weak_b [some 9007, some 9008] rfl rfl rfl (by simp only [wk, z, seval, law37_play_t2]) (by simp only [wk, z, seval, law37_play_t2])
      rintro ⟨t_2, t_3⟩ H
      try dsimp only at H
      unfold law37_play_k3 at H
      refine Sm.regA h00 mixed hΓ (by kernel_rfl) ?_
      simp only [rs]
      repeat (refine opsG fun K hK => ?_; simp only [z, seval, law37_play_s3]; (repeat (first | refine gcI ?_ | refine fun (_ : _ ≤ _) => ?_)); refine hK _ ?_; clear hK K)
      refine opsG0 ?_
      try simp only [seval, Exit.exit.injEq]
      refine ⟨(_, _, _), (Option.some.inj H).symm, ?_⟩
      exact weak_b [some 9009, some 9010] rfl rfl rfl (by simp only [wk, z, seval, law37_play_s3]) (by simp only [wk, z, seval, law37_play_s3])
    first | replace H := bif_f h8 H | replace H := bif_f2 h8 H (by simp only [List.length_append])
    refine Sm.exit ?_
    try simp only [seval, Exit.exit.injEq]
    refine ⟨⟨_, (Option.some.inj H).symm⟩, fun hz => ?_⟩
    have hyy := Sum.inr.inj ((Option.some.inj H).trans hz)
    subst hyy
    have H := Ho5
    try dsimp only at H
    try simp only [seval, Exit.exit.injEq]
    refine ⟨(t, t_1), H, ?_⟩
    exact weak_b [some 9007, some 9008] rfl rfl rfl (by simp only [wk, z, seval, law37_play_t2]) (by simp only [wk, z, seval, law37_play_t2])
  rintro ⟨t, t_1⟩ H
  try dsimp only at H
  unfold law37_play_k1 at H
  refine Sm.seqA h00 mixed hΓ (by kernel_rfl) fun K3 hK3 => ?_
  simp only [rs]
  repeat (refine opsG fun K hK => ?_; simp only [z, seval, law37_play_s1]; (repeat (first | refine gcI ?_ | refine fun (_ : _ ≤ _) => ?_)); refine hK _ ?_; clear hK K)
  refine hK3 _ ?_
  refine Sm.ret ?_
  try simp only [seval, Exit.exit.injEq]
  obtain rfl := Option.some.inj H
  refine Ret.ofR [] (.inr rfl) ?_
  simp only [z, seval, law37_play_s1]

abbrev law37_conflict_s1 : S := stB [] []

def law37_conflict_k1 (n : Nat) : Option Bool :=
  some false

abbrev law37_conflict_s3 (a : TRequest) (b : TRequest) (i : Int) : S := stB [(2, .box 9004 0), (3, .box 9005 0), (5, .c (.int .i64) (.int i))] [(9004, .box [.c (.int .i64) (.int a.Job), .c (.slice 92) (.slice (List.map e_TWant a.Wants))]), (9005, .box [.c (.int .i64) (.int b.Job), .c (.slice 92) (.slice (List.map e_TWant b.Wants))])]

def law37_conflict_k3 (n : Nat) (a : TRequest) (b : TRequest) (i : Int) : Option ((Int) ⊕ (((Bool) ⊕ (Unit)))) :=
  some (.inl (IntKind.wrap .i64 (i + 1)))

abbrev law37_conflict_t4 (a : TRequest) (b : TRequest) (i : Int) (k : Int) : S := stB [(2, .box 9008 0), (3, .box 9009 0), (5, .c (.int .i64) (.int i)), (6, .c (.int .i64) (.int k))] [(9008, .box [.c (.int .i64) (.int a.Job), .c (.slice 92) (.slice (List.map e_TWant a.Wants))]), (9009, .box [.c (.int .i64) (.int b.Job), .c (.slice 92) (.slice (List.map e_TWant b.Wants))])]

def law37_conflict_b4 (n : Nat) (a : TRequest) (b : TRequest) (i : Int) (k : Int) : Option ((Int) ⊕ (((Bool) ⊕ (Unit)))) :=
  bif (decide (k < (b.Wants.length : Int))) then
    gd ((0 ≤ i ∧ i < (a.Wants.length : Int)) ∧ (0 ≤ k ∧ k < (b.Wants.length : Int)) ∧ ((((gt a.Wants (Int.toNat i)).Name) == ((gt b.Wants (Int.toNat k)).Name)) = true → (0 ≤ i ∧ i < (a.Wants.length : Int))) ∧ (((((gt a.Wants (Int.toNat i)).Name) == ((gt b.Wants (Int.toNat k)).Name)) && (!((gt a.Wants (Int.toNat i)).Exclusive))) = true → (0 ≤ k ∧ k < (b.Wants.length : Int))) ∧ (((((gt a.Wants (Int.toNat i)).Name) == ((gt b.Wants (Int.toNat k)).Name)) && !((gt a.Wants (Int.toNat i)).Exclusive)) = true → ((((gt a.Wants (Int.toNat i)).Name) == ((gt b.Wants (Int.toNat k)).Name)) && (!((gt a.Wants (Int.toNat i)).Exclusive))) = true)) <|
    bif (if (((gt a.Wants (Int.toNat i)).Name) == ((gt b.Wants (Int.toNat k)).Name)) = true then (if (gt a.Wants (Int.toNat i)).Exclusive = true then true else (gt b.Wants (Int.toNat k)).Exclusive) else false) then
      some (.inr (.inl true))
    else
      some (.inl (IntKind.wrap .i64 (k + 1)))
  else
    some (.inr (.inr ()))

abbrev law37_conflict_t2 (a : TRequest) (b : TRequest) (i : Int) : S := stB [(2, .box 9002 0), (3, .box 9003 0), (5, .c (.int .i64) (.int i))] [(9002, .box [.c (.int .i64) (.int a.Job), .c (.slice 92) (.slice (List.map e_TWant a.Wants))]), (9003, .box [.c (.int .i64) (.int b.Job), .c (.slice 92) (.slice (List.map e_TWant b.Wants))])]

def law37_conflict_b2 (n : Nat) (a : TRequest) (b : TRequest) (i : Int) : Option ((Int) ⊕ (((Bool) ⊕ (Unit)))) :=
  bif (decide (i < (a.Wants.length : Int))) then
    (loopF (fun (x : Int) => law37_conflict_b4 n a b i x) n 0).bind fun y9 =>
    match y9 with
    | .inl v =>
      some (.inr (.inl v))
    | .inr v =>
      law37_conflict_k3 n a b i
  else
    some (.inr (.inr ()))

def law37_conflict (n : Nat) (a : TRequest) (b : TRequest) : Option Bool :=
  (loopF (fun (x : Int) => law37_conflict_b2 n a b x) n 0).bind fun y4 =>
  match y4 with
  | .inl v =>
    some v
  | .inr v =>
    law37_conflict_k1 n

def xlaw37_conflict (n : Nat) : Go.AE.Fn := mkFn (A := TRequest × TRequest) (R := Bool) 46 [(true, [.int .i64, .slice 92]), (true, [.int .i64, .slice 92])] false (fun xs => ((⟨(cg (xs.getD 0 []) 0).toInt, ((cg (xs.getD 0 []) 1).toSl.map d_TWant)⟩ : TRequest), (⟨(cg (xs.getD 1 []) 0).toInt, ((cg (xs.getD 1 []) 1).toSl.map d_TWant)⟩ : TRequest))) (fun a => [[.int a.1.Job, .slice (List.map e_TWant a.1.Wants)], [.int a.2.Job, .slice (List.map e_TWant a.2.Wants)]]) (fun a => law37_conflict n a.1 a.2) (fun r => [.c .bool (.bool r)]) (fun r => [])

theorem claw37_conflict (n : Nat) : Contract Try.prog (xlaw37_conflict n) := by
  have hΓ : ∀ g, g ∈ ([] : List Go.AE.Fn) → Contract Try.prog g := by simp
  refine contract_f (Try.f46.body.getD .skip) h00 Try.func46 rfl (by intro args w; exact Try.call46 args w) (by decide) (by intro _ r; exact ⟨rfl, by simp⟩) ?_
  rintro ⟨a, b⟩ r H
  try dsimp only at H
  unfold law37_conflict at H
  simp only [Try.f46, Option.getD]
  refine Sm.seqA h00 mixed hΓ (by kernel_rfl) fun K1 hK1 => ?_
  simp only [rs]
  repeat (refine opsG fun K hK => ?_; simp only [z, seval]; (repeat (first | refine gcI ?_ | refine fun (_ : _ ≤ _) => ?_)); refine hK _ ?_; clear hK K)
  refine hK1 _ ?_
  refine Sm.cut (fun (x : Unit) => law37_conflict_s1) (fun x => law37_conflict_k1 n = some r) ?_ ?_
  · refine Sm.seqA h00 mixed hΓ (by kernel_rfl) fun K3 hK3 => ?_
    simp only [rs]
    repeat (refine opsG fun K hK => ?_; simp only [z, seval]; (repeat (first | refine gcI ?_ | refine fun (_ : _ ≤ _) => ?_)); refine hK _ ?_; clear hK K)
    refine hK3 _ ?_
    refine Sm.block ?_
    obtain ⟨y4, hy4, Ho4⟩ := bind_some H
    refine Sm.loopB (fun (x : Int) => law37_conflict_b2 n a b x) (fun x => law37_conflict_t2 a b x) hy4 ?_ ?_
    · exact weak_b [some 32, some 48] rfl rfl rfl (by simp only [wk, z, seval]) (by simp only [wk, z, seval])
    rintro i z4 H
    try dsimp only at H
    unfold law37_conflict_b2 at H
    refine Sm.seqK fun K5 hK5 => ?_
    refine Sm.seqA h00 mixed hΓ (by kernel_rfl) fun K6 hK6 => ?_
    simp only [rs]
    repeat (refine opsG fun K hK => ?_; simp only [z, seval, law37_conflict_t2]; (repeat (first | refine gcI ?_ | refine fun (_ : _ ≤ _) => ?_)); refine hK _ ?_; clear hK K)
    refine hK6 _ ?_
    refine Sm.condK (by rfl) fun Ka Kb ha hb => ?_
    simp only [wpCond, z, seval, law37_conflict_t2]
    refine ⟨fun h7 => ha ?_, fun h7 => hb ?_⟩
    · first | replace H := bif_t h7 H | replace H := bif_t2 h7 H (by simp only [List.length_append])
      refine Sm.skip ?_
      refine hK5 _ ?_
      refine Sm.cut (fun (x : Unit) => law37_conflict_s3 a b i) (fun x => law37_conflict_k3 n a b i = some z4) ?_ ?_
      · refine Sm.block ?_
        refine Sm.seqA h00 mixed hΓ (by kernel_rfl) fun K8 hK8 => ?_
        simp only [rs]
        repeat (refine opsG fun K hK => ?_; simp only [z, seval, law37_conflict_t2]; (repeat (first | refine gcI ?_ | refine fun (_ : _ ≤ _) => ?_)); refine hK _ ?_; clear hK K)
        refine hK8 _ ?_
        refine Sm.block ?_
        obtain ⟨y9, hy9, Ho9⟩ := bind_some H
        refine Sm.loopB (fun (x : Int) => law37_conflict_b4 n a b i x) (fun x => law37_conflict_t4 a b i x) hy9 ?_ ?_
        · exact weak_b [some 9002, some 9003] rfl rfl rfl (by simp only [wk, z, seval, law37_conflict_t2]) (by simp only [wk, z, seval, law37_conflict_t2])
        rintro k z9 H
        try dsimp only at H
        unfold law37_conflict_b4 at H
        refine Sm.seqK fun K10 hK10 => ?_
        refine Sm.seqA h00 mixed hΓ (by kernel_rfl) fun K11 hK11 => ?_
        simp only [rs]
        repeat (refine opsG fun K hK => ?_; simp only [z, seval, law37_conflict_t4]; (repeat (first | refine gcI ?_ | refine fun (_ : _ ≤ _) => ?_)); refine hK _ ?_; clear hK K)
        refine hK11 _ ?_
        refine Sm.condK (by rfl) fun Ka Kb ha hb => ?_
        simp only [wpCond, z, seval, law37_conflict_t4]
        refine ⟨fun h12 => ha ?_, fun h12 => hb ?_⟩
        · first | replace H := bif_t h12 H | replace H := bif_t2 h12 H (by simp only [List.length_append])
          refine Sm.skip ?_
          refine hK10 _ ?_
          refine Sm.seqK fun K13 hK13 => ?_
          refine Sm.block ?_
          obtain ⟨⟨hg17, hg18, hg19, hg20, hg21⟩, H⟩ := gd_some H
          refine Sm.seqD h00 mixed hΓ (by kernel_rfl) fun K14 hK14 => ?_
          simp only [rs]
          repeat (refine opsH fun K hK => ?_; simp only [z, seval, law37_conflict_t4]; (repeat (first | refine gcI ?_ | refine fun (_ : _ ≤ _) => ?_)); refine hK _ ?_; clear hK K)
          refine hK14 _ ?_
          refine Sm.condK (by rfl) fun Ka Kb ha hb => ?_
          simp only [wpCond, z, seval, law37_conflict_t4]
          refine ⟨fun h15 => ha ?_, fun h15 => hb ?_⟩
          · first | replace H := bif_t h15 H | replace H := bif_t2 h15 H (by simp only [List.length_append])
            refine Sm.seqA h00 mixed hΓ (by kernel_rfl) fun K16 hK16 => ?_
            simp only [rs]
            repeat (refine opsG fun K hK => ?_; simp only [z, seval, law37_conflict_t4]; (repeat (first | refine gcI ?_ | refine fun (_ : _ ≤ _) => ?_)); refine hK _ ?_; clear hK K)
            refine hK16 _ ?_
            refine Sm.ret ?_
            try simp only [seval, Exit.exit.injEq]
            refine ⟨⟨_, (Option.some.inj H).symm⟩, fun hz => ?_⟩
            have hyy := Sum.inr.inj ((Option.some.inj H).trans hz)
            subst hyy
            have H := Ho9
            try dsimp only at H
            try simp only [seval, Exit.exit.injEq]
            refine ⟨⟨_, (Option.some.inj H).symm⟩, fun hz => ?_⟩
            have hyy := Sum.inr.inj ((Option.some.inj H).trans hz)
            subst hyy
            have H := Ho4
            try dsimp only at H
            try simp only [seval, Exit.exit.injEq]
            obtain rfl := Option.some.inj H
            refine Ret.ofR [] (.inr rfl) ?_
            simp only [z, seval, law37_conflict_t4]
          first | replace H := bif_f h15 H | replace H := bif_f2 h15 H (by simp only [List.length_append])
          refine Sm.skip ?_
          refine hK13 _ ?_
          refine Sm.regA h00 mixed hΓ (by kernel_rfl) ?_
          simp only [rs]
          repeat (refine opsG fun K hK => ?_; simp only [z, seval, law37_conflict_t4]; (repeat (first | refine gcI ?_ | refine fun (_ : _ ≤ _) => ?_)); refine hK _ ?_; clear hK K)
          refine opsG0 ?_
          try simp only [seval, Exit.exit.injEq]
          refine ⟨_, (Option.some.inj H).symm, ?_⟩
          exact weak_b [some 9008, some 9009] rfl rfl rfl (by simp only [wk, z, seval, law37_conflict_t4]) (by simp only [wk, z, seval, law37_conflict_t4])
        first | replace H := bif_f h12 H | replace H := bif_f2 h12 H (by simp only [List.length_append])
        refine Sm.exit ?_
        try simp only [seval, Exit.exit.injEq]
        refine ⟨⟨_, (Option.some.inj H).symm⟩, fun hz => ?_⟩
        have hyy := Sum.inr.inj ((Option.some.inj H).trans hz)
        subst hyy
        have H := Ho9
        try dsimp only at H
        try simp only [seval, Exit.exit.injEq]
        refine ⟨(), H, ?_⟩
        exact weak_b [some 9008, some 9009] rfl rfl rfl (by simp only [wk, z, seval, law37_conflict_t4]) (by simp only [wk, z, seval, law37_conflict_t4])
      rintro ⟨⟩ H
      try dsimp only at H
      unfold law37_conflict_k3 at H
      refine Sm.regA h00 mixed hΓ (by kernel_rfl) ?_
      simp only [rs]
      repeat (refine opsG fun K hK => ?_; simp only [z, seval, law37_conflict_s3]; (repeat (first | refine gcI ?_ | refine fun (_ : _ ≤ _) => ?_)); refine hK _ ?_; clear hK K)
      refine opsG0 ?_
      try simp only [seval, Exit.exit.injEq]
      refine ⟨_, (Option.some.inj H).symm, ?_⟩
      exact weak_b [some 9004, some 9005] rfl rfl rfl (by simp only [wk, z, seval, law37_conflict_s3]) (by simp only [wk, z, seval, law37_conflict_s3])
    first | replace H := bif_f h7 H | replace H := bif_f2 h7 H (by simp only [List.length_append])
    refine Sm.exit ?_
    try simp only [seval, Exit.exit.injEq]
    refine ⟨⟨_, (Option.some.inj H).symm⟩, fun hz => ?_⟩
    have hyy := Sum.inr.inj ((Option.some.inj H).trans hz)
    subst hyy
    have H := Ho4
    try dsimp only at H
    try simp only [seval, Exit.exit.injEq]
    refine ⟨(), H, ?_⟩
    exact weak_b [] rfl rfl rfl (by simp only [wk, z, seval, law37_conflict_t2]) (by simp only [wk, z, seval, law37_conflict_t2])
  rintro ⟨⟩ H
  try dsimp only at H
  unfold law37_conflict_k1 at H
  refine Sm.seqA h00 mixed hΓ (by kernel_rfl) fun K2 hK2 => ?_
  simp only [rs]
  repeat (refine opsG fun K hK => ?_; simp only [z, seval, law37_conflict_s1]; (repeat (first | refine gcI ?_ | refine fun (_ : _ ≤ _) => ?_)); refine hK _ ?_; clear hK K)
  refine hK2 _ ?_
  refine Sm.ret ?_
  try simp only [seval, Exit.exit.injEq]
  obtain rfl := Option.some.inj H
  refine Ret.ofR [] (.inr rfl) ?_
  simp only [z, seval, law37_conflict_s1]

abbrev law37_blocked_s1 : S := stB [] []

def law37_blocked_k1 (n : Nat) : Option Bool :=
  some false

abbrev law37_blocked_t2 (l : List TRequest) (r_ : TRequest) (k : Int) : S := stB [(1, .c (.slice 61) (.slice (List.map e_TRequest l))), (2, .box 9001 0), (5, .c (.int .i64) (.int k))] [(9001, .box [.c (.int .i64) (.int r_.Job), .c (.slice 92) (.slice (List.map e_TWant r_.Wants))])]

def law37_blocked_b2 (n : Nat) (l : List TRequest) (r_ : TRequest) (k : Int) : Option ((Int) ⊕ (((Bool) ⊕ (Unit)))) :=
  bif (decide (k < (l.length : Int))) then
    gd ((0 ≤ k ∧ k < (l.length : Int))) <|
    (law37_conflict n r_ (gt l (Int.toNat k))).bind fun r1 =>
    bif r1 then
      some (.inr (.inl true))
    else
      some (.inl (IntKind.wrap .i64 (k + 1)))
  else
    some (.inr (.inr ()))

def law37_blocked (n : Nat) (r_ : TRequest) (l : List TRequest) : Option Bool :=
  (loopF (fun (x : Int) => law37_blocked_b2 n l r_ x) n 0).bind fun y4 =>
  match y4 with
  | .inl v =>
    some v
  | .inr v =>
    law37_blocked_k1 n

def xlaw37_blocked (n : Nat) : Go.AE.Fn := mkFn (A := TRequest × (List TRequest)) (R := Bool) 28 [(true, [.int .i64, .slice 92]), (false, [.slice 61])] false (fun xs => ((⟨(cg (xs.getD 0 []) 0).toInt, ((cg (xs.getD 0 []) 1).toSl.map d_TWant)⟩ : TRequest), ((cg (xs.getD 1 []) 0).toSl.map d_TRequest))) (fun a => [[.int a.1.Job, .slice (List.map e_TWant a.1.Wants)], [.slice (List.map e_TRequest a.2)]]) (fun a => law37_blocked n a.1 a.2) (fun r => [.c .bool (.bool r)]) (fun r => [])

theorem claw37_blocked (n : Nat) : Contract Try.prog (xlaw37_blocked n) := by
  have hΓ : ∀ g, g ∈ ([xlaw37_conflict n] : List Go.AE.Fn) → Contract Try.prog g := by
    intro g hg; simp only [List.mem_cons, List.not_mem_nil, or_false] at hg; subst hg; exact claw37_conflict n
  refine contract_f (Try.f28.body.getD .skip) h00 Try.func28 rfl (by intro args w; exact Try.call28 args w) (by decide) (by intro _ r; exact ⟨rfl, by simp⟩) ?_
  rintro ⟨r_, l⟩ r H
  try dsimp only at H
  unfold law37_blocked at H
  simp only [Try.f28, Option.getD]
  refine Sm.seqA h00 mixed hΓ (by kernel_rfl) fun K1 hK1 => ?_
  simp only [rs]
  repeat (refine opsG fun K hK => ?_; simp only [z, seval]; (repeat (first | refine gcI ?_ | refine fun (_ : _ ≤ _) => ?_)); refine hK _ ?_; clear hK K)
  refine hK1 _ ?_
  refine Sm.cut (fun (x : Unit) => law37_blocked_s1) (fun x => law37_blocked_k1 n = some r) ?_ ?_
  · refine Sm.seqA h00 mixed hΓ (by kernel_rfl) fun K3 hK3 => ?_
    simp only [rs]
    repeat (refine opsG fun K hK => ?_; simp only [z, seval]; (repeat (first | refine gcI ?_ | refine fun (_ : _ ≤ _) => ?_)); refine hK _ ?_; clear hK K)
    refine hK3 _ ?_
    refine Sm.block ?_
    obtain ⟨y4, hy4, Ho4⟩ := bind_some H
    refine Sm.loopB (fun (x : Int) => law37_blocked_b2 n l r_ x) (fun x => law37_blocked_t2 l r_ x) hy4 ?_ ?_
    · exact weak_b [some 32] rfl rfl rfl (by simp only [wk, z, seval]) (by simp only [wk, z, seval])
    rintro k z4 H
    try dsimp only at H
    unfold law37_blocked_b2 at H
    refine Sm.seqK fun K5 hK5 => ?_
    refine Sm.seqA h00 mixed hΓ (by kernel_rfl) fun K6 hK6 => ?_
    simp only [rs]
    repeat (refine opsG fun K hK => ?_; simp only [z, seval, law37_blocked_t2]; (repeat (first | refine gcI ?_ | refine fun (_ : _ ≤ _) => ?_)); refine hK _ ?_; clear hK K)
    refine hK6 _ ?_
    refine Sm.condK (by rfl) fun Ka Kb ha hb => ?_
    simp only [wpCond, z, seval, law37_blocked_t2]
    refine ⟨fun h7 => ha ?_, fun h7 => hb ?_⟩
    · first | replace H := bif_t h7 H | replace H := bif_t2 h7 H (by simp only [List.length_append])
      refine Sm.skip ?_
      refine hK5 _ ?_
      refine Sm.seqK fun K8 hK8 => ?_
      refine Sm.block ?_
      obtain ⟨hg12, H⟩ := gd_some H
      obtain ⟨r1, hr1, H⟩ := bind_some H
      refine Sm.seqD h00 mixed hΓ (by kernel_rfl) fun K9 hK9 => ?_
      simp only [rs]
      repeat (refine opsH fun K hK => ?_; simp only [z, seval, law37_blocked_t2, xlaw37_conflict, hr1]; (repeat (first | refine gcI ?_ | refine fun (_ : _ ≤ _) => ?_)); refine hK _ ?_; clear hK K)
      refine hK9 _ ?_
      refine Sm.condK (by rfl) fun Ka Kb ha hb => ?_
      simp only [wpCond, z, seval, law37_blocked_t2]
      refine ⟨fun h10 => ha ?_, fun h10 => hb ?_⟩
      · first | replace H := bif_t h10 H | replace H := bif_t2 h10 H (by simp only [List.length_append])
        refine Sm.seqA h00 mixed hΓ (by kernel_rfl) fun K11 hK11 => ?_
        simp only [rs]
        repeat (refine opsG fun K hK => ?_; simp only [z, seval, law37_blocked_t2]; (repeat (first | refine gcI ?_ | refine fun (_ : _ ≤ _) => ?_)); refine hK _ ?_; clear hK K)
        refine hK11 _ ?_
        refine Sm.ret ?_
        try simp only [seval, Exit.exit.injEq]
        refine ⟨⟨_, (Option.some.inj H).symm⟩, fun hz => ?_⟩
        have hyy := Sum.inr.inj ((Option.some.inj H).trans hz)
        subst hyy
        have H := Ho4
        try dsimp only at H
        try simp only [seval, Exit.exit.injEq]
        obtain rfl := Option.some.inj H
        refine Ret.ofR [] (.inr rfl) ?_
        simp only [z, seval, law37_blocked_t2]
      first | replace H := bif_f h10 H | replace H := bif_f2 h10 H (by simp only [List.length_append])
      refine Sm.skip ?_
      refine hK8 _ ?_
      refine Sm.regA h00 mixed hΓ (by kernel_rfl) ?_
      simp only [rs]
      repeat (refine opsG fun K hK => ?_; simp only [z, seval, law37_blocked_t2]; (repeat (first | refine gcI ?_ | refine fun (_ : _ ≤ _) => ?_)); refine hK _ ?_; clear hK K)
      refine opsG0 ?_
      try simp only [seval, Exit.exit.injEq]
      refine ⟨_, (Option.some.inj H).symm, ?_⟩
      exact weak_b [some 9001] rfl rfl rfl (by simp only [wk, z, seval, law37_blocked_t2]) (by simp only [wk, z, seval, law37_blocked_t2])
    first | replace H := bif_f h7 H | replace H := bif_f2 h7 H (by simp only [List.length_append])
    refine Sm.exit ?_
    try simp only [seval, Exit.exit.injEq]
    refine ⟨⟨_, (Option.some.inj H).symm⟩, fun hz => ?_⟩
    have hyy := Sum.inr.inj ((Option.some.inj H).trans hz)
    subst hyy
    have H := Ho4
    try dsimp only at H
    try simp only [seval, Exit.exit.injEq]
    refine ⟨(), H, ?_⟩
    exact weak_b [] rfl rfl rfl (by simp only [wk, z, seval, law37_blocked_t2]) (by simp only [wk, z, seval, law37_blocked_t2])
  rintro ⟨⟩ H
  try dsimp only at H
  unfold law37_blocked_k1 at H
  refine Sm.seqA h00 mixed hΓ (by kernel_rfl) fun K2 hK2 => ?_
  simp only [rs]
  repeat (refine opsG fun K hK => ?_; simp only [z, seval, law37_blocked_s1]; (repeat (first | refine gcI ?_ | refine fun (_ : _ ≤ _) => ?_)); refine hK _ ?_; clear hK K)
  refine hK2 _ ?_
  refine Sm.ret ?_
  try simp only [seval, Exit.exit.injEq]
  obtain rfl := Option.some.inj H
  refine Ret.ofR [] (.inr rfl) ?_
  simp only [z, seval, law37_blocked_s1]

def enqueue_Holds (n : Nat) (t : TTable) (job : Int) : Option Bool :=
  (enqueue_Check n t).bind fun r1 =>
  gd (((r1 == 0) = true → (enqueue_index n t.Held job).isSome = true)) <|
  some (if (r1 == 0) = true then (decide (((enqueue_index n t.Held job).getD default) ≥ 0)) else false)

def xenqueue_Holds (n : Nat) : Go.AE.Fn := mkFn (A := TTable × Int) (R := Bool) 25 [(true, [.slice 61, .slice 61]), (false, [.int .i64])] false (fun xs => ((⟨((cg (xs.getD 0 []) 0).toSl.map d_TRequest), ((cg (xs.getD 0 []) 1).toSl.map d_TRequest)⟩ : TTable), (cg (xs.getD 1 []) 0).toInt)) (fun a => [[.slice (List.map e_TRequest a.1.Held), .slice (List.map e_TRequest a.1.Waiting)], [.int a.2]]) (fun a => enqueue_Holds n a.1 a.2) (fun r => [.c .bool (.bool r)]) (fun r => [])

theorem cenqueue_Holds (n : Nat) : Contract Try.prog (xenqueue_Holds n) := by
  have hΓ : ∀ g, g ∈ ([xenqueue_Check n, xenqueue_index n] : List Go.AE.Fn) → Contract Try.prog g := by
    intro g hg; simp only [List.mem_cons, List.not_mem_nil, or_false] at hg; rcases hg with rfl | rfl; exact cenqueue_Check n; exact cenqueue_index n
  refine contract_f (Try.f25.body.getD .skip) h00 Try.func25 rfl (by intro args w; exact Try.call25 args w) (by decide) (by intro _ r; exact ⟨rfl, by simp⟩) ?_
  rintro ⟨t, job⟩ r H
  try dsimp only at H
  unfold enqueue_Holds at H
  simp only [Try.f25, Option.getD]
  refine Sm.seqA h00 mixed hΓ (by kernel_rfl) fun K1 hK1 => ?_
  simp only [rs]
  repeat (refine opsG fun K hK => ?_; simp only [z, seval]; (repeat (first | refine gcI ?_ | refine fun (_ : _ ≤ _) => ?_)); refine hK _ ?_; clear hK K)
  refine hK1 _ ?_
  obtain ⟨r1, hr1, H⟩ := bind_some H
  obtain ⟨hg3, H⟩ := gd_some H
  refine Sm.seqA h00 mixed hΓ (by kernel_rfl) fun K2 hK2 => ?_
  simp only [rs]
  repeat (refine opsG fun K hK => ?_; simp only [z, seval, xenqueue_Check, xenqueue_index, hr1]; (repeat (first | refine gcI ?_ | refine fun (_ : _ ≤ _) => ?_)); refine hK _ ?_; clear hK K)
  refine hK2 _ ?_
  refine Sm.ret ?_
  try simp only [seval, Exit.exit.injEq]
  obtain rfl := Option.some.inj H
  refine Ret.ofR [] (.inr rfl) ?_
  simp only [z, seval]

abbrev law37_EnqueueSafe_s2 (t : List TRequest) (t_1 : List TRequest) : S := stB [(3, .box 9002 0)] [(9002, .box [.c (.slice 61) (.slice (List.map e_TRequest t)), .c (.slice 61) (.slice (List.map e_TRequest t_1))])]

def law37_EnqueueSafe_k2 (n : Nat) (t : List TRequest) (t_1 : List TRequest) : Option Bool :=
  (enqueue_Check n (⟨t, t_1⟩ : TTable)).bind fun r3 =>
  gd (((r3 == 0) = true → (enqueue_Check n (⟨[], []⟩ : TTable)).isSome = true)) <|
  some (if (r3 == 0) = true then (((enqueue_Check n (⟨[], []⟩ : TTable)).getD default) == 0) else false)

abbrev law37_EnqueueSafe_t3 (t : List TRequest) (t_1 : List TRequest) (seen : List Bool) (k : Int) : S := stB [(3, .box 9005 0), (5, .own 9006 [.bool] 0 seen.length), (8, .c (.int .i64) (.int k))] [(9005, .box [.c (.slice 61) (.slice (List.map e_TRequest t)), .c (.slice 61) (.slice (List.map e_TRequest t_1))]), (9006, .row 4 (List.map e_Bool seen))]

def law37_EnqueueSafe_b3 (n : Nat) (t : List TRequest) (t_1 : List TRequest) (seen : List Bool) (k : Int) : Option (((List Bool) × Int) ⊕ (((Bool) ⊕ (Unit)))) :=
  bif (decide (k < (t_1.length : Int))) then
    gd ((0 ≤ k ∧ k < (t_1.length : Int))) <|
    (law37_blocked n (gt t_1 (Int.toNat k)) t).bind fun r4 =>
    gd (((!r4) = true → (0 ≤ k ∧ k ≤ (t_1.length : Int))) ∧ ((!r4) = true → (law37_blocked n (gt t_1 (Int.toNat k)) (List.take (Int.toNat k) t_1)).isSome = true) ∧ ((!(if (if (if (!r4) = true then (!((law37_blocked n (gt t_1 (Int.toNat k)) (List.take (Int.toNat k) t_1)).getD default)) else false) = true then true else (decide (((gt t_1 (Int.toNat k)).Job) < 0))) = true then true else (decide (((gt t_1 (Int.toNat k)).Job) > 11)))) = true → (0 ≤ ((gt t_1 (Int.toNat k)).Job) ∧ ((gt t_1 (Int.toNat k)).Job) < (seen.length : Int))) ∧ ((!(if (if (if (!r4) = true then (!((law37_blocked n (gt t_1 (Int.toNat k)) (List.take (Int.toNat k) t_1)).getD default)) else false) = true then true else (decide (((gt t_1 (Int.toNat k)).Job) < 0))) = true then true else (decide (((gt t_1 (Int.toNat k)).Job) > 11)))) = true → (Int.toNat ((gt t_1 (Int.toNat k)).Job)) < seen.length) ∧ ((!(if (if (if (if (!r4) = true then (!((law37_blocked n (gt t_1 (Int.toNat k)) (List.take (Int.toNat k) t_1)).getD default)) else false) = true then true else (decide (((gt t_1 (Int.toNat k)).Job) < 0))) = true then true else (decide (((gt t_1 (Int.toNat k)).Job) > 11))) = true then true else (gt seen (Int.toNat ((gt t_1 (Int.toNat k)).Job))))) = true → (enqueue_Holds n (⟨t, t_1⟩ : TTable) ((gt t_1 (Int.toNat k)).Job)).isSome = true)) <|
    bif (if (if (if (if (if (!r4) = true then (!((law37_blocked n (gt t_1 (Int.toNat k)) (List.take (Int.toNat k) t_1)).getD default)) else false) = true then true else (decide (((gt t_1 (Int.toNat k)).Job) < 0))) = true then true else (decide (((gt t_1 (Int.toNat k)).Job) > 11))) = true then true else (gt seen (Int.toNat ((gt t_1 (Int.toNat k)).Job)))) = true then true else ((enqueue_Holds n (⟨t, t_1⟩ : TTable) ((gt t_1 (Int.toNat k)).Job)).getD default)) then
      some (.inr (.inl false))
    else
      gd ((0 ≤ ((gt t_1 (Int.toNat k)).Job) ∧ ((gt t_1 (Int.toNat k)).Job) < (seen.length : Int)) ∧ (Int.toNat ((gt t_1 (Int.toNat k)).Job)) < seen.length) <|
      some (.inl ((List.set seen (Int.toNat ((gt t_1 (Int.toNat k)).Job)) true), (IntKind.wrap .i64 (k + 1))))
  else
    some (.inr (.inr ()))

abbrev law37_EnqueueSafe_s1 (t : List TRequest) (t_1 : List TRequest) (seen : List Bool) : S := stB [(3, .box 9000 0), (5, .own 9001 [.bool] 0 seen.length)] [(9000, .box [.c (.slice 61) (.slice (List.map e_TRequest t)), .c (.slice 61) (.slice (List.map e_TRequest t_1))]), (9001, .row 4 (List.map e_Bool seen))]

def law37_EnqueueSafe_k1 (n : Nat) (t : List TRequest) (t_1 : List TRequest) (seen : List Bool) : Option Bool :=
  (loopF (fun (x : (List Bool) × Int) => law37_EnqueueSafe_b3 n t t_1 x.1 x.2) n (seen, 0)).bind fun y16 =>
  match y16 with
  | .inl v =>
    some v
  | .inr v =>
    law37_EnqueueSafe_k2 n t t_1

abbrev law37_EnqueueSafe_t4 (t : List TRequest) (t_1 : List TRequest) (seen_1 : List Bool) (k_1 : Int) : S := stB [(3, .box 9009 0), (5, .own 9010 [.bool] 0 seen_1.length), (6, .c (.int .i64) (.int k_1))] [(9009, .box [.c (.slice 61) (.slice (List.map e_TRequest t)), .c (.slice 61) (.slice (List.map e_TRequest t_1))]), (9010, .row 4 (List.map e_Bool seen_1))]

def law37_EnqueueSafe_b4 (n : Nat) (t : List TRequest) (t_1 : List TRequest) (seen_1 : List Bool) (k_1 : Int) : Option (((List Bool) × Int) ⊕ (((Bool) ⊕ ((List Bool))))) :=
  bif (decide (k_1 < (t.length : Int))) then
    gd ((0 ≤ k_1 ∧ k_1 < (t.length : Int))) <|
    gd ((0 ≤ k_1 ∧ k_1 ≤ (t.length : Int))) <|
    (law37_blocked n (gt t (Int.toNat k_1)) (List.take (Int.toNat k_1) t)).bind fun r5 =>
    gd (((!(if (if r5 = true then true else (decide (((gt t (Int.toNat k_1)).Job) < 0))) = true then true else (decide (((gt t (Int.toNat k_1)).Job) > 11)))) = true → (0 ≤ ((gt t (Int.toNat k_1)).Job) ∧ ((gt t (Int.toNat k_1)).Job) < (seen_1.length : Int))) ∧ ((!(if (if r5 = true then true else (decide (((gt t (Int.toNat k_1)).Job) < 0))) = true then true else (decide (((gt t (Int.toNat k_1)).Job) > 11)))) = true → (Int.toNat ((gt t (Int.toNat k_1)).Job)) < seen_1.length) ∧ ((!(if (if (if r5 = true then true else (decide (((gt t (Int.toNat k_1)).Job) < 0))) = true then true else (decide (((gt t (Int.toNat k_1)).Job) > 11))) = true then true else (gt seen_1 (Int.toNat ((gt t (Int.toNat k_1)).Job))))) = true → (enqueue_Holds n (⟨t, t_1⟩ : TTable) ((gt t (Int.toNat k_1)).Job)).isSome = true)) <|
    bif (if (if (if (if r5 = true then true else (decide (((gt t (Int.toNat k_1)).Job) < 0))) = true then true else (decide (((gt t (Int.toNat k_1)).Job) > 11))) = true then true else (gt seen_1 (Int.toNat ((gt t (Int.toNat k_1)).Job)))) = true then true else (!((enqueue_Holds n (⟨t, t_1⟩ : TTable) ((gt t (Int.toNat k_1)).Job)).getD default))) then
      some (.inr (.inl false))
    else
      gd ((0 ≤ ((gt t (Int.toNat k_1)).Job) ∧ ((gt t (Int.toNat k_1)).Job) < (seen_1.length : Int)) ∧ (Int.toNat ((gt t (Int.toNat k_1)).Job)) < seen_1.length) <|
      some (.inl ((List.set seen_1 (Int.toNat ((gt t (Int.toNat k_1)).Job)) true), (IntKind.wrap .i64 (k_1 + 1))))
  else
    some (.inr (.inr seen_1))

def law37_EnqueueSafe (n : Nat) (l : List TAct) : Option Bool :=
  (law37_play n l).bind fun r1 =>
  (law37_works n).bind fun r2 =>
  bif (!r2) then
    some false
  else
    bif (!r1.2) then
      some true
    else
      gd ((0 ≤ 12 ∧ 12 ≤ 12 ∧ 12 ≤ 2147483648)) <|
      (loopF (fun (x : (List Bool) × Int) => law37_EnqueueSafe_b4 n r1.1.Held r1.1.Waiting x.1 x.2) n ((zreps 12 false), 0)).bind fun y35 =>
      match y35 with
      | .inl v =>
        some v
      | .inr v =>
        law37_EnqueueSafe_k1 n r1.1.Held r1.1.Waiting v

def xlaw37_EnqueueSafe (n : Nat) : Go.AE.Fn := mkFn (A := (List TAct)) (R := Bool) 6 [(false, [.slice 45])] false (fun xs => ((cg (xs.getD 0 []) 0).toSl.map d_TAct)) (fun a => [[.slice (List.map e_TAct a)]]) (fun a => law37_EnqueueSafe n a) (fun r => [.c .bool (.bool r)]) (fun r => [])

theorem claw37_EnqueueSafe (n : Nat) : Contract Try.prog (xlaw37_EnqueueSafe n) := by
  have hΓ : ∀ g, g ∈ ([xlaw37_play n, xlaw37_works n, xlaw37_blocked n, xenqueue_Holds n, xenqueue_Check n] : List Go.AE.Fn) → Contract Try.prog g := by
    intro g hg; simp only [List.mem_cons, List.not_mem_nil, or_false] at hg; rcases hg with rfl | rfl | rfl | rfl | rfl; exact claw37_play n; exact claw37_works n; exact claw37_blocked n; exact cenqueue_Holds n; exact cenqueue_Check n
  refine contract_f (Try.f6.body.getD .skip) h00 Try.func6 rfl (by intro args w; exact Try.call6 args w) (by decide) (by intro _ r; exact ⟨rfl, by simp⟩) ?_
  rintro l r H
  try dsimp only at H
  unfold law37_EnqueueSafe at H
  simp only [Try.f6, Option.getD]
  refine Sm.seqA h00 mixed hΓ (by kernel_rfl) fun K1 hK1 => ?_
  simp only [rs]
  repeat (refine opsG fun K hK => ?_; simp only [z, seval]; (repeat (first | refine gcI ?_ | refine fun (_ : _ ≤ _) => ?_)); refine hK _ ?_; clear hK K)
  refine hK1 _ ?_
  obtain ⟨r1, hr1, H⟩ := bind_some H
  refine Sm.seqA h00 mixed hΓ (by kernel_rfl) fun K2 hK2 => ?_
  simp only [rs]
  repeat (refine opsG fun K hK => ?_; simp only [z, seval, xlaw37_play, hr1]; (repeat (first | refine gcI ?_ | refine fun (_ : _ ≤ _) => ?_)); refine hK _ ?_; clear hK K)
  refine hK2 _ ?_
  refine Sm.seqK fun K3 hK3 => ?_
  obtain ⟨r2, hr2, H⟩ := bind_some H
  refine Sm.seqA h00 mixed hΓ (by kernel_rfl) fun K4 hK4 => ?_
  simp only [rs]
  repeat (refine opsG fun K hK => ?_; simp only [z, seval, xlaw37_play, xlaw37_works, hr2]; (repeat (first | refine gcI ?_ | refine fun (_ : _ ≤ _) => ?_)); refine hK _ ?_; clear hK K)
  refine hK4 _ ?_
  refine Sm.condK (by rfl) fun Ka Kb ha hb => ?_
  simp only [wpCond, z, seval]
  refine ⟨fun h5 => ha ?_, fun h5 => hb ?_⟩
  · first | replace H := bif_t h5 H | replace H := bif_t2 h5 H (by simp only [List.length_append])
    refine Sm.seqA h00 mixed hΓ (by kernel_rfl) fun K6 hK6 => ?_
    simp only [rs]
    repeat (refine opsG fun K hK => ?_; simp only [z, seval]; (repeat (first | refine gcI ?_ | refine fun (_ : _ ≤ _) => ?_)); refine hK _ ?_; clear hK K)
    refine hK6 _ ?_
    refine Sm.ret ?_
    try simp only [seval, Exit.exit.injEq]
    obtain rfl := Option.some.inj H
    refine Ret.ofR [] (.inr rfl) ?_
    simp only [z, seval]
  first | replace H := bif_f h5 H | replace H := bif_f2 h5 H (by simp only [List.length_append])
  refine Sm.skip ?_
  refine hK3 _ ?_
  refine Sm.seqK fun K7 hK7 => ?_
  refine Sm.seqA h00 mixed hΓ (by kernel_rfl) fun K8 hK8 => ?_
  simp only [rs]
  repeat (refine opsG fun K hK => ?_; simp only [z, seval]; (repeat (first | refine gcI ?_ | refine fun (_ : _ ≤ _) => ?_)); refine hK _ ?_; clear hK K)
  refine hK8 _ ?_
  refine Sm.condK (by rfl) fun Ka Kb ha hb => ?_
  simp only [wpCond, z, seval]
  refine ⟨fun h9 => ha ?_, fun h9 => hb ?_⟩
  · first | replace H := bif_t h9 H | replace H := bif_t2 h9 H (by simp only [List.length_append])
    refine Sm.seqA h00 mixed hΓ (by kernel_rfl) fun K10 hK10 => ?_
    simp only [rs]
    repeat (refine opsG fun K hK => ?_; simp only [z, seval]; (repeat (first | refine gcI ?_ | refine fun (_ : _ ≤ _) => ?_)); refine hK _ ?_; clear hK K)
    refine hK10 _ ?_
    refine Sm.ret ?_
    try simp only [seval, Exit.exit.injEq]
    obtain rfl := Option.some.inj H
    refine Ret.ofR [] (.inr rfl) ?_
    simp only [z, seval]
  first | replace H := bif_f h9 H | replace H := bif_f2 h9 H (by simp only [List.length_append])
  refine Sm.skip ?_
  refine hK7 _ ?_
  refine Sm.seqX h00 mixed hΓ (by kernel_rfl) fun K11 hK11 => ?_
  simp only [rs]
  obtain ⟨hg12, H⟩ := gd_some H
  refine opsY fun K hK => ?_; simp only [z, seval]; (repeat (first | refine gcI ?_ | refine fun (_ : _ ≤ _) => ?_)); refine hK _ ?_; clear hK K
  (refine opsX fun K hK => ?_; simp only [z, seval]; (repeat (first | refine gcI ?_ | refine fun (_ : _ ≤ _) => ?_)); refine hK _ ?_; clear hK K)
  refine hK11 _ ?_
  refine Sm.cut (fun (x : (List TRequest) × (List TRequest) × (List Bool)) => law37_EnqueueSafe_s1 x.1 x.2.1 x.2.2) (fun x => law37_EnqueueSafe_k1 n x.1 x.2.1 x.2.2 = some r) ?_ ?_
  · refine Sm.seqA h00 mixed hΓ (by kernel_rfl) fun K34 hK34 => ?_
    simp only [rs]
    repeat (refine opsG fun K hK => ?_; simp only [z, seval]; (repeat (first | refine gcI ?_ | refine fun (_ : _ ≤ _) => ?_)); refine hK _ ?_; clear hK K)
    refine hK34 _ ?_
    refine Sm.block ?_
    obtain ⟨y35, hy35, Ho35⟩ := bind_some H
    refine Sm.loopB (fun (x : (List Bool) × Int) => law37_EnqueueSafe_b4 n r1.1.Held r1.1.Waiting x.1 x.2) (fun x => law37_EnqueueSafe_t4 r1.1.Held r1.1.Waiting x.1 x.2) hy35 ?_ ?_
    · exact weak_b [some 48, some 304] rfl rfl rfl (by simp only [wk, z, seval]) (by simp only [wk, z, seval])
    rintro ⟨seen_1, k_1⟩ z35 H
    try dsimp only at H
    unfold law37_EnqueueSafe_b4 at H
    refine Sm.seqK fun K36 hK36 => ?_
    refine Sm.seqA h00 mixed hΓ (by kernel_rfl) fun K37 hK37 => ?_
    simp only [rs]
    repeat (refine opsG fun K hK => ?_; simp only [z, seval, law37_EnqueueSafe_t4]; (repeat (first | refine gcI ?_ | refine fun (_ : _ ≤ _) => ?_)); refine hK _ ?_; clear hK K)
    refine hK37 _ ?_
    refine Sm.condK (by rfl) fun Ka Kb ha hb => ?_
    simp only [wpCond, z, seval, law37_EnqueueSafe_t4]
    refine ⟨fun h38 => ha ?_, fun h38 => hb ?_⟩
    · first | replace H := bif_t h38 H | replace H := bif_t2 h38 H (by simp only [List.length_append])
      refine Sm.skip ?_
      refine hK36 _ ?_
      refine Sm.seqK fun K39 hK39 => ?_
      refine Sm.block ?_
      obtain ⟨hg51, H⟩ := gd_some H
      refine Sm.seqA h00 mixed hΓ (by kernel_rfl) fun K40 hK40 => ?_
      simp only [rs]
      repeat (refine opsG fun K hK => ?_; simp only [z, seval, law37_EnqueueSafe_t4]; (repeat (first | refine gcI ?_ | refine fun (_ : _ ≤ _) => ?_)); refine hK _ ?_; clear hK K)
      refine hK40 _ ?_
      refine Sm.seqK fun K41 hK41 => ?_
      obtain ⟨hg47, H⟩ := gd_some H
      obtain ⟨r5, hr5, H⟩ := bind_some H
      obtain ⟨⟨hg48, hg49, hg50⟩, H⟩ := gd_some H
      refine Sm.seqD h00 mixed hΓ (by kernel_rfl) fun K42 hK42 => ?_
      simp only [rs]
      repeat (refine opsH fun K hK => ?_; simp only [z, seval, law37_EnqueueSafe_t4, xlaw37_play, xlaw37_works, xlaw37_blocked, xenqueue_Holds, hr5]; (repeat (first | refine gcI ?_ | refine fun (_ : _ ≤ _) => ?_)); refine hK _ ?_; clear hK K)
      refine hK42 _ ?_
      refine Sm.condK (by rfl) fun Ka Kb ha hb => ?_
      simp only [wpCond, z, seval, law37_EnqueueSafe_t4]
      refine ⟨fun h43 => ha ?_, fun h43 => hb ?_⟩
      · first | replace H := bif_t h43 H | replace H := bif_t2 h43 H (by simp only [List.length_append])
        refine Sm.seqA h00 mixed hΓ (by kernel_rfl) fun K44 hK44 => ?_
        simp only [rs]
        repeat (refine opsG fun K hK => ?_; simp only [z, seval, law37_EnqueueSafe_t4]; (repeat (first | refine gcI ?_ | refine fun (_ : _ ≤ _) => ?_)); refine hK _ ?_; clear hK K)
        refine hK44 _ ?_
        refine Sm.ret ?_
        try simp only [seval, Exit.exit.injEq]
        refine ⟨⟨_, (Option.some.inj H).symm⟩, fun hz => ?_⟩
        have hyy := Sum.inr.inj ((Option.some.inj H).trans hz)
        subst hyy
        have H := Ho35
        try dsimp only at H
        try simp only [seval, Exit.exit.injEq]
        obtain rfl := Option.some.inj H
        refine Ret.ofR [] (.inr rfl) ?_
        simp only [z, seval, law37_EnqueueSafe_t4]
      first | replace H := bif_f h43 H | replace H := bif_f2 h43 H (by simp only [List.length_append])
      refine Sm.skip ?_
      refine hK41 _ ?_
      obtain ⟨⟨hg45, hg46⟩, H⟩ := gd_some H
      refine Sm.regA h00 mixed hΓ (by kernel_rfl) ?_
      simp only [rs]
      repeat (refine opsG fun K hK => ?_; simp only [z, seval, law37_EnqueueSafe_t4]; (repeat (first | refine gcI ?_ | refine fun (_ : _ ≤ _) => ?_)); refine hK _ ?_; clear hK K)
      refine opsG0 ?_
      refine hK39 _ ?_
      refine Sm.regA h00 mixed hΓ (by kernel_rfl) ?_
      simp only [rs]
      repeat (refine opsG fun K hK => ?_; simp only [z, seval, law37_EnqueueSafe_t4]; (repeat (first | refine gcI ?_ | refine fun (_ : _ ≤ _) => ?_)); refine hK _ ?_; clear hK K)
      refine opsG0 ?_
      try simp only [seval, Exit.exit.injEq]
      refine ⟨(_, _), (Option.some.inj H).symm, ?_⟩
      exact weak_b [some 9009, some 9010] rfl rfl rfl (by simp only [wk, z, seval, law37_EnqueueSafe_t4]) (by simp only [wk, z, seval, law37_EnqueueSafe_t4])
    first | replace H := bif_f h38 H | replace H := bif_f2 h38 H (by simp only [List.length_append])
    refine Sm.exit ?_
    try simp only [seval, Exit.exit.injEq]
    refine ⟨⟨_, (Option.some.inj H).symm⟩, fun hz => ?_⟩
    have hyy := Sum.inr.inj ((Option.some.inj H).trans hz)
    subst hyy
    have H := Ho35
    try dsimp only at H
    try simp only [seval, Exit.exit.injEq]
    refine ⟨(r1.1.Held, r1.1.Waiting, seen_1), H, ?_⟩
    exact weak_b [some 9009, some 9010] rfl rfl rfl (by simp only [wk, z, seval, law37_EnqueueSafe_t4]) (by simp only [wk, z, seval, law37_EnqueueSafe_t4])
  rintro ⟨t, t_1, seen⟩ H
  try dsimp only at H
  unfold law37_EnqueueSafe_k1 at H
  refine Sm.cut (fun (x : Unit) => law37_EnqueueSafe_s2 t t_1) (fun x => law37_EnqueueSafe_k2 n t t_1 = some r) ?_ ?_
  · refine Sm.seqA h00 mixed hΓ (by kernel_rfl) fun K15 hK15 => ?_
    simp only [rs]
    repeat (refine opsG fun K hK => ?_; simp only [z, seval, law37_EnqueueSafe_s1]; (repeat (first | refine gcI ?_ | refine fun (_ : _ ≤ _) => ?_)); refine hK _ ?_; clear hK K)
    refine hK15 _ ?_
    refine Sm.block ?_
    obtain ⟨y16, hy16, Ho16⟩ := bind_some H
    refine Sm.loopB (fun (x : (List Bool) × Int) => law37_EnqueueSafe_b3 n t t_1 x.1 x.2) (fun x => law37_EnqueueSafe_t3 t t_1 x.1 x.2) hy16 ?_ ?_
    · exact weak_b [some 9000, some 9001] rfl rfl rfl (by simp only [wk, z, seval, law37_EnqueueSafe_s1]) (by simp only [wk, z, seval, law37_EnqueueSafe_s1])
    rintro ⟨seen, k⟩ z16 H
    try dsimp only at H
    unfold law37_EnqueueSafe_b3 at H
    refine Sm.seqK fun K17 hK17 => ?_
    refine Sm.seqA h00 mixed hΓ (by kernel_rfl) fun K18 hK18 => ?_
    simp only [rs]
    repeat (refine opsG fun K hK => ?_; simp only [z, seval, law37_EnqueueSafe_t3]; (repeat (first | refine gcI ?_ | refine fun (_ : _ ≤ _) => ?_)); refine hK _ ?_; clear hK K)
    refine hK18 _ ?_
    refine Sm.condK (by rfl) fun Ka Kb ha hb => ?_
    simp only [wpCond, z, seval, law37_EnqueueSafe_t3]
    refine ⟨fun h19 => ha ?_, fun h19 => hb ?_⟩
    · first | replace H := bif_t h19 H | replace H := bif_t2 h19 H (by simp only [List.length_append])
      refine Sm.skip ?_
      refine hK17 _ ?_
      refine Sm.seqK fun K20 hK20 => ?_
      refine Sm.block ?_
      obtain ⟨hg33, H⟩ := gd_some H
      refine Sm.seqA h00 mixed hΓ (by kernel_rfl) fun K21 hK21 => ?_
      simp only [rs]
      repeat (refine opsG fun K hK => ?_; simp only [z, seval, law37_EnqueueSafe_t3]; (repeat (first | refine gcI ?_ | refine fun (_ : _ ≤ _) => ?_)); refine hK _ ?_; clear hK K)
      refine hK21 _ ?_
      refine Sm.seqK fun K22 hK22 => ?_
      obtain ⟨r4, hr4, H⟩ := bind_some H
      obtain ⟨⟨hg28, hg29, hg30, hg31, hg32⟩, H⟩ := gd_some H
      refine Sm.seqD h00 mixed hΓ (by kernel_rfl) fun K23 hK23 => ?_
      simp only [rs]
      repeat (refine opsH fun K hK => ?_; simp only [z, seval, law37_EnqueueSafe_t3, xlaw37_play, xlaw37_works, xlaw37_blocked, xenqueue_Holds, hr4]; (repeat (first | refine gcI ?_ | refine fun (_ : _ ≤ _) => ?_)); refine hK _ ?_; clear hK K)
      refine hK23 _ ?_
      refine Sm.condK (by rfl) fun Ka Kb ha hb => ?_
      simp only [wpCond, z, seval, law37_EnqueueSafe_t3]
      refine ⟨fun h24 => ha ?_, fun h24 => hb ?_⟩
      · first | replace H := bif_t h24 H | replace H := bif_t2 h24 H (by simp only [List.length_append])
        refine Sm.seqA h00 mixed hΓ (by kernel_rfl) fun K25 hK25 => ?_
        simp only [rs]
        repeat (refine opsG fun K hK => ?_; simp only [z, seval, law37_EnqueueSafe_t3]; (repeat (first | refine gcI ?_ | refine fun (_ : _ ≤ _) => ?_)); refine hK _ ?_; clear hK K)
        refine hK25 _ ?_
        refine Sm.ret ?_
        try simp only [seval, Exit.exit.injEq]
        refine ⟨⟨_, (Option.some.inj H).symm⟩, fun hz => ?_⟩
        have hyy := Sum.inr.inj ((Option.some.inj H).trans hz)
        subst hyy
        have H := Ho16
        try dsimp only at H
        try simp only [seval, Exit.exit.injEq]
        obtain rfl := Option.some.inj H
        refine Ret.ofR [] (.inr rfl) ?_
        simp only [z, seval, law37_EnqueueSafe_t3]
      first | replace H := bif_f h24 H | replace H := bif_f2 h24 H (by simp only [List.length_append])
      refine Sm.skip ?_
      refine hK22 _ ?_
      obtain ⟨⟨hg26, hg27⟩, H⟩ := gd_some H
      refine Sm.regA h00 mixed hΓ (by kernel_rfl) ?_
      simp only [rs]
      repeat (refine opsG fun K hK => ?_; simp only [z, seval, law37_EnqueueSafe_t3]; (repeat (first | refine gcI ?_ | refine fun (_ : _ ≤ _) => ?_)); refine hK _ ?_; clear hK K)
      refine opsG0 ?_
      refine hK20 _ ?_
      refine Sm.regA h00 mixed hΓ (by kernel_rfl) ?_
      simp only [rs]
      repeat (refine opsG fun K hK => ?_; simp only [z, seval, law37_EnqueueSafe_t3]; (repeat (first | refine gcI ?_ | refine fun (_ : _ ≤ _) => ?_)); refine hK _ ?_; clear hK K)
      refine opsG0 ?_
      try simp only [seval, Exit.exit.injEq]
      refine ⟨(_, _), (Option.some.inj H).symm, ?_⟩
      exact weak_b [some 9005, some 9006] rfl rfl rfl (by simp only [wk, z, seval, law37_EnqueueSafe_t3]) (by simp only [wk, z, seval, law37_EnqueueSafe_t3])
    first | replace H := bif_f h19 H | replace H := bif_f2 h19 H (by simp only [List.length_append])
    refine Sm.exit ?_
    try simp only [seval, Exit.exit.injEq]
    refine ⟨⟨_, (Option.some.inj H).symm⟩, fun hz => ?_⟩
    have hyy := Sum.inr.inj ((Option.some.inj H).trans hz)
    subst hyy
    have H := Ho16
    try dsimp only at H
    try simp only [seval, Exit.exit.injEq]
    refine ⟨(), H, ?_⟩
    exact weak_b [some 9005] rfl rfl rfl (by simp only [wk, z, seval, law37_EnqueueSafe_t3]) (by simp only [wk, z, seval, law37_EnqueueSafe_t3])
  rintro ⟨⟩ H
  try dsimp only at H
  unfold law37_EnqueueSafe_k2 at H
  obtain ⟨r3, hr3, H⟩ := bind_some H
  obtain ⟨hg14, H⟩ := gd_some H
  refine Sm.seqA h00 mixed hΓ (by kernel_rfl) fun K13 hK13 => ?_
  simp only [rs]
  repeat (refine opsG fun K hK => ?_; simp only [z, seval, law37_EnqueueSafe_s2, xlaw37_play, xlaw37_works, xlaw37_blocked, xenqueue_Holds, xenqueue_Check, hr3]; (repeat (first | refine gcI ?_ | refine fun (_ : _ ≤ _) => ?_)); refine hK _ ?_; clear hK K)
  refine hK13 _ ?_
  refine Sm.ret ?_
  try simp only [seval, Exit.exit.injEq]
  obtain rfl := Option.some.inj H
  refine Ret.ofR [] (.inr rfl) ?_
  simp only [z, seval, law37_EnqueueSafe_s2]

abbrev law37_EnqueueFair_s1 (t : List TRequest) (t_1 : List TRequest) : S := stB [(5, .box 9000 0)] [(9000, .box [.c (.slice 61) (.slice (List.map e_TRequest t)), .c (.slice 61) (.slice (List.map e_TRequest t_1))])]

def law37_EnqueueFair_k1 (n : Nat) (t : List TRequest) (t_1 : List TRequest) : Option Bool :=
  some ((IntKind.wrap .i64 ((t.length : Int) + (t_1.length : Int))) == 0)

abbrev law37_EnqueueFair_s3 (back : Bool) (t_2 : List TRequest) (t_3 : List TRequest) (round : Int) : S := stB [(1, .c .bool (.bool back)), (5, .box 9003 0), (7, .c (.int .i64) (.int round))] [(9003, .box [.c (.slice 61) (.slice (List.map e_TRequest t_2)), .c (.slice 61) (.slice (List.map e_TRequest t_3))])]

def law37_EnqueueFair_k3 (n : Nat) (back : Bool) (t_2 : List TRequest) (t_3 : List TRequest) (round : Int) : Option (((List TRequest) × (List TRequest) × Int) ⊕ (((Bool) ⊕ ((List TRequest) × (List TRequest))))) :=
  some (.inl (t_2, t_3, (IntKind.wrap .i64 (round + 1))))

abbrev law37_EnqueueFair_s5 (back : Bool) (t_2 : List TRequest) (t_3 : List TRequest) (round : Int) (first : Int) : S := stB [(1, .c .bool (.bool back)), (5, .box 9006 0), (7, .c (.int .i64) (.int round)), (9, .c (.int .i64) (.int first))] [(9006, .box [.c (.slice 61) (.slice (List.map e_TRequest t_2)), .c (.slice 61) (.slice (List.map e_TRequest t_3))])]

def law37_EnqueueFair_k5 (n : Nat) (back : Bool) (t_2 : List TRequest) (t_3 : List TRequest) (round : Int) (first : Int) : Option (((List TRequest) × (List TRequest) × Int) ⊕ (((Bool) ⊕ ((List TRequest) × (List TRequest))))) :=
  gd (((decide (first ≥ 0)) = true → (enqueue_Holds n (⟨t_2, t_3⟩ : TTable) first).isSome = true)) <|
  bif (if (decide (first ≥ 0)) = true then (!((enqueue_Holds n (⟨t_2, t_3⟩ : TTable) first).getD default)) else false) then
    some (.inr (.inl false))
  else
    law37_EnqueueFair_k3 n back t_2 t_3 round

abbrev law37_EnqueueFair_s7 (back : Bool) (t_4 : List TRequest) (t_5 : List TRequest) (round : Int) (t : List TRequest) (first : Int) (k : Int) : S := stB [(1, .c .bool (.bool back)), (5, .box 9011 0), (7, .c (.int .i64) (.int round)), (8, .own 9013 [.int .i64, .slice 92] 0 t.length), (9, .c (.int .i64) (.int first)), (10, .c (.int .i64) (.int k))] [(9011, .box [.c (.slice 61) (.slice (List.map e_TRequest t_4)), .own 9012 [.int .i64, .slice 92] 0 t_5.length]), (9012, .row 61 (List.map e_TRequest t_5)), (9013, .row 61 (List.map e_TRequest t))]

def law37_EnqueueFair_k7 (n : Nat) (back : Bool) (t_4 : List TRequest) (t_5 : List TRequest) (round : Int) (t : List TRequest) (first : Int) (k : Int) : Option (((List TRequest) × (List TRequest) × Int) ⊕ (((Bool) ⊕ ((List TRequest) × (List TRequest))))) :=
  some (.inl (t_4, t_5, (IntKind.wrap .i64 (k + 1))))

abbrev law37_EnqueueFair_s8 (back : Bool) (t_2 : List TRequest) (t_3 : List TRequest) (round : Int) (t : List TRequest) (first : Int) (k : Int) (i : Int) : S := stB [(1, .c .bool (.bool back)), (5, .box 9014 0), (7, .c (.int .i64) (.int round)), (8, .own 9015 [.int .i64, .slice 92] 0 t.length), (9, .c (.int .i64) (.int first)), (10, .c (.int .i64) (.int k)), (11, .c (.int .i64) (.int i))] [(9014, .box [.c (.slice 61) (.slice (List.map e_TRequest t_2)), .c (.slice 61) (.slice (List.map e_TRequest t_3))]), (9015, .row 61 (List.map e_TRequest t))]

def law37_EnqueueFair_k8 (n : Nat) (back : Bool) (t_2 : List TRequest) (t_3 : List TRequest) (round : Int) (t : List TRequest) (first : Int) (k : Int) (i : Int) : Option (((List TRequest) × (List TRequest) × Int) ⊕ (((Bool) ⊕ ((List TRequest) × (List TRequest))))) :=
  gd ((0 ≤ i ∧ i < (t.length : Int)) ∧ (Int.toNat i) < t.length) <|
  (enqueue_Release n (⟨t_2, t_3⟩ : TTable) ((gt t (Int.toNat i)).Job)).bind fun r3 =>
  bif (r3.2.2 != 0) then
    some (.inr (.inl false))
  else
    law37_EnqueueFair_k7 n back r3.1.Held r3.1.Waiting round t first k

abbrev law37_EnqueueFair_t6 (back : Bool) (round : Int) (t : List TRequest) (first : Int) (t_2 : List TRequest) (t_3 : List TRequest) (k : Int) : S := stB [(1, .c .bool (.bool back)), (5, .box 9009 0), (7, .c (.int .i64) (.int round)), (8, .own 9010 [.int .i64, .slice 92] 0 t.length), (9, .c (.int .i64) (.int first)), (10, .c (.int .i64) (.int k))] [(9009, .box [.c (.slice 61) (.slice (List.map e_TRequest t_2)), .c (.slice 61) (.slice (List.map e_TRequest t_3))]), (9010, .row 61 (List.map e_TRequest t))]

def law37_EnqueueFair_b6 (n : Nat) (back : Bool) (round : Int) (t : List TRequest) (first : Int) (t_2 : List TRequest) (t_3 : List TRequest) (k : Int) : Option (((List TRequest) × (List TRequest) × Int) ⊕ (((Bool) ⊕ ((List TRequest) × (List TRequest))))) :=
  bif (decide (k < ((t.length : Nat) : Int))) then
    bif back then
      law37_EnqueueFair_k8 n back t_2 t_3 round t first k (IntKind.wrap .i64 ((IntKind.wrap .i64 (((t.length : Nat) : Int) - 1)) - k))
    else
      law37_EnqueueFair_k8 n back t_2 t_3 round t first k k
  else
    some (.inr (.inr (t_2, t_3)))

abbrev law37_EnqueueFair_s4 (back : Bool) (t : List TRequest) (t_1 : List TRequest) (round : Int) (first : Int) : S := stB [(1, .c .bool (.bool back)), (5, .box 9004 0), (7, .c (.int .i64) (.int round)), (8, .own 9005 [.int .i64, .slice 92] 0 t.length), (9, .c (.int .i64) (.int first))] [(9004, .box [.c (.slice 61) (.slice (List.map e_TRequest t)), .c (.slice 61) (.slice (List.map e_TRequest t_1))]), (9005, .row 61 (List.map e_TRequest t))]

def law37_EnqueueFair_k4 (n : Nat) (back : Bool) (t : List TRequest) (t_1 : List TRequest) (round : Int) (first : Int) : Option (((List TRequest) × (List TRequest) × Int) ⊕ (((Bool) ⊕ ((List TRequest) × (List TRequest))))) :=
  (loopF (fun (x : (List TRequest) × (List TRequest) × Int) => law37_EnqueueFair_b6 n back round t first x.1 x.2.1 x.2.2) n (t, t_1, 0)).bind fun y28 =>
  match y28 with
  | .inl v =>
    some (.inr (.inl v))
  | .inr v =>
    law37_EnqueueFair_k5 n back v.1 v.2 round first

abbrev law37_EnqueueFair_t2 (back : Bool) (t : List TRequest) (t_1 : List TRequest) (round : Int) : S := stB [(1, .c .bool (.bool back)), (5, .box 9002 0), (7, .c (.int .i64) (.int round))] [(9002, .box [.c (.slice 61) (.slice (List.map e_TRequest t)), .c (.slice 61) (.slice (List.map e_TRequest t_1))])]

def law37_EnqueueFair_b2 (n : Nat) (back : Bool) (t : List TRequest) (t_1 : List TRequest) (round : Int) : Option (((List TRequest) × (List TRequest) × Int) ⊕ (((Bool) ⊕ ((List TRequest) × (List TRequest))))) :=
  bif (if (decide (round < 13)) = true then (decide ((IntKind.wrap .i64 ((t.length : Int) + (t_1.length : Int))) > 0)) else false) then
    gd (t.length ≤ 2147483648) <|
    bif (((t.length : Nat) : Int) == 0) then
      some (.inr (.inl false))
    else
      bif (decide ((t_1.length : Int) > 0)) then
        gd ((0 ≤ 0 ∧ 0 < (t_1.length : Int))) <|
        law37_EnqueueFair_k4 n back t t_1 round ((gt t_1 0).Job)
      else
        law37_EnqueueFair_k4 n back t t_1 round (-1)
  else
    some (.inr (.inr (t, t_1)))

def law37_EnqueueFair (n : Nat) (l : List TAct) (back : Bool) : Option Bool :=
  (law37_play n l).bind fun r1 =>
  (law37_works n).bind fun r2 =>
  bif (!r2) then
    some false
  else
    bif (!r1.2) then
      some true
    else
      (loopF (fun (x : (List TRequest) × (List TRequest) × Int) => law37_EnqueueFair_b2 n back x.1 x.2.1 x.2.2) n (r1.1.Held, r1.1.Waiting, 0)).bind fun y13 =>
      match y13 with
      | .inl v =>
        some v
      | .inr v =>
        law37_EnqueueFair_k1 n v.1 v.2

def xlaw37_EnqueueFair (n : Nat) : Go.AE.Fn := mkFn (A := (List TAct) × Bool) (R := Bool) 7 [(false, [.slice 45]), (false, [.bool])] false (fun xs => (((cg (xs.getD 0 []) 0).toSl.map d_TAct), (cg (xs.getD 1 []) 0).toBool)) (fun a => [[.slice (List.map e_TAct a.1)], [.bool a.2]]) (fun a => law37_EnqueueFair n a.1 a.2) (fun r => [.c .bool (.bool r)]) (fun r => [])

theorem claw37_EnqueueFair (n : Nat) : Contract Try.prog (xlaw37_EnqueueFair n) := by
  have hΓ : ∀ g, g ∈ ([xlaw37_play n, xlaw37_works n, xenqueue_Release n, xenqueue_Holds n] : List Go.AE.Fn) → Contract Try.prog g := by
    intro g hg; simp only [List.mem_cons, List.not_mem_nil, or_false] at hg; rcases hg with rfl | rfl | rfl | rfl; exact claw37_play n; exact claw37_works n; exact cenqueue_Release n; exact cenqueue_Holds n
  refine contract_f (Try.f7.body.getD .skip) h00 Try.func7 rfl (by intro args w; exact Try.call7 args w) (by decide) (by intro _ r; exact ⟨rfl, by simp⟩) ?_
  rintro ⟨l, back⟩ r H
  try dsimp only at H
  unfold law37_EnqueueFair at H
  simp only [Try.f7, Option.getD]
  refine Sm.seqA h00 mixed hΓ (by kernel_rfl) fun K1 hK1 => ?_
  simp only [rs]
  repeat (refine opsG fun K hK => ?_; simp only [z, seval]; (repeat (first | refine gcI ?_ | refine fun (_ : _ ≤ _) => ?_)); refine hK _ ?_; clear hK K)
  refine hK1 _ ?_
  obtain ⟨r1, hr1, H⟩ := bind_some H
  refine Sm.seqA h00 mixed hΓ (by kernel_rfl) fun K2 hK2 => ?_
  simp only [rs]
  repeat (refine opsG fun K hK => ?_; simp only [z, seval, xlaw37_play, hr1]; (repeat (first | refine gcI ?_ | refine fun (_ : _ ≤ _) => ?_)); refine hK _ ?_; clear hK K)
  refine hK2 _ ?_
  refine Sm.seqK fun K3 hK3 => ?_
  obtain ⟨r2, hr2, H⟩ := bind_some H
  refine Sm.seqA h00 mixed hΓ (by kernel_rfl) fun K4 hK4 => ?_
  simp only [rs]
  repeat (refine opsG fun K hK => ?_; simp only [z, seval, xlaw37_play, xlaw37_works, hr2]; (repeat (first | refine gcI ?_ | refine fun (_ : _ ≤ _) => ?_)); refine hK _ ?_; clear hK K)
  refine hK4 _ ?_
  refine Sm.condK (by rfl) fun Ka Kb ha hb => ?_
  simp only [wpCond, z, seval]
  refine ⟨fun h5 => ha ?_, fun h5 => hb ?_⟩
  · first | replace H := bif_t h5 H | replace H := bif_t2 h5 H (by simp only [List.length_append])
    refine Sm.seqA h00 mixed hΓ (by kernel_rfl) fun K6 hK6 => ?_
    simp only [rs]
    repeat (refine opsG fun K hK => ?_; simp only [z, seval]; (repeat (first | refine gcI ?_ | refine fun (_ : _ ≤ _) => ?_)); refine hK _ ?_; clear hK K)
    refine hK6 _ ?_
    refine Sm.ret ?_
    try simp only [seval, Exit.exit.injEq]
    obtain rfl := Option.some.inj H
    refine Ret.ofR [] (.inr rfl) ?_
    simp only [z, seval]
  first | replace H := bif_f h5 H | replace H := bif_f2 h5 H (by simp only [List.length_append])
  refine Sm.skip ?_
  refine hK3 _ ?_
  refine Sm.seqK fun K7 hK7 => ?_
  refine Sm.seqA h00 mixed hΓ (by kernel_rfl) fun K8 hK8 => ?_
  simp only [rs]
  repeat (refine opsG fun K hK => ?_; simp only [z, seval]; (repeat (first | refine gcI ?_ | refine fun (_ : _ ≤ _) => ?_)); refine hK _ ?_; clear hK K)
  refine hK8 _ ?_
  refine Sm.condK (by rfl) fun Ka Kb ha hb => ?_
  simp only [wpCond, z, seval]
  refine ⟨fun h9 => ha ?_, fun h9 => hb ?_⟩
  · first | replace H := bif_t h9 H | replace H := bif_t2 h9 H (by simp only [List.length_append])
    refine Sm.seqA h00 mixed hΓ (by kernel_rfl) fun K10 hK10 => ?_
    simp only [rs]
    repeat (refine opsG fun K hK => ?_; simp only [z, seval]; (repeat (first | refine gcI ?_ | refine fun (_ : _ ≤ _) => ?_)); refine hK _ ?_; clear hK K)
    refine hK10 _ ?_
    refine Sm.ret ?_
    try simp only [seval, Exit.exit.injEq]
    obtain rfl := Option.some.inj H
    refine Ret.ofR [] (.inr rfl) ?_
    simp only [z, seval]
  first | replace H := bif_f h9 H | replace H := bif_f2 h9 H (by simp only [List.length_append])
  refine Sm.skip ?_
  refine hK7 _ ?_
  refine Sm.cut (fun (x : (List TRequest) × (List TRequest)) => law37_EnqueueFair_s1 x.1 x.2) (fun x => law37_EnqueueFair_k1 n x.1 x.2 = some r) ?_ ?_
  · refine Sm.seqA h00 mixed hΓ (by kernel_rfl) fun K12 hK12 => ?_
    simp only [rs]
    repeat (refine opsG fun K hK => ?_; simp only [z, seval]; (repeat (first | refine gcI ?_ | refine fun (_ : _ ≤ _) => ?_)); refine hK _ ?_; clear hK K)
    refine hK12 _ ?_
    refine Sm.block ?_
    obtain ⟨y13, hy13, Ho13⟩ := bind_some H
    refine Sm.loopB (fun (x : (List TRequest) × (List TRequest) × Int) => law37_EnqueueFair_b2 n back x.1 x.2.1 x.2.2) (fun x => law37_EnqueueFair_t2 back x.1 x.2.1 x.2.2) hy13 ?_ ?_
    · exact weak_b [some 80] rfl rfl rfl (by simp only [wk, z, seval]) (by simp only [wk, z, seval])
    rintro ⟨t, t_1, round⟩ z13 H
    try dsimp only at H
    unfold law37_EnqueueFair_b2 at H
    refine Sm.seqK fun K14 hK14 => ?_
    refine Sm.seqA h00 mixed hΓ (by kernel_rfl) fun K15 hK15 => ?_
    simp only [rs]
    repeat (refine opsG fun K hK => ?_; simp only [z, seval, law37_EnqueueFair_t2]; (repeat (first | refine gcI ?_ | refine fun (_ : _ ≤ _) => ?_)); refine hK _ ?_; clear hK K)
    refine hK15 _ ?_
    refine Sm.condK (by rfl) fun Ka Kb ha hb => ?_
    simp only [wpCond, z, seval, law37_EnqueueFair_t2]
    refine ⟨fun h16 => ha ?_, fun h16 => hb ?_⟩
    · first | replace H := bif_t h16 H | replace H := bif_t2 h16 H (by simp only [List.length_append])
      refine Sm.skip ?_
      refine hK14 _ ?_
      refine Sm.cut (fun (x : (List TRequest) × (List TRequest)) => law37_EnqueueFair_s3 back x.1 x.2 round) (fun x => law37_EnqueueFair_k3 n back x.1 x.2 round = some z13) ?_ ?_
      · refine Sm.block ?_
        obtain ⟨hg45, H⟩ := gd_some H
        refine Sm.seqA h00 mixed hΓ (by kernel_rfl) fun K17 hK17 => ?_
        simp only [rs]
        repeat (refine opsG fun K hK => ?_; simp only [z, seval, law37_EnqueueFair_t2]; (repeat (first | refine gcI ?_ | refine fun (_ : _ ≤ _) => ?_)); refine hK _ ?_; clear hK K)
        refine hK17 _ ?_
        refine Sm.seqK fun K18 hK18 => ?_
        refine Sm.seqA h00 mixed hΓ (by kernel_rfl) fun K19 hK19 => ?_
        simp only [rs]
        repeat (refine opsG fun K hK => ?_; simp only [z, seval, law37_EnqueueFair_t2]; (repeat (first | refine gcI ?_ | refine fun (_ : _ ≤ _) => ?_)); refine hK _ ?_; clear hK K)
        refine hK19 _ ?_
        refine Sm.condK (by rfl) fun Ka Kb ha hb => ?_
        simp only [wpCond, z, seval, law37_EnqueueFair_t2]
        refine ⟨fun h20 => ha ?_, fun h20 => hb ?_⟩
        · first | replace H := bif_t h20 H | replace H := bif_t2 h20 H (by simp only [List.length_append])
          refine Sm.seqA h00 mixed hΓ (by kernel_rfl) fun K21 hK21 => ?_
          simp only [rs]
          repeat (refine opsG fun K hK => ?_; simp only [z, seval, law37_EnqueueFair_t2]; (repeat (first | refine gcI ?_ | refine fun (_ : _ ≤ _) => ?_)); refine hK _ ?_; clear hK K)
          refine hK21 _ ?_
          refine Sm.ret ?_
          try simp only [seval, Exit.exit.injEq]
          refine ⟨⟨_, (Option.some.inj H).symm⟩, fun hz => ?_⟩
          have hyy := Sum.inr.inj ((Option.some.inj H).trans hz)
          subst hyy
          have H := Ho13
          try dsimp only at H
          try simp only [seval, Exit.exit.injEq]
          obtain rfl := Option.some.inj H
          refine Ret.ofR [] (.inr rfl) ?_
          simp only [z, seval, law37_EnqueueFair_t2]
        first | replace H := bif_f h20 H | replace H := bif_f2 h20 H (by simp only [List.length_append])
        refine Sm.skip ?_
        refine hK18 _ ?_
        refine Sm.seqA h00 mixed hΓ (by kernel_rfl) fun K22 hK22 => ?_
        simp only [rs]
        repeat (refine opsG fun K hK => ?_; simp only [z, seval, law37_EnqueueFair_t2]; (repeat (first | refine gcI ?_ | refine fun (_ : _ ≤ _) => ?_)); refine hK _ ?_; clear hK K)
        refine hK22 _ ?_
        refine Sm.cut (fun (x : Int) => law37_EnqueueFair_s4 back t t_1 round x) (fun x => law37_EnqueueFair_k4 n back t t_1 round x = some z13) ?_ ?_
        · refine Sm.seqA h00 mixed hΓ (by kernel_rfl) fun K42 hK42 => ?_
          simp only [rs]
          repeat (refine opsG fun K hK => ?_; simp only [z, seval, law37_EnqueueFair_t2]; (repeat (first | refine gcI ?_ | refine fun (_ : _ ≤ _) => ?_)); refine hK _ ?_; clear hK K)
          refine hK42 _ ?_
          refine Sm.condK (by rfl) fun Ka Kb ha hb => ?_
          simp only [wpCond, z, seval, law37_EnqueueFair_t2]
          refine ⟨fun h43 => ha ?_, fun h43 => hb ?_⟩
          · first | replace H := bif_t h43 H | replace H := bif_t2 h43 H (by simp only [List.length_append])
            obtain ⟨hg44, H⟩ := gd_some H
            refine Sm.regA h00 mixed hΓ (by kernel_rfl) ?_
            simp only [rs]
            repeat (refine opsG fun K hK => ?_; simp only [z, seval, law37_EnqueueFair_t2]; (repeat (first | refine gcI ?_ | refine fun (_ : _ ≤ _) => ?_)); refine hK _ ?_; clear hK K)
            refine opsG0 ?_
            try simp only [seval, Exit.exit.injEq]
            refine ⟨_, H, ?_⟩
            exact weak_b [some 9002, some 656] rfl rfl rfl (by simp only [wk, z, seval, law37_EnqueueFair_t2]) (by simp only [wk, z, seval, law37_EnqueueFair_t2])
          first | replace H := bif_f h43 H | replace H := bif_f2 h43 H (by simp only [List.length_append])
          refine Sm.skip ?_
          try simp only [seval, Exit.exit.injEq]
          refine ⟨_, H, ?_⟩
          exact weak_b [some 9002, some 656] rfl rfl rfl (by simp only [wk, z, seval, law37_EnqueueFair_t2]) (by simp only [wk, z, seval, law37_EnqueueFair_t2])
        rintro first H
        try dsimp only at H
        unfold law37_EnqueueFair_k4 at H
        refine Sm.cut (fun (x : (List TRequest) × (List TRequest)) => law37_EnqueueFair_s5 back x.1 x.2 round first) (fun x => law37_EnqueueFair_k5 n back x.1 x.2 round first = some z13) ?_ ?_
        · refine Sm.seqA h00 mixed hΓ (by kernel_rfl) fun K27 hK27 => ?_
          simp only [rs]
          repeat (refine opsG fun K hK => ?_; simp only [z, seval, law37_EnqueueFair_s4]; (repeat (first | refine gcI ?_ | refine fun (_ : _ ≤ _) => ?_)); refine hK _ ?_; clear hK K)
          refine hK27 _ ?_
          refine Sm.block ?_
          obtain ⟨y28, hy28, Ho28⟩ := bind_some H
          refine Sm.loopB (fun (x : (List TRequest) × (List TRequest) × Int) => law37_EnqueueFair_b6 n back round t first x.1 x.2.1 x.2.2) (fun x => law37_EnqueueFair_t6 back round t first x.1 x.2.1 x.2.2) hy28 ?_ ?_
          · exact weak_b [some 9004, some 9005] rfl rfl rfl (by simp only [wk, z, seval, law37_EnqueueFair_s4]) (by simp only [wk, z, seval, law37_EnqueueFair_s4])
          rintro ⟨t_2, t_3, k⟩ z28 H
          try dsimp only at H
          unfold law37_EnqueueFair_b6 at H
          refine Sm.seqK fun K29 hK29 => ?_
          refine Sm.seqA h00 mixed hΓ (by kernel_rfl) fun K30 hK30 => ?_
          simp only [rs]
          repeat (refine opsG fun K hK => ?_; simp only [z, seval, law37_EnqueueFair_t6]; (repeat (first | refine gcI ?_ | refine fun (_ : _ ≤ _) => ?_)); refine hK _ ?_; clear hK K)
          refine hK30 _ ?_
          refine Sm.condK (by rfl) fun Ka Kb ha hb => ?_
          simp only [wpCond, z, seval, law37_EnqueueFair_t6]
          refine ⟨fun h31 => ha ?_, fun h31 => hb ?_⟩
          · first | replace H := bif_t h31 H | replace H := bif_t2 h31 H (by simp only [List.length_append])
            refine Sm.skip ?_
            refine hK29 _ ?_
            refine Sm.cut (fun (x : (List TRequest) × (List TRequest)) => law37_EnqueueFair_s7 back x.1 x.2 round t first k) (fun x => law37_EnqueueFair_k7 n back x.1 x.2 round t first k = some z28) ?_ ?_
            · refine Sm.block ?_
              refine Sm.seqA h00 mixed hΓ (by kernel_rfl) fun K32 hK32 => ?_
              simp only [rs]
              repeat (refine opsG fun K hK => ?_; simp only [z, seval, law37_EnqueueFair_t6]; (repeat (first | refine gcI ?_ | refine fun (_ : _ ≤ _) => ?_)); refine hK _ ?_; clear hK K)
              refine hK32 _ ?_
              refine Sm.cut (fun (x : Int) => law37_EnqueueFair_s8 back t_2 t_3 round t first k x) (fun x => law37_EnqueueFair_k8 n back t_2 t_3 round t first k x = some z28) ?_ ?_
              · refine Sm.seqA h00 mixed hΓ (by kernel_rfl) fun K40 hK40 => ?_
                simp only [rs]
                repeat (refine opsG fun K hK => ?_; simp only [z, seval, law37_EnqueueFair_t6]; (repeat (first | refine gcI ?_ | refine fun (_ : _ ≤ _) => ?_)); refine hK _ ?_; clear hK K)
                refine hK40 _ ?_
                refine Sm.condK (by rfl) fun Ka Kb ha hb => ?_
                simp only [wpCond, z, seval, law37_EnqueueFair_t6]
                refine ⟨fun h41 => ha ?_, fun h41 => hb ?_⟩
                · first | replace H := bif_t h41 H | replace H := bif_t2 h41 H (by simp only [List.length_append])
                  refine Sm.regA h00 mixed hΓ (by kernel_rfl) ?_
                  simp only [rs]
                  repeat (refine opsG fun K hK => ?_; simp only [z, seval, law37_EnqueueFair_t6]; (repeat (first | refine gcI ?_ | refine fun (_ : _ ≤ _) => ?_)); refine hK _ ?_; clear hK K)
                  refine opsG0 ?_
                  try simp only [seval, Exit.exit.injEq]
                  refine ⟨_, H, ?_⟩
                  exact weak_b [some 9009, some 9010] rfl rfl rfl (by simp only [wk, z, seval, law37_EnqueueFair_t6]) (by simp only [wk, z, seval, law37_EnqueueFair_t6])
                first | replace H := bif_f h41 H | replace H := bif_f2 h41 H (by simp only [List.length_append])
                refine Sm.skip ?_
                try simp only [seval, Exit.exit.injEq]
                refine ⟨_, H, ?_⟩
                exact weak_b [some 9009, some 9010] rfl rfl rfl (by simp only [wk, z, seval, law37_EnqueueFair_t6]) (by simp only [wk, z, seval, law37_EnqueueFair_t6])
              rintro i H
              try dsimp only at H
              unfold law37_EnqueueFair_k8 at H
              obtain ⟨⟨hg34, hg35⟩, H⟩ := gd_some H
              obtain ⟨r3, hr3, H⟩ := bind_some H
              refine Sm.seqQ h00 mixed hΓ [0, 1, 2, 3, 4, 5, 6, 7, 8, 9, 10, 11, 12, 13, 14] [(none, [9014], []), (none, [], []), (none, [], []), (none, [9015], []), (none, [9015], []), (none, [9015], []), (none, [], [1199, 1198, 1197, 1196, 1195, 1194, 1193, 1192, 1191, 1190, 1189, 1188, 1187, 1186, 1185, 1184]), (none, [], []), (none, [], []), (none, [], []), (none, [], []), (none, [], [192]), (none, [192, 1184], [192]), (none, [], []), (none, [], [])] (by kernel_rfl) rfl fun K33 hK33 => ?_
              simp only [rs]
              iterate 15 (refine opsQ fun K hK => ?_; simp only [z, seval, law37_EnqueueFair_s8, xlaw37_play, xlaw37_works, xenqueue_Release, hr3]; (repeat (first | refine gcI ?_ | refine fun (_ : _ ≤ _) => ?_)); refine hK _ ?_; clear hK K)
              refine opsQ0 ?_
              refine hK33 _ ?_
              refine Sm.seqK fun K36 hK36 => ?_
              refine Sm.seqA h00 mixed hΓ (by kernel_rfl) fun K37 hK37 => ?_
              simp only [rs]
              repeat (refine opsG fun K hK => ?_; simp only [z, seval, law37_EnqueueFair_s8]; (repeat (first | refine gcI ?_ | refine fun (_ : _ ≤ _) => ?_)); refine hK _ ?_; clear hK K)
              refine hK37 _ ?_
              refine Sm.condK (by rfl) fun Ka Kb ha hb => ?_
              simp only [wpCond, z, seval, law37_EnqueueFair_s8]
              refine ⟨fun h38 => ha ?_, fun h38 => hb ?_⟩
              · first | replace H := bif_t h38 H | replace H := bif_t2 h38 H (by simp only [List.length_append])
                refine Sm.seqA h00 mixed hΓ (by kernel_rfl) fun K39 hK39 => ?_
                simp only [rs]
                repeat (refine opsG fun K hK => ?_; simp only [z, seval, law37_EnqueueFair_s8]; (repeat (first | refine gcI ?_ | refine fun (_ : _ ≤ _) => ?_)); refine hK _ ?_; clear hK K)
                refine hK39 _ ?_
                refine Sm.ret ?_
                try simp only [seval, Exit.exit.injEq]
                refine ⟨⟨_, (Option.some.inj H).symm⟩, fun hz => ?_⟩
                have hyy := Sum.inr.inj ((Option.some.inj H).trans hz)
                subst hyy
                have H := Ho28
                try dsimp only at H
                try simp only [seval, Exit.exit.injEq]
                refine ⟨⟨_, (Option.some.inj H).symm⟩, fun hz => ?_⟩
                have hyy := Sum.inr.inj ((Option.some.inj H).trans hz)
                subst hyy
                have H := Ho13
                try dsimp only at H
                try simp only [seval, Exit.exit.injEq]
                obtain rfl := Option.some.inj H
                refine Ret.ofR [] (.inr rfl) ?_
                simp only [z, seval, law37_EnqueueFair_s8]
              first | replace H := bif_f h38 H | replace H := bif_f2 h38 H (by simp only [List.length_append])
              refine Sm.skip ?_
              refine hK36 _ ?_
              refine Sm.regA h00 mixed hΓ (by kernel_rfl) ?_
              simp only [rs]
              repeat (refine opsG fun K hK => ?_; simp only [z, seval, law37_EnqueueFair_s8]; (repeat (first | refine gcI ?_ | refine fun (_ : _ ≤ _) => ?_)); refine hK _ ?_; clear hK K)
              refine opsG0 ?_
              try simp only [seval, Exit.exit.injEq]
              refine ⟨(r3.1.Held, r3.1.Waiting), H, ?_⟩
              exact weak_b [some 9014, some 1184, some 9015] rfl rfl rfl (by simp only [wk, z, seval, law37_EnqueueFair_s8]) (by simp only [wk, z, seval, law37_EnqueueFair_s8])
            rintro ⟨t_4, t_5⟩ H
            try dsimp only at H
            unfold law37_EnqueueFair_k7 at H
            refine Sm.regA h00 mixed hΓ (by kernel_rfl) ?_
            simp only [rs]
            repeat (refine opsG fun K hK => ?_; simp only [z, seval, law37_EnqueueFair_s7]; (repeat (first | refine gcI ?_ | refine fun (_ : _ ≤ _) => ?_)); refine hK _ ?_; clear hK K)
            refine opsG0 ?_
            try simp only [seval, Exit.exit.injEq]
            refine ⟨(_, _, _), (Option.some.inj H).symm, ?_⟩
            exact weak_bf [9012] [some 9011, some 9013] rfl rfl rfl (by simp only [wk, z, seval, law37_EnqueueFair_s7]) (by simp only [wk, z, seval, law37_EnqueueFair_s7])
          first | replace H := bif_f h31 H | replace H := bif_f2 h31 H (by simp only [List.length_append])
          refine Sm.exit ?_
          try simp only [seval, Exit.exit.injEq]
          refine ⟨⟨_, (Option.some.inj H).symm⟩, fun hz => ?_⟩
          have hyy := Sum.inr.inj ((Option.some.inj H).trans hz)
          subst hyy
          have H := Ho28
          try dsimp only at H
          try simp only [seval, Exit.exit.injEq]
          refine ⟨(t_2, t_3), H, ?_⟩
          exact weak_b [some 9009] rfl rfl rfl (by simp only [wk, z, seval, law37_EnqueueFair_t6]) (by simp only [wk, z, seval, law37_EnqueueFair_t6])
        rintro ⟨t_2, t_3⟩ H
        try dsimp only at H
        unfold law37_EnqueueFair_k5 at H
        obtain ⟨hg26, H⟩ := gd_some H
        refine Sm.seqA h00 mixed hΓ (by kernel_rfl) fun K23 hK23 => ?_
        simp only [rs]
        repeat (refine opsG fun K hK => ?_; simp only [z, seval, law37_EnqueueFair_s5, xlaw37_play, xlaw37_works, xenqueue_Release, xenqueue_Holds]; (repeat (first | refine gcI ?_ | refine fun (_ : _ ≤ _) => ?_)); refine hK _ ?_; clear hK K)
        refine hK23 _ ?_
        refine Sm.condK (by rfl) fun Ka Kb ha hb => ?_
        simp only [wpCond, z, seval, law37_EnqueueFair_s5]
        refine ⟨fun h24 => ha ?_, fun h24 => hb ?_⟩
        · first | replace H := bif_t h24 H | replace H := bif_t2 h24 H (by simp only [List.length_append])
          refine Sm.seqA h00 mixed hΓ (by kernel_rfl) fun K25 hK25 => ?_
          simp only [rs]
          repeat (refine opsG fun K hK => ?_; simp only [z, seval, law37_EnqueueFair_s5]; (repeat (first | refine gcI ?_ | refine fun (_ : _ ≤ _) => ?_)); refine hK _ ?_; clear hK K)
          refine hK25 _ ?_
          refine Sm.ret ?_
          try simp only [seval, Exit.exit.injEq]
          refine ⟨⟨_, (Option.some.inj H).symm⟩, fun hz => ?_⟩
          have hyy := Sum.inr.inj ((Option.some.inj H).trans hz)
          subst hyy
          have H := Ho13
          try dsimp only at H
          try simp only [seval, Exit.exit.injEq]
          obtain rfl := Option.some.inj H
          refine Ret.ofR [] (.inr rfl) ?_
          simp only [z, seval, law37_EnqueueFair_s5]
        first | replace H := bif_f h24 H | replace H := bif_f2 h24 H (by simp only [List.length_append])
        refine Sm.skip ?_
        try simp only [seval, Exit.exit.injEq]
        refine ⟨(t_2, t_3), H, ?_⟩
        exact weak_b [some 9006] rfl rfl rfl (by simp only [wk, z, seval, law37_EnqueueFair_s5]) (by simp only [wk, z, seval, law37_EnqueueFair_s5])
      rintro ⟨t_2, t_3⟩ H
      try dsimp only at H
      unfold law37_EnqueueFair_k3 at H
      refine Sm.regA h00 mixed hΓ (by kernel_rfl) ?_
      simp only [rs]
      repeat (refine opsG fun K hK => ?_; simp only [z, seval, law37_EnqueueFair_s3]; (repeat (first | refine gcI ?_ | refine fun (_ : _ ≤ _) => ?_)); refine hK _ ?_; clear hK K)
      refine opsG0 ?_
      try simp only [seval, Exit.exit.injEq]
      refine ⟨(_, _, _), (Option.some.inj H).symm, ?_⟩
      exact weak_b [some 9003] rfl rfl rfl (by simp only [wk, z, seval, law37_EnqueueFair_s3]) (by simp only [wk, z, seval, law37_EnqueueFair_s3])
    first | replace H := bif_f h16 H | replace H := bif_f2 h16 H (by simp only [List.length_append])
    refine Sm.exit ?_
    try simp only [seval, Exit.exit.injEq]
    refine ⟨⟨_, (Option.some.inj H).symm⟩, fun hz => ?_⟩
    have hyy := Sum.inr.inj ((Option.some.inj H).trans hz)
    subst hyy
    have H := Ho13
    try dsimp only at H
    try simp only [seval, Exit.exit.injEq]
    refine ⟨(t, t_1), H, ?_⟩
    exact weak_b [some 9002] rfl rfl rfl (by simp only [wk, z, seval, law37_EnqueueFair_t2]) (by simp only [wk, z, seval, law37_EnqueueFair_t2])
  rintro ⟨t, t_1⟩ H
  try dsimp only at H
  unfold law37_EnqueueFair_k1 at H
  refine Sm.seqA h00 mixed hΓ (by kernel_rfl) fun K11 hK11 => ?_
  simp only [rs]
  repeat (refine opsG fun K hK => ?_; simp only [z, seval, law37_EnqueueFair_s1]; (repeat (first | refine gcI ?_ | refine fun (_ : _ ≤ _) => ?_)); refine hK _ ?_; clear hK K)
  refine hK11 _ ?_
  refine Sm.ret ?_
  try simp only [seval, Exit.exit.injEq]
  obtain rfl := Option.some.inj H
  refine Ret.ofR [] (.inr rfl) ?_
  simp only [z, seval, law37_EnqueueFair_s1]

def law37_EnqueueUndone (n : Nat) (l : List TAct) (w : List TWant) : Option Bool :=
  (law37_play n l).bind fun r1 =>
  (law37_works n).bind fun r2 =>
  bif (!r2) then
    some false
  else
    gd (((!(!r1.2)) = true → (law37_few n w).isSome = true)) <|
    bif (if (!r1.2) = true then true else (!((law37_few n w).getD default))) then
      some true
    else
      (enqueue_Ask n r1.1 99 w).bind fun r3 =>
      gd (((!(r3.2.2 != 0)) = true → (enqueue_Holds n r3.1 99).isSome = true)) <|
      bif (if (r3.2.2 != 0) = true then true else (((enqueue_Holds n r3.1 99).getD default) != r3.2.1)) then
        some false
      else
        (enqueue_Release n r3.1 99).bind fun r4 =>
        (enqueue_Release n r4.1 99).bind fun r5 =>
        bif (if (if (r4.2.2 == 0) = true then (r5.2.2 == 3) else false) = true then (((r4.2.1.length : Nat) : Int) == 0) else false) then
          gd ((if (if (r4.2.2 == 0) = true then (r5.2.2 == 3) else false) = true then (((r4.2.1.length : Nat) : Int) == 0) else false) = true) <|
          (law37_table n r1.1).bind fun r6 =>
          gd ((if (if (r4.2.2 == 0) = true then (r5.2.2 == 3) else false) = true then (((r4.2.1.length : Nat) : Int) == 0) else false) = true) <|
          (law37_same n r4.1 r6).bind fun r7 =>
          some r7
        else
          some false

def xlaw37_EnqueueUndone (n : Nat) : Go.AE.Fn := mkFn (A := (List TAct) × (List TWant)) (R := Bool) 8 [(false, [.slice 45]), (false, [.slice 92])] false (fun xs => (((cg (xs.getD 0 []) 0).toSl.map d_TAct), ((cg (xs.getD 1 []) 0).toSl.map d_TWant))) (fun a => [[.slice (List.map e_TAct a.1)], [.slice (List.map e_TWant a.2)]]) (fun a => law37_EnqueueUndone n a.1 a.2) (fun r => [.c .bool (.bool r)]) (fun r => [])

theorem claw37_EnqueueUndone (n : Nat) : Contract Try.prog (xlaw37_EnqueueUndone n) := by
  have hΓ : ∀ g, g ∈ ([xlaw37_play n, xlaw37_works n, xlaw37_few n, xenqueue_Ask n, xenqueue_Holds n, xenqueue_Release n, xlaw37_table n, xlaw37_same n] : List Go.AE.Fn) → Contract Try.prog g := by
    intro g hg; simp only [List.mem_cons, List.not_mem_nil, or_false] at hg; rcases hg with rfl | rfl | rfl | rfl | rfl | rfl | rfl | rfl; exact claw37_play n; exact claw37_works n; exact claw37_few n; exact cenqueue_Ask n; exact cenqueue_Holds n; exact cenqueue_Release n; exact claw37_table n; exact claw37_same n
  refine contract_f (Try.f8.body.getD .skip) h00 Try.func8 rfl (by intro args w; exact Try.call8 args w) (by decide) (by intro _ r; exact ⟨rfl, by simp⟩) ?_
  rintro ⟨l, w⟩ r H
  try dsimp only at H
  unfold law37_EnqueueUndone at H
  simp only [Try.f8, Option.getD]
  refine Sm.seqA h00 mixed hΓ (by kernel_rfl) fun K1 hK1 => ?_
  simp only [rs]
  repeat (refine opsG fun K hK => ?_; simp only [z, seval]; (repeat (first | refine gcI ?_ | refine fun (_ : _ ≤ _) => ?_)); refine hK _ ?_; clear hK K)
  refine hK1 _ ?_
  obtain ⟨r1, hr1, H⟩ := bind_some H
  refine Sm.seqA h00 mixed hΓ (by kernel_rfl) fun K2 hK2 => ?_
  simp only [rs]
  repeat (refine opsG fun K hK => ?_; simp only [z, seval, xlaw37_play, hr1]; (repeat (first | refine gcI ?_ | refine fun (_ : _ ≤ _) => ?_)); refine hK _ ?_; clear hK K)
  refine hK2 _ ?_
  refine Sm.seqK fun K3 hK3 => ?_
  obtain ⟨r2, hr2, H⟩ := bind_some H
  refine Sm.seqA h00 mixed hΓ (by kernel_rfl) fun K4 hK4 => ?_
  simp only [rs]
  repeat (refine opsG fun K hK => ?_; simp only [z, seval, xlaw37_play, xlaw37_works, hr2]; (repeat (first | refine gcI ?_ | refine fun (_ : _ ≤ _) => ?_)); refine hK _ ?_; clear hK K)
  refine hK4 _ ?_
  refine Sm.condK (by rfl) fun Ka Kb ha hb => ?_
  simp only [wpCond, z, seval]
  refine ⟨fun h5 => ha ?_, fun h5 => hb ?_⟩
  · first | replace H := bif_t h5 H | replace H := bif_t2 h5 H (by simp only [List.length_append])
    refine Sm.seqA h00 mixed hΓ (by kernel_rfl) fun K6 hK6 => ?_
    simp only [rs]
    repeat (refine opsG fun K hK => ?_; simp only [z, seval]; (repeat (first | refine gcI ?_ | refine fun (_ : _ ≤ _) => ?_)); refine hK _ ?_; clear hK K)
    refine hK6 _ ?_
    refine Sm.ret ?_
    try simp only [seval, Exit.exit.injEq]
    obtain rfl := Option.some.inj H
    refine Ret.ofR [] (.inr rfl) ?_
    simp only [z, seval]
  first | replace H := bif_f h5 H | replace H := bif_f2 h5 H (by simp only [List.length_append])
  refine Sm.skip ?_
  refine hK3 _ ?_
  refine Sm.seqK fun K7 hK7 => ?_
  obtain ⟨hg23, H⟩ := gd_some H
  refine Sm.seqA h00 mixed hΓ (by kernel_rfl) fun K8 hK8 => ?_
  simp only [rs]
  repeat (refine opsG fun K hK => ?_; simp only [z, seval, xlaw37_play, xlaw37_works, xlaw37_few]; (repeat (first | refine gcI ?_ | refine fun (_ : _ ≤ _) => ?_)); refine hK _ ?_; clear hK K)
  refine hK8 _ ?_
  refine Sm.condK (by rfl) fun Ka Kb ha hb => ?_
  simp only [wpCond, z, seval]
  refine ⟨fun h9 => ha ?_, fun h9 => hb ?_⟩
  · first | replace H := bif_t h9 H | replace H := bif_t2 h9 H (by simp only [List.length_append])
    refine Sm.seqA h00 mixed hΓ (by kernel_rfl) fun K10 hK10 => ?_
    simp only [rs]
    repeat (refine opsG fun K hK => ?_; simp only [z, seval]; (repeat (first | refine gcI ?_ | refine fun (_ : _ ≤ _) => ?_)); refine hK _ ?_; clear hK K)
    refine hK10 _ ?_
    refine Sm.ret ?_
    try simp only [seval, Exit.exit.injEq]
    obtain rfl := Option.some.inj H
    refine Ret.ofR [] (.inr rfl) ?_
    simp only [z, seval]
  first | replace H := bif_f h9 H | replace H := bif_f2 h9 H (by simp only [List.length_append])
  refine Sm.skip ?_
  refine hK7 _ ?_
  obtain ⟨r3, hr3, H⟩ := bind_some H
  refine Sm.seqA h00 mixed hΓ (by kernel_rfl) fun K11 hK11 => ?_
  simp only [rs]
  repeat (refine opsG fun K hK => ?_; simp only [z, seval, xlaw37_play, xlaw37_works, xlaw37_few, xenqueue_Ask, hr3]; (repeat (first | refine gcI ?_ | refine fun (_ : _ ≤ _) => ?_)); refine hK _ ?_; clear hK K)
  refine hK11 _ ?_
  refine Sm.seqK fun K12 hK12 => ?_
  obtain ⟨hg22, H⟩ := gd_some H
  refine Sm.seqA h00 mixed hΓ (by kernel_rfl) fun K13 hK13 => ?_
  simp only [rs]
  repeat (refine opsG fun K hK => ?_; simp only [z, seval, xlaw37_play, xlaw37_works, xlaw37_few, xenqueue_Ask, xenqueue_Holds]; (repeat (first | refine gcI ?_ | refine fun (_ : _ ≤ _) => ?_)); refine hK _ ?_; clear hK K)
  refine hK13 _ ?_
  refine Sm.condK (by rfl) fun Ka Kb ha hb => ?_
  simp only [wpCond, z, seval]
  refine ⟨fun h14 => ha ?_, fun h14 => hb ?_⟩
  · first | replace H := bif_t h14 H | replace H := bif_t2 h14 H (by simp only [List.length_append])
    refine Sm.seqA h00 mixed hΓ (by kernel_rfl) fun K15 hK15 => ?_
    simp only [rs]
    repeat (refine opsG fun K hK => ?_; simp only [z, seval]; (repeat (first | refine gcI ?_ | refine fun (_ : _ ≤ _) => ?_)); refine hK _ ?_; clear hK K)
    refine hK15 _ ?_
    refine Sm.ret ?_
    try simp only [seval, Exit.exit.injEq]
    obtain rfl := Option.some.inj H
    refine Ret.ofR [] (.inr rfl) ?_
    simp only [z, seval]
  first | replace H := bif_f h14 H | replace H := bif_f2 h14 H (by simp only [List.length_append])
  refine Sm.skip ?_
  refine hK12 _ ?_
  obtain ⟨r4, hr4, H⟩ := bind_some H
  refine Sm.seqA h00 mixed hΓ (by kernel_rfl) fun K16 hK16 => ?_
  simp only [rs]
  repeat (refine opsG fun K hK => ?_; simp only [z, seval, xlaw37_play, xlaw37_works, xlaw37_few, xenqueue_Ask, xenqueue_Holds, xenqueue_Release, hr4]; (repeat (first | refine gcI ?_ | refine fun (_ : _ ≤ _) => ?_)); refine hK _ ?_; clear hK K)
  refine hK16 _ ?_
  obtain ⟨r5, hr5, H⟩ := bind_some H
  refine Sm.seqA h00 mixed hΓ (by kernel_rfl) fun K17 hK17 => ?_
  simp only [rs]
  repeat (refine opsG fun K hK => ?_; simp only [z, seval, xlaw37_play, xlaw37_works, xlaw37_few, xenqueue_Ask, xenqueue_Holds, xenqueue_Release, hr5]; (repeat (first | refine gcI ?_ | refine fun (_ : _ ≤ _) => ?_)); refine hK _ ?_; clear hK K)
  refine hK17 _ ?_
  refine bif_cases H (fun hs19 H => ?_) (fun hs19 H => ?_)
  · obtain ⟨hg20, H⟩ := gd_some H
    obtain ⟨r6, hr6, H⟩ := bind_some H
    obtain ⟨hg21, H⟩ := gd_some H
    obtain ⟨r7, hr7, H⟩ := bind_some H
    refine Sm.seqQ h00 mixed hΓ [0, 1, 2, 3, 4, 5, 6, 7, 8, 9, 10, 11, 12, 13, 14, 15, 16, 17] [(none, [], []), (none, [], []), (none, [], []), (none, [], []), (none, [], []), (none, [], []), (none, [], []), (none, [], []), (none, [753], []), (none, [], []), (none, [], []), (none, [], []), (none, [160], []), (none, [80], []), (some true, [], [1151, 1150, 1149, 1148, 1147, 1146, 1145, 1144, 1143, 1142, 1141, 1140, 1139, 1138, 1137, 1136]), (some true, [752, 1136, 1137], [1167, 1166, 1165, 1164, 1163, 1162, 1161, 1160, 1159, 1158, 1157, 1156, 1155, 1154, 1153, 1152, 752, 1136, 1137]), (some true, [], []), (none, [], [])] (by kernel_rfl) rfl fun K18 hK18 => ?_
    simp only [rs]
    iterate 18 (refine opsQ fun K hK => ?_; simp only [z, seval, xlaw37_play, xlaw37_works, xlaw37_few, xenqueue_Ask, xenqueue_Holds, xenqueue_Release, xlaw37_table, xlaw37_same, hs19, hr6, hr7]; (repeat (first | refine gcI ?_ | refine fun (_ : _ ≤ _) => ?_)); refine hK _ ?_; clear hK K)
    refine opsQ0 ?_
    refine hK18 _ ?_
    refine Sm.ret ?_
    try simp only [seval, Exit.exit.injEq]
    obtain rfl := Option.some.inj H
    refine Ret.ofR [] (.inr rfl) ?_
    simp only [z, seval]
  refine Sm.seqQ h00 mixed hΓ [0, 1, 2, 3, 4, 5, 6, 7, 8, 9, 10, 11, 12, 13, 14, 15, 16, 17] [(none, [], []), (none, [], []), (none, [], []), (none, [], []), (none, [], []), (none, [], []), (none, [], []), (none, [], []), (none, [753], []), (none, [], []), (none, [], []), (none, [], []), (none, [160], []), (none, [80], []), (some false, [], []), (some false, [], []), (some false, [], []), (none, [], [])] (by kernel_rfl) rfl fun K18 hK18 => ?_
  simp only [rs]
  iterate 18 (refine opsQ fun K hK => ?_; simp only [z, seval, xlaw37_play, xlaw37_works, xlaw37_few, xenqueue_Ask, xenqueue_Holds, xenqueue_Release, xlaw37_table, xlaw37_same, hs19]; (repeat (first | refine gcI ?_ | refine fun (_ : _ ≤ _) => ?_)); refine hK _ ?_; clear hK K)
  refine opsQ0 ?_
  refine hK18 _ ?_
  refine Sm.ret ?_
  try simp only [seval, Exit.exit.injEq]
  obtain rfl := Option.some.inj H
  refine Ret.ofR [] (.inr rfl) ?_
  simp only [z, seval]

def enqueue_Assign_1_M1 (n : Nat) (v : TUnitConf) (p1 : Int) (p1_ : Int) (p1__ : List UInt8) (p1___ : Int) (p1____ : Int) : Option Bool :=
  some (v.Addr == p1)

theorem cenqueue_Assign_1_M1 (n : Nat) (v : TUnitConf) (p1 : Int) (p1_ : Int) (p1__ : List UInt8) (p1___ : Int) (p1____ : Int) (r : Bool) (H : enqueue_Assign_1_M1 n v p1 p1_ p1__ p1___ p1____ = some r) : CallsM Try.prog 48 [.dat (true, [.int .i64, .int .i64, .str, .int .i64, .int .i64]) [.int v.Addr, .int v.Kind, .str v.Serial, .int v.Cyls, .int v.Heads], .ref (.box 0 0)] [.box [.c (.int .i64) (.int p1), .c (.int .i64) (.int p1_), .c .str (.str p1__), .c (.int .i64) (.int p1___), .c (.int .i64) (.int p1____)]] [.c .bool (.bool r)] [.box [.c (.int .i64) (.int p1), .c (.int .i64) (.int p1_), .c .str (.str p1__), .c (.int .i64) (.int p1___), .c (.int .i64) (.int p1____)]] := by
  have hΓ : ∀ g, g ∈ ([] : List Go.AE.Fn) → Contract Try.prog g := by simp
  refine callsM_of (Try.f48.body.getD .skip) h00 Try.func48 rfl (by intro args w; exact Try.call48 args w) (Nat.le_of_ble_eq_true rfl) (Nat.le_of_ble_eq_true rfl) ?_
  unfold enqueue_Assign_1_M1 at H
  simp only [Try.f48, Option.getD]
  refine Sm.seqA h00 mixed hΓ (by kernel_rfl) fun K1 hK1 => ?_
  simp only [rs]
  repeat (refine opsG fun K hK => ?_; simp only [z, seval]; (repeat (first | refine gcI ?_ | refine fun (_ : _ ≤ _) => ?_)); refine hK _ ?_; clear hK K)
  refine hK1 _ ?_
  refine Sm.seqA h00 mixed hΓ (by kernel_rfl) fun K2 hK2 => ?_
  simp only [rs]
  repeat (refine opsG fun K hK => ?_; simp only [z, seval]; (repeat (first | refine gcI ?_ | refine fun (_ : _ ≤ _) => ?_)); refine hK _ ?_; clear hK K)
  refine hK2 _ ?_
  refine Sm.ret ?_
  try simp only [seval, Exit.exit.injEq]
  obtain rfl := Option.some.inj H
  refine RetM.mk (.inr rfl) [some 0] rfl ?_
  simp only [z, seval]

abbrev slices_IndexFunc_f71_M1_s1 (f : Int) (f_ : Int) (f__ : List UInt8) (f___ : Int) (f____ : Int) : S := stB [] [(0, .box [.c (.int .i64) (.int f), .c (.int .i64) (.int f_), .c .str (.str f__), .c (.int .i64) (.int f___), .c (.int .i64) (.int f____)])]

def slices_IndexFunc_f71_M1_k1 (n : Nat) (f : Int) (f_ : Int) (f__ : List UInt8) (f___ : Int) (f____ : Int) : Option Int :=
  some (-1)

abbrev slices_IndexFunc_f71_M1_t2 (f : Int) (f_ : Int) (f__ : List UInt8) (f___ : Int) (f____ : Int) (s : List TUnitConf) (v7 : Int) (v8 : Int) : S := stB [(0, .c (.slice 77) (.slice (List.map e_TUnitConf s))), (1, .fnv 48 [.box 0 0]), (7, .c (.int .i64) (.int v7)), (8, .c (.int .i64) (.int v8))] [(0, .box [.c (.int .i64) (.int f), .c (.int .i64) (.int f_), .c .str (.str f__), .c (.int .i64) (.int f___), .c (.int .i64) (.int f____)])]

def slices_IndexFunc_f71_M1_b2 (n : Nat) (f : Int) (f_ : Int) (f__ : List UInt8) (f___ : Int) (f____ : Int) (s : List TUnitConf) (v7 : Int) (v8 : Int) : Option ((Int) ⊕ (((Int) ⊕ (Unit)))) :=
  bif (decide (v8 < v7)) then
    gd ((0 ≤ v8 ∧ v8 < (s.length : Int))) <|
    (enqueue_Assign_1_M1 n (gt s (Int.toNat v8)) f f_ f__ f___ f____).bind fun r1 =>
    bif r1 then
      some (.inr (.inl v8))
    else
      some (.inl (IntKind.wrap .i64 (v8 + 1)))
  else
    some (.inr (.inr ()))

def slices_IndexFunc_f71_M1 (n : Nat) (s : List TUnitConf) (f : Int) (f_ : Int) (f__ : List UInt8) (f___ : Int) (f____ : Int) : Option Int :=
  (loopF (fun (x : Int) => slices_IndexFunc_f71_M1_b2 n f f_ f__ f___ f____ s (s.length : Int) x) n 0).bind fun y4 =>
  match y4 with
  | .inl v =>
    some v
  | .inr v =>
    slices_IndexFunc_f71_M1_k1 n f f_ f__ f___ f____

theorem cslices_IndexFunc_f71_M1 (n : Nat) (s : List TUnitConf) (f : Int) (f_ : Int) (f__ : List UInt8) (f___ : Int) (f____ : Int) (r : Int) (H : slices_IndexFunc_f71_M1 n s f f_ f__ f___ f____ = some r) : CallsM Try.prog 71 [.dat (false, [.slice 77]) [.slice (List.map e_TUnitConf s)], .ref (.fnv 48 [.box 0 0])] [.box [.c (.int .i64) (.int f), .c (.int .i64) (.int f_), .c .str (.str f__), .c (.int .i64) (.int f___), .c (.int .i64) (.int f____)]] [.c (.int .i64) (.int r)] [.box [.c (.int .i64) (.int f), .c (.int .i64) (.int f_), .c .str (.str f__), .c (.int .i64) (.int f___), .c (.int .i64) (.int f____)]] := by
  have hΓ : ∀ g, g ∈ ([] : List Go.AE.Fn) → Contract Try.prog g := by simp
  refine callsM_of (Try.f71.body.getD .skip) h00 Try.func71 rfl (by intro args w; exact Try.call71 args w) (Nat.le_of_ble_eq_true rfl) (Nat.le_of_ble_eq_true rfl) ?_
  unfold slices_IndexFunc_f71_M1 at H
  simp only [Try.f71, Option.getD]
  refine Sm.seqA h00 mixed hΓ (by kernel_rfl) fun K1 hK1 => ?_
  simp only [rs]
  repeat (refine opsG fun K hK => ?_; simp only [z, seval]; (repeat (first | refine gcI ?_ | refine fun (_ : _ ≤ _) => ?_)); refine hK _ ?_; clear hK K)
  refine hK1 _ ?_
  refine Sm.cut (fun (x : Unit) => slices_IndexFunc_f71_M1_s1 f f_ f__ f___ f____) (fun x => slices_IndexFunc_f71_M1_k1 n f f_ f__ f___ f____ = some r) ?_ ?_
  · refine Sm.seqA h00 mixed hΓ (by kernel_rfl) fun K3 hK3 => ?_
    simp only [rs]
    repeat (refine opsG fun K hK => ?_; simp only [z, seval]; (repeat (first | refine gcI ?_ | refine fun (_ : _ ≤ _) => ?_)); refine hK _ ?_; clear hK K)
    refine hK3 _ ?_
    refine Sm.block ?_
    obtain ⟨y4, hy4, Ho4⟩ := bind_some H
    refine Sm.loopB (fun (x : Int) => slices_IndexFunc_f71_M1_b2 n f f_ f__ f___ f____ s (s.length : Int) x) (fun x => slices_IndexFunc_f71_M1_t2 f f_ f__ f___ f____ s (s.length : Int) x) hy4 ?_ ?_
    · exact weak_b [some 0] rfl rfl rfl (by simp only [wk, z, seval]) (by simp only [wk, z, seval])
    rintro v8 z4 H
    try dsimp only at H
    unfold slices_IndexFunc_f71_M1_b2 at H
    refine Sm.seqA h00 mixed hΓ (by kernel_rfl) fun K5 hK5 => ?_
    simp only [rs]
    repeat (refine opsG fun K hK => ?_; simp only [z, seval, slices_IndexFunc_f71_M1_t2]; (repeat (first | refine gcI ?_ | refine fun (_ : _ ≤ _) => ?_)); refine hK _ ?_; clear hK K)
    refine hK5 _ ?_
    refine Sm.seqK fun K6 hK6 => ?_
    refine Sm.condK (by rfl) fun Ka Kb ha hb => ?_
    simp only [wpCond, z, seval, slices_IndexFunc_f71_M1_t2]
    refine ⟨fun h7 => ha ?_, fun h7 => hb ?_⟩
    · first | replace H := bif_t h7 H | replace H := bif_t2 h7 H (by simp only [List.length_append])
      refine Sm.skip ?_
      refine hK6 _ ?_
      refine Sm.seqK fun K8 hK8 => ?_
      refine Sm.block ?_
      refine Sm.seqA h00 mixed hΓ (by kernel_rfl) fun K9 hK9 => ?_
      simp only [rs]
      repeat (refine opsG fun K hK => ?_; simp only [z, seval, slices_IndexFunc_f71_M1_t2]; (repeat (first | refine gcI ?_ | refine fun (_ : _ ≤ _) => ?_)); refine hK _ ?_; clear hK K)
      refine hK9 _ ?_
      refine Sm.seqX h00 mixed hΓ (by kernel_rfl) fun K10 hK10 => ?_
      simp only [rs]
      obtain ⟨hg11, H⟩ := gd_some H
      obtain ⟨r1, hr1, H⟩ := bind_some H
      iterate 5 (refine opsX fun K hK => ?_; simp only [z, seval, slices_IndexFunc_f71_M1_t2]; (repeat (first | refine gcI ?_ | refine fun (_ : _ ≤ _) => ?_)); refine hK _ ?_; clear hK K)
      refine opsM (cenqueue_Assign_1_M1 n _ _ _ _ _ _ r1 hr1) [0] [] (by simp only [z, seval, slices_IndexFunc_f71_M1_t2, hr1]; try rfl) (by simp only [z, seval, slices_IndexFunc_f71_M1_t2, hr1]) (by simp only [z, seval, slices_IndexFunc_f71_M1_t2, hr1]) (by simp only [z, seval, slices_IndexFunc_f71_M1_t2, hr1]) (by simp only [z, seval, slices_IndexFunc_f71_M1_t2, hr1]) rfl (by simp only [z, seval, slices_IndexFunc_f71_M1_t2, hr1]) rfl ?_
      refine hK10 _ ?_
      refine Sm.condK (by rfl) fun Ka Kb ha hb => ?_
      simp only [wpCond, z, seval, slices_IndexFunc_f71_M1_t2]
      refine ⟨fun h12 => ha ?_, fun h12 => hb ?_⟩
      · first | replace H := bif_t h12 H | replace H := bif_t2 h12 H (by simp only [List.length_append])
        refine Sm.seqA h00 mixed hΓ (by kernel_rfl) fun K13 hK13 => ?_
        simp only [rs]
        repeat (refine opsG fun K hK => ?_; simp only [z, seval, slices_IndexFunc_f71_M1_t2]; (repeat (first | refine gcI ?_ | refine fun (_ : _ ≤ _) => ?_)); refine hK _ ?_; clear hK K)
        refine hK13 _ ?_
        refine Sm.ret ?_
        try simp only [seval, Exit.exit.injEq]
        refine ⟨⟨_, (Option.some.inj H).symm⟩, fun hz => ?_⟩
        have hyy := Sum.inr.inj ((Option.some.inj H).trans hz)
        subst hyy
        have H := Ho4
        try dsimp only at H
        try simp only [seval, Exit.exit.injEq]
        obtain rfl := Option.some.inj H
        refine RetM.mk (.inr rfl) [some 0] rfl ?_
        simp only [z, seval, slices_IndexFunc_f71_M1_t2]
      first | replace H := bif_f h12 H | replace H := bif_f2 h12 H (by simp only [List.length_append])
      refine Sm.skip ?_
      refine hK8 _ ?_
      refine Sm.regA h00 mixed hΓ (by kernel_rfl) ?_
      simp only [rs]
      repeat (refine opsG fun K hK => ?_; simp only [z, seval, slices_IndexFunc_f71_M1_t2]; (repeat (first | refine gcI ?_ | refine fun (_ : _ ≤ _) => ?_)); refine hK _ ?_; clear hK K)
      refine opsG0 ?_
      try simp only [seval, Exit.exit.injEq]
      refine ⟨_, (Option.some.inj H).symm, ?_⟩
      exact weak_b [some 0] rfl rfl rfl (by simp only [wk, z, seval, slices_IndexFunc_f71_M1_t2]) (by simp only [wk, z, seval, slices_IndexFunc_f71_M1_t2])
    first | replace H := bif_f h7 H | replace H := bif_f2 h7 H (by simp only [List.length_append])
    refine Sm.exit ?_
    try simp only [seval, Exit.exit.injEq]
    refine ⟨⟨_, (Option.some.inj H).symm⟩, fun hz => ?_⟩
    have hyy := Sum.inr.inj ((Option.some.inj H).trans hz)
    subst hyy
    have H := Ho4
    try dsimp only at H
    try simp only [seval, Exit.exit.injEq]
    refine ⟨(), H, ?_⟩
    exact weak_b [some 0] rfl rfl rfl (by simp only [wk, z, seval, slices_IndexFunc_f71_M1_t2]) (by simp only [wk, z, seval, slices_IndexFunc_f71_M1_t2])
  rintro ⟨⟩ H
  try dsimp only at H
  unfold slices_IndexFunc_f71_M1_k1 at H
  refine Sm.seqA h00 mixed hΓ (by kernel_rfl) fun K2 hK2 => ?_
  simp only [rs]
  repeat (refine opsG fun K hK => ?_; simp only [z, seval, slices_IndexFunc_f71_M1_s1]; (repeat (first | refine gcI ?_ | refine fun (_ : _ ≤ _) => ?_)); refine hK _ ?_; clear hK K)
  refine hK2 _ ?_
  refine Sm.ret ?_
  try simp only [seval, Exit.exit.injEq]
  obtain rfl := Option.some.inj H
  refine RetM.mk (.inr rfl) [some 0] rfl ?_
  simp only [z, seval, slices_IndexFunc_f71_M1_s1]

def enqueue_some_f47_M1 (n : Nat) (l : List TUnitConf) (has : Int) (has_ : Int) (has__ : List UInt8) (has___ : Int) (has____ : Int) : Option Bool :=
  (slices_IndexFunc_f71_M1 n l has has_ has__ has___ has____).bind fun r1 =>
  some (decide (r1 ≥ 0))

theorem cenqueue_some_f47_M1 (n : Nat) (l : List TUnitConf) (has : Int) (has_ : Int) (has__ : List UInt8) (has___ : Int) (has____ : Int) (r : Bool) (H : enqueue_some_f47_M1 n l has has_ has__ has___ has____ = some r) : CallsM Try.prog 47 [.dat (false, [.slice 77]) [.slice (List.map e_TUnitConf l)], .ref (.fnv 48 [.box 0 0])] [.box [.c (.int .i64) (.int has), .c (.int .i64) (.int has_), .c .str (.str has__), .c (.int .i64) (.int has___), .c (.int .i64) (.int has____)]] [.c .bool (.bool r)] [.box [.c (.int .i64) (.int has), .c (.int .i64) (.int has_), .c .str (.str has__), .c (.int .i64) (.int has___), .c (.int .i64) (.int has____)]] := by
  have hΓ : ∀ g, g ∈ ([] : List Go.AE.Fn) → Contract Try.prog g := by simp
  refine callsM_of (Try.f47.body.getD .skip) h00 Try.func47 rfl (by intro args w; exact Try.call47 args w) (Nat.le_of_ble_eq_true rfl) (Nat.le_of_ble_eq_true rfl) ?_
  unfold enqueue_some_f47_M1 at H
  simp only [Try.f47, Option.getD]
  refine Sm.seqA h00 mixed hΓ (by kernel_rfl) fun K1 hK1 => ?_
  simp only [rs]
  repeat (refine opsG fun K hK => ?_; simp only [z, seval]; (repeat (first | refine gcI ?_ | refine fun (_ : _ ≤ _) => ?_)); refine hK _ ?_; clear hK K)
  refine hK1 _ ?_
  refine Sm.seqX h00 mixed hΓ (by kernel_rfl) fun K2 hK2 => ?_
  simp only [rs]
  obtain ⟨r1, hr1, H⟩ := bind_some H
  iterate 2 (refine opsX fun K hK => ?_; simp only [z, seval]; (repeat (first | refine gcI ?_ | refine fun (_ : _ ≤ _) => ?_)); refine hK _ ?_; clear hK K)
  refine opsM (cslices_IndexFunc_f71_M1 n _ _ _ _ _ _ r1 hr1) [0] [] (by simp only [z, seval, hr1]; try rfl) (by simp only [z, seval, hr1]) (by simp only [z, seval, hr1]) (by simp only [z, seval, hr1]) (by simp only [z, seval, hr1]) rfl (by simp only [z, seval, hr1]) rfl ?_
  iterate 2 (refine opsX fun K hK => ?_; simp only [z, seval, hr1]; (repeat (first | refine gcI ?_ | refine fun (_ : _ ≤ _) => ?_)); refine hK _ ?_; clear hK K)
  refine hK2 _ ?_
  refine Sm.ret ?_
  try simp only [seval, Exit.exit.injEq]
  obtain rfl := Option.some.inj H
  refine RetM.mk (.inr rfl) [some 0] rfl ?_
  simp only [z, seval]

abbrev law37_find_s1 : S := stB [] []

def law37_find_k1 (n : Nat) : Option Int :=
  some (-1)

abbrev law37_find_t2 (l : List TUnitConf) (addr : Int) (k : Int) : S := stB [(0, .c (.slice 77) (.slice (List.map e_TUnitConf l))), (1, .c (.int .i64) (.int addr)), (5, .c (.int .i64) (.int k))] []

def law37_find_b2 (n : Nat) (l : List TUnitConf) (addr : Int) (k : Int) : Option ((Int) ⊕ (((Int) ⊕ (Unit)))) :=
  bif (decide (k < (l.length : Int))) then
    gd ((0 ≤ k ∧ k < (l.length : Int))) <|
    bif (((gt l (Int.toNat k)).Addr) == addr) then
      some (.inr (.inl k))
    else
      some (.inl (IntKind.wrap .i64 (k + 1)))
  else
    some (.inr (.inr ()))

def law37_find (n : Nat) (l : List TUnitConf) (addr : Int) : Option Int :=
  (loopF (fun (x : Int) => law37_find_b2 n l addr x) n 0).bind fun y4 =>
  match y4 with
  | .inl v =>
    some v
  | .inr v =>
    law37_find_k1 n

def xlaw37_find (n : Nat) : Go.AE.Fn := mkFn (A := (List TUnitConf) × Int) (R := Int) 31 [(false, [.slice 77]), (false, [.int .i64])] false (fun xs => (((cg (xs.getD 0 []) 0).toSl.map d_TUnitConf), (cg (xs.getD 1 []) 0).toInt)) (fun a => [[.slice (List.map e_TUnitConf a.1)], [.int a.2]]) (fun a => law37_find n a.1 a.2) (fun r => [.c (.int .i64) (.int r)]) (fun r => [])

theorem claw37_find (n : Nat) : Contract Try.prog (xlaw37_find n) := by
  have hΓ : ∀ g, g ∈ ([] : List Go.AE.Fn) → Contract Try.prog g := by simp
  refine contract_f (Try.f31.body.getD .skip) h00 Try.func31 rfl (by intro args w; exact Try.call31 args w) (by decide) (by intro _ r; exact ⟨rfl, by simp⟩) ?_
  rintro ⟨l, addr⟩ r H
  try dsimp only at H
  unfold law37_find at H
  simp only [Try.f31, Option.getD]
  refine Sm.seqA h00 mixed hΓ (by kernel_rfl) fun K1 hK1 => ?_
  simp only [rs]
  repeat (refine opsG fun K hK => ?_; simp only [z, seval]; (repeat (first | refine gcI ?_ | refine fun (_ : _ ≤ _) => ?_)); refine hK _ ?_; clear hK K)
  refine hK1 _ ?_
  refine Sm.cut (fun (x : Unit) => law37_find_s1) (fun x => law37_find_k1 n = some r) ?_ ?_
  · refine Sm.seqA h00 mixed hΓ (by kernel_rfl) fun K3 hK3 => ?_
    simp only [rs]
    repeat (refine opsG fun K hK => ?_; simp only [z, seval]; (repeat (first | refine gcI ?_ | refine fun (_ : _ ≤ _) => ?_)); refine hK _ ?_; clear hK K)
    refine hK3 _ ?_
    refine Sm.block ?_
    obtain ⟨y4, hy4, Ho4⟩ := bind_some H
    refine Sm.loopB (fun (x : Int) => law37_find_b2 n l addr x) (fun x => law37_find_t2 l addr x) hy4 ?_ ?_
    · exact weak_b [] rfl rfl rfl (by simp only [wk, z, seval]) (by simp only [wk, z, seval])
    rintro k z4 H
    try dsimp only at H
    unfold law37_find_b2 at H
    refine Sm.seqK fun K5 hK5 => ?_
    refine Sm.seqA h00 mixed hΓ (by kernel_rfl) fun K6 hK6 => ?_
    simp only [rs]
    repeat (refine opsG fun K hK => ?_; simp only [z, seval, law37_find_t2]; (repeat (first | refine gcI ?_ | refine fun (_ : _ ≤ _) => ?_)); refine hK _ ?_; clear hK K)
    refine hK6 _ ?_
    refine Sm.condK (by rfl) fun Ka Kb ha hb => ?_
    simp only [wpCond, z, seval, law37_find_t2]
    refine ⟨fun h7 => ha ?_, fun h7 => hb ?_⟩
    · first | replace H := bif_t h7 H | replace H := bif_t2 h7 H (by simp only [List.length_append])
      refine Sm.skip ?_
      refine hK5 _ ?_
      refine Sm.seqK fun K8 hK8 => ?_
      refine Sm.block ?_
      obtain ⟨hg12, H⟩ := gd_some H
      refine Sm.seqA h00 mixed hΓ (by kernel_rfl) fun K9 hK9 => ?_
      simp only [rs]
      repeat (refine opsG fun K hK => ?_; simp only [z, seval, law37_find_t2]; (repeat (first | refine gcI ?_ | refine fun (_ : _ ≤ _) => ?_)); refine hK _ ?_; clear hK K)
      refine hK9 _ ?_
      refine Sm.condK (by rfl) fun Ka Kb ha hb => ?_
      simp only [wpCond, z, seval, law37_find_t2]
      refine ⟨fun h10 => ha ?_, fun h10 => hb ?_⟩
      · first | replace H := bif_t h10 H | replace H := bif_t2 h10 H (by simp only [List.length_append])
        refine Sm.seqA h00 mixed hΓ (by kernel_rfl) fun K11 hK11 => ?_
        simp only [rs]
        repeat (refine opsG fun K hK => ?_; simp only [z, seval, law37_find_t2]; (repeat (first | refine gcI ?_ | refine fun (_ : _ ≤ _) => ?_)); refine hK _ ?_; clear hK K)
        refine hK11 _ ?_
        refine Sm.ret ?_
        try simp only [seval, Exit.exit.injEq]
        refine ⟨⟨_, (Option.some.inj H).symm⟩, fun hz => ?_⟩
        have hyy := Sum.inr.inj ((Option.some.inj H).trans hz)
        subst hyy
        have H := Ho4
        try dsimp only at H
        try simp only [seval, Exit.exit.injEq]
        obtain rfl := Option.some.inj H
        refine Ret.ofR [] (.inr rfl) ?_
        simp only [z, seval, law37_find_t2]
      first | replace H := bif_f h10 H | replace H := bif_f2 h10 H (by simp only [List.length_append])
      refine Sm.skip ?_
      refine hK8 _ ?_
      refine Sm.regA h00 mixed hΓ (by kernel_rfl) ?_
      simp only [rs]
      repeat (refine opsG fun K hK => ?_; simp only [z, seval, law37_find_t2]; (repeat (first | refine gcI ?_ | refine fun (_ : _ ≤ _) => ?_)); refine hK _ ?_; clear hK K)
      refine opsG0 ?_
      try simp only [seval, Exit.exit.injEq]
      refine ⟨_, (Option.some.inj H).symm, ?_⟩
      exact weak_b [] rfl rfl rfl (by simp only [wk, z, seval, law37_find_t2]) (by simp only [wk, z, seval, law37_find_t2])
    first | replace H := bif_f h7 H | replace H := bif_f2 h7 H (by simp only [List.length_append])
    refine Sm.exit ?_
    try simp only [seval, Exit.exit.injEq]
    refine ⟨⟨_, (Option.some.inj H).symm⟩, fun hz => ?_⟩
    have hyy := Sum.inr.inj ((Option.some.inj H).trans hz)
    subst hyy
    have H := Ho4
    try dsimp only at H
    try simp only [seval, Exit.exit.injEq]
    refine ⟨(), H, ?_⟩
    exact weak_b [] rfl rfl rfl (by simp only [wk, z, seval, law37_find_t2]) (by simp only [wk, z, seval, law37_find_t2])
  rintro ⟨⟩ H
  try dsimp only at H
  unfold law37_find_k1 at H
  refine Sm.seqA h00 mixed hΓ (by kernel_rfl) fun K2 hK2 => ?_
  simp only [rs]
  repeat (refine opsG fun K hK => ?_; simp only [z, seval, law37_find_s1]; (repeat (first | refine gcI ?_ | refine fun (_ : _ ≤ _) => ?_)); refine hK _ ?_; clear hK K)
  refine hK2 _ ?_
  refine Sm.ret ?_
  try simp only [seval, Exit.exit.injEq]
  obtain rfl := Option.some.inj H
  refine Ret.ofR [] (.inr rfl) ?_
  simp only [z, seval, law37_find_s1]

def ref37_Check (n : Nat) (t : TTable) : Option Int :=
  (ref37_Valid n t).bind fun r1 =>
  bif r1 then
    some 0
  else
    some 5

def xref37_Check (n : Nat) : Go.AE.Fn := mkFn (A := TTable) (R := Int) 24 [(true, [.slice 88, .slice 88])] false (fun xs => (⟨((cg (xs.getD 0 []) 0).toSl.map d_TRequest), ((cg (xs.getD 0 []) 1).toSl.map d_TRequest)⟩ : TTable)) (fun a => [[.slice (List.map e_TRequest a.Held), .slice (List.map e_TRequest a.Waiting)]]) (fun a => ref37_Check n a) (fun r => [.c (.int .i64) (.int r)]) (fun r => [])

theorem cref37_Check (n : Nat) : Contract Try.prog (xref37_Check n) := by
  have hΓ : ∀ g, g ∈ ([xref37_Valid n] : List Go.AE.Fn) → Contract Try.prog g := by
    intro g hg; simp only [List.mem_cons, List.not_mem_nil, or_false] at hg; subst hg; exact cref37_Valid n
  refine contract_f (Try.f24.body.getD .skip) h00 Try.func24 rfl (by intro args w; exact Try.call24 args w) (by decide) (by intro _ r; exact ⟨rfl, by simp⟩) ?_
  rintro t r H
  try dsimp only at H
  unfold ref37_Check at H
  simp only [Try.f24, Option.getD]
  refine Sm.seqA h00 mixed hΓ (by kernel_rfl) fun K1 hK1 => ?_
  simp only [rs]
  repeat (refine opsG fun K hK => ?_; simp only [z, seval]; (repeat (first | refine gcI ?_ | refine fun (_ : _ ≤ _) => ?_)); refine hK _ ?_; clear hK K)
  refine hK1 _ ?_
  refine Sm.seqK fun K2 hK2 => ?_
  obtain ⟨r1, hr1, H⟩ := bind_some H
  refine Sm.seqA h00 mixed hΓ (by kernel_rfl) fun K3 hK3 => ?_
  simp only [rs]
  repeat (refine opsG fun K hK => ?_; simp only [z, seval, xref37_Valid, hr1]; (repeat (first | refine gcI ?_ | refine fun (_ : _ ≤ _) => ?_)); refine hK _ ?_; clear hK K)
  refine hK3 _ ?_
  refine Sm.condK (by rfl) fun Ka Kb ha hb => ?_
  simp only [wpCond, z, seval]
  refine ⟨fun h4 => ha ?_, fun h4 => hb ?_⟩
  · first | replace H := bif_t h4 H | replace H := bif_t2 h4 H (by simp only [List.length_append])
    refine Sm.seqA h00 mixed hΓ (by kernel_rfl) fun K5 hK5 => ?_
    simp only [rs]
    repeat (refine opsG fun K hK => ?_; simp only [z, seval]; (repeat (first | refine gcI ?_ | refine fun (_ : _ ≤ _) => ?_)); refine hK _ ?_; clear hK K)
    refine hK5 _ ?_
    refine Sm.ret ?_
    try simp only [seval, Exit.exit.injEq]
    obtain rfl := Option.some.inj H
    refine Ret.ofR [] (.inr rfl) ?_
    simp only [z, seval]
  first | replace H := bif_f h4 H | replace H := bif_f2 h4 H (by simp only [List.length_append])
  refine Sm.skip ?_
  refine hK2 _ ?_
  refine Sm.seqA h00 mixed hΓ (by kernel_rfl) fun K6 hK6 => ?_
  simp only [rs]
  repeat (refine opsG fun K hK => ?_; simp only [z, seval]; (repeat (first | refine gcI ?_ | refine fun (_ : _ ≤ _) => ?_)); refine hK _ ?_; clear hK K)
  refine hK6 _ ?_
  refine Sm.ret ?_
  try simp only [seval, Exit.exit.injEq]
  obtain rfl := Option.some.inj H
  refine Ret.ofR [] (.inr rfl) ?_
  simp only [z, seval]

def ref37_Holds (n : Nat) (t : TTable) (job : Int) : Option Bool :=
  (ref37_Valid n t).bind fun r1 =>
  gd ((r1 = true → (ref37_place n t.Held job).isSome = true)) <|
  some (if r1 = true then (decide (((ref37_place n t.Held job).getD default) ≥ 0)) else false)

def xref37_Holds (n : Nat) : Go.AE.Fn := mkFn (A := TTable × Int) (R := Bool) 26 [(true, [.slice 88, .slice 88]), (false, [.int .i64])] false (fun xs => ((⟨((cg (xs.getD 0 []) 0).toSl.map d_TRequest), ((cg (xs.getD 0 []) 1).toSl.map d_TRequest)⟩ : TTable), (cg (xs.getD 1 []) 0).toInt)) (fun a => [[.slice (List.map e_TRequest a.1.Held), .slice (List.map e_TRequest a.1.Waiting)], [.int a.2]]) (fun a => ref37_Holds n a.1 a.2) (fun r => [.c .bool (.bool r)]) (fun r => [])

theorem cref37_Holds (n : Nat) : Contract Try.prog (xref37_Holds n) := by
  have hΓ : ∀ g, g ∈ ([xref37_Valid n, xref37_place n] : List Go.AE.Fn) → Contract Try.prog g := by
    intro g hg; simp only [List.mem_cons, List.not_mem_nil, or_false] at hg; rcases hg with rfl | rfl; exact cref37_Valid n; exact cref37_place n
  refine contract_f (Try.f26.body.getD .skip) h00 Try.func26 rfl (by intro args w; exact Try.call26 args w) (by decide) (by intro _ r; exact ⟨rfl, by simp⟩) ?_
  rintro ⟨t, job⟩ r H
  try dsimp only at H
  unfold ref37_Holds at H
  simp only [Try.f26, Option.getD]
  refine Sm.seqA h00 mixed hΓ (by kernel_rfl) fun K1 hK1 => ?_
  simp only [rs]
  repeat (refine opsG fun K hK => ?_; simp only [z, seval]; (repeat (first | refine gcI ?_ | refine fun (_ : _ ≤ _) => ?_)); refine hK _ ?_; clear hK K)
  refine hK1 _ ?_
  obtain ⟨r1, hr1, H⟩ := bind_some H
  obtain ⟨hg3, H⟩ := gd_some H
  refine Sm.seqA h00 mixed hΓ (by kernel_rfl) fun K2 hK2 => ?_
  simp only [rs]
  repeat (refine opsG fun K hK => ?_; simp only [z, seval, xref37_Valid, xref37_place, hr1]; (repeat (first | refine gcI ?_ | refine fun (_ : _ ≤ _) => ?_)); refine hK _ ?_; clear hK K)
  refine hK2 _ ?_
  refine Sm.ret ?_
  try simp only [seval, Exit.exit.injEq]
  obtain rfl := Option.some.inj H
  refine Ret.ofR [] (.inr rfl) ?_
  simp only [z, seval]

abbrev ref37_first_s1 : S := stB [] []

def ref37_first_k1 (n : Nat) : Option Bool :=
  some true

abbrev ref37_first_t2 (units : List TUnitConf) (k : Int) (i : Int) : S := stB [(0, .c (.slice 77) (.slice (List.map e_TUnitConf units))), (1, .c (.int .i64) (.int k)), (5, .c (.int .i64) (.int i))] []

def ref37_first_b2 (n : Nat) (units : List TUnitConf) (k : Int) (i : Int) : Option ((Int) ⊕ (((Bool) ⊕ (Unit)))) :=
  bif (decide (i < k)) then
    gd ((0 ≤ i ∧ i < (units.length : Int)) ∧ (0 ≤ k ∧ k < (units.length : Int))) <|
    bif (((gt units (Int.toNat i)).Addr) == ((gt units (Int.toNat k)).Addr)) then
      some (.inr (.inl false))
    else
      some (.inl (IntKind.wrap .i64 (i + 1)))
  else
    some (.inr (.inr ()))

def ref37_first (n : Nat) (units : List TUnitConf) (k : Int) : Option Bool :=
  (loopF (fun (x : Int) => ref37_first_b2 n units k x) n 0).bind fun y4 =>
  match y4 with
  | .inl v =>
    some v
  | .inr v =>
    ref37_first_k1 n

def xref37_first (n : Nat) : Go.AE.Fn := mkFn (A := (List TUnitConf) × Int) (R := Bool) 76 [(false, [.slice 77]), (false, [.int .i64])] false (fun xs => (((cg (xs.getD 0 []) 0).toSl.map d_TUnitConf), (cg (xs.getD 1 []) 0).toInt)) (fun a => [[.slice (List.map e_TUnitConf a.1)], [.int a.2]]) (fun a => ref37_first n a.1 a.2) (fun r => [.c .bool (.bool r)]) (fun r => [])

theorem cref37_first (n : Nat) : Contract Try.prog (xref37_first n) := by
  have hΓ : ∀ g, g ∈ ([] : List Go.AE.Fn) → Contract Try.prog g := by simp
  refine contract_f (Try.f76.body.getD .skip) h00 Try.func76 rfl (by intro args w; exact Try.call76 args w) (by decide) (by intro _ r; exact ⟨rfl, by simp⟩) ?_
  rintro ⟨units, k⟩ r H
  try dsimp only at H
  unfold ref37_first at H
  simp only [Try.f76, Option.getD]
  refine Sm.seqA h00 mixed hΓ (by kernel_rfl) fun K1 hK1 => ?_
  simp only [rs]
  repeat (refine opsG fun K hK => ?_; simp only [z, seval]; (repeat (first | refine gcI ?_ | refine fun (_ : _ ≤ _) => ?_)); refine hK _ ?_; clear hK K)
  refine hK1 _ ?_
  refine Sm.cut (fun (x : Unit) => ref37_first_s1) (fun x => ref37_first_k1 n = some r) ?_ ?_
  · refine Sm.seqA h00 mixed hΓ (by kernel_rfl) fun K3 hK3 => ?_
    simp only [rs]
    repeat (refine opsG fun K hK => ?_; simp only [z, seval]; (repeat (first | refine gcI ?_ | refine fun (_ : _ ≤ _) => ?_)); refine hK _ ?_; clear hK K)
    refine hK3 _ ?_
    refine Sm.block ?_
    obtain ⟨y4, hy4, Ho4⟩ := bind_some H
    refine Sm.loopB (fun (x : Int) => ref37_first_b2 n units k x) (fun x => ref37_first_t2 units k x) hy4 ?_ ?_
    · exact weak_b [] rfl rfl rfl (by simp only [wk, z, seval]) (by simp only [wk, z, seval])
    rintro i z4 H
    try dsimp only at H
    unfold ref37_first_b2 at H
    refine Sm.seqK fun K5 hK5 => ?_
    refine Sm.seqA h00 mixed hΓ (by kernel_rfl) fun K6 hK6 => ?_
    simp only [rs]
    repeat (refine opsG fun K hK => ?_; simp only [z, seval, ref37_first_t2]; (repeat (first | refine gcI ?_ | refine fun (_ : _ ≤ _) => ?_)); refine hK _ ?_; clear hK K)
    refine hK6 _ ?_
    refine Sm.condK (by rfl) fun Ka Kb ha hb => ?_
    simp only [wpCond, z, seval, ref37_first_t2]
    refine ⟨fun h7 => ha ?_, fun h7 => hb ?_⟩
    · first | replace H := bif_t h7 H | replace H := bif_t2 h7 H (by simp only [List.length_append])
      refine Sm.skip ?_
      refine hK5 _ ?_
      refine Sm.seqK fun K8 hK8 => ?_
      refine Sm.block ?_
      obtain ⟨⟨hg12, hg13⟩, H⟩ := gd_some H
      refine Sm.seqD h00 mixed hΓ (by kernel_rfl) fun K9 hK9 => ?_
      simp only [rs]
      repeat (refine opsH fun K hK => ?_; simp only [z, seval, ref37_first_t2]; (repeat (first | refine gcI ?_ | refine fun (_ : _ ≤ _) => ?_)); refine hK _ ?_; clear hK K)
      refine hK9 _ ?_
      refine Sm.condK (by rfl) fun Ka Kb ha hb => ?_
      simp only [wpCond, z, seval, ref37_first_t2]
      refine ⟨fun h10 => ha ?_, fun h10 => hb ?_⟩
      · first | replace H := bif_t h10 H | replace H := bif_t2 h10 H (by simp only [List.length_append])
        refine Sm.seqA h00 mixed hΓ (by kernel_rfl) fun K11 hK11 => ?_
        simp only [rs]
        repeat (refine opsG fun K hK => ?_; simp only [z, seval, ref37_first_t2]; (repeat (first | refine gcI ?_ | refine fun (_ : _ ≤ _) => ?_)); refine hK _ ?_; clear hK K)
        refine hK11 _ ?_
        refine Sm.ret ?_
        try simp only [seval, Exit.exit.injEq]
        refine ⟨⟨_, (Option.some.inj H).symm⟩, fun hz => ?_⟩
        have hyy := Sum.inr.inj ((Option.some.inj H).trans hz)
        subst hyy
        have H := Ho4
        try dsimp only at H
        try simp only [seval, Exit.exit.injEq]
        obtain rfl := Option.some.inj H
        refine Ret.ofR [] (.inr rfl) ?_
        simp only [z, seval, ref37_first_t2]
      first | replace H := bif_f h10 H | replace H := bif_f2 h10 H (by simp only [List.length_append])
      refine Sm.skip ?_
      refine hK8 _ ?_
      refine Sm.regA h00 mixed hΓ (by kernel_rfl) ?_
      simp only [rs]
      repeat (refine opsG fun K hK => ?_; simp only [z, seval, ref37_first_t2]; (repeat (first | refine gcI ?_ | refine fun (_ : _ ≤ _) => ?_)); refine hK _ ?_; clear hK K)
      refine opsG0 ?_
      try simp only [seval, Exit.exit.injEq]
      refine ⟨_, (Option.some.inj H).symm, ?_⟩
      exact weak_b [] rfl rfl rfl (by simp only [wk, z, seval, ref37_first_t2]) (by simp only [wk, z, seval, ref37_first_t2])
    first | replace H := bif_f h7 H | replace H := bif_f2 h7 H (by simp only [List.length_append])
    refine Sm.exit ?_
    try simp only [seval, Exit.exit.injEq]
    refine ⟨⟨_, (Option.some.inj H).symm⟩, fun hz => ?_⟩
    have hyy := Sum.inr.inj ((Option.some.inj H).trans hz)
    subst hyy
    have H := Ho4
    try dsimp only at H
    try simp only [seval, Exit.exit.injEq]
    refine ⟨(), H, ?_⟩
    exact weak_b [] rfl rfl rfl (by simp only [wk, z, seval, ref37_first_t2]) (by simp only [wk, z, seval, ref37_first_t2])
  rintro ⟨⟩ H
  try dsimp only at H
  unfold ref37_first_k1 at H
  refine Sm.seqA h00 mixed hΓ (by kernel_rfl) fun K2 hK2 => ?_
  simp only [rs]
  repeat (refine opsG fun K hK => ?_; simp only [z, seval, ref37_first_s1]; (repeat (first | refine gcI ?_ | refine fun (_ : _ ≤ _) => ?_)); refine hK _ ?_; clear hK K)
  refine hK2 _ ?_
  refine Sm.ret ?_
  try simp only [seval, Exit.exit.injEq]
  obtain rfl := Option.some.inj H
  refine Ret.ofR [] (.inr rfl) ?_
  simp only [z, seval, ref37_first_s1]

def ref37_suits (n : Nat) (u : TUnitConf) (n_ : TNeed) : Option Bool :=
  gd ((((u.Kind == n_.Kind) && !(n_.Serial == [])) = true → ((u.Kind == n_.Kind) && (!(n_.Serial == []))) = true)) <|
  some (if (u.Kind == n_.Kind) = true then (if (n_.Serial == []) = true then true else (u.Serial == n_.Serial)) else false)

def xref37_suits (n : Nat) : Go.AE.Fn := mkFn (A := TUnitConf × TNeed) (R := Bool) 77 [(true, [.int .i64, .int .i64, .str, .int .i64, .int .i64]), (true, [.int .i64, .str])] false (fun xs => ((⟨(cg (xs.getD 0 []) 0).toInt, (cg (xs.getD 0 []) 1).toInt, (cg (xs.getD 0 []) 2).toStr, (cg (xs.getD 0 []) 3).toInt, (cg (xs.getD 0 []) 4).toInt⟩ : TUnitConf), (⟨(cg (xs.getD 1 []) 0).toInt, (cg (xs.getD 1 []) 1).toStr⟩ : TNeed))) (fun a => [[.int a.1.Addr, .int a.1.Kind, .str a.1.Serial, .int a.1.Cyls, .int a.1.Heads], [.int a.2.Kind, .str a.2.Serial]]) (fun a => ref37_suits n a.1 a.2) (fun r => [.c .bool (.bool r)]) (fun r => [])

theorem cref37_suits (n : Nat) : Contract Try.prog (xref37_suits n) := by
  have hΓ : ∀ g, g ∈ ([] : List Go.AE.Fn) → Contract Try.prog g := by simp
  refine contract_f (Try.f77.body.getD .skip) h00 Try.func77 rfl (by intro args w; exact Try.call77 args w) (by decide) (by intro _ r; exact ⟨rfl, by simp⟩) ?_
  rintro ⟨u, n_⟩ r H
  try dsimp only at H
  unfold ref37_suits at H
  simp only [Try.f77, Option.getD]
  refine Sm.seqA h00 mixed hΓ (by kernel_rfl) fun K1 hK1 => ?_
  simp only [rs]
  repeat (refine opsG fun K hK => ?_; simp only [z, seval]; (repeat (first | refine gcI ?_ | refine fun (_ : _ ≤ _) => ?_)); refine hK _ ?_; clear hK K)
  refine hK1 _ ?_
  obtain ⟨hg3, H⟩ := gd_some H
  refine Sm.seqA h00 mixed hΓ (by kernel_rfl) fun K2 hK2 => ?_
  simp only [rs]
  repeat (refine opsG fun K hK => ?_; simp only [z, seval]; (repeat (first | refine gcI ?_ | refine fun (_ : _ ≤ _) => ?_)); refine hK _ ?_; clear hK K)
  refine hK2 _ ?_
  refine Sm.ret ?_
  try simp only [seval, Exit.exit.injEq]
  obtain rfl := Option.some.inj H
  refine Ret.ofR [] (.inr rfl) ?_
  simp only [z, seval]

abbrev ref37_mounted_s1 : S := stB [] []

def ref37_mounted_k1 (n : Nat) : Option Bool :=
  some false

abbrev ref37_mounted_t2 (units : List TUnitConf) (n_ : TNeed) (k : Int) : S := stB [(0, .c (.slice 77) (.slice (List.map e_TUnitConf units))), (3, .box 9001 0), (5, .c (.int .i64) (.int k))] [(9001, .box [.c (.int .i64) (.int n_.Kind), .c .str (.str n_.Serial)])]

def ref37_mounted_b2 (n : Nat) (units : List TUnitConf) (n_ : TNeed) (k : Int) : Option ((Int) ⊕ (((Bool) ⊕ (Unit)))) :=
  bif (decide (k < (units.length : Int))) then
    (ref37_first n units k).bind fun r1 =>
    gd ((r1 = true → (0 ≤ k ∧ k < (units.length : Int))) ∧ (r1 = true → (ref37_suits n (gt units (Int.toNat k)) n_).isSome = true)) <|
    bif (if r1 = true then ((ref37_suits n (gt units (Int.toNat k)) n_).getD default) else false) then
      some (.inr (.inl true))
    else
      some (.inl (IntKind.wrap .i64 (k + 1)))
  else
    some (.inr (.inr ()))

def ref37_mounted (n : Nat) (units : List TUnitConf) (n_ : TNeed) : Option Bool :=
  (loopF (fun (x : Int) => ref37_mounted_b2 n units n_ x) n 0).bind fun y4 =>
  match y4 with
  | .inl v =>
    some v
  | .inr v =>
    ref37_mounted_k1 n

def xref37_mounted (n : Nat) : Go.AE.Fn := mkFn (A := (List TUnitConf) × TNeed) (R := Bool) 54 [(false, [.slice 77]), (true, [.int .i64, .str])] false (fun xs => (((cg (xs.getD 0 []) 0).toSl.map d_TUnitConf), (⟨(cg (xs.getD 1 []) 0).toInt, (cg (xs.getD 1 []) 1).toStr⟩ : TNeed))) (fun a => [[.slice (List.map e_TUnitConf a.1)], [.int a.2.Kind, .str a.2.Serial]]) (fun a => ref37_mounted n a.1 a.2) (fun r => [.c .bool (.bool r)]) (fun r => [])

theorem cref37_mounted (n : Nat) : Contract Try.prog (xref37_mounted n) := by
  have hΓ : ∀ g, g ∈ ([xref37_first n, xref37_suits n] : List Go.AE.Fn) → Contract Try.prog g := by
    intro g hg; simp only [List.mem_cons, List.not_mem_nil, or_false] at hg; rcases hg with rfl | rfl; exact cref37_first n; exact cref37_suits n
  refine contract_f (Try.f54.body.getD .skip) h00 Try.func54 rfl (by intro args w; exact Try.call54 args w) (by decide) (by intro _ r; exact ⟨rfl, by simp⟩) ?_
  rintro ⟨units, n_⟩ r H
  try dsimp only at H
  unfold ref37_mounted at H
  simp only [Try.f54, Option.getD]
  refine Sm.seqA h00 mixed hΓ (by kernel_rfl) fun K1 hK1 => ?_
  simp only [rs]
  repeat (refine opsG fun K hK => ?_; simp only [z, seval]; (repeat (first | refine gcI ?_ | refine fun (_ : _ ≤ _) => ?_)); refine hK _ ?_; clear hK K)
  refine hK1 _ ?_
  refine Sm.cut (fun (x : Unit) => ref37_mounted_s1) (fun x => ref37_mounted_k1 n = some r) ?_ ?_
  · refine Sm.seqA h00 mixed hΓ (by kernel_rfl) fun K3 hK3 => ?_
    simp only [rs]
    repeat (refine opsG fun K hK => ?_; simp only [z, seval]; (repeat (first | refine gcI ?_ | refine fun (_ : _ ≤ _) => ?_)); refine hK _ ?_; clear hK K)
    refine hK3 _ ?_
    refine Sm.block ?_
    obtain ⟨y4, hy4, Ho4⟩ := bind_some H
    refine Sm.loopB (fun (x : Int) => ref37_mounted_b2 n units n_ x) (fun x => ref37_mounted_t2 units n_ x) hy4 ?_ ?_
    · exact weak_b [some 48] rfl rfl rfl (by simp only [wk, z, seval]) (by simp only [wk, z, seval])
    rintro k z4 H
    try dsimp only at H
    unfold ref37_mounted_b2 at H
    refine Sm.seqK fun K5 hK5 => ?_
    refine Sm.seqA h00 mixed hΓ (by kernel_rfl) fun K6 hK6 => ?_
    simp only [rs]
    repeat (refine opsG fun K hK => ?_; simp only [z, seval, ref37_mounted_t2]; (repeat (first | refine gcI ?_ | refine fun (_ : _ ≤ _) => ?_)); refine hK _ ?_; clear hK K)
    refine hK6 _ ?_
    refine Sm.condK (by rfl) fun Ka Kb ha hb => ?_
    simp only [wpCond, z, seval, ref37_mounted_t2]
    refine ⟨fun h7 => ha ?_, fun h7 => hb ?_⟩
    · first | replace H := bif_t h7 H | replace H := bif_t2 h7 H (by simp only [List.length_append])
      refine Sm.skip ?_
      refine hK5 _ ?_
      refine Sm.seqK fun K8 hK8 => ?_
      refine Sm.block ?_
      obtain ⟨r1, hr1, H⟩ := bind_some H
      obtain ⟨⟨hg12, hg13⟩, H⟩ := gd_some H
      refine Sm.seqD h00 mixed hΓ (by kernel_rfl) fun K9 hK9 => ?_
      simp only [rs]
      repeat (refine opsH fun K hK => ?_; simp only [z, seval, ref37_mounted_t2, xref37_first, xref37_suits, hr1]; (repeat (first | refine gcI ?_ | refine fun (_ : _ ≤ _) => ?_)); refine hK _ ?_; clear hK K)
      refine hK9 _ ?_
      refine Sm.condK (by rfl) fun Ka Kb ha hb => ?_
      simp only [wpCond, z, seval, ref37_mounted_t2]
      refine ⟨fun h10 => ha ?_, fun h10 => hb ?_⟩
      · first | replace H := bif_t h10 H | replace H := bif_t2 h10 H (by simp only [List.length_append])
        refine Sm.seqA h00 mixed hΓ (by kernel_rfl) fun K11 hK11 => ?_
        simp only [rs]
        repeat (refine opsG fun K hK => ?_; simp only [z, seval, ref37_mounted_t2]; (repeat (first | refine gcI ?_ | refine fun (_ : _ ≤ _) => ?_)); refine hK _ ?_; clear hK K)
        refine hK11 _ ?_
        refine Sm.ret ?_
        try simp only [seval, Exit.exit.injEq]
        refine ⟨⟨_, (Option.some.inj H).symm⟩, fun hz => ?_⟩
        have hyy := Sum.inr.inj ((Option.some.inj H).trans hz)
        subst hyy
        have H := Ho4
        try dsimp only at H
        try simp only [seval, Exit.exit.injEq]
        obtain rfl := Option.some.inj H
        refine Ret.ofR [] (.inr rfl) ?_
        simp only [z, seval, ref37_mounted_t2]
      first | replace H := bif_f h10 H | replace H := bif_f2 h10 H (by simp only [List.length_append])
      refine Sm.skip ?_
      refine hK8 _ ?_
      refine Sm.regA h00 mixed hΓ (by kernel_rfl) ?_
      simp only [rs]
      repeat (refine opsG fun K hK => ?_; simp only [z, seval, ref37_mounted_t2]; (repeat (first | refine gcI ?_ | refine fun (_ : _ ≤ _) => ?_)); refine hK _ ?_; clear hK K)
      refine opsG0 ?_
      try simp only [seval, Exit.exit.injEq]
      refine ⟨_, (Option.some.inj H).symm, ?_⟩
      exact weak_b [some 9001] rfl rfl rfl (by simp only [wk, z, seval, ref37_mounted_t2]) (by simp only [wk, z, seval, ref37_mounted_t2])
    first | replace H := bif_f h7 H | replace H := bif_f2 h7 H (by simp only [List.length_append])
    refine Sm.exit ?_
    try simp only [seval, Exit.exit.injEq]
    refine ⟨⟨_, (Option.some.inj H).symm⟩, fun hz => ?_⟩
    have hyy := Sum.inr.inj ((Option.some.inj H).trans hz)
    subst hyy
    have H := Ho4
    try dsimp only at H
    try simp only [seval, Exit.exit.injEq]
    refine ⟨(), H, ?_⟩
    exact weak_b [] rfl rfl rfl (by simp only [wk, z, seval, ref37_mounted_t2]) (by simp only [wk, z, seval, ref37_mounted_t2])
  rintro ⟨⟩ H
  try dsimp only at H
  unfold ref37_mounted_k1 at H
  refine Sm.seqA h00 mixed hΓ (by kernel_rfl) fun K2 hK2 => ?_
  simp only [rs]
  repeat (refine opsG fun K hK => ?_; simp only [z, seval, ref37_mounted_s1]; (repeat (first | refine gcI ?_ | refine fun (_ : _ ≤ _) => ?_)); refine hK _ ?_; clear hK K)
  refine hK2 _ ?_
  refine Sm.ret ?_
  try simp only [seval, Exit.exit.injEq]
  obtain rfl := Option.some.inj H
  refine Ret.ofR [] (.inr rfl) ?_
  simp only [z, seval, ref37_mounted_s1]

abbrev ref37_has_s1 : S := stB [] []

def ref37_has_k1 (n : Nat) : Option Bool :=
  some false

abbrev ref37_has_t2 (l : List Int) (n_ : Int) (k : Int) : S := stB [(0, .c (.slice 3) (.slice (List.map e_Int l))), (1, .c (.int .i64) (.int n_)), (5, .c (.int .i64) (.int k))] []

def ref37_has_b2 (n : Nat) (l : List Int) (n_ : Int) (k : Int) : Option ((Int) ⊕ (((Bool) ⊕ (Unit)))) :=
  bif (decide (k < (l.length : Int))) then
    gd ((0 ≤ k ∧ k < (l.length : Int))) <|
    bif ((gt l (Int.toNat k)) == n_) then
      some (.inr (.inl true))
    else
      some (.inl (IntKind.wrap .i64 (k + 1)))
  else
    some (.inr (.inr ()))

def ref37_has (n : Nat) (l : List Int) (n_ : Int) : Option Bool :=
  (loopF (fun (x : Int) => ref37_has_b2 n l n_ x) n 0).bind fun y4 =>
  match y4 with
  | .inl v =>
    some v
  | .inr v =>
    ref37_has_k1 n

def xref37_has (n : Nat) : Go.AE.Fn := mkFn (A := (List Int) × Int) (R := Bool) 78 [(false, [.slice 3]), (false, [.int .i64])] false (fun xs => (((cg (xs.getD 0 []) 0).toSl.map d_Int), (cg (xs.getD 1 []) 0).toInt)) (fun a => [[.slice (List.map e_Int a.1)], [.int a.2]]) (fun a => ref37_has n a.1 a.2) (fun r => [.c .bool (.bool r)]) (fun r => [])

theorem cref37_has (n : Nat) : Contract Try.prog (xref37_has n) := by
  have hΓ : ∀ g, g ∈ ([] : List Go.AE.Fn) → Contract Try.prog g := by simp
  refine contract_f (Try.f78.body.getD .skip) h00 Try.func78 rfl (by intro args w; exact Try.call78 args w) (by decide) (by intro _ r; exact ⟨rfl, by simp⟩) ?_
  rintro ⟨l, n_⟩ r H
  try dsimp only at H
  unfold ref37_has at H
  simp only [Try.f78, Option.getD]
  refine Sm.seqA h00 mixed hΓ (by kernel_rfl) fun K1 hK1 => ?_
  simp only [rs]
  repeat (refine opsG fun K hK => ?_; simp only [z, seval]; (repeat (first | refine gcI ?_ | refine fun (_ : _ ≤ _) => ?_)); refine hK _ ?_; clear hK K)
  refine hK1 _ ?_
  refine Sm.cut (fun (x : Unit) => ref37_has_s1) (fun x => ref37_has_k1 n = some r) ?_ ?_
  · refine Sm.seqA h00 mixed hΓ (by kernel_rfl) fun K3 hK3 => ?_
    simp only [rs]
    repeat (refine opsG fun K hK => ?_; simp only [z, seval]; (repeat (first | refine gcI ?_ | refine fun (_ : _ ≤ _) => ?_)); refine hK _ ?_; clear hK K)
    refine hK3 _ ?_
    refine Sm.block ?_
    obtain ⟨y4, hy4, Ho4⟩ := bind_some H
    refine Sm.loopB (fun (x : Int) => ref37_has_b2 n l n_ x) (fun x => ref37_has_t2 l n_ x) hy4 ?_ ?_
    · exact weak_b [] rfl rfl rfl (by simp only [wk, z, seval]) (by simp only [wk, z, seval])
    rintro k z4 H
    try dsimp only at H
    unfold ref37_has_b2 at H
    refine Sm.seqK fun K5 hK5 => ?_
    refine Sm.seqA h00 mixed hΓ (by kernel_rfl) fun K6 hK6 => ?_
    simp only [rs]
    repeat (refine opsG fun K hK => ?_; simp only [z, seval, ref37_has_t2]; (repeat (first | refine gcI ?_ | refine fun (_ : _ ≤ _) => ?_)); refine hK _ ?_; clear hK K)
    refine hK6 _ ?_
    refine Sm.condK (by rfl) fun Ka Kb ha hb => ?_
    simp only [wpCond, z, seval, ref37_has_t2]
    refine ⟨fun h7 => ha ?_, fun h7 => hb ?_⟩
    · first | replace H := bif_t h7 H | replace H := bif_t2 h7 H (by simp only [List.length_append])
      refine Sm.skip ?_
      refine hK5 _ ?_
      refine Sm.seqK fun K8 hK8 => ?_
      refine Sm.block ?_
      obtain ⟨hg12, H⟩ := gd_some H
      refine Sm.seqA h00 mixed hΓ (by kernel_rfl) fun K9 hK9 => ?_
      simp only [rs]
      repeat (refine opsG fun K hK => ?_; simp only [z, seval, ref37_has_t2]; (repeat (first | refine gcI ?_ | refine fun (_ : _ ≤ _) => ?_)); refine hK _ ?_; clear hK K)
      refine hK9 _ ?_
      refine Sm.condK (by rfl) fun Ka Kb ha hb => ?_
      simp only [wpCond, z, seval, ref37_has_t2]
      refine ⟨fun h10 => ha ?_, fun h10 => hb ?_⟩
      · first | replace H := bif_t h10 H | replace H := bif_t2 h10 H (by simp only [List.length_append])
        refine Sm.seqA h00 mixed hΓ (by kernel_rfl) fun K11 hK11 => ?_
        simp only [rs]
        repeat (refine opsG fun K hK => ?_; simp only [z, seval, ref37_has_t2]; (repeat (first | refine gcI ?_ | refine fun (_ : _ ≤ _) => ?_)); refine hK _ ?_; clear hK K)
        refine hK11 _ ?_
        refine Sm.ret ?_
        try simp only [seval, Exit.exit.injEq]
        refine ⟨⟨_, (Option.some.inj H).symm⟩, fun hz => ?_⟩
        have hyy := Sum.inr.inj ((Option.some.inj H).trans hz)
        subst hyy
        have H := Ho4
        try dsimp only at H
        try simp only [seval, Exit.exit.injEq]
        obtain rfl := Option.some.inj H
        refine Ret.ofR [] (.inr rfl) ?_
        simp only [z, seval, ref37_has_t2]
      first | replace H := bif_f h10 H | replace H := bif_f2 h10 H (by simp only [List.length_append])
      refine Sm.skip ?_
      refine hK8 _ ?_
      refine Sm.regA h00 mixed hΓ (by kernel_rfl) ?_
      simp only [rs]
      repeat (refine opsG fun K hK => ?_; simp only [z, seval, ref37_has_t2]; (repeat (first | refine gcI ?_ | refine fun (_ : _ ≤ _) => ?_)); refine hK _ ?_; clear hK K)
      refine opsG0 ?_
      try simp only [seval, Exit.exit.injEq]
      refine ⟨_, (Option.some.inj H).symm, ?_⟩
      exact weak_b [] rfl rfl rfl (by simp only [wk, z, seval, ref37_has_t2]) (by simp only [wk, z, seval, ref37_has_t2])
    first | replace H := bif_f h7 H | replace H := bif_f2 h7 H (by simp only [List.length_append])
    refine Sm.exit ?_
    try simp only [seval, Exit.exit.injEq]
    refine ⟨⟨_, (Option.some.inj H).symm⟩, fun hz => ?_⟩
    have hyy := Sum.inr.inj ((Option.some.inj H).trans hz)
    subst hyy
    have H := Ho4
    try dsimp only at H
    try simp only [seval, Exit.exit.injEq]
    refine ⟨(), H, ?_⟩
    exact weak_b [] rfl rfl rfl (by simp only [wk, z, seval, ref37_has_t2]) (by simp only [wk, z, seval, ref37_has_t2])
  rintro ⟨⟩ H
  try dsimp only at H
  unfold ref37_has_k1 at H
  refine Sm.seqA h00 mixed hΓ (by kernel_rfl) fun K2 hK2 => ?_
  simp only [rs]
  repeat (refine opsG fun K hK => ?_; simp only [z, seval, ref37_has_s1]; (repeat (first | refine gcI ?_ | refine fun (_ : _ ≤ _) => ?_)); refine hK _ ?_; clear hK K)
  refine hK2 _ ?_
  refine Sm.ret ?_
  try simp only [seval, Exit.exit.injEq]
  obtain rfl := Option.some.inj H
  refine Ret.ofR [] (.inr rfl) ?_
  simp only [z, seval, ref37_has_s1]

abbrev ref37_pick_s1 (best : Int) : S := stB [(13, .c (.int .i64) (.int best))] []

def ref37_pick_k1 (n : Nat) (best : Int) : Option Int :=
  some best

abbrev ref37_pick_s3 (units : List TUnitConf) (busy : List Int) (needs : List TNeed) (out : List Int) (done : List Bool) (n_ : Int) (best_1 : Int) (k : Int) : S := stB [(0, .c (.slice 77) (.slice (List.map e_TUnitConf units))), (1, .c (.slice 3) (.slice (List.map e_Int busy))), (2, .c (.slice 70) (.slice (List.map e_TNeed needs))), (3, .c (.slice 3) (.slice (List.map e_Int out))), (4, .c (.slice 4) (.slice (List.map e_Bool done))), (5, .c (.int .i64) (.int n_)), (13, .c (.int .i64) (.int best_1)), (14, .c (.int .i64) (.int k))] []

def ref37_pick_k3 (n : Nat) (units : List TUnitConf) (busy : List Int) (needs : List TNeed) (out : List Int) (done : List Bool) (n_ : Int) (best_1 : Int) (k : Int) : Option ((Int × Int) ⊕ ((Int))) :=
  some (.inl (best_1, (IntKind.wrap .i64 (k + 1))))

abbrev ref37_pick_s4 (units : List TUnitConf) (busy : List Int) (needs : List TNeed) (out : List Int) (done : List Bool) (n_ : Int) (best : Int) (k : Int) (u : Int) (u_1 : Int) (u_2 : List UInt8) (u_3 : Int) (u_4 : Int) (ok : Bool) : S := stB [(0, .c (.slice 77) (.slice (List.map e_TUnitConf units))), (1, .c (.slice 3) (.slice (List.map e_Int busy))), (2, .c (.slice 70) (.slice (List.map e_TNeed needs))), (3, .c (.slice 3) (.slice (List.map e_Int out))), (4, .c (.slice 4) (.slice (List.map e_Bool done))), (5, .c (.int .i64) (.int n_)), (13, .c (.int .i64) (.int best)), (14, .c (.int .i64) (.int k)), (15, .box 9000 0), (16, .c .bool (.bool ok))] [(9000, .box [.c (.int .i64) (.int u), .c (.int .i64) (.int u_1), .c .str (.str u_2), .c (.int .i64) (.int u_3), .c (.int .i64) (.int u_4)])]

def ref37_pick_k4 (n : Nat) (units : List TUnitConf) (busy : List Int) (needs : List TNeed) (out : List Int) (done : List Bool) (n_ : Int) (best : Int) (k : Int) (u : Int) (u_1 : Int) (u_2 : List UInt8) (u_3 : Int) (u_4 : Int) (ok : Bool) : Option ((Int × Int) ⊕ ((Int))) :=
  gd (((ok && (!(decide (best < 0)))) = true → (0 ≤ best ∧ best < (units.length : Int))) ∧ ((ok && !(decide (best < 0))) = true → (ok && (!(decide (best < 0)))) = true)) <|
  bif (if ok = true then (if (decide (best < 0)) = true then true else (decide (u < ((gt units (Int.toNat best)).Addr)))) else false) then
    ref37_pick_k3 n units busy needs out done n_ k k
  else
    ref37_pick_k3 n units busy needs out done n_ best k

abbrev ref37_pick_s6 (units : List TUnitConf) (busy : List Int) (needs : List TNeed) (out : List Int) (done : List Bool) (n_ : Int) (best : Int) (k : Int) (u : Int) (u_1 : Int) (u_2 : List UInt8) (u_3 : Int) (u_4 : Int) (ok_1 : Bool) (i : Int) : S := stB [(0, .c (.slice 77) (.slice (List.map e_TUnitConf units))), (1, .c (.slice 3) (.slice (List.map e_Int busy))), (2, .c (.slice 70) (.slice (List.map e_TNeed needs))), (3, .c (.slice 3) (.slice (List.map e_Int out))), (4, .c (.slice 4) (.slice (List.map e_Bool done))), (5, .c (.int .i64) (.int n_)), (13, .c (.int .i64) (.int best)), (14, .c (.int .i64) (.int k)), (15, .box 9003 0), (16, .c .bool (.bool ok_1)), (17, .c (.int .i64) (.int i))] [(9003, .box [.c (.int .i64) (.int u), .c (.int .i64) (.int u_1), .c .str (.str u_2), .c (.int .i64) (.int u_3), .c (.int .i64) (.int u_4)])]

def ref37_pick_k6 (n : Nat) (units : List TUnitConf) (busy : List Int) (needs : List TNeed) (out : List Int) (done : List Bool) (n_ : Int) (best : Int) (k : Int) (u : Int) (u_1 : Int) (u_2 : List UInt8) (u_3 : Int) (u_4 : Int) (ok_1 : Bool) (i : Int) : Option ((Bool × Int) ⊕ ((Bool))) :=
  some (.inl (ok_1, (IntKind.wrap .i64 (i + 1))))

abbrev ref37_pick_t5 (units : List TUnitConf) (busy : List Int) (needs : List TNeed) (out : List Int) (done : List Bool) (n_ : Int) (best : Int) (k : Int) (u : Int) (u_1 : Int) (u_2 : List UInt8) (u_3 : Int) (u_4 : Int) (ok : Bool) (i : Int) : S := stB [(0, .c (.slice 77) (.slice (List.map e_TUnitConf units))), (1, .c (.slice 3) (.slice (List.map e_Int busy))), (2, .c (.slice 70) (.slice (List.map e_TNeed needs))), (3, .c (.slice 3) (.slice (List.map e_Int out))), (4, .c (.slice 4) (.slice (List.map e_Bool done))), (5, .c (.int .i64) (.int n_)), (13, .c (.int .i64) (.int best)), (14, .c (.int .i64) (.int k)), (15, .box 9002 0), (16, .c .bool (.bool ok)), (17, .c (.int .i64) (.int i))] [(9002, .box [.c (.int .i64) (.int u), .c (.int .i64) (.int u_1), .c .str (.str u_2), .c (.int .i64) (.int u_3), .c (.int .i64) (.int u_4)])]

def ref37_pick_b5 (n : Nat) (units : List TUnitConf) (busy : List Int) (needs : List TNeed) (out : List Int) (done : List Bool) (n_ : Int) (best : Int) (k : Int) (u : Int) (u_1 : Int) (u_2 : List UInt8) (u_3 : Int) (u_4 : Int) (ok : Bool) (i : Int) : Option ((Bool × Int) ⊕ ((Bool))) :=
  bif (if (decide (i < (needs.length : Int))) = true then (u_1 != 5) else false) then
    gd ((0 ≤ i ∧ i < (done.length : Int)) ∧ ((gt done (Int.toNat i)) = true → (0 ≤ i ∧ i < (out.length : Int))) ∧ ((if (gt done (Int.toNat i)) = true then ((gt out (Int.toNat i)) == u) else false) = true → (0 ≤ i ∧ i < (needs.length : Int))) ∧ ((if (gt done (Int.toNat i)) = true then ((gt out (Int.toNat i)) == u) else false) = true → (0 ≤ n_ ∧ n_ < (needs.length : Int))) ∧ (((if (gt done (Int.toNat i)) = true then ((gt out (Int.toNat i)) == u) else false) && (!(!((((gt needs (Int.toNat i)).Kind) == ((gt needs (Int.toNat n_)).Kind)) && (((gt needs (Int.toNat i)).Serial) == ((gt needs (Int.toNat n_)).Serial)))))) = true → (0 ≤ n_ ∧ n_ < (needs.length : Int))) ∧ (((if (gt done (Int.toNat i)) = true then ((gt out (Int.toNat i)) == u) else false) && !(!((((gt needs (Int.toNat i)).Kind) == ((gt needs (Int.toNat n_)).Kind)) && (((gt needs (Int.toNat i)).Serial) == ((gt needs (Int.toNat n_)).Serial))))) = true → ((if (gt done (Int.toNat i)) = true then ((gt out (Int.toNat i)) == u) else false) && (!(!((((gt needs (Int.toNat i)).Kind) == ((gt needs (Int.toNat n_)).Kind)) && (((gt needs (Int.toNat i)).Serial) == ((gt needs (Int.toNat n_)).Serial)))))) = true)) <|
    bif (if (if (gt done (Int.toNat i)) = true then ((gt out (Int.toNat i)) == u) else false) = true then (if (!((((gt needs (Int.toNat i)).Kind) == ((gt needs (Int.toNat n_)).Kind)) && (((gt needs (Int.toNat i)).Serial) == ((gt needs (Int.toNat n_)).Serial)))) = true then true else (((gt needs (Int.toNat n_)).Serial) == [])) else false) then
      ref37_pick_k6 n units busy needs out done n_ best k u u_1 u_2 u_3 u_4 false i
    else
      ref37_pick_k6 n units busy needs out done n_ best k u u_1 u_2 u_3 u_4 ok i
  else
    some (.inr ok)

abbrev ref37_pick_t2 (units : List TUnitConf) (busy : List Int) (needs : List TNeed) (out : List Int) (done : List Bool) (n_ : Int) (best : Int) (k : Int) : S := stB [(0, .c (.slice 77) (.slice (List.map e_TUnitConf units))), (1, .c (.slice 3) (.slice (List.map e_Int busy))), (2, .c (.slice 70) (.slice (List.map e_TNeed needs))), (3, .c (.slice 3) (.slice (List.map e_Int out))), (4, .c (.slice 4) (.slice (List.map e_Bool done))), (5, .c (.int .i64) (.int n_)), (13, .c (.int .i64) (.int best)), (14, .c (.int .i64) (.int k))] []

def ref37_pick_b2 (n : Nat) (units : List TUnitConf) (busy : List Int) (needs : List TNeed) (out : List Int) (done : List Bool) (n_ : Int) (best : Int) (k : Int) : Option ((Int × Int) ⊕ ((Int))) :=
  bif (decide (k < (units.length : Int))) then
    gd ((0 ≤ k ∧ k < (units.length : Int))) <|
    (ref37_first n units k).bind fun r1 =>
    gd (((!(!r1)) = true → (0 ≤ n_ ∧ n_ < (needs.length : Int))) ∧ ((!(!r1)) = true → (ref37_suits n (gt units (Int.toNat k)) (gt needs (Int.toNat n_))).isSome = true)) <|
    bif (if (!r1) = true then true else (!((ref37_suits n (gt units (Int.toNat k)) (gt needs (Int.toNat n_))).getD default))) then
      ref37_pick_k3 n units busy needs out done n_ best k
    else
      gd (((!(((gt units (Int.toNat k)).Kind) == 5)) = true → (ref37_has n busy ((gt units (Int.toNat k)).Addr)).isSome = true)) <|
      (loopF (fun (x : Bool × Int) => ref37_pick_b5 n units busy needs out done n_ best k ((gt units (Int.toNat k)).Addr) ((gt units (Int.toNat k)).Kind) ((gt units (Int.toNat k)).Serial) ((gt units (Int.toNat k)).Cyls) ((gt units (Int.toNat k)).Heads) x.1 x.2) n ((if (((gt units (Int.toNat k)).Kind) == 5) = true then true else (!((ref37_has n busy ((gt units (Int.toNat k)).Addr)).getD default))), 0)).bind fun y19 =>
      ref37_pick_k4 n units busy needs out done n_ best k ((gt units (Int.toNat k)).Addr) ((gt units (Int.toNat k)).Kind) ((gt units (Int.toNat k)).Serial) ((gt units (Int.toNat k)).Cyls) ((gt units (Int.toNat k)).Heads) y19
  else
    some (.inr best)

def ref37_pick (n : Nat) (units : List TUnitConf) (busy : List Int) (needs : List TNeed) (out : List Int) (done : List Bool) (n_ : Int) : Option Int :=
  (loopF (fun (x : Int × Int) => ref37_pick_b2 n units busy needs out done n_ x.1 x.2) n ((-1), 0)).bind fun y5 =>
  ref37_pick_k1 n y5

def xref37_pick (n : Nat) : Go.AE.Fn := mkFn (A := (List TUnitConf) × (List Int) × (List TNeed) × (List Int) × (List Bool) × Int) (R := Int) 55 [(false, [.slice 77]), (false, [.slice 3]), (false, [.slice 70]), (false, [.slice 3]), (false, [.slice 4]), (false, [.int .i64])] false (fun xs => (((cg (xs.getD 0 []) 0).toSl.map d_TUnitConf), ((cg (xs.getD 1 []) 0).toSl.map d_Int), ((cg (xs.getD 2 []) 0).toSl.map d_TNeed), ((cg (xs.getD 3 []) 0).toSl.map d_Int), ((cg (xs.getD 4 []) 0).toSl.map d_Bool), (cg (xs.getD 5 []) 0).toInt)) (fun a => [[.slice (List.map e_TUnitConf a.1)], [.slice (List.map e_Int a.2.1)], [.slice (List.map e_TNeed a.2.2.1)], [.slice (List.map e_Int a.2.2.2.1)], [.slice (List.map e_Bool a.2.2.2.2.1)], [.int a.2.2.2.2.2]]) (fun a => ref37_pick n a.1 a.2.1 a.2.2.1 a.2.2.2.1 a.2.2.2.2.1 a.2.2.2.2.2) (fun r => [.c (.int .i64) (.int r)]) (fun r => [])

theorem cref37_pick (n : Nat) : Contract Try.prog (xref37_pick n) := by
  have hΓ : ∀ g, g ∈ ([xref37_first n, xref37_suits n, xref37_has n] : List Go.AE.Fn) → Contract Try.prog g := by
    intro g hg; simp only [List.mem_cons, List.not_mem_nil, or_false] at hg; rcases hg with rfl | rfl | rfl; exact cref37_first n; exact cref37_suits n; exact cref37_has n
  refine contract_f (Try.f55.body.getD .skip) h00 Try.func55 rfl (by intro args w; exact Try.call55 args w) (by decide) (by intro _ r; exact ⟨rfl, by simp⟩) ?_
  rintro ⟨units, busy, needs, out, done, n_⟩ r H
  try dsimp only at H
  unfold ref37_pick at H
  simp only [Try.f55, Option.getD]
  refine Sm.seqA h00 mixed hΓ (by kernel_rfl) fun K1 hK1 => ?_
  simp only [rs]
  repeat (refine opsG fun K hK => ?_; simp only [z, seval]; (repeat (first | refine gcI ?_ | refine fun (_ : _ ≤ _) => ?_)); refine hK _ ?_; clear hK K)
  refine hK1 _ ?_
  refine Sm.seqA h00 mixed hΓ (by kernel_rfl) fun K2 hK2 => ?_
  simp only [rs]
  repeat (refine opsG fun K hK => ?_; simp only [z, seval]; (repeat (first | refine gcI ?_ | refine fun (_ : _ ≤ _) => ?_)); refine hK _ ?_; clear hK K)
  refine hK2 _ ?_
  refine Sm.cut (fun (x : Int) => ref37_pick_s1 x) (fun x => ref37_pick_k1 n x = some r) ?_ ?_
  · refine Sm.seqA h00 mixed hΓ (by kernel_rfl) fun K4 hK4 => ?_
    simp only [rs]
    repeat (refine opsG fun K hK => ?_; simp only [z, seval]; (repeat (first | refine gcI ?_ | refine fun (_ : _ ≤ _) => ?_)); refine hK _ ?_; clear hK K)
    refine hK4 _ ?_
    refine Sm.block ?_
    obtain ⟨y5, hy5, Ho5⟩ := bind_some H
    refine Sm.loopB (fun (x : Int × Int) => ref37_pick_b2 n units busy needs out done n_ x.1 x.2) (fun x => ref37_pick_t2 units busy needs out done n_ x.1 x.2) hy5 ?_ ?_
    · exact weak_b [] rfl rfl rfl (by simp only [wk, z, seval]) (by simp only [wk, z, seval])
    rintro ⟨best, k⟩ z5 H
    try dsimp only at H
    unfold ref37_pick_b2 at H
    refine Sm.seqK fun K6 hK6 => ?_
    refine Sm.seqA h00 mixed hΓ (by kernel_rfl) fun K7 hK7 => ?_
    simp only [rs]
    repeat (refine opsG fun K hK => ?_; simp only [z, seval, ref37_pick_t2]; (repeat (first | refine gcI ?_ | refine fun (_ : _ ≤ _) => ?_)); refine hK _ ?_; clear hK K)
    refine hK7 _ ?_
    refine Sm.condK (by rfl) fun Ka Kb ha hb => ?_
    simp only [wpCond, z, seval, ref37_pick_t2]
    refine ⟨fun h8 => ha ?_, fun h8 => hb ?_⟩
    · first | replace H := bif_t h8 H | replace H := bif_t2 h8 H (by simp only [List.length_append])
      refine Sm.skip ?_
      refine hK6 _ ?_
      refine Sm.cut (fun (x : Int) => ref37_pick_s3 units busy needs out done n_ x k) (fun x => ref37_pick_k3 n units busy needs out done n_ x k = some z5) ?_ ?_
      · refine Sm.block ?_
        obtain ⟨hg34, H⟩ := gd_some H
        refine Sm.seqA h00 mixed hΓ (by kernel_rfl) fun K9 hK9 => ?_
        simp only [rs]
        repeat (refine opsG fun K hK => ?_; simp only [z, seval, ref37_pick_t2]; (repeat (first | refine gcI ?_ | refine fun (_ : _ ≤ _) => ?_)); refine hK _ ?_; clear hK K)
        refine hK9 _ ?_
        refine Sm.seqK fun K10 hK10 => ?_
        obtain ⟨r1, hr1, H⟩ := bind_some H
        obtain ⟨⟨hg32, hg33⟩, H⟩ := gd_some H
        refine Sm.seqD h00 mixed hΓ (by kernel_rfl) fun K11 hK11 => ?_
        simp only [rs]
        repeat (refine opsH fun K hK => ?_; simp only [z, seval, ref37_pick_t2, xref37_first, xref37_suits, hr1]; (repeat (first | refine gcI ?_ | refine fun (_ : _ ≤ _) => ?_)); refine hK _ ?_; clear hK K)
        refine hK11 _ ?_
        refine Sm.condK (by rfl) fun Ka Kb ha hb => ?_
        simp only [wpCond, z, seval, ref37_pick_t2]
        refine ⟨fun h12 => ha ?_, fun h12 => hb ?_⟩
        · first | replace H := bif_t h12 H | replace H := bif_t2 h12 H (by simp only [List.length_append])
          refine Sm.exit ?_
          try simp only [seval, Exit.exit.injEq]
          refine ⟨_, H, ?_⟩
          exact weak_b [] rfl rfl rfl (by simp only [wk, z, seval, ref37_pick_t2]) (by simp only [wk, z, seval, ref37_pick_t2])
        first | replace H := bif_f h12 H | replace H := bif_f2 h12 H (by simp only [List.length_append])
        refine Sm.skip ?_
        refine hK10 _ ?_
        obtain ⟨hg31, H⟩ := gd_some H
        refine Sm.seqA h00 mixed hΓ (by kernel_rfl) fun K13 hK13 => ?_
        simp only [rs]
        repeat (refine opsG fun K hK => ?_; simp only [z, seval, ref37_pick_t2, xref37_first, xref37_suits, xref37_has]; (repeat (first | refine gcI ?_ | refine fun (_ : _ ≤ _) => ?_)); refine hK _ ?_; clear hK K)
        refine hK13 _ ?_
        refine Sm.cut (fun (x : Int × Int × (List UInt8) × Int × Int × Bool) => ref37_pick_s4 units busy needs out done n_ best k x.1 x.2.1 x.2.2.1 x.2.2.2.1 x.2.2.2.2.1 x.2.2.2.2.2) (fun x => ref37_pick_k4 n units busy needs out done n_ best k x.1 x.2.1 x.2.2.1 x.2.2.2.1 x.2.2.2.2.1 x.2.2.2.2.2 = some z5) ?_ ?_
        · refine Sm.seqA h00 mixed hΓ (by kernel_rfl) fun K18 hK18 => ?_
          simp only [rs]
          repeat (refine opsG fun K hK => ?_; simp only [z, seval, ref37_pick_t2]; (repeat (first | refine gcI ?_ | refine fun (_ : _ ≤ _) => ?_)); refine hK _ ?_; clear hK K)
          refine hK18 _ ?_
          refine Sm.block ?_
          obtain ⟨y19, hy19, Ho19⟩ := bind_some H
          refine Sm.loopB (fun (x : Bool × Int) => ref37_pick_b5 n units busy needs out done n_ best k ((gt units (Int.toNat k)).Addr) ((gt units (Int.toNat k)).Kind) ((gt units (Int.toNat k)).Serial) ((gt units (Int.toNat k)).Cyls) ((gt units (Int.toNat k)).Heads) x.1 x.2) (fun x => ref37_pick_t5 units busy needs out done n_ best k ((gt units (Int.toNat k)).Addr) ((gt units (Int.toNat k)).Kind) ((gt units (Int.toNat k)).Serial) ((gt units (Int.toNat k)).Cyls) ((gt units (Int.toNat k)).Heads) x.1 x.2) hy19 ?_ ?_
          · exact weak_b [some 240] rfl rfl rfl (by simp only [wk, z, seval, ref37_pick_t2]) (by simp only [wk, z, seval, ref37_pick_t2])
          rintro ⟨ok, i⟩ z19 H
          try dsimp only at H
          unfold ref37_pick_b5 at H
          refine Sm.seqK fun K20 hK20 => ?_
          refine Sm.seqA h00 mixed hΓ (by kernel_rfl) fun K21 hK21 => ?_
          simp only [rs]
          repeat (refine opsG fun K hK => ?_; simp only [z, seval, ref37_pick_t5]; (repeat (first | refine gcI ?_ | refine fun (_ : _ ≤ _) => ?_)); refine hK _ ?_; clear hK K)
          refine hK21 _ ?_
          refine Sm.condK (by rfl) fun Ka Kb ha hb => ?_
          simp only [wpCond, z, seval, ref37_pick_t5]
          refine ⟨fun h22 => ha ?_, fun h22 => hb ?_⟩
          · first | replace H := bif_t h22 H | replace H := bif_t2 h22 H (by simp only [List.length_append])
            refine Sm.skip ?_
            refine hK20 _ ?_
            refine Sm.cut (fun (x : Bool) => ref37_pick_s6 units busy needs out done n_ best k ((gt units (Int.toNat k)).Addr) ((gt units (Int.toNat k)).Kind) ((gt units (Int.toNat k)).Serial) ((gt units (Int.toNat k)).Cyls) ((gt units (Int.toNat k)).Heads) x i) (fun x => ref37_pick_k6 n units busy needs out done n_ best k ((gt units (Int.toNat k)).Addr) ((gt units (Int.toNat k)).Kind) ((gt units (Int.toNat k)).Serial) ((gt units (Int.toNat k)).Cyls) ((gt units (Int.toNat k)).Heads) x i = some z19) ?_ ?_
            · refine Sm.block ?_
              obtain ⟨⟨hg25, hg26, hg27, hg28, hg29, hg30⟩, H⟩ := gd_some H
              refine Sm.seqD h00 mixed hΓ (by kernel_rfl) fun K23 hK23 => ?_
              simp only [rs]
              repeat (refine opsH fun K hK => ?_; simp only [z, seval, ref37_pick_t5]; (repeat (first | refine gcI ?_ | refine fun (_ : _ ≤ _) => ?_)); refine hK _ ?_; clear hK K)
              refine hK23 _ ?_
              refine Sm.condK (by rfl) fun Ka Kb ha hb => ?_
              simp only [wpCond, z, seval, ref37_pick_t5]
              refine ⟨fun h24 => ha ?_, fun h24 => hb ?_⟩
              · first | replace H := bif_t h24 H | replace H := bif_t2 h24 H (by simp only [List.length_append])
                refine Sm.regA h00 mixed hΓ (by kernel_rfl) ?_
                simp only [rs]
                repeat (refine opsG fun K hK => ?_; simp only [z, seval, ref37_pick_t5]; (repeat (first | refine gcI ?_ | refine fun (_ : _ ≤ _) => ?_)); refine hK _ ?_; clear hK K)
                refine opsG0 ?_
                try simp only [seval, Exit.exit.injEq]
                refine ⟨_, H, ?_⟩
                exact weak_b [some 9002] rfl rfl rfl (by simp only [wk, z, seval, ref37_pick_t5]) (by simp only [wk, z, seval, ref37_pick_t5])
              first | replace H := bif_f h24 H | replace H := bif_f2 h24 H (by simp only [List.length_append])
              refine Sm.skip ?_
              try simp only [seval, Exit.exit.injEq]
              refine ⟨_, H, ?_⟩
              exact weak_b [some 9002] rfl rfl rfl (by simp only [wk, z, seval, ref37_pick_t5]) (by simp only [wk, z, seval, ref37_pick_t5])
            rintro ok_1 H
            try dsimp only at H
            unfold ref37_pick_k6 at H
            refine Sm.regA h00 mixed hΓ (by kernel_rfl) ?_
            simp only [rs]
            repeat (refine opsG fun K hK => ?_; simp only [z, seval, ref37_pick_s6]; (repeat (first | refine gcI ?_ | refine fun (_ : _ ≤ _) => ?_)); refine hK _ ?_; clear hK K)
            refine opsG0 ?_
            try simp only [seval, Exit.exit.injEq]
            refine ⟨(_, _), (Option.some.inj H).symm, ?_⟩
            exact weak_b [some 9003] rfl rfl rfl (by simp only [wk, z, seval, ref37_pick_s6]) (by simp only [wk, z, seval, ref37_pick_s6])
          first | replace H := bif_f h22 H | replace H := bif_f2 h22 H (by simp only [List.length_append])
          refine Sm.exit ?_
          try simp only [seval, Exit.exit.injEq]
          refine ⟨⟨_, (Option.some.inj H).symm⟩, fun hz => ?_⟩
          have hyy := Sum.inr.inj ((Option.some.inj H).trans hz)
          subst hyy
          have H := Ho19
          try dsimp only at H
          try simp only [seval, Exit.exit.injEq]
          refine ⟨(((gt units (Int.toNat k)).Addr), ((gt units (Int.toNat k)).Kind), ((gt units (Int.toNat k)).Serial), ((gt units (Int.toNat k)).Cyls), ((gt units (Int.toNat k)).Heads), ok), H, ?_⟩
          exact weak_b [some 9002] rfl rfl rfl (by simp only [wk, z, seval, ref37_pick_t5]) (by simp only [wk, z, seval, ref37_pick_t5])
        rintro ⟨u, u_1, u_2, u_3, u_4, ok⟩ H
        try dsimp only at H
        unfold ref37_pick_k4 at H
        obtain ⟨⟨hg16, hg17⟩, H⟩ := gd_some H
        refine Sm.seqD h00 mixed hΓ (by kernel_rfl) fun K14 hK14 => ?_
        simp only [rs]
        repeat (refine opsH fun K hK => ?_; simp only [z, seval, ref37_pick_s4]; (repeat (first | refine gcI ?_ | refine fun (_ : _ ≤ _) => ?_)); refine hK _ ?_; clear hK K)
        refine hK14 _ ?_
        refine Sm.condK (by rfl) fun Ka Kb ha hb => ?_
        simp only [wpCond, z, seval, ref37_pick_s4]
        refine ⟨fun h15 => ha ?_, fun h15 => hb ?_⟩
        · first | replace H := bif_t h15 H | replace H := bif_t2 h15 H (by simp only [List.length_append])
          refine Sm.regA h00 mixed hΓ (by kernel_rfl) ?_
          simp only [rs]
          repeat (refine opsG fun K hK => ?_; simp only [z, seval, ref37_pick_s4]; (repeat (first | refine gcI ?_ | refine fun (_ : _ ≤ _) => ?_)); refine hK _ ?_; clear hK K)
          refine opsG0 ?_
          try simp only [seval, Exit.exit.injEq]
          refine ⟨_, H, ?_⟩
          exact weak_b [] rfl rfl rfl (by simp only [wk, z, seval, ref37_pick_s4]) (by simp only [wk, z, seval, ref37_pick_s4])
        first | replace H := bif_f h15 H | replace H := bif_f2 h15 H (by simp only [List.length_append])
        refine Sm.skip ?_
        try simp only [seval, Exit.exit.injEq]
        refine ⟨_, H, ?_⟩
        exact weak_b [] rfl rfl rfl (by simp only [wk, z, seval, ref37_pick_s4]) (by simp only [wk, z, seval, ref37_pick_s4])
      rintro best_1 H
      try dsimp only at H
      unfold ref37_pick_k3 at H
      refine Sm.regA h00 mixed hΓ (by kernel_rfl) ?_
      simp only [rs]
      repeat (refine opsG fun K hK => ?_; simp only [z, seval, ref37_pick_s3]; (repeat (first | refine gcI ?_ | refine fun (_ : _ ≤ _) => ?_)); refine hK _ ?_; clear hK K)
      refine opsG0 ?_
      try simp only [seval, Exit.exit.injEq]
      refine ⟨(_, _), (Option.some.inj H).symm, ?_⟩
      exact weak_b [] rfl rfl rfl (by simp only [wk, z, seval, ref37_pick_s3]) (by simp only [wk, z, seval, ref37_pick_s3])
    first | replace H := bif_f h8 H | replace H := bif_f2 h8 H (by simp only [List.length_append])
    refine Sm.exit ?_
    try simp only [seval, Exit.exit.injEq]
    refine ⟨⟨_, (Option.some.inj H).symm⟩, fun hz => ?_⟩
    have hyy := Sum.inr.inj ((Option.some.inj H).trans hz)
    subst hyy
    have H := Ho5
    try dsimp only at H
    try simp only [seval, Exit.exit.injEq]
    refine ⟨_, H, ?_⟩
    exact weak_b [] rfl rfl rfl (by simp only [wk, z, seval, ref37_pick_t2]) (by simp only [wk, z, seval, ref37_pick_t2])
  rintro best H
  try dsimp only at H
  unfold ref37_pick_k1 at H
  refine Sm.seqA h00 mixed hΓ (by kernel_rfl) fun K3 hK3 => ?_
  simp only [rs]
  repeat (refine opsG fun K hK => ?_; simp only [z, seval, ref37_pick_s1]; (repeat (first | refine gcI ?_ | refine fun (_ : _ ≤ _) => ?_)); refine hK _ ?_; clear hK K)
  refine hK3 _ ?_
  refine Sm.ret ?_
  try simp only [seval, Exit.exit.injEq]
  obtain rfl := Option.some.inj H
  refine Ret.ofR [] (.inr rfl) ?_
  simp only [z, seval, ref37_pick_s1]

abbrev ref37_Assign_s2 (out : List Int) : S := stB [(9, .own 9000 [.int .i64] 0 out.length)] [(9000, .row 3 (List.map e_Int out))]

def ref37_Assign_k2 (n : Nat) (out : List Int) : Option ((List Int) × Int) :=
  some (out, 0)

abbrev ref37_Assign_s4 (units : List TUnitConf) (busy : List Int) (needs : List TNeed) (out_1 : List Int) (done_1 : List Bool) (pass : Int) : S := stB [(0, .c (.slice 77) (.slice (List.map e_TUnitConf units))), (1, .c (.slice 3) (.slice (List.map e_Int busy))), (2, .c (.slice 70) (.slice (List.map e_TNeed needs))), (9, .own 9005 [.int .i64] 0 out_1.length), (10, .own 9006 [.bool] 0 done_1.length), (11, .c (.int .i64) (.int pass))] [(9005, .row 3 (List.map e_Int out_1)), (9006, .row 4 (List.map e_Bool done_1))]

def ref37_Assign_k4 (n : Nat) (units : List TUnitConf) (busy : List Int) (needs : List TNeed) (out_1 : List Int) (done_1 : List Bool) (pass : Int) : Option (((List Int) × (List Bool) × Int) ⊕ ((((List Int) × Int) ⊕ ((List Int))))) :=
  some (.inl (out_1, done_1, (IntKind.wrap .i64 (pass + 1))))

abbrev ref37_Assign_s6 (units : List TUnitConf) (busy : List Int) (needs : List TNeed) (out_2 : List Int) (done_2 : List Bool) (pass : Int) (n_ : Int) : S := stB [(0, .c (.slice 77) (.slice (List.map e_TUnitConf units))), (1, .c (.slice 3) (.slice (List.map e_Int busy))), (2, .c (.slice 70) (.slice (List.map e_TNeed needs))), (9, .own 9011 [.int .i64] 0 out_2.length), (10, .own 9012 [.bool] 0 done_2.length), (11, .c (.int .i64) (.int pass)), (12, .c (.int .i64) (.int n_))] [(9011, .row 3 (List.map e_Int out_2)), (9012, .row 4 (List.map e_Bool done_2))]

def ref37_Assign_k6 (n : Nat) (units : List TUnitConf) (busy : List Int) (needs : List TNeed) (out_2 : List Int) (done_2 : List Bool) (pass : Int) (n_ : Int) : Option (((List Int) × (List Bool) × Int) ⊕ ((((List Int) × Int) ⊕ ((List Int) × (List Bool))))) :=
  some (.inl (out_2, done_2, (IntKind.wrap .i64 (n_ + 1))))

abbrev ref37_Assign_t5 (units : List TUnitConf) (busy : List Int) (needs : List TNeed) (pass : Int) (out_1 : List Int) (done_1 : List Bool) (n_ : Int) : S := stB [(0, .c (.slice 77) (.slice (List.map e_TUnitConf units))), (1, .c (.slice 3) (.slice (List.map e_Int busy))), (2, .c (.slice 70) (.slice (List.map e_TNeed needs))), (9, .own 9009 [.int .i64] 0 out_1.length), (10, .own 9010 [.bool] 0 done_1.length), (11, .c (.int .i64) (.int pass)), (12, .c (.int .i64) (.int n_))] [(9009, .row 3 (List.map e_Int out_1)), (9010, .row 4 (List.map e_Bool done_1))]

def ref37_Assign_b5 (n : Nat) (units : List TUnitConf) (busy : List Int) (needs : List TNeed) (pass : Int) (out_1 : List Int) (done_1 : List Bool) (n_ : Int) : Option (((List Int) × (List Bool) × Int) ⊕ ((((List Int) × Int) ⊕ ((List Int) × (List Bool))))) :=
  bif (decide (n_ < (needs.length : Int))) then
    gd ((0 ≤ n_ ∧ n_ < (needs.length : Int))) <|
    bif ((((gt needs (Int.toNat n_)).Serial) == []) != (pass == 1)) then
      ref37_Assign_k6 n units busy needs out_1 done_1 pass n_
    else
      (ref37_pick n units busy needs out_1 done_1 n_).bind fun r1 =>
      bif (decide (r1 < 0)) then
        some (.inr (.inl ([], 370)))
      else
        gd ((0 ≤ r1 ∧ r1 < (units.length : Int)) ∧ (0 ≤ n_ ∧ n_ < (out_1.length : Int)) ∧ (Int.toNat n_) < out_1.length) <|
        gd ((0 ≤ n_ ∧ n_ < (done_1.length : Int)) ∧ (Int.toNat n_) < done_1.length) <|
        ref37_Assign_k6 n units busy needs (List.set out_1 (Int.toNat n_) ((gt units (Int.toNat r1)).Addr)) (List.set done_1 (Int.toNat n_) true) pass n_
  else
    some (.inr (.inr (out_1, done_1)))

abbrev ref37_Assign_t3 (units : List TUnitConf) (busy : List Int) (needs : List TNeed) (out : List Int) (done : List Bool) (pass : Int) : S := stB [(0, .c (.slice 77) (.slice (List.map e_TUnitConf units))), (1, .c (.slice 3) (.slice (List.map e_Int busy))), (2, .c (.slice 70) (.slice (List.map e_TNeed needs))), (9, .own 9003 [.int .i64] 0 out.length), (10, .own 9004 [.bool] 0 done.length), (11, .c (.int .i64) (.int pass))] [(9003, .row 3 (List.map e_Int out)), (9004, .row 4 (List.map e_Bool done))]

def ref37_Assign_b3 (n : Nat) (units : List TUnitConf) (busy : List Int) (needs : List TNeed) (out : List Int) (done : List Bool) (pass : Int) : Option (((List Int) × (List Bool) × Int) ⊕ ((((List Int) × Int) ⊕ ((List Int))))) :=
  bif (decide (pass < 2)) then
    (loopF (fun (x : (List Int) × (List Bool) × Int) => ref37_Assign_b5 n units busy needs pass x.1 x.2.1 x.2.2) n (out, done, 0)).bind fun y13 =>
    match y13 with
    | .inl v =>
      some (.inr (.inl (v.1, v.2)))
    | .inr v =>
      ref37_Assign_k4 n units busy needs v.1 v.2 pass
  else
    some (.inr (.inr out))

abbrev ref37_Assign_s1 (units : List TUnitConf) (busy : List Int) (needs : List TNeed) : S := stB [(0, .c (.slice 77) (.slice (List.map e_TUnitConf units))), (1, .c (.slice 3) (.slice (List.map e_Int busy))), (2, .c (.slice 70) (.slice (List.map e_TNeed needs)))] []

def ref37_Assign_k1 (n : Nat) (units : List TUnitConf) (busy : List Int) (needs : List TNeed) : Option ((List Int) × Int) :=
  gd ((0 ≤ (needs.length : Int) ∧ (needs.length : Int) ≤ (needs.length : Int) ∧ (needs.length : Int) ≤ 2147483648)) <|
  gd ((0 ≤ (needs.length : Int) ∧ (needs.length : Int) ≤ (needs.length : Int) ∧ (needs.length : Int) ≤ 2147483648)) <|
  (loopF (fun (x : (List Int) × (List Bool) × Int) => ref37_Assign_b3 n units busy needs x.1 x.2.1 x.2.2) n ((zreps (Int.toNat (needs.length : Int)) 0), (zreps (Int.toNat (needs.length : Int)) false), 0)).bind fun y8 =>
  match y8 with
  | .inl v =>
    some (v.1, v.2)
  | .inr v =>
    ref37_Assign_k2 n v

abbrev ref37_Assign_t7 (units : List TUnitConf) (busy : List Int) (needs : List TNeed) (n__1 : Int) : S := stB [(0, .c (.slice 77) (.slice (List.map e_TUnitConf units))), (1, .c (.slice 3) (.slice (List.map e_Int busy))), (2, .c (.slice 70) (.slice (List.map e_TNeed needs))), (8, .c (.int .i64) (.int n__1))] []

def ref37_Assign_b7 (n : Nat) (units : List TUnitConf) (busy : List Int) (needs : List TNeed) (n__1 : Int) : Option ((Int) ⊕ ((((List Int) × Int) ⊕ (Unit)))) :=
  bif (decide (n__1 < (needs.length : Int))) then
    gd ((0 ≤ n__1 ∧ n__1 < (needs.length : Int))) <|
    (ref37_mounted n units (gt needs (Int.toNat n__1))).bind fun r2 =>
    bif (!r2) then
      some (.inr (.inl ([], 430)))
    else
      some (.inl (IntKind.wrap .i64 (n__1 + 1)))
  else
    some (.inr (.inr ()))

def ref37_Assign (n : Nat) (units : List TUnitConf) (busy : List Int) (needs : List TNeed) : Option ((List Int) × Int) :=
  (loopF (fun (x : Int) => ref37_Assign_b7 n units busy needs x) n 0).bind fun y33 =>
  match y33 with
  | .inl v =>
    some (v.1, v.2)
  | .inr v =>
    ref37_Assign_k1 n units busy needs

def xref37_Assign (n : Nat) : Go.AE.Fn := mkFn (A := (List TUnitConf) × (List Int) × (List TNeed)) (R := (List Int) × Int) 30 [(false, [.slice 77]), (false, [.slice 3]), (false, [.slice 70])] false (fun xs => (((cg (xs.getD 0 []) 0).toSl.map d_TUnitConf), ((cg (xs.getD 1 []) 0).toSl.map d_Int), ((cg (xs.getD 2 []) 0).toSl.map d_TNeed))) (fun a => [[.slice (List.map e_TUnitConf a.1)], [.slice (List.map e_Int a.2.1)], [.slice (List.map e_TNeed a.2.2)]]) (fun a => ref37_Assign n a.1 a.2.1 a.2.2) (fun r => [.own 0 [.int .i64] 0 r.1.length, .c (.int .i64) (.int r.2)]) (fun r => [.row 3 (List.map e_Int r.1)])

theorem cref37_Assign (n : Nat) : Contract Try.prog (xref37_Assign n) := by
  have hΓ : ∀ g, g ∈ ([xref37_mounted n, xref37_pick n] : List Go.AE.Fn) → Contract Try.prog g := by
    intro g hg; simp only [List.mem_cons, List.not_mem_nil, or_false] at hg; rcases hg with rfl | rfl; exact cref37_mounted n; exact cref37_pick n
  refine contract_f (Try.f30.body.getD .skip) h00 Try.func30 rfl (by intro args w; exact Try.call30 args w) (by decide) (by
    intro _ r; refine ⟨rfl, ?_⟩; simp only [List.mem_cons, List.not_mem_nil, or_false]; rintro _ rfl
    · exact ⟨3, _, _, rfl, ty3, rfl⟩) ?_
  rintro ⟨units, busy, needs⟩ r H
  try dsimp only at H
  unfold ref37_Assign at H
  simp only [Try.f30, Option.getD]
  refine Sm.seqA h00 mixed hΓ (by kernel_rfl) fun K1 hK1 => ?_
  simp only [rs]
  repeat (refine opsG fun K hK => ?_; simp only [z, seval]; (repeat (first | refine gcI ?_ | refine fun (_ : _ ≤ _) => ?_)); refine hK _ ?_; clear hK K)
  refine hK1 _ ?_
  refine Sm.cut (fun (x : Unit) => ref37_Assign_s1 units busy needs) (fun x => ref37_Assign_k1 n units busy needs = some r) ?_ ?_
  · refine Sm.seqA h00 mixed hΓ (by kernel_rfl) fun K32 hK32 => ?_
    simp only [rs]
    repeat (refine opsG fun K hK => ?_; simp only [z, seval]; (repeat (first | refine gcI ?_ | refine fun (_ : _ ≤ _) => ?_)); refine hK _ ?_; clear hK K)
    refine hK32 _ ?_
    refine Sm.block ?_
    obtain ⟨y33, hy33, Ho33⟩ := bind_some H
    refine Sm.loopB (fun (x : Int) => ref37_Assign_b7 n units busy needs x) (fun x => ref37_Assign_t7 units busy needs x) hy33 ?_ ?_
    · exact weak_b [] rfl rfl rfl (by simp only [wk, z, seval]) (by simp only [wk, z, seval])
    rintro n__1 z33 H
    try dsimp only at H
    unfold ref37_Assign_b7 at H
    refine Sm.seqK fun K34 hK34 => ?_
    refine Sm.seqA h00 mixed hΓ (by kernel_rfl) fun K35 hK35 => ?_
    simp only [rs]
    repeat (refine opsG fun K hK => ?_; simp only [z, seval, ref37_Assign_t7]; (repeat (first | refine gcI ?_ | refine fun (_ : _ ≤ _) => ?_)); refine hK _ ?_; clear hK K)
    refine hK35 _ ?_
    refine Sm.condK (by rfl) fun Ka Kb ha hb => ?_
    simp only [wpCond, z, seval, ref37_Assign_t7]
    refine ⟨fun h36 => ha ?_, fun h36 => hb ?_⟩
    · first | replace H := bif_t h36 H | replace H := bif_t2 h36 H (by simp only [List.length_append])
      refine Sm.skip ?_
      refine hK34 _ ?_
      refine Sm.seqK fun K37 hK37 => ?_
      refine Sm.block ?_
      obtain ⟨hg41, H⟩ := gd_some H
      obtain ⟨r2, hr2, H⟩ := bind_some H
      refine Sm.seqA h00 mixed hΓ (by kernel_rfl) fun K38 hK38 => ?_
      simp only [rs]
      repeat (refine opsG fun K hK => ?_; simp only [z, seval, ref37_Assign_t7, xref37_mounted, hr2]; (repeat (first | refine gcI ?_ | refine fun (_ : _ ≤ _) => ?_)); refine hK _ ?_; clear hK K)
      refine hK38 _ ?_
      refine Sm.condK (by rfl) fun Ka Kb ha hb => ?_
      simp only [wpCond, z, seval, ref37_Assign_t7]
      refine ⟨fun h39 => ha ?_, fun h39 => hb ?_⟩
      · first | replace H := bif_t h39 H | replace H := bif_t2 h39 H (by simp only [List.length_append])
        refine Sm.seqA h00 mixed hΓ (by kernel_rfl) fun K40 hK40 => ?_
        simp only [rs]
        repeat (refine opsG fun K hK => ?_; simp only [z, seval, ref37_Assign_t7]; (repeat (first | refine gcI ?_ | refine fun (_ : _ ≤ _) => ?_)); refine hK _ ?_; clear hK K)
        refine hK40 _ ?_
        refine Sm.ret ?_
        try simp only [seval, Exit.exit.injEq]
        refine ⟨⟨_, (Option.some.inj H).symm⟩, fun hz => ?_⟩
        have hyy := Sum.inr.inj ((Option.some.inj H).trans hz)
        subst hyy
        have H := Ho33
        try dsimp only at H
        try simp only [seval, Exit.exit.injEq]
        obtain rfl := Option.some.inj H
        refine Ret.ofR [none] (.inr rfl) ?_
        simp only [z, seval, ref37_Assign_t7]
      first | replace H := bif_f h39 H | replace H := bif_f2 h39 H (by simp only [List.length_append])
      refine Sm.skip ?_
      refine hK37 _ ?_
      refine Sm.regA h00 mixed hΓ (by kernel_rfl) ?_
      simp only [rs]
      repeat (refine opsG fun K hK => ?_; simp only [z, seval, ref37_Assign_t7]; (repeat (first | refine gcI ?_ | refine fun (_ : _ ≤ _) => ?_)); refine hK _ ?_; clear hK K)
      refine opsG0 ?_
      try simp only [seval, Exit.exit.injEq]
      refine ⟨_, (Option.some.inj H).symm, ?_⟩
      exact weak_b [] rfl rfl rfl (by simp only [wk, z, seval, ref37_Assign_t7]) (by simp only [wk, z, seval, ref37_Assign_t7])
    first | replace H := bif_f h36 H | replace H := bif_f2 h36 H (by simp only [List.length_append])
    refine Sm.exit ?_
    try simp only [seval, Exit.exit.injEq]
    refine ⟨⟨_, (Option.some.inj H).symm⟩, fun hz => ?_⟩
    have hyy := Sum.inr.inj ((Option.some.inj H).trans hz)
    subst hyy
    have H := Ho33
    try dsimp only at H
    try simp only [seval, Exit.exit.injEq]
    refine ⟨(), H, ?_⟩
    exact weak_b [] rfl rfl rfl (by simp only [wk, z, seval, ref37_Assign_t7]) (by simp only [wk, z, seval, ref37_Assign_t7])
  rintro ⟨⟩ H
  try dsimp only at H
  unfold ref37_Assign_k1 at H
  refine Sm.seqX h00 mixed hΓ (by kernel_rfl) fun K2 hK2 => ?_
  simp only [rs]
  obtain ⟨hg3, H⟩ := gd_some H
  iterate 2 (refine opsX fun K hK => ?_; simp only [z, seval, ref37_Assign_s1]; (repeat (first | refine gcI ?_ | refine fun (_ : _ ≤ _) => ?_)); refine hK _ ?_; clear hK K)
  refine opsY fun K hK => ?_; simp only [z, seval, ref37_Assign_s1]; (repeat (first | refine gcI ?_ | refine fun (_ : _ ≤ _) => ?_)); refine hK _ ?_; clear hK K
  (refine opsX fun K hK => ?_; simp only [z, seval, ref37_Assign_s1]; (repeat (first | refine gcI ?_ | refine fun (_ : _ ≤ _) => ?_)); refine hK _ ?_; clear hK K)
  refine hK2 _ ?_
  refine Sm.seqX h00 mixed hΓ (by kernel_rfl) fun K4 hK4 => ?_
  simp only [rs]
  obtain ⟨hg5, H⟩ := gd_some H
  iterate 2 (refine opsX fun K hK => ?_; simp only [z, seval, ref37_Assign_s1]; (repeat (first | refine gcI ?_ | refine fun (_ : _ ≤ _) => ?_)); refine hK _ ?_; clear hK K)
  refine opsY fun K hK => ?_; simp only [z, seval, ref37_Assign_s1]; (repeat (first | refine gcI ?_ | refine fun (_ : _ ≤ _) => ?_)); refine hK _ ?_; clear hK K
  (refine opsX fun K hK => ?_; simp only [z, seval, ref37_Assign_s1]; (repeat (first | refine gcI ?_ | refine fun (_ : _ ≤ _) => ?_)); refine hK _ ?_; clear hK K)
  refine hK4 _ ?_
  refine Sm.cut (fun (x : (List Int)) => ref37_Assign_s2 x) (fun x => ref37_Assign_k2 n x = some r) ?_ ?_
  · refine Sm.seqA h00 mixed hΓ (by kernel_rfl) fun K7 hK7 => ?_
    simp only [rs]
    repeat (refine opsG fun K hK => ?_; simp only [z, seval, ref37_Assign_s1]; (repeat (first | refine gcI ?_ | refine fun (_ : _ ≤ _) => ?_)); refine hK _ ?_; clear hK K)
    refine hK7 _ ?_
    refine Sm.block ?_
    obtain ⟨y8, hy8, Ho8⟩ := bind_some H
    refine Sm.loopB (fun (x : (List Int) × (List Bool) × Int) => ref37_Assign_b3 n units busy needs x.1 x.2.1 x.2.2) (fun x => ref37_Assign_t3 units busy needs x.1 x.2.1 x.2.2) hy8 ?_ ?_
    · exact weak_b [some 464, some 512] rfl rfl rfl (by simp only [wk, z, seval, ref37_Assign_s1]) (by simp only [wk, z, seval, ref37_Assign_s1])
    rintro ⟨out, done, pass⟩ z8 H
    try dsimp only at H
    unfold ref37_Assign_b3 at H
    refine Sm.seqK fun K9 hK9 => ?_
    refine Sm.seqA h00 mixed hΓ (by kernel_rfl) fun K10 hK10 => ?_
    simp only [rs]
    repeat (refine opsG fun K hK => ?_; simp only [z, seval, ref37_Assign_t3]; (repeat (first | refine gcI ?_ | refine fun (_ : _ ≤ _) => ?_)); refine hK _ ?_; clear hK K)
    refine hK10 _ ?_
    refine Sm.condK (by rfl) fun Ka Kb ha hb => ?_
    simp only [wpCond, z, seval, ref37_Assign_t3]
    refine ⟨fun h11 => ha ?_, fun h11 => hb ?_⟩
    · first | replace H := bif_t h11 H | replace H := bif_t2 h11 H (by simp only [List.length_append])
      refine Sm.skip ?_
      refine hK9 _ ?_
      refine Sm.cut (fun (x : (List Int) × (List Bool)) => ref37_Assign_s4 units busy needs x.1 x.2 pass) (fun x => ref37_Assign_k4 n units busy needs x.1 x.2 pass = some z8) ?_ ?_
      · refine Sm.block ?_
        refine Sm.seqA h00 mixed hΓ (by kernel_rfl) fun K12 hK12 => ?_
        simp only [rs]
        repeat (refine opsG fun K hK => ?_; simp only [z, seval, ref37_Assign_t3]; (repeat (first | refine gcI ?_ | refine fun (_ : _ ≤ _) => ?_)); refine hK _ ?_; clear hK K)
        refine hK12 _ ?_
        refine Sm.block ?_
        obtain ⟨y13, hy13, Ho13⟩ := bind_some H
        refine Sm.loopB (fun (x : (List Int) × (List Bool) × Int) => ref37_Assign_b5 n units busy needs pass x.1 x.2.1 x.2.2) (fun x => ref37_Assign_t5 units busy needs pass x.1 x.2.1 x.2.2) hy13 ?_ ?_
        · exact weak_b [some 9003, some 9004] rfl rfl rfl (by simp only [wk, z, seval, ref37_Assign_t3]) (by simp only [wk, z, seval, ref37_Assign_t3])
        rintro ⟨out_1, done_1, n_⟩ z13 H
        try dsimp only at H
        unfold ref37_Assign_b5 at H
        refine Sm.seqK fun K14 hK14 => ?_
        refine Sm.seqA h00 mixed hΓ (by kernel_rfl) fun K15 hK15 => ?_
        simp only [rs]
        repeat (refine opsG fun K hK => ?_; simp only [z, seval, ref37_Assign_t5]; (repeat (first | refine gcI ?_ | refine fun (_ : _ ≤ _) => ?_)); refine hK _ ?_; clear hK K)
        refine hK15 _ ?_
        refine Sm.condK (by rfl) fun Ka Kb ha hb => ?_
        simp only [wpCond, z, seval, ref37_Assign_t5]
        refine ⟨fun h16 => ha ?_, fun h16 => hb ?_⟩
        · first | replace H := bif_t h16 H | replace H := bif_t2 h16 H (by simp only [List.length_append])
          refine Sm.skip ?_
          refine hK14 _ ?_
          refine Sm.cut (fun (x : (List Int) × (List Bool)) => ref37_Assign_s6 units busy needs x.1 x.2 pass n_) (fun x => ref37_Assign_k6 n units busy needs x.1 x.2 pass n_ = some z13) ?_ ?_
          · refine Sm.block ?_
            refine Sm.seqK fun K17 hK17 => ?_
            obtain ⟨hg31, H⟩ := gd_some H
            refine Sm.seqA h00 mixed hΓ (by kernel_rfl) fun K18 hK18 => ?_
            simp only [rs]
            repeat (refine opsG fun K hK => ?_; simp only [z, seval, ref37_Assign_t5]; (repeat (first | refine gcI ?_ | refine fun (_ : _ ≤ _) => ?_)); refine hK _ ?_; clear hK K)
            refine hK18 _ ?_
            refine Sm.condK (by rfl) fun Ka Kb ha hb => ?_
            simp only [wpCond, z, seval, ref37_Assign_t5]
            refine ⟨fun h19 => ha ?_, fun h19 => hb ?_⟩
            · first | replace H := bif_t h19 H | replace H := bif_t2 h19 H (by simp only [List.length_append])
              refine Sm.exit ?_
              try simp only [seval, Exit.exit.injEq]
              refine ⟨(out_1, done_1), H, ?_⟩
              exact weak_b [some 9009, some 9010] rfl rfl rfl (by simp only [wk, z, seval, ref37_Assign_t5]) (by simp only [wk, z, seval, ref37_Assign_t5])
            first | replace H := bif_f h19 H | replace H := bif_f2 h19 H (by simp only [List.length_append])
            refine Sm.skip ?_
            refine hK17 _ ?_
            obtain ⟨r1, hr1, H⟩ := bind_some H
            refine Sm.seqA h00 mixed hΓ (by kernel_rfl) fun K20 hK20 => ?_
            simp only [rs]
            repeat (refine opsG fun K hK => ?_; simp only [z, seval, ref37_Assign_t5, xref37_mounted, xref37_pick, hr1]; (repeat (first | refine gcI ?_ | refine fun (_ : _ ≤ _) => ?_)); refine hK _ ?_; clear hK K)
            refine hK20 _ ?_
            refine Sm.seqK fun K21 hK21 => ?_
            refine Sm.seqA h00 mixed hΓ (by kernel_rfl) fun K22 hK22 => ?_
            simp only [rs]
            repeat (refine opsG fun K hK => ?_; simp only [z, seval, ref37_Assign_t5]; (repeat (first | refine gcI ?_ | refine fun (_ : _ ≤ _) => ?_)); refine hK _ ?_; clear hK K)
            refine hK22 _ ?_
            refine Sm.condK (by rfl) fun Ka Kb ha hb => ?_
            simp only [wpCond, z, seval, ref37_Assign_t5]
            refine ⟨fun h23 => ha ?_, fun h23 => hb ?_⟩
            · first | replace H := bif_t h23 H | replace H := bif_t2 h23 H (by simp only [List.length_append])
              refine Sm.seqA h00 mixed hΓ (by kernel_rfl) fun K24 hK24 => ?_
              simp only [rs]
              repeat (refine opsG fun K hK => ?_; simp only [z, seval, ref37_Assign_t5]; (repeat (first | refine gcI ?_ | refine fun (_ : _ ≤ _) => ?_)); refine hK _ ?_; clear hK K)
              refine hK24 _ ?_
              refine Sm.ret ?_
              try simp only [seval, Exit.exit.injEq]
              refine ⟨⟨_, (Option.some.inj H).symm⟩, fun hz => ?_⟩
              have hyy := Sum.inr.inj ((Option.some.inj H).trans hz)
              subst hyy
              have H := Ho13
              try dsimp only at H
              try simp only [seval, Exit.exit.injEq]
              refine ⟨⟨_, (Option.some.inj H).symm⟩, fun hz => ?_⟩
              have hyy := Sum.inr.inj ((Option.some.inj H).trans hz)
              subst hyy
              have H := Ho8
              try dsimp only at H
              try simp only [seval, Exit.exit.injEq]
              obtain rfl := Option.some.inj H
              refine Ret.ofR [none] (.inr rfl) ?_
              simp only [z, seval, ref37_Assign_t5]
            first | replace H := bif_f h23 H | replace H := bif_f2 h23 H (by simp only [List.length_append])
            refine Sm.skip ?_
            refine hK21 _ ?_
            obtain ⟨⟨hg28, hg29, hg30⟩, H⟩ := gd_some H
            refine Sm.seqA h00 mixed hΓ (by kernel_rfl) fun K25 hK25 => ?_
            simp only [rs]
            repeat (refine opsG fun K hK => ?_; simp only [z, seval, ref37_Assign_t5]; (repeat (first | refine gcI ?_ | refine fun (_ : _ ≤ _) => ?_)); refine hK _ ?_; clear hK K)
            refine hK25 _ ?_
            obtain ⟨⟨hg26, hg27⟩, H⟩ := gd_some H
            refine Sm.regA h00 mixed hΓ (by kernel_rfl) ?_
            simp only [rs]
            repeat (refine opsG fun K hK => ?_; simp only [z, seval, ref37_Assign_t5]; (repeat (first | refine gcI ?_ | refine fun (_ : _ ≤ _) => ?_)); refine hK _ ?_; clear hK K)
            refine opsG0 ?_
            try simp only [seval, Exit.exit.injEq]
            refine ⟨((List.set out_1 (Int.toNat n_) ((gt units (Int.toNat r1)).Addr)), (List.set done_1 (Int.toNat n_) true)), H, ?_⟩
            exact weak_b [some 9009, some 9010] rfl rfl rfl (by simp only [wk, z, seval, ref37_Assign_t5]) (by simp only [wk, z, seval, ref37_Assign_t5])
          rintro ⟨out_2, done_2⟩ H
          try dsimp only at H
          unfold ref37_Assign_k6 at H
          refine Sm.regA h00 mixed hΓ (by kernel_rfl) ?_
          simp only [rs]
          repeat (refine opsG fun K hK => ?_; simp only [z, seval, ref37_Assign_s6]; (repeat (first | refine gcI ?_ | refine fun (_ : _ ≤ _) => ?_)); refine hK _ ?_; clear hK K)
          refine opsG0 ?_
          try simp only [seval, Exit.exit.injEq]
          refine ⟨(_, _, _), (Option.some.inj H).symm, ?_⟩
          exact weak_b [some 9011, some 9012] rfl rfl rfl (by simp only [wk, z, seval, ref37_Assign_s6]) (by simp only [wk, z, seval, ref37_Assign_s6])
        first | replace H := bif_f h16 H | replace H := bif_f2 h16 H (by simp only [List.length_append])
        refine Sm.exit ?_
        try simp only [seval, Exit.exit.injEq]
        refine ⟨⟨_, (Option.some.inj H).symm⟩, fun hz => ?_⟩
        have hyy := Sum.inr.inj ((Option.some.inj H).trans hz)
        subst hyy
        have H := Ho13
        try dsimp only at H
        try simp only [seval, Exit.exit.injEq]
        refine ⟨(out_1, done_1), H, ?_⟩
        exact weak_b [some 9009, some 9010] rfl rfl rfl (by simp only [wk, z, seval, ref37_Assign_t5]) (by simp only [wk, z, seval, ref37_Assign_t5])
      rintro ⟨out_1, done_1⟩ H
      try dsimp only at H
      unfold ref37_Assign_k4 at H
      refine Sm.regA h00 mixed hΓ (by kernel_rfl) ?_
      simp only [rs]
      repeat (refine opsG fun K hK => ?_; simp only [z, seval, ref37_Assign_s4]; (repeat (first | refine gcI ?_ | refine fun (_ : _ ≤ _) => ?_)); refine hK _ ?_; clear hK K)
      refine opsG0 ?_
      try simp only [seval, Exit.exit.injEq]
      refine ⟨(_, _, _), (Option.some.inj H).symm, ?_⟩
      exact weak_b [some 9005, some 9006] rfl rfl rfl (by simp only [wk, z, seval, ref37_Assign_s4]) (by simp only [wk, z, seval, ref37_Assign_s4])
    first | replace H := bif_f h11 H | replace H := bif_f2 h11 H (by simp only [List.length_append])
    refine Sm.exit ?_
    try simp only [seval, Exit.exit.injEq]
    refine ⟨⟨_, (Option.some.inj H).symm⟩, fun hz => ?_⟩
    have hyy := Sum.inr.inj ((Option.some.inj H).trans hz)
    subst hyy
    have H := Ho8
    try dsimp only at H
    try simp only [seval, Exit.exit.injEq]
    refine ⟨_, H, ?_⟩
    exact weak_b [some 9003] rfl rfl rfl (by simp only [wk, z, seval, ref37_Assign_t3]) (by simp only [wk, z, seval, ref37_Assign_t3])
  rintro out H
  try dsimp only at H
  unfold ref37_Assign_k2 at H
  refine Sm.seqA h00 mixed hΓ (by kernel_rfl) fun K6 hK6 => ?_
  simp only [rs]
  repeat (refine opsG fun K hK => ?_; simp only [z, seval, ref37_Assign_s2]; (repeat (first | refine gcI ?_ | refine fun (_ : _ ≤ _) => ?_)); refine hK _ ?_; clear hK K)
  refine hK6 _ ?_
  refine Sm.ret ?_
  try simp only [seval, Exit.exit.injEq]
  obtain rfl := Option.some.inj H
  refine Ret.ofR [some 9000] (.inr rfl) ?_
  simp only [z, seval, ref37_Assign_s2]

def enqueue_suits (n : Nat) (u : TUnitConf) (n_ : TNeed) : Option Bool :=
  gd ((((u.Kind == n_.Kind) && !(n_.Serial == [])) = true → ((u.Kind == n_.Kind) && (!(n_.Serial == []))) = true)) <|
  some (if (u.Kind == n_.Kind) = true then (if (n_.Serial == []) = true then true else (n_.Serial == u.Serial)) else false)

def xenqueue_suits (n : Nat) : Go.AE.Fn := mkFn (A := TUnitConf × TNeed) (R := Bool) 52 [(true, [.int .i64, .int .i64, .str, .int .i64, .int .i64]), (true, [.int .i64, .str])] false (fun xs => ((⟨(cg (xs.getD 0 []) 0).toInt, (cg (xs.getD 0 []) 1).toInt, (cg (xs.getD 0 []) 2).toStr, (cg (xs.getD 0 []) 3).toInt, (cg (xs.getD 0 []) 4).toInt⟩ : TUnitConf), (⟨(cg (xs.getD 1 []) 0).toInt, (cg (xs.getD 1 []) 1).toStr⟩ : TNeed))) (fun a => [[.int a.1.Addr, .int a.1.Kind, .str a.1.Serial, .int a.1.Cyls, .int a.1.Heads], [.int a.2.Kind, .str a.2.Serial]]) (fun a => enqueue_suits n a.1 a.2) (fun r => [.c .bool (.bool r)]) (fun r => [])

theorem cenqueue_suits (n : Nat) : Contract Try.prog (xenqueue_suits n) := by
  have hΓ : ∀ g, g ∈ ([] : List Go.AE.Fn) → Contract Try.prog g := by simp
  refine contract_f (Try.f52.body.getD .skip) h00 Try.func52 rfl (by intro args w; exact Try.call52 args w) (by decide) (by intro _ r; exact ⟨rfl, by simp⟩) ?_
  rintro ⟨u, n_⟩ r H
  try dsimp only at H
  unfold enqueue_suits at H
  simp only [Try.f52, Option.getD]
  refine Sm.seqA h00 mixed hΓ (by kernel_rfl) fun K1 hK1 => ?_
  simp only [rs]
  repeat (refine opsG fun K hK => ?_; simp only [z, seval]; (repeat (first | refine gcI ?_ | refine fun (_ : _ ≤ _) => ?_)); refine hK _ ?_; clear hK K)
  refine hK1 _ ?_
  obtain ⟨hg3, H⟩ := gd_some H
  refine Sm.seqA h00 mixed hΓ (by kernel_rfl) fun K2 hK2 => ?_
  simp only [rs]
  repeat (refine opsG fun K hK => ?_; simp only [z, seval]; (repeat (first | refine gcI ?_ | refine fun (_ : _ ≤ _) => ?_)); refine hK _ ?_; clear hK K)
  refine hK2 _ ?_
  refine Sm.ret ?_
  try simp only [seval, Exit.exit.injEq]
  obtain rfl := Option.some.inj H
  refine Ret.ofR [] (.inr rfl) ?_
  simp only [z, seval]
end Go.Proofs.Ytcdofkflbnpjjaa
