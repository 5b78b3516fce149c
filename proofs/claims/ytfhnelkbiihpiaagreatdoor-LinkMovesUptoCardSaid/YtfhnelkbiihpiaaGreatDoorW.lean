/- Text. -/
import Derived.Test.YtfhnelkbiihpiaaGreatDoorF
import Derived.Test.YtfhnelkbiihpiaaGreatDoorAE55
set_option maxHeartbeats 8000000
set_option linter.unusedVariables false
set_option linter.unusedSimpArgs false
set_option maxRecDepth 100000
namespace Go.Proofs.YtfhnelkbiihpiaaGreatDoor
open Go.AE
def walkM : Nat → TLoad → Int → Option (List Int)
  | 0, _, _ => none
  | k + 1, m, x =>
    bif (decide (x < 0)) then
      some []
    else
      gd (0 ≤ x ∧ x < (m.Segments.length : Int)) <|
      (walkM k m (gt m.Segments (Int.toNat x)).Parent).bind fun r1 =>
      gd (r1.length + 1 ≤ 2147483648) <|
      some (r1 ++ [x])
theorem un63 : Tryz.prog.underlying 63 = some (.slice 3) := by kernel_rfl
theorem ty115 : tyI Tryz.prog 115 = some ⟨[.other], false, [], 0, 8⟩ := by kernel_rfl
def link_Path (n : Nat) (m : TLoad) (x : Int) : Option ((List Int) × Bool) :=
  (module_CheckLoad n m).bind fun r1 =>
  bif (if (if (r1 != 0) = true then true else (decide (x < 0))) = true then true else (decide (x ≥ (m.Segments.length : Int)))) then
    some ([], false)
  else
    (walkM n m x).bind fun r2 =>
    some (r2, true)
def xlink_Path (n : Nat) : Go.AE.Fn := mkFn (A := TLoad × Int) (R := (List Int) × Bool) 26 [(true, [.slice 5, .slice 85, .slice 44, .int .i64]), (false, [.int .i64])] true (fun xs => ((⟨((cg (xs.getD 0 []) 0).toSl.map d_Int), ((cg (xs.getD 0 []) 1).toSl.map d_TReloc), ((cg (xs.getD 0 []) 2).toSl.map d_TSegment), (cg (xs.getD 0 []) 3).toInt⟩ : TLoad), (cg (xs.getD 1 []) 0).toInt)) (fun a => [[.slice (List.map e_Int a.1.Text), .slice (List.map e_TReloc a.1.Relocs), .slice (List.map e_TSegment a.1.Segments), .int a.1.Entry], [.int a.2]]) (fun a => link_Path n a.1 a.2) (fun r => [.c (.slice 3) (.slice (List.map e_Int r.1)), .c .bool (.bool r.2)]) (fun r => [])
namespace wlk
theorem z : type_of% (And.intro Go.Proofs.YtfhnelkbiihpiaaGreatDoor.z (And.intro un63 ty115)) := And.intro Go.Proofs.YtfhnelkbiihpiaaGreatDoor.z (And.intro un63 ty115)
theorem cwalk : ∀ (k : Nat) (m : TLoad) (x : Int) (r : List Int), walkM k m x = some r → CallsM Tryz.prog 51 [.dat (false, [.int .i64]) [.int x], .ref (.box 0 0), .ref (.box 1 0)] [.box [.fnv 51 [.box 0 0, .box 1 0]], .box [.c (.slice 5) (.slice (List.map e_Int m.Text)), .c (.slice 85) (.slice (List.map e_TReloc m.Relocs)), .c (.slice 44) (.slice (List.map e_TSegment m.Segments)), .c (.int .i64) (.int m.Entry)]]
    [.own 2 [.int .i64] 0 r.length] [.box [.fnv 51 [.box 0 0, .box 1 0]], .box [.c (.slice 5) (.slice (List.map e_Int m.Text)), .c (.slice 85) (.slice (List.map e_TReloc m.Relocs)), .c (.slice 44) (.slice (List.map e_TSegment m.Segments)), .c (.int .i64) (.int m.Entry)], .row 3 (List.map e_Int r)] := by
  intro k
  induction k with
  | zero => intro m x r H; cases H
  | succ k ih =>
    intro m x r H
    have hΓ := @g0 (Contract Tryz.prog)
    refine callsM_of (Tryz.f51.body.getD .skip) h00 Tryz.func51 rfl Tryz.call51 (Nat.le_of_ble_eq_true rfl) (Nat.le_of_ble_eq_true rfl) ?_
    simp only [walkM] at H
    simp only [Tryz.f51, Option.getD]
    refine rA ?_
    refine Sm.seqK fun K2 hK2 => ?_
    refine rA ?_
    refine cnd H (fun h5 H => ?_) (fun h5 H => ?_)
    · refine rA ?_
      refine Sm.ret ?_
      refine lf ?_
      obtain rfl := Option.some.inj H
      exact rtM [some 0, some 1, none] (h := by simp only [z, seval])
    refine Sm.skip ?_
    refine hK2 _ ?_
    obtain ⟨hg1, H⟩ := gd_some H
    obtain ⟨r1, hr1, H⟩ := bind_some H
    obtain ⟨hg2, H⟩ := gd_some H
    refine sP [0, 1, 2, 3, 4, 5, 6] 5 [7, 10, 11] [(none, [0], []), (none, [1], []), (none, [1], []), (none, [], []), (none, [], []), (none, [], []), (none, [], []), (none, [], []), (none, [], []), (none, [], [256]), (none, [], []), (none, [], [])] fun K hK => ?_
    iterate 7 refine oQ ?_
    refine opsQ0 ?_
    have q := hr1
    refine restL_node 7 [8] (nextX ?_ (nextQ ?_ trivial))
    · refine oMq (ih m _ r1 hr1) [0, 1] [224] ?_
      refine opsX0 ?_
      refine restL_node 8 [] (nextQ ?_ trivial)
      refine oQ ?_
      refine opsQ0 ?_
      refine restL_node 9 [] (nextQ ?_ trivial)
      refine oQ ?_
      refine opsQ0 ?_
      refine restL_node 10 [] (nextX ?_ trivial)
      refine oX ?_
      refine opsX0 ?_
      refine restL_node 11 [] (nextX ?_ trivial)
      refine oX ?_
      refine opsX0 ?_
      refine restL0 ?_
      refine hK _ ?_
      refine Sm.ret ?_
      refine lf ?_
      obtain rfl := Option.some.inj H
      exact rtM [some 0, some 1, some 272]
    · refine oQ ?_
      refine opsQ0 ?_
      refine restL_node 7 [9] (nextX ?_ (nextQ ?_ trivial))
      · refine oMq (ih m _ r1 hr1) [0, 1] [224] ?_
        refine opsX0 ?_
        refine restL_node 9 [] (nextQ ?_ trivial)
        refine oQ ?_
        refine opsQ0 ?_
        refine restL_node 10 [] (nextX ?_ trivial)
        refine oX ?_
        refine opsX0 ?_
        refine restL_node 11 [] (nextX ?_ trivial)
        refine oX ?_
        refine opsX0 ?_
        refine restL0 ?_
        refine hK _ ?_
        refine Sm.ret ?_
        refine lf ?_
        obtain rfl := Option.some.inj H
        exact rtM [some 0, some 1, some 272]
      · refine oQ ?_
        refine opsQ0 ?_
        refine restL_node 7 [] (nextX ?_ trivial)
        refine oMq (ih m _ r1 hr1) [0, 1] [224] ?_
        refine opsX0 ?_
        refine restL_node 10 [] (nextX ?_ trivial)
        refine oX ?_
        refine opsX0 ?_
        refine restL_node 11 [] (nextX ?_ trivial)
        refine oX ?_
        refine opsX0 ?_
        refine restL0 ?_
        refine hK _ ?_
        refine Sm.ret ?_
        refine lf ?_
        obtain rfl := Option.some.inj H
        exact rtM [some 0, some 1, some 272]
theorem clink_Path (n : Nat) : Contract Tryz.prog (xlink_Path n) := by
  have hΓ := g1 (cmodule_CheckLoad n) (@g0 (Contract Tryz.prog))
  refine contract_f (Tryz.f26.body.getD .skip) h00 Tryz.func26 rfl Tryz.call26 (by decide) (by intro h; cases h) ?_
  rintro ⟨m, x⟩ r H
  try dsimp only at H
  unfold link_Path at H
  simp only [Tryz.f26, Option.getD]
  refine rA ?_
  refine Sm.seqK fun K2 hK2 => ?_
  obtain ⟨r1, hr1, H⟩ := bind_some H
  have q := And.intro @xmodule_CheckLoad.eq_1 hr1
  refine rAq ?_
  refine cnd H (fun h5 H => ?_) (fun h5 H => ?_)
  · refine rA ?_
    refine Sm.ret ?_
    refine lf ?_
    obtain rfl := Option.some.inj H
    exact rt []
  refine Sm.skip ?_
  refine hK2 _ ?_
  refine rA ?_
  refine sX fun K5 hK5 => ?_
  refine oY ?_
  refine oX ?_
  refine opsX0 ?_
  refine hK5 _ ?_
  obtain ⟨r2, hr2, H⟩ := bind_some H
  have q := hr2
  refine sX fun K6 hK6 => ?_
  refine oX ?_
  refine oX ?_
  refine oMq (cwalk n m x r2 hr2) [96, 32] [384] ?_
  refine oX ?_
  refine oX ?_
  refine opsX0 ?_
  refine hK6 _ ?_
  refine Sm.ret ?_
  refine lf ?_
  obtain rfl := Option.some.inj H
  exact rt []
end wlk
theorem clink_Path (n : Nat) : Contract Tryz.prog (xlink_Path n) := wlk.clink_Path n
end Go.Proofs.YtfhnelkbiihpiaaGreatDoor
