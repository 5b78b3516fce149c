/- Text. -/
import Derived.Test.YtfhnelkbiihpiaaGreatDoorF
set_option maxHeartbeats 8000000
set_option linter.unusedVariables false
set_option linter.unusedSimpArgs false
set_option maxRecDepth 100000
namespace Go.Proofs.YtfhnelkbiihpiaaGreatDoor
open Go.AE
def law32_LinkTwice (n : Nat) (m : TLoad) (a : Int) (b : Int) : Option Bool :=
  (ref31_CheckLoad n m).bind fun r1 =>
  bif (if (if (if (if (!r1) = true then true else (decide (a < 0))) = true then true else (decide (b < 0))) = true then true else (decide (a > 16777215))) = true then true else (decide (b > (IntKind.wrap .i64 (16777215 - a))))) then
    (works n).bind fun r2 =>
    some r2
  else
    (link_Relocate n m 0).bind fun r3 =>
    (link_Relocate n m a).bind fun r4 =>
    (link_Relocate n m (IntKind.wrap .i64 (a + b))).bind fun r5 =>
    (link_Relocate n (⟨r4.1, m.Relocs, m.Segments, m.Entry⟩ : TLoad) b).bind fun r6 =>
    gd (((if (if (if (r3.2 == 0) = true then (r4.2 == 0) else false) = true then (r5.2 == 0) else false) = true then (r6.2 == 0) else false) = true → (law08_SameBytes n r3.1 m.Text).isSome = true) ∧ ((if (if (if (if (r3.2 == 0) = true then (r4.2 == 0) else false) = true then (r5.2 == 0) else false) = true then (r6.2 == 0) else false) = true then ((law08_SameBytes n r3.1 m.Text).getD default) else false) = true → (law08_SameBytes n r5.1 r6.1).isSome = true) ∧ ((if (if (if (if (if (r3.2 == 0) = true then (r4.2 == 0) else false) = true then (r5.2 == 0) else false) = true then (r6.2 == 0) else false) = true then ((law08_SameBytes n r3.1 m.Text).getD default) else false) = true then ((law08_SameBytes n r5.1 r6.1).getD default) else false) = true → (works n).isSome = true)) <|
    some (if (if (if (if (if (if (r3.2 == 0) = true then (r4.2 == 0) else false) = true then (r5.2 == 0) else false) = true then (r6.2 == 0) else false) = true then ((law08_SameBytes n r3.1 m.Text).getD default) else false) = true then ((law08_SameBytes n r5.1 r6.1).getD default) else false) = true then ((works n).getD default) else false)
def xlaw32_LinkTwice (n : Nat) : Go.AE.Fn := mkFn (A := TLoad × Int × Int) (R := Bool) 9 [(true, [.slice 5, .slice 85, .slice 44, .int .i64]), (false, [.int .i64]), (false, [.int .i64])] false (fun xs => ((⟨((cg (xs.getD 0 []) 0).toSl.map d_Int), ((cg (xs.getD 0 []) 1).toSl.map d_TReloc), ((cg (xs.getD 0 []) 2).toSl.map d_TSegment), (cg (xs.getD 0 []) 3).toInt⟩ : TLoad), (cg (xs.getD 1 []) 0).toInt, (cg (xs.getD 2 []) 0).toInt)) (fun a => [[.slice (List.map e_Int a.1.Text), .slice (List.map e_TReloc a.1.Relocs), .slice (List.map e_TSegment a.1.Segments), .int a.1.Entry], [.int a.2.1], [.int a.2.2]]) (fun a => law32_LinkTwice n a.1 a.2.1 a.2.2) (fun r => [.c .bool (.bool r)]) (fun r => [])
theorem claw32_LinkTwice (n : Nat) : Contract Tryz.prog (xlaw32_LinkTwice n) := by
  have hΓ := g1 (cref31_CheckLoad n) (g1 (cworks n) (g1 (clink_Relocate n) (g1 (claw08_SameBytes n) (@g0 (Contract Tryz.prog)))))
  refine contract_f (Tryz.f9.body.getD .skip) h00 Tryz.func9 rfl Tryz.call9 (by decide) (by intro _ r; exact ⟨rfl, by simp⟩) ?_
  rintro ⟨m, a, b⟩ r H
  try dsimp only at H
  unfold law32_LinkTwice at H
  simp only [Tryz.f9, Option.getD]
  refine rA ?_
  refine Sm.seqK fun K2 hK2 => ?_
  obtain ⟨r1, hr1, H⟩ := bind_some H
  have q := And.intro @xref31_CheckLoad.eq_1 hr1
  refine rAq ?_
  refine cnd H (fun h4 H => ?_) (fun h4 H => ?_)
  · obtain ⟨r2, hr2, H⟩ := bind_some H
    have q := And.intro @xref31_CheckLoad.eq_1 (And.intro @xworks.eq_1 hr2)
    refine rAq ?_
    refine Sm.ret ?_
    refine lf ?_
    obtain rfl := Option.some.inj H
    exact rt []
  refine Sm.skip ?_
  refine hK2 _ ?_
  obtain ⟨r3, hr3, H⟩ := bind_some H
  have q := And.intro @xref31_CheckLoad.eq_1 (And.intro @xworks.eq_1 (And.intro @xlink_Relocate.eq_1 hr3))
  refine rAq ?_
  obtain ⟨r4, hr4, H⟩ := bind_some H
  have q := And.intro @xref31_CheckLoad.eq_1 (And.intro @xworks.eq_1 (And.intro @xlink_Relocate.eq_1 hr4))
  refine rAq ?_
  obtain ⟨r5, hr5, H⟩ := bind_some H
  have q := And.intro @xref31_CheckLoad.eq_1 (And.intro @xworks.eq_1 (And.intro @xlink_Relocate.eq_1 hr5))
  refine rAq ?_
  refine rA ?_
  refine rA ?_
  obtain ⟨r6, hr6, H⟩ := bind_some H
  have q := And.intro @xref31_CheckLoad.eq_1 (And.intro @xworks.eq_1 (And.intro @xlink_Relocate.eq_1 hr6))
  refine rAq ?_
  obtain ⟨⟨hg13, hg14, hg15⟩, H⟩ := gd_some H
  have q := And.intro @xref31_CheckLoad.eq_1 (And.intro @xworks.eq_1 (And.intro @xlink_Relocate.eq_1 @xlaw08_SameBytes.eq_1))
  refine rAq ?_
  refine Sm.ret ?_
  refine lf ?_
  obtain rfl := Option.some.inj H
  exact rt []
end Go.Proofs.YtfhnelkbiihpiaaGreatDoor
