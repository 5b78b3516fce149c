/- Text. -/
import Derived.Test.YtfhnelkbiihpiaaGreatDoorW
set_option maxHeartbeats 8000000
set_option linter.unusedVariables false
set_option linter.unusedSimpArgs false
set_option maxRecDepth 100000
namespace Go.Proofs.YtfhnelkbiihpiaaGreatDoor
open Go.AE
abbrev law32_LinkMoves_s1 (b : List Int) (e : Int) (c : List Int) (f : Int) (ok : Bool) (is : Bool) : S := stB [(7, .c (.slice 5) (.slice (List.map e_Int b))), (8, .c (.int .i64) (.int e)), (9, .c (.slice 5) (.slice (List.map e_Int c))), (10, .c (.int .i64) (.int f)), (12, .c .bool (.bool ok)), (14, .c .bool (.bool is))] []
def law32_LinkMoves_k1 (n : Nat) (b : List Int) (e : Int) (c : List Int) (f : Int) (ok : Bool) (is : Bool) : Option Bool :=
  gd (((e == f) = true → (law08_SameBytes n b c).isSome = true) ∧ ((if (if (e == f) = true then ((law08_SameBytes n b c).getD default) else false) = true then (ok == is) else false) = true → (works n).isSome = true)) <|
  some (if (if (if (e == f) = true then ((law08_SameBytes n b c).getD default) else false) = true then (ok == is) else false) = true then ((works n).getD default) else false)
abbrev law32_LinkMoves_t2 (b_1 : List Int) (e_1 : Int) (c_1 : List Int) (f_1 : Int) (p : List Int) (ok_1 : Bool) (q : List Int) (is_1 : Bool) (i : Int) : S := stB [(7, .c (.slice 5) (.slice (List.map e_Int b_1))), (8, .c (.int .i64) (.int e_1)), (9, .c (.slice 5) (.slice (List.map e_Int c_1))), (10, .c (.int .i64) (.int f_1)), (11, .c (.slice 3) (.slice (List.map e_Int p))), (12, .c .bool (.bool ok_1)), (13, .own 9001 [.int .i64] 0 q.length), (14, .c .bool (.bool is_1)), (15, .c (.int .i64) (.int i))] [(9001, .row 3 (List.map e_Int q))]
def law32_LinkMoves_b2 (n : Nat) (b_1 : List Int) (e_1 : Int) (c_1 : List Int) (f_1 : Int) (p : List Int) (ok_1 : Bool) (q : List Int) (is_1 : Bool) (i : Int) : Option ((Int) ⊕ (((Bool) ⊕ (Unit)))) :=
  bif (decide (i < (p.length : Int))) then
    gd ((0 ≤ i ∧ i < (p.length : Int)) ∧ (0 ≤ i ∧ i < (q.length : Int)) ∧ (Int.toNat i) < q.length) <|
    bif ((gt p (Int.toNat i)) != (gt q (Int.toNat i))) then
      some (.inr (.inl false))
    else
      some (.inl (IntKind.wrap .i64 (i + 1)))
  else
    some (.inr (.inr ()))
def law32_LinkMoves (n : Nat) (m : TLoad) (at_ : Int) (n_ : Int) : Option Bool :=
  (link_Relocate n m at_).bind fun r1 =>
  (ref32_Relocate n m at_).bind fun r2 =>
  (link_Path n m n_).bind fun r3 =>
  (ref32_Path n m n_).bind fun r4 =>
  bif ((r3.1.length : Int) != ((r4.1.length : Nat) : Int)) then
    some false
  else
    (loopF (fun (x : Int) => law32_LinkMoves_b2 n r1.1 r1.2 r2.1 r2.2 r3.1 r3.2 r4.1 r4.2 x) n 0).bind fun y14 =>
    match y14 with
    | .inl vv =>
      some vv
    | .inr vv =>
      law32_LinkMoves_k1 n r1.1 r1.2 r2.1 r2.2 r3.2 r4.2
def xlaw32_LinkMoves (n : Nat) : Go.AE.Fn := mkFn (A := TLoad × Int × Int) (R := Bool) 10 [(true, [.slice 5, .slice 85, .slice 44, .int .i64]), (false, [.int .i64]), (false, [.int .i64])] false (fun xs => ((⟨((cg (xs.getD 0 []) 0).toSl.map d_Int), ((cg (xs.getD 0 []) 1).toSl.map d_TReloc), ((cg (xs.getD 0 []) 2).toSl.map d_TSegment), (cg (xs.getD 0 []) 3).toInt⟩ : TLoad), (cg (xs.getD 1 []) 0).toInt, (cg (xs.getD 2 []) 0).toInt)) (fun a => [[.slice (List.map e_Int a.1.Text), .slice (List.map e_TReloc a.1.Relocs), .slice (List.map e_TSegment a.1.Segments), .int a.1.Entry], [.int a.2.1], [.int a.2.2]]) (fun a => law32_LinkMoves n a.1 a.2.1 a.2.2) (fun r => [.c .bool (.bool r)]) (fun r => [])
theorem claw32_LinkMoves (n : Nat) : Contract Tryz.prog (xlaw32_LinkMoves n) := by
  have hΓ := g1 (clink_Relocate n) (g1 (cref32_Relocate n) (g1 (clink_Path n) (g1 (cref32_Path n) (g1 (claw08_SameBytes n) (g1 (cworks n) (@g0 (Contract Tryz.prog)))))))
  refine contract_f (Tryz.f10.body.getD .skip) h00 Tryz.func10 rfl Tryz.call10 (by decide) (by intro _ r; exact ⟨rfl, by simp⟩) ?_
  rintro ⟨m, at_, n_⟩ r H
  try dsimp only at H
  unfold law32_LinkMoves at H
  simp only [Tryz.f10, Option.getD]
  refine rA ?_
  obtain ⟨r1, hr1, H⟩ := bind_some H
  have q := And.intro @xlink_Relocate.eq_1 hr1
  refine rAq ?_
  obtain ⟨r2, hr2, H⟩ := bind_some H
  have q := And.intro @xlink_Relocate.eq_1 (And.intro @xref32_Relocate.eq_1 hr2)
  refine rAq ?_
  obtain ⟨r3, hr3, H⟩ := bind_some H
  have q := And.intro @xlink_Relocate.eq_1 (And.intro @xref32_Relocate.eq_1 (And.intro @xlink_Path.eq_1 hr3))
  refine rAq ?_
  obtain ⟨r4, hr4, H⟩ := bind_some H
  have q := And.intro @xlink_Relocate.eq_1 (And.intro @xref32_Relocate.eq_1 (And.intro @xlink_Path.eq_1 (And.intro @xref32_Path.eq_1 hr4)))
  refine rAq ?_
  refine Sm.seqK fun K6 hK6 => ?_
  refine rA ?_
  refine cnd H (fun h8 H => ?_) (fun h8 H => ?_)
  · refine rA ?_
    refine Sm.ret ?_
    refine lf ?_
    obtain rfl := Option.some.inj H
    exact rt []
  refine Sm.skip ?_
  refine hK6 _ ?_
  refine Sm.cut (fun (x : (List Int) × Int × (List Int) × Int × Bool × Bool) => law32_LinkMoves_s1 x.1 x.2.1 x.2.2.1 x.2.2.2.1 x.2.2.2.2.1 x.2.2.2.2.2) (fun x => law32_LinkMoves_k1 n x.1 x.2.1 x.2.2.1 x.2.2.2.1 x.2.2.2.2.1 x.2.2.2.2.2 = some r) ?_ ?_
  · refine rA ?_
    refine Sm.block ?_
    obtain ⟨y14, hy14, Ho14⟩ := bind_some H
    refine Sm.loopB _ (fun x => law32_LinkMoves_t2 r1.1 r1.2 r2.1 r2.2 r3.1 r3.2 r4.1 r4.2 x) hy14 (wb [some 592]) ?_
    rintro i z14 H
    try dsimp only at H
    unfold law32_LinkMoves_b2 at H
    refine Sm.st (law32_LinkMoves_t2.eq_1 ..) ?_
    refine Sm.seqK fun K15 hK15 => ?_
    refine rA ?_
    refine cnd H (fun h17 H => ?_) (fun h17 H => ?_)
    · refine Sm.skip ?_
      refine hK15 _ ?_
      refine Sm.seqK fun K18 hK18 => ?_
      refine Sm.block ?_
      obtain ⟨⟨hg22, hg23, hg24⟩, H⟩ := gd_some H
      refine rD ?_
      refine cnd H (fun h20 H => ?_) (fun h20 H => ?_)
      · refine rA ?_
        refine Sm.ret ?_
        refine lf ?_
        refine lx H fun hyy => ?_
        subst hyy
        have H := Ho14
        try dsimp only at H
        refine lf ?_
        obtain rfl := Option.some.inj H
        exact rt []
      refine Sm.skip ?_
      refine hK18 _ ?_
      refine eA ?_
      refine lf ?_
      exact nx H (wb [some 9001])
    refine Sm.exit ?_
    refine lf ?_
    refine lx H fun hyy => ?_
    subst hyy
    have H := Ho14
    try dsimp only at H
    refine lf ?_
    exact ⟨(r1.1, r1.2, r2.1, r2.2, r3.2, r4.2), H, wb []⟩
  rintro ⟨b, e, c, f, ok, is⟩ H
  try dsimp only at H
  unfold law32_LinkMoves_k1 at H
  refine Sm.st (law32_LinkMoves_s1.eq_1 ..) ?_
  obtain ⟨⟨hg11, hg12⟩, H⟩ := gd_some H
  have q := And.intro @xlink_Relocate.eq_1 (And.intro @xref32_Relocate.eq_1 (And.intro @xlink_Path.eq_1 (And.intro @xref32_Path.eq_1 (And.intro @xlaw08_SameBytes.eq_1 @xworks.eq_1))))
  refine rAq ?_
  refine Sm.ret ?_
  refine lf ?_
  obtain rfl := Option.some.inj H
  exact rt []
end Go.Proofs.YtfhnelkbiihpiaaGreatDoor
