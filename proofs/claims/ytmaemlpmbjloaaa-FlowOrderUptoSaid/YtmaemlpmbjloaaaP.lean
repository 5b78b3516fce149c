/-
  ch. 36: the laws' functions answer true. No program in sight.
-/
import Derived.Test.YtmaemlpmbjloaaaF
import Derived.Test.YtmaemlpmbjloaaaAE21
set_option maxHeartbeats 8000000
set_option linter.unusedVariables false
set_option linter.unusedSimpArgs false
set_option maxRecDepth 100000
namespace Go.Proofs.Ytmaemlpmbjloaaa
open Go.AE

def N0 : Nat := 4194304

theorem works_true (n : Nat) (hn : N0 ≤ n) : law36_works n = some true := by
  obtain ⟨k, rfl⟩ : ∃ k, n = k + 4 := ⟨n - 4, by unfold N0 at hn; omega⟩
  rfl

theorem law_end (n : Nat) (hn : N0 ≤ n) (b : Bool) (hb : b = true) : gd ((b = true → (law36_works n).isSome = true)) (some (if b = true then ((law36_works n).getD default) else false)) = some true := by
  rw [works_true n hn, hb]; rfl

/-! ## Dispositions -/
def named (d : TDD) : Bool := d.Dsn != [] && !d.Dummy && d.Sysout == [] && !d.HasData
theorem named_eq (n : Nat) (d : TDD) : flow_named n d = some (named d) := by
  simp only [flow_named, named]
  cases (d.Dsn != []) <;> cases d.Dummy <;> cases (d.Sysout == []) <;> simp
theorem Named_eq (n : Nat) (d : TDD) : ref36_Named n d = some (named d) := by
  simp only [ref36_Named, named]
  cases (d.Dsn != []) <;> cases d.Dummy <;> cases (d.Sysout == []) <;> simp

def dDisp (x : Int) : Int := if x = 0 then 1 else x
def dOther (x : Int) : Int := if dDisp x = 1 then 2 else 1
def dNorm (x y : Int) : Int := if y = 0 then dOther x else y
def dAb (x y z : Int) : Int := if z = 0 then (if dNorm x y = 5 then dOther x else dNorm x y) else z
def dflt (d : TDD) : TDD := { d with Disp := dDisp d.Disp, Normal := dNorm d.Disp d.Normal, Abend := dAb d.Disp d.Normal d.Abend }

theorem Default_eq (n : Nat) (d : TDD) (h : d.Instream.length ≤ 2147483648) : flow_Default n d = some (dflt d) := by
  simp only [flow_Default, flow_Default_k1, flow_Default_k2, flow_Default_k3, flow_Default_k4, gd_pos _ h, dflt, dAb, dNorm, dOther, dDisp, cond_eq_ite, beq_iff_eq, bne_iff_ne, ne_eq]
  by_cases h1 : d.Disp = 0 <;> by_cases h2 : d.Disp = 1 <;> by_cases h3 : d.Normal = 0 <;> by_cases h4 : d.Abend = 0 <;> by_cases h5 : d.Normal = 5 <;> simp [h1, h2, h3, h4, h5]
theorem Disp_eq (n : Nat) (x y z : Int) : ref36_Dispositions n x y z = some (dDisp x, dNorm x y, dAb x y z) := by
  simp only [ref36_Dispositions, ref36_Dispositions_k1, ref36_Dispositions_k2, ref36_Dispositions_k3, ref36_Dispositions_k4, ref36_Dispositions_k5, dAb, dNorm, dOther, dDisp, cond_eq_ite, beq_iff_eq, bne_iff_ne, ne_eq]
  by_cases h1 : x = 0 <;> by_cases h2 : x = 1 <;> by_cases h3 : y = 0 <;> by_cases h4 : z = 0 <;> by_cases h5 : y = 5 <;> simp [h1, h2, h3, h4, h5]

def dMod (x : Int) (c : Bool) : Int := if x = 4 ∧ c = true then 1 else x
def after (d : TDD) (e : TStepEnd) (c : Bool) : Int :=
  if named d then (if e.Kind = 1 then dNorm (dMod d.Disp c) d.Normal else if e.Kind = 2 then dAb (dMod d.Disp c) d.Normal d.Abend else 0) else 0

theorem After_eq (n : Nat) (d : TDD) (e : TStepEnd) (c : Bool) (h : d.Instream.length ≤ 2147483648) : flow_After n d e c = some (after d e c) := by
  have hD : ∀ x : Int, flow_Default n (⟨d.Name, d.Dsn, d.Member, d.Gen, d.HasGen, x, d.Normal, d.Abend, d.Unit, d.Vol, d.Tracks, d.More, d.File, d.Dcb, d.Sysout, d.Instream, d.HasData, d.Dummy⟩ : TDD) = some (dflt ⟨d.Name, d.Dsn, d.Member, d.Gen, d.HasGen, x, d.Normal, d.Abend, d.Unit, d.Vol, d.Tracks, d.More, d.File, d.Dcb, d.Sysout, d.Instream, d.HasData, d.Dummy⟩) := fun x => Default_eq n _ h
  simp only [flow_After, flow_After_k1, named_eq, hD, Option.bind_some, dflt, after, dMod, cond_eq_ite, beq_iff_eq, bne_iff_ne, ne_eq]
  cases named d <;> by_cases h1 : d.Disp = 4 <;> cases c <;> by_cases h2 : e.Kind = 1 <;> by_cases h3 : e.Kind = 2 <;> simp [h1, h2, h3]
theorem RAfter_eq (n : Nat) (d : TDD) (e : TStepEnd) (c : Bool) : ref36_After n d e c = some (after d e c) := by
  simp only [ref36_After, ref36_After_k1, Named_eq, Disp_eq, Option.bind_some, after, dMod, cond_eq_ite, beq_iff_eq, bne_iff_ne, ne_eq]
  cases named d <;> by_cases h1 : d.Disp = 4 <;> cases c <;> by_cases h2 : e.Kind = 1 <;> by_cases h3 : e.Kind = 2 <;> simp [h1, h2, h3]

theorem After_true (n : Nat) (hn : N0 ≤ n) (d : TDD) (e : TStepEnd) (c : Bool) (h : d.Instream.length ≤ 2147483648) : law36_FlowAfter n d e c = some true := by
  simp only [law36_FlowAfter, After_eq n d e c h, RAfter_eq, Option.bind_some]
  exact law_end n hn _ (by simp)

/-! ## Two DDs -/
theorem Rest_eq (n : Nat) (a b : TDD) (h : a.Instream.length ≤ 2097152) (hn : N0 ≤ n) (hi : a.Instream = b.Instream) (hr : (law36_Rest_k1 n a b) = some true) : law36_Rest n a b = some true := by
  have key : ∀ k : Nat, k ≤ a.Instream.length → ∀ m, a.Instream.length - k < m → loopF (fun (x : Int) => law36_Rest_b2 n a b x) m (k : Int) = some (.inr ()) := by
    intro k
    generalize hj : a.Instream.length - k = j
    induction j generalizing k with
    | zero =>
      intro hk m hm
      obtain ⟨m, rfl⟩ : ∃ q, m = q + 1 := ⟨m - 1, by omega⟩
      refine loopF_done ?_
      simp only [law36_Rest_b2]
      have : decide ((k : Int) < (a.Instream.length : Int)) = false := by simp; omega
      rw [this]; rfl
    | succ j ih =>
      intro hk m hm
      obtain ⟨m, rfl⟩ : ∃ q, m = q + 1 := ⟨m - 1, by omega⟩
      have hlt : k < a.Instream.length := by omega
      have e : law36_Rest_b2 n a b (k : Int) = some (.inl ((k + 1 : Nat) : Int)) := by
        simp only [law36_Rest_b2]
        have : decide ((k : Int) < (a.Instream.length : Int)) = true := by simp; omega
        rw [this, cond_true, gd_pos _ (by rw [← hi]; omega), ← hi]
        simp only [bne_self_eq_false, cond_false]
        rw [show ((k : Int) + 1) = ((k + 1 : Nat) : Int) by omega, w64_id (by omega) (by omega)]
      rw [loopF_step e]
      exact ih (k + 1) (by omega) (by omega) m (by omega)
  have hl : a.Instream.length = b.Instream.length := by rw [hi]
  simp only [law36_Rest]
  have hne : ((a.Instream.length : Int) != (b.Instream.length : Int)) = false := by simp [hl]
  rw [hne]
  simp only [cond_false]
  have := key 0 (by omega) n (by unfold N0 at hn; omega)
  rw [show ((0 : Nat) : Int) = 0 from rfl] at this
  rw [this]
  exact hr

theorem dflt_idem (d : TDD) : dflt (dflt d) = dflt d := by
  have h1 : dDisp (dDisp d.Disp) = dDisp d.Disp := by unfold dDisp; (repeat' split) <;> simp_all
  have h2 : dNorm (dDisp d.Disp) (dNorm d.Disp d.Normal) = dNorm d.Disp d.Normal := by
    unfold dNorm dOther; rw [h1]; (repeat' split) <;> simp_all
  have h3 : dAb (dDisp d.Disp) (dNorm d.Disp d.Normal) (dAb d.Disp d.Normal d.Abend) = dAb d.Disp d.Normal d.Abend := by
    unfold dAb; rw [h2]; unfold dOther dNorm dOther; rw [h1]; (repeat' split) <;> simp_all
  simp only [dflt, h1, h2, h3]
theorem dflt_ne (d : TDD) : (dflt d).Disp ≠ 0 ∧ (dflt d).Normal ≠ 0 ∧ (dflt d).Abend ≠ 0 := by
  simp only [dflt, dDisp, dNorm, dOther, dAb]
  refine ⟨?_, ?_, ?_⟩ <;> (repeat' split) <;> simp_all

theorem Twice_true (n : Nat) (hn : N0 ≤ n) (d : TDD) (h : d.Instream.length ≤ 2097152) : law36_FlowTwice n d = some true := by
  obtain ⟨h1, h2, h3⟩ := dflt_ne d
  have hR : law36_Rest n (dflt d) (dflt d) = some true := Rest_eq n _ _ h hn rfl (by simp [law36_Rest_k1])
  simp only [law36_FlowTwice, Default_eq n d (by omega), Default_eq n (dflt d) (show d.Instream.length ≤ 2147483648 by omega), Option.bind_some, dflt_idem, hR, works_true n hn]
  simp [h1, h2, h3, gd]

theorem Excl_eq (n : Nat) (d : TDD) : flow_Exclusive n d = some (named d && d.Disp != 3) := by
  simp only [flow_Exclusive, named_eq, Option.bind_some]
  cases named d <;> simp
theorem RExcl_eq (n : Nat) (d : TDD) : ref36_Exclusive n d = some (named d && d.Disp != 3) := by
  simp only [ref36_Exclusive, Named_eq, Disp_eq, Option.bind_some, dDisp]
  by_cases h : d.Disp = 0 <;> cases named d <;> simp [h]
theorem Writes_eq (n : Nat) (d : TDD) : flow_Writes n d = some (named d && d.Disp != 3) := by
  simp only [flow_Writes, Excl_eq, Option.bind_some]

theorem Defaults_true (n : Nat) (hn : N0 ≤ n) (d : TDD) (h : d.Instream.length ≤ 2097152) : law36_FlowDefaults n d = some true := by
  have hR : law36_Rest n (dflt d) d = some true := Rest_eq n _ _ h hn rfl (by simp [law36_Rest_k1, dflt])
  simp only [law36_FlowDefaults, Default_eq n d (by omega), Disp_eq, Option.bind_some, hR, works_true n hn, Excl_eq, RExcl_eq, Writes_eq]
  simp [dflt, gd]

/-! ## Tests -/
def test (c : TCond) (code : Int) : Bool :=
  if c.Op = 1 then decide (c.Code > code) else if c.Op = 2 then decide (c.Code ≥ code) else if c.Op = 3 then c.Code == code else if c.Op = 4 then c.Code != code else if c.Op = 5 then decide (c.Code < code) else if c.Op = 6 then decide (c.Code ≤ code) else false
theorem Test_eq (n : Nat) (c : TCond) (code : Int) : flow_Test n c code = some (test c code) := by
  simp only [flow_Test, test, cond_eq_ite, beq_iff_eq]
  (repeat' split) <;> simp_all
theorem RTest_eq (n : Nat) (c : TCond) (code : Int) : ref36_Test n c code = some (test c code) := by
  simp only [ref36_Test, test, cond_eq_ite, beq_iff_eq]
  (repeat' split) <;> simp_all

def stopP (e : TStepEnd) (c : TCond) : Bool := c.Step == [] && test c e.Code
def stop (l : List TCond) (e : TStepEnd) : Bool := e.Kind == 1 && l.any (stopP e)

theorem succ_w {k : Nat} (h : k < 4194304) : IntKind.wrap .i64 ((k : Int) + 1) = ((k + 1 : Nat) : Int) := by
  rw [show ((k : Int) + 1) = ((k + 1 : Nat) : Int) by omega, w64_id (by omega) (by omega)]

theorem Stop_eq (n : Nat) (l : List TCond) (e : TStepEnd) (hl : l.length ≤ 2097152) (hn : N0 ≤ n) : flow_Stop n l e = some (stop l e) := by
  have hL : loopF (fun (x : Int) => flow_Stop_b2 n e l (l.length : Int) x) n 0 = (some (if l.any (stopP e) then .inl true else .inr ()) : Option (Bool ⊕ Unit)) := by
    refine loop_any (Y := Bool ⊕ Unit) l (stopP e) (.inl true) (.inr ()) (fun k hk => ?_) ?_ (by unfold N0 at hn; omega)
    · simp only [flow_Stop_b2, Test_eq, Int.toNat_natCast, gt_lt hk, succ_w (show k < 4194304 by omega)]
      rw [show decide ((k : Int) < (l.length : Int)) = true by simp; omega, cond_true, gd_pos _ (by omega)]
      simp only [Option.isSome_some, implies_true, gd, if_true, Option.getD_some, stopP]
      by_cases h1 : l[k].Step = [] <;> by_cases h2 : test l[k] e.Code = true <;> simp [h1, h2, cond_eq_ite]
    · simp only [flow_Stop_b2]
      rw [show decide ((l.length : Int) < (l.length : Int)) = false by simp]; rfl
  simp only [flow_Stop, hL, Option.bind_some, stop, flow_Stop_k1]
  by_cases h1 : e.Kind = 1 <;> cases l.any (stopP e) <;> simp [h1, cond_eq_ite]

theorem RStop_eq (n : Nat) (l : List TCond) (e : TStepEnd) (hl : l.length ≤ 2097152) (hn : N0 ≤ n) : ref36_Stop n l e = some (stop l e) := by
  have hL : loopF (fun (x : Int) => ref36_Stop_b2 n l e x) n 0 = (some (if l.any (fun c => e.Kind == 1 && stopP e c) then .inl true else .inr ()) : Option (Bool ⊕ Unit)) := by
    refine loop_any (Y := Bool ⊕ Unit) l (fun c => e.Kind == 1 && stopP e c) (.inl true) (.inr ()) (fun k hk => ?_) ?_ (by unfold N0 at hn; omega)
    · simp only [ref36_Stop_b2, RTest_eq, Int.toNat_natCast, gt_lt hk, succ_w (show k < 4194304 by omega)]
      rw [show decide ((k : Int) < (l.length : Int)) = true by simp; omega, cond_true]
      have hg : 0 ≤ (k : Int) ∧ (k : Int) < (l.length : Int) := by omega
      simp only [Option.isSome_some, implies_true, gd, hg, and_self, if_true, Option.getD_some, stopP]
      by_cases h0 : e.Kind = 1 <;> by_cases h1 : l[k].Step = [] <;> by_cases h2 : test l[k] e.Code = true <;> simp [h0, h1, h2, cond_eq_ite]
    · simp only [ref36_Stop_b2]
      rw [show decide ((l.length : Int) < (l.length : Int)) = false by simp]; rfl
  simp only [ref36_Stop, hL, Option.bind_some, stop, ref36_Stop_k1]
  cases h : e.Kind == 1
  · simp
  · simp only [Bool.true_and]
    by_cases h2 : l.any (stopP e) = true
    · simp [h2]
    · simp [h2]

theorem Tests_true (n : Nat) (hn : N0 ≤ n) (l : List TCond) (e : TStepEnd) (hl : l.length ≤ 2097152) : law36_FlowTests n l e = some true := by
  have hL : loopF (fun (x : Int) => law36_FlowTests_b2 n l e x) n 0 = (some (if l.any (fun _ => false) then .inl false else .inr ()) : Option (Bool ⊕ Unit)) := by
    refine loop_any (Y := Bool ⊕ Unit) l (fun _ => false) (.inl false) (.inr ()) (fun k hk => ?_) ?_ (by unfold N0 at hn; omega)
    · simp only [law36_FlowTests_b2, Test_eq, RTest_eq, Int.toNat_natCast, gt_lt hk, succ_w (show k < 4194304 by omega)]
      rw [show decide ((k : Int) < (l.length : Int)) = true by simp; omega, cond_true, gd_pos _ (by omega)]
      have hg : 0 ≤ (k : Int) ∧ (k : Int) < (l.length : Int) := by omega
      simp [gd, hg]
    · simp only [law36_FlowTests_b2]
      rw [show decide ((l.length : Int) < (l.length : Int)) = false by simp]; rfl
  have e0 : l.any (fun _ => false) = false := by simp
  rw [e0] at hL
  simp only [law36_FlowTests, hL, Option.bind_some, law36_FlowTests_k1, Stop_eq n l e hl hn, RStop_eq n l e hl hn]
  simp only [Bool.false_eq_true, if_false, law36_FlowTests_k1, Stop_eq n l e hl hn, RStop_eq n l e hl hn, Option.bind_some]
  exact law_end n hn _ (by simp)

/-! ## The laws -/
theorem p_law36_FlowTests (n : Nat) (hn : N0 ≤ n) (x0 : List TCond) (x1 : TStepEnd) (hc : ∀ i, i < 2 → CanL Try.prog (([(false, [.slice 27]), (true, [.int .i64, .int .i64, .int .i64, .int .i64])] : List (Bool × List Kd)).getD i (false, [])).2 (([[.slice (List.map e_TCond x0)], [.int x1.Kind, .int x1.Code, .int x1.Ins, .int x1.Ios]] : List (List C)).getD i []))
    (hb : cbss [[.slice (List.map e_TCond x0)], [.int x1.Kind, .int x1.Code, .int x1.Ins, .int x1.Ios]] ≤ 2097152) : law36_FlowTests n x0 x1 = some true := by
  exact Tests_true n hn x0 x1 (len_of_cbss (f := e_TCond) hb (.head _) (.head _))
theorem p_law36_FlowAfter (n : Nat) (hn : N0 ≤ n) (x0 : TDD) (x1 : TStepEnd) (x2 : Bool) (hc : ∀ i, i < 3 → CanL Try.prog (([(true, [.str, .str, .str, .int .i64, .bool, .int .i64, .int .i64, .int .i64, .int .i64, .str, .int .i64, .int .i64, .int .i64, .int .i64, .int .i64, .bool, .bool, .int .i64, .int .i64, .int .i64, .int .i64, .str, .slice 9, .bool, .bool]), (true, [.int .i64, .int .i64, .int .i64, .int .i64]), (false, [.bool])] : List (Bool × List Kd)).getD i (false, [])).2 (([[.str x0.Name, .str x0.Dsn, .str x0.Member, .int x0.Gen, .bool x0.HasGen, .int x0.Disp, .int x0.Normal, .int x0.Abend, .int x0.Unit, .str x0.Vol, .int x0.Tracks, .int x0.More, .int x0.File, .int x0.Dcb.Org, .int x0.Dcb.Format, .bool x0.Dcb.Blocked, .bool x0.Dcb.Asa, .int x0.Dcb.Lrecl, .int x0.Dcb.Blksize, .int x0.Dcb.KeyLen, .int x0.Dcb.KeyPos, .str x0.Sysout, .slice (List.map e_Str x0.Instream), .bool x0.HasData, .bool x0.Dummy], [.int x1.Kind, .int x1.Code, .int x1.Ins, .int x1.Ios], [.bool x2]] : List (List C)).getD i []))
    (hb : cbss [[.str x0.Name, .str x0.Dsn, .str x0.Member, .int x0.Gen, .bool x0.HasGen, .int x0.Disp, .int x0.Normal, .int x0.Abend, .int x0.Unit, .str x0.Vol, .int x0.Tracks, .int x0.More, .int x0.File, .int x0.Dcb.Org, .int x0.Dcb.Format, .bool x0.Dcb.Blocked, .bool x0.Dcb.Asa, .int x0.Dcb.Lrecl, .int x0.Dcb.Blksize, .int x0.Dcb.KeyLen, .int x0.Dcb.KeyPos, .str x0.Sysout, .slice (List.map e_Str x0.Instream), .bool x0.HasData, .bool x0.Dummy], [.int x1.Kind, .int x1.Code, .int x1.Ins, .int x1.Ios], [.bool x2]] ≤ 2097152) : law36_FlowAfter n x0 x1 x2 = some true := by
  exact After_true n hn x0 x1 x2 (Nat.le_trans (len_of_cbss (f := e_Str) (l := x0.Instream) hb (by simp only [List.mem_cons, true_or, or_true]) (.head _)) (by decide))
theorem p_law36_FlowDefaults (n : Nat) (hn : N0 ≤ n) (x0 : TDD) (hc : ∀ i, i < 1 → CanL Try.prog (([(true, [.str, .str, .str, .int .i64, .bool, .int .i64, .int .i64, .int .i64, .int .i64, .str, .int .i64, .int .i64, .int .i64, .int .i64, .int .i64, .bool, .bool, .int .i64, .int .i64, .int .i64, .int .i64, .str, .slice 9, .bool, .bool])] : List (Bool × List Kd)).getD i (false, [])).2 (([[.str x0.Name, .str x0.Dsn, .str x0.Member, .int x0.Gen, .bool x0.HasGen, .int x0.Disp, .int x0.Normal, .int x0.Abend, .int x0.Unit, .str x0.Vol, .int x0.Tracks, .int x0.More, .int x0.File, .int x0.Dcb.Org, .int x0.Dcb.Format, .bool x0.Dcb.Blocked, .bool x0.Dcb.Asa, .int x0.Dcb.Lrecl, .int x0.Dcb.Blksize, .int x0.Dcb.KeyLen, .int x0.Dcb.KeyPos, .str x0.Sysout, .slice (List.map e_Str x0.Instream), .bool x0.HasData, .bool x0.Dummy]] : List (List C)).getD i []))
    (hb : cbss [[.str x0.Name, .str x0.Dsn, .str x0.Member, .int x0.Gen, .bool x0.HasGen, .int x0.Disp, .int x0.Normal, .int x0.Abend, .int x0.Unit, .str x0.Vol, .int x0.Tracks, .int x0.More, .int x0.File, .int x0.Dcb.Org, .int x0.Dcb.Format, .bool x0.Dcb.Blocked, .bool x0.Dcb.Asa, .int x0.Dcb.Lrecl, .int x0.Dcb.Blksize, .int x0.Dcb.KeyLen, .int x0.Dcb.KeyPos, .str x0.Sysout, .slice (List.map e_Str x0.Instream), .bool x0.HasData, .bool x0.Dummy]] ≤ 2097152) : law36_FlowDefaults n x0 = some true := by
  exact Defaults_true n hn x0 (len_of_cbss (f := e_Str) (l := x0.Instream) hb (by simp only [List.mem_cons, true_or, or_true]) (.head _))
theorem p_law36_FlowTwice (n : Nat) (hn : N0 ≤ n) (x0 : TDD) (hc : ∀ i, i < 1 → CanL Try.prog (([(true, [.str, .str, .str, .int .i64, .bool, .int .i64, .int .i64, .int .i64, .int .i64, .str, .int .i64, .int .i64, .int .i64, .int .i64, .int .i64, .bool, .bool, .int .i64, .int .i64, .int .i64, .int .i64, .str, .slice 9, .bool, .bool])] : List (Bool × List Kd)).getD i (false, [])).2 (([[.str x0.Name, .str x0.Dsn, .str x0.Member, .int x0.Gen, .bool x0.HasGen, .int x0.Disp, .int x0.Normal, .int x0.Abend, .int x0.Unit, .str x0.Vol, .int x0.Tracks, .int x0.More, .int x0.File, .int x0.Dcb.Org, .int x0.Dcb.Format, .bool x0.Dcb.Blocked, .bool x0.Dcb.Asa, .int x0.Dcb.Lrecl, .int x0.Dcb.Blksize, .int x0.Dcb.KeyLen, .int x0.Dcb.KeyPos, .str x0.Sysout, .slice (List.map e_Str x0.Instream), .bool x0.HasData, .bool x0.Dummy]] : List (List C)).getD i []))
    (hb : cbss [[.str x0.Name, .str x0.Dsn, .str x0.Member, .int x0.Gen, .bool x0.HasGen, .int x0.Disp, .int x0.Normal, .int x0.Abend, .int x0.Unit, .str x0.Vol, .int x0.Tracks, .int x0.More, .int x0.File, .int x0.Dcb.Org, .int x0.Dcb.Format, .bool x0.Dcb.Blocked, .bool x0.Dcb.Asa, .int x0.Dcb.Lrecl, .int x0.Dcb.Blksize, .int x0.Dcb.KeyLen, .int x0.Dcb.KeyPos, .str x0.Sysout, .slice (List.map e_Str x0.Instream), .bool x0.HasData, .bool x0.Dummy]] ≤ 2097152) : law36_FlowTwice n x0 = some true := by
  exact Twice_true n hn x0 (len_of_cbss (f := e_Str) (l := x0.Instream) hb (by simp only [List.mem_cons, true_or, or_true]) (.head _))
end Go.Proofs.Ytmaemlpmbjloaaa
