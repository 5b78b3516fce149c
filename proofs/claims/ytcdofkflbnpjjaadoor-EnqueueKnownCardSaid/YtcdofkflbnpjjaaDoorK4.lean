/-
  The executor's operations: what they say, the program's operations do. First those that leave the blocks alone.
-/
import Derived.Test.YtcdofkflbnpjjaaDoorK3
import Derived.Laws.StructEq
import Derived.MapKept
set_option linter.unusedVariables false
set_option linter.unusedSimpArgs false
namespace Go.KX
open Go.RowKit (Below)
variable {P : Program} {F : List TypeId} {ρ : Ren} {w0 w : World} {hp : T KO}

/-! ## Constants, operands -/
theorem kc1_sound {v : Value} {k : KV} (h : kc1 v = some k) : VR ρ k v := by
  unfold kc1 at h
  split at h <;> first
    | (simp only [Option.some.injEq] at h; subst h; constructor; done)
    | (simp only [Option.some.injEq] at h; subst h; exact .str _ _ rfl)
    | cases h

theorem omap_VRs {f : Value → Option KV} (hf : ∀ v k, f v = some k → VR ρ k v) : ∀ {l : List Value} {xs : List KV}, omap f l = some xs → VRs ρ xs l
  | [], xs, h => by simp only [omap, Option.some.injEq] at h; subst h; exact .nil
  | v :: l, xs, h => by
    simp only [omap] at h
    split at h
    · rename_i b hb
      split at h
      · rename_i bs hbs
        simp only [Option.some.injEq] at h; subst h
        exact .cons (hf _ _ hb) (omap_VRs hf hbs)
      · cases h
    · cases h

theorem kc_sound {v : Value} {k : KV} (h : kc v = some k) : VR ρ k v := by
  unfold kc at h
  split at h
  · rename_i cs
    cases hm : omap kc1 cs.toList with
    | none => simp [hm] at h
    | some xs =>
      simp only [hm, Option.map_some, Option.some.injEq] at h; subst h
      obtain ⟨h1, h2⟩ := omap_VRs (ρ := ρ) (fun _ _ => kc1_sound) hm
      exact .agg _ _ h1 h2
  · exact kc1_sound h

theorem kopd_sound {n : Nat} {s : KS} {a : Act} (h : TR ρ n s.tm a.tmps) {x : Operand} {k : KV} (hk : kopd s x = some k) : VR ρ k (a.eval x) := by
  cases x with
  | tmp t =>
    have ht := h.2 t
    simp only [kopd] at hk
    cases hg : s.tm.get t with
    | some v => rw [hg] at hk ht; simp only [Option.some.injEq, Option.getD_some] at hk ht; subst hk; exact ht
    | none => rw [hg] at hk ht; simp only [Option.some.injEq, Option.getD_none] at hk ht; subst hk; exact ht
  | const v => exact kc_sound hk
  | global g => simp [kopd] at hk
  | func f =>
    simp only [kopd, Option.some.injEq] at hk; subst hk
    exact .fn f [] [] #[] #[] rfl (fun i x y h => by simp at h) rfl (fun i x y h => by simp at h)

theorem omap_opd {v : Operand → Option KV} {e : Operand → Value} : ∀ {l : List Operand} {xs : List KV}, (∀ x ∈ l, ∀ k, v x = some k → VR ρ k (e x)) → omap v l = some xs → VRs ρ xs (l.map e)
  | [], xs, hf, h => by simp only [omap, Option.some.injEq] at h; subst h; exact .nil
  | a :: l, xs, hf, h => by
    simp only [omap] at h
    split at h
    · rename_i b hb
      split at h
      · rename_i bs hbs
        simp only [Option.some.injEq] at h; subst h
        exact .cons (hf a (by simp) _ hb) (omap_opd (fun x hx => hf x (by simp [hx])) hbs)
      · cases h
    · cases h

/-! ## Arithmetic -/
theorem kintBin_sound {op : BinOp} {k : IntKind} {a b : Int} {r : KV} (t : TypeId) (h : kintBin op k a b = some r) : ∃ u, (binOp op t (.int k a) (.int k b)).run P w = .ok u w ∧ VR ρ r u := by
  have div : ∀ x : KV, (bif b == 0 then none else some x) = some r → ¬ b = 0 ∧ x = r := fun x hx => by
    cases hb : b == 0 with
    | true => simp [hb] at hx
    | false => simp only [hb, cond_false, Option.some.injEq] at hx; exact ⟨by simpa using hb, hx⟩
  cases op <;> simp only [kintBin, Option.some.injEq, reduceCtorEq] at h
  case quo => obtain ⟨h0, rfl⟩ := div _ h; exact ⟨_, by simp only [binOp, ne_eq, not_true_eq_false, if_false, Op.intDiv, if_neg h0]; rfl, .int _ _⟩
  case rem => obtain ⟨h0, rfl⟩ := div _ h; exact ⟨_, by simp only [binOp, ne_eq, not_true_eq_false, if_false, Op.intDiv, if_neg h0]; rfl, .int _ _⟩
  all_goals (subst h; first | exact ⟨_, rfl, .int _ _⟩ | exact ⟨_, rfl, .bool _⟩ | exact ⟨.int k _, by simp only [binOp, ne_eq, not_true_eq_false, if_false]; rfl, .int _ _⟩ | exact ⟨.bool _, by simp only [binOp, ne_eq, not_true_eq_false, if_false]; rfl, .bool _⟩)

theorem kshift_sound {op : BinOp} {k j : IntKind} {a b : Int} {r : KV} (t : TypeId) (ho : op = .shl ∨ op = .shr) (h : kshift op k a b = some r) : ∃ u, (binOp op t (.int k a) (.int j b)).run P w = .ok u w ∧ VR ρ r u := by
  unfold kshift at h
  cases hb : decide (b < 0) with
  | true => simp [hb] at h
  | false =>
    have h0 : ¬ b < 0 := by simpa using hb
    simp only [hb, cond_false] at h
    rcases ho with rfl | rfl
    · simp only [Option.some.injEq] at h; subst h
      exact ⟨_, by simp only [binOp, Op.shift, if_neg h0]; rfl, .int _ _⟩
    · simp only [Option.some.injEq] at h; subst h
      exact ⟨_, by simp only [binOp, Op.shift, if_neg h0]; rfl, .int _ _⟩

theorem bytes_toList (s : ByteArray) : s.toList = s.data.toList := ByteArray.toList_eq s

theorem kstrBin_sound {op : BinOp} {x y : List UInt8} {vx vy : ByteArray} {r : KV} (t : TypeId) (hx : vx.data.toList = x) (hy : vy.data.toList = y) (h : kstrBin op x y = some r) : ∃ u, (binOp op t (.string vx) (.string vy)).run P w = .ok u w ∧ VR ρ r u := by
  subst hx hy
  cases op <;> simp only [kstrBin, Option.some.injEq, reduceCtorEq] at h
  case add =>
    cases hb : Nat.ble (vx.data.toList.length + vy.data.toList.length) 9223372036854775807 with
    | false => rw [hb] at h; cases h
    | true =>
      simp only [hb, cond_true, Option.some.injEq] at h; subst h
      have h0 := bleT hb
      refine ⟨.string (vx ++ vy), ?_, .str _ _ ?_⟩
      · have : ¬ (((vx.size + vy.size : Nat) : Int) > IntKind.i64.max) := by
          simp only [Array.length_toList] at h0
          have e1 : vx.size = vx.data.size := rfl
          have e2 : vy.size = vy.data.size := rfl
          have e3 : IntKind.i64.max = 9223372036854775807 := by decide
          rw [e3]; omega
        simp only [binOp, Op.stringOp, if_neg this]; rfl
      · simp
  all_goals (subst h; exact ⟨.bool _, by simp only [binOp, Op.stringOp, bytes_toList]; rfl, .bool _⟩)

/-! ## '==' -/
theorem keq1_sound {d : TypeDesc} {x y : KV} {b : Bool} {vx vy : Value} {t : TypeId} (n : Nat) (ht : P.underlying t = some d) (h : keq1 d x y = some b) (hx : VR ρ x vx) (hy : VR ρ y vy) : (Op.equalIn (n + 1) t vx vy).run P w = .ok b w := by
  unfold keq1 at h
  split at h
  · rename_i q j a k b'
    cases hx; cases hy
    cases hjk : decide (j = k) with
    | false => simp [hjk] at h
    | true =>
      simp only [hjk, cond_true, Option.some.injEq] at h; subst h
      obtain rfl : j = k := by simpa using hjk
      exact run_equalIn_int w n t j q a b' ht
  · rename_i a b'
    cases hx with | str _ va ha => cases hy with | str _ vb hb =>
    simp only [Option.some.injEq] at h; subst h
    rw [run_equalIn_string w n t va vb ht, bytes_toList, bytes_toList, ha, hb]
  · rename_i a b'
    cases hx; cases hy
    simp only [Option.some.injEq] at h; subst h
    exact run_equalIn_bool' w n t a b' ht
  · cases h

def aggD : TypeDesc → Bool | .struct _ => true | .array _ _ => true | _ => false
theorem run_part1 {t : TypeId} {d : TypeDesc} (ht : P.underlying t = some d) (hd : aggD d = false) {cs : Array Value} {off : Nat} {v : Value} (hv : cs[off]? = some v) : (part t cs off).run P w = .ok v w := by
  have ha : (isAgg t).run P w = .ok false w := by
    simp only [isAgg, Sem.run_bind, run_underlying ht, Result.andThen_ok]
    cases d <;> first | rfl | (simp [aggD] at hd)
  simp [part, ha, hv, Result.andThen]

theorem flat_kind {d : Option TypeDesc} (h : (match d with | some .bool => true | some (.int _) => true | some .string => true | _ => false) = true) : ∃ d', d = some d' ∧ aggD d' = false ∧ (d' = .bool ∨ (∃ k, d' = .int k) ∨ d' = .string) := by
  split at h <;> first | exact ⟨_, rfl, rfl, by simp⟩ | cases h

theorem keqF_len : ∀ {fs : List Field} {xs ys : List KV} {b : Bool}, keqF P fs xs ys = some b → xs.length = fs.length ∧ ys.length = fs.length
  | [], [], [], b, h => ⟨rfl, rfl⟩
  | f :: fs, x :: xs, y :: ys, b, h => by
    simp only [keqF] at h
    split at h
    · split at h
      · rename_i p q _ hq
        obtain ⟨h1, h2⟩ := keqF_len hq
        simp [h1, h2]
      · cases h
    · cases h
  | [], _ :: _, _, b, h => by simp [keqF] at h
  | [], [], _ :: _, b, h => by simp [keqF] at h
  | _ :: _, [], _, b, h => by simp [keqF] at h
  | _ :: _, _ :: _, [], b, h => by simp [keqF] at h

theorem keqF_sound (n : Nat) {us vs : Array Value} : ∀ {fs : List Field} {j : Nat} {xs ys : List KV} {b : Bool}, flatF P j fs = true → keqF P fs xs ys = some b → VRs ρ xs (us.toList.drop j) → VRs ρ ys (vs.toList.drop j) → (Op.eqFields (n + 1) us vs fs).run P w = .ok b w
  | [], j, xs, ys, b, hf, h, hx, hy => by
    obtain ⟨h1, h2⟩ := keqF_len h
    obtain rfl : xs = [] := List.eq_nil_of_length_eq_zero (by simpa using h1)
    obtain rfl : ys = [] := List.eq_nil_of_length_eq_zero (by simpa using h2)
    simp only [keqF, Option.some.injEq] at h; subst h
    simp [Op.eqFields]
  | f :: fs, j, xs, ys, b, hf, h, hx, hy => by
    obtain ⟨h1, h2⟩ := keqF_len h
    obtain ⟨x, xs, rfl⟩ : ∃ x xs', xs = x :: xs' := by cases xs with | nil => simp at h1 | cons x xs' => exact ⟨x, xs', rfl⟩
    obtain ⟨y, ys, rfl⟩ : ∃ y ys', ys = y :: ys' := by cases ys with | nil => simp at h2 | cons x xs' => exact ⟨x, xs', rfl⟩
    simp only [flatF, Bool.and_eq_true, decide_eq_true_eq] at hf
    obtain ⟨ho, hn, hk, hr⟩ := hf
    have ho := beqT ho
    obtain ⟨d, hd, hagg, _⟩ := flat_kind hk
    simp only [keqF, hd] at h
    split at h
    · rename_i p q hp hq
      simp only [Option.some.injEq] at h; subst h
      obtain ⟨u, hu, hxu⟩ := hx.get (i := 0) (x := x) rfl
      obtain ⟨v, hv, hyv⟩ := hy.get (i := 0) (x := y) rfl
      rw [List.getElem?_drop, Nat.add_zero, Array.getElem?_toList] at hu hv
      have tx : VRs ρ xs (us.toList.drop (j + 1)) := by have := hx.drop 1; simpa [List.drop_drop, Nat.add_comm] using this
      have ty : VRs ρ ys (vs.toList.drop (j + 1)) := by have := hy.drop 1; simpa [List.drop_drop, Nat.add_comm] using this
      have tl := keqF_sound n hr hq tx ty
      have pu := run_part1 (w := w) hd hagg hu
      have pv := run_part1 (w := w) hd hagg hv
      rw [Op.eqFields, if_pos hn]
      simp only [Sem.run_bind, ho, pu, pv, keq1_sound n hd hp hxu hyv, Result.andThen_ok]
      cases p with
      | true => simpa using tl
      | false => simp
    · cases h

theorem flat_struct {t : TypeId} {fs : Array Field} (hd : P.underlying t = some (.struct fs)) (hf : flatOk P t = true) : P.stoodInHeld t = false ∧ P.eqGuardType P.depth t = false ∧ flatF P 0 fs.toList = true := by
  unfold flatOk at hf
  rw [hd] at hf
  simpa [and_assoc] using hf

theorem keqS_sound (n : Nat) {t : TypeId} {fs : Array Field} (hd : P.underlying t = some (.struct fs)) (hf : flatOk P t = true) {xs ys : List KV} {b : Bool} {us vs : Array Value} (h : keqF P fs.toList xs ys = some b) (hx : VRs ρ xs us.toList) (hy : VRs ρ ys vs.toList) :
    (Op.equalIn (n + 2) t (.agg us) (.agg vs)).run P w = .ok b w := by
  obtain ⟨h1, h2, h3⟩ := flat_struct hd hf
  have hfo : P.fieldsOf t = fs := by simp [Program.fieldsOf, hd]
  rw [run_equalIn_struct w (n + 1) t us vs (by rw [hfo]; exact hd) h1, hfo]
  exact keqF_sound n h3 h (by simpa using hx) (by simpa using hy)

theorem row_obj (h : HR ρ w0 hp w) {b B m : Nat} {cs : List KV} (hb : ρ b = some (B, m)) (ho : hp.get b = some (.row cs)) : ∃ c t, w.heap[B]? = some (.cells c t (0, 0)) ∧ c.size = m ∧ cs.length ≤ m ∧ VRs ρ cs (c.toList.take cs.length) := by
  obtain ⟨obj, h1, c, t, rfl, h2, h3, h4⟩ := h.get hb ho
  exact ⟨c, t, h1, h2, h3, h4⟩

theorem run_sameAddr {a b : Nat} {oa ob : Nat} {ca cb : Array Value} {ta tb : TypeId} (ha : w.heap[a]? = some (.cells ca ta (0, 0))) (hb : w.heap[b]? = some (.cells cb tb (0, 0))) :
    (sameAddr ⟨a, oa, none⟩ ⟨b, ob, none⟩).run P w = .ok (a == b && oa == ob) w := by
  by_cases e : a = b
  · subst e
    simp only [sameAddr, beq_self_eq_true, if_true, Sem.run_pure]
    congr 1
    by_cases ho : oa = ob
    · subst ho; simp
    · have h1 : ((⟨a, oa, none⟩ : Addr) == ⟨a, ob, none⟩) = false := by simp [ho]
      simp [h1, ho]
  · have fa : (frozen ⟨a, oa, none⟩).run P w = .ok false w := by simp [frozen, Sem.run, World.frozen?, ha]
    have fb : (frozen ⟨b, ob, none⟩).run P w = .ok false w := by simp [frozen, Sem.run, World.frozen?, hb]
    have sa : (shape a).run P w = .ok (some (ta, ca.size)) w := by simp [shape, Sem.run, World.shape?, ha]
    have sb : (shape b).run P w = .ok (some (tb, cb.size)) w := by simp [shape, Sem.run, World.shape?, hb]
    have ea : (frozen ⟨a, ca.size, none⟩).run P w = .ok false w := by simp [frozen, Sem.run, World.frozen?, ha]
    have eb : (frozen ⟨b, cb.size, none⟩).run P w = .ok false w := by simp [frozen, Sem.run, World.frozen?, hb]
    simp [sameAddr, e, fa, fb, noView, viewAt, sa, sb, mayBeOne, stringish, ea, eb, Result.andThen]

theorem posz_spec {e : TypeId} (h : posz P e = true) : ∃ n, (sizeOf e).run P w = .ok (n + 1) w := by
  unfold posz tsz at h
  cases hi : P.info? e with
  | none => simp [hi] at h
  | some i =>
    simp only [hi, Option.map_some] at h
    cases hn : i.size with
    | zero => simp [hn] at h
    | succ n => exact ⟨n, by simp [sizeOf, typeInfo, hi, hn, Result.andThen]⟩
theorem isRow_spec {b : Nat} (h : isRow hp b = true) : ∃ cs, hp.get b = some (.row cs) := by
  unfold isRow at h
  split at h
  · rename_i cs hc; exact ⟨cs, hc⟩
  · cases h

theorem run_eq_sl1 {t e : TypeId} (h : P.underlying t = some (.slice e)) (n : Nat) (b : Option Addr) (l c : Nat) : (Op.equalIn (n + 1) t (.slice none 0 0) (.slice b l c)).run P w = .ok b.isNone w := by
  simp [Op.equalIn, run_underlying h]
theorem run_eq_sl2 {t e : TypeId} (h : P.underlying t = some (.slice e)) (n : Nat) (b : Addr) (l c : Nat) : (Op.equalIn (n + 1) t (.slice (some b) l c) (.slice none 0 0)).run P w = .ok false w := by
  simp [Op.equalIn, run_underlying h]
theorem run_eq_mp1 {t k e : TypeId} (h : P.underlying t = some (.map k e)) (n : Nat) (b : Option Nat) : (Op.equalIn (n + 1) t (.map none) (.map b)).run P w = .ok b.isNone w := by
  simp [Op.equalIn, run_underlying h]
theorem run_eq_mp2 {t k e : TypeId} (h : P.underlying t = some (.map k e)) (n : Nat) (b : Nat) : (Op.equalIn (n + 1) t (.map (some b)) (.map none)).run P w = .ok false w := by
  simp [Op.equalIn, run_underlying h]
theorem run_eq_fn0 {t : TypeId} {a b : Array TypeId} {v : Bool} (h : P.underlying t = some (.func a b v)) (n : Nat) : (Op.equalIn (n + 1) t .nilFunc .nilFunc).run P w = .ok true w := by
  simp [Op.equalIn, run_underlying h]
theorem run_eq_fn1 {t : TypeId} {a b : Array TypeId} {v : Bool} (h : P.underlying t = some (.func a b v)) (n : Nat) (f : Fn) (x y : Array Value) : (Op.equalIn (n + 1) t .nilFunc (.func f x y)).run P w = .ok false w := by
  simp [Op.equalIn, run_underlying h]
theorem run_eq_fn2 {t : TypeId} {a b : Array TypeId} {v : Bool} (h : P.underlying t = some (.func a b v)) (n : Nat) (f : Fn) (x y : Array Value) : (Op.equalIn (n + 1) t (.func f x y) .nilFunc).run P w = .ok false w := by
  simp [Op.equalIn, run_underlying h]

theorem kequalN_sound (n : Nat) (hF : ∀ t ∈ F, flatOk P t = true) (h : HR ρ w0 hp w) {t : TypeId} {x y : KV} {b : Bool} {vx vy : Value} (hk : kequal P F hp t x y = some b) (hx : VR ρ x vx) (hy : VR ρ y vy) : (Op.equalIn (n + 2) t vx vy).run P w = .ok b w := by
  unfold kequal at hk
  split at hk
  · rename_i hd; exact keq1_sound _ hd hk hx hy
  · rename_i e hd
    split at hk
    · cases hx; cases hy; simp only [Option.some.injEq] at hk; subst hk; simp only [Op.equalIn, Sem.run_bind, run_underlying hd, Result.andThen_ok, Sem.run_pure]; try rfl
    · cases hx; cases hy; simp only [Option.some.injEq] at hk; subst hk; simp only [Op.equalIn, Sem.run_bind, run_underlying hd, Result.andThen_ok, Sem.run_pure]; try rfl
    · cases hx; cases hy; simp only [Option.some.injEq] at hk; subst hk; simp only [Op.equalIn, Sem.run_bind, run_underlying hd, Result.andThen_ok, Sem.run_pure]; try rfl
    · rename_i b1 o c q
      obtain ⟨hc, hk⟩ := bifS hk
      · simp only [Option.some.injEq] at hk; subst hk
        simp only [Bool.and_eq_true] at hc
        obtain ⟨h1, h2, h3⟩ := hc
        obtain ⟨cs, h1⟩ := isRow_spec h1
        obtain ⟨ds, h2⟩ := isRow_spec h2
        cases hx with | ptr _ _ B m hB => cases hy with | ptr _ _ C k hC =>
        obtain ⟨ca, ta, ha, _⟩ := row_obj h hB h1
        obtain ⟨cb, tb, hb, _⟩ := row_obj h hC h2
        obtain ⟨m', hsz⟩ := posz_spec (w := w) h3
        have hs := run_sameAddr (P := P) (oa := o) (ob := q) ha hb
        have hbc : (B == C && o == q) = (Nat.beq b1 c && Nat.beq o q) := by
          have e1 : (o == q) = Nat.beq o q := by
            by_cases e : o = q
            · subst e; simp
            · rw [beqF e]; simpa using e
          rw [e1]
          congr 1
          by_cases e : b1 = c
          · subst e
            rw [hB] at hC; simp only [Option.some.injEq, Prod.mk.injEq] at hC
            simp [hC.1]
          · rw [beqF e]
            have : ¬ B = C := fun e2 => by
              subst e2
              exact e (h.inj b1 c B m k hB hC (by rw [h1]; simp) (by rw [h2]; simp))
            simpa using this
        rw [← hbc]
        simp only [Op.equalIn, Sem.run_bind, run_underlying hd, Result.andThen_ok, hsz, ne_eq, Nat.add_eq_zero_iff, Nat.succ_ne_self, Nat.one_ne_zero, and_false, not_false_eq_true, if_true, hs]
    · cases hk
  · rename_i e hd
    split at hk <;> cases hk
    all_goals (cases hx; cases hy; first | exact run_eq_sl1 hd _ _ _ _ | exact run_eq_sl2 hd _ _ _ _ | exact run_eq_mp1 hd _ _ | exact run_eq_mp2 hd _ _ | exact run_eq_fn0 hd _ | exact run_eq_fn1 hd _ _ _ _ | exact run_eq_fn2 hd _ _ _ _)
  · rename_i a c hd
    split at hk <;> cases hk
    all_goals (cases hx; cases hy; first | exact run_eq_sl1 hd _ _ _ _ | exact run_eq_sl2 hd _ _ _ _ | exact run_eq_mp1 hd _ _ | exact run_eq_mp2 hd _ _ | exact run_eq_fn0 hd _ | exact run_eq_fn1 hd _ _ _ _ | exact run_eq_fn2 hd _ _ _ _)
  · rename_i a c e hd
    split at hk <;> cases hk
    all_goals (cases hx; cases hy; first | exact run_eq_sl1 hd _ _ _ _ | exact run_eq_sl2 hd _ _ _ _ | exact run_eq_mp1 hd _ _ | exact run_eq_mp2 hd _ _ | exact run_eq_fn0 hd _ | exact run_eq_fn1 hd _ _ _ _ | exact run_eq_fn2 hd _ _ _ _)
  · rename_i fs hd
    split at hk
    · rename_i xs ys
      obtain ⟨hc, hk⟩ := bifS hk
      · obtain ⟨us, rfl, hu⟩ := hx.agg_inv
        obtain ⟨vs, rfl, hv⟩ := hy.agg_inv
        exact keqS_sound n hd (hF t (by simpa using hc)) hk (by simpa using hu) (by simpa using hv)
    · cases hk
  · cases hk
theorem kequal_sound (hF : ∀ t ∈ F, flatOk P t = true) (h : HR ρ w0 hp w) {t : TypeId} {x y : KV} {b : Bool} {vx vy : Value} (hk : kequal P F hp t x y = some b) (hx : VR ρ x vx) (hy : VR ρ y vy) : (Op.equal t vx vy).run P w = .ok b w := by
  have := kequalN_sound (w := w) 9998 hF h hk hx hy
  exact this
end Go.KX
