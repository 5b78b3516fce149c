/-
  ch. 33: FetchFits, the plain law.
-/
import Derived.Test.YtcbcdjincgclaaaF
import Derived.Test.YtcbcdjincgclaaaAE21
import Derived.Test.YtcbcdjincgclaaaFL
set_option linter.unusedSimpArgs false
set_option linter.unusedVariables false
set_option maxHeartbeats 1000000
set_option linter.unusedVariables false
set_option linter.unusedSimpArgs false
set_option maxRecDepth 100000
namespace Go.Proofs.Ytcbcdjincgclaaa
open Go.AE
def N0 : Nat := 4194304
theorem wid {n : Int} (h : -4611686018427387904 ≤ n ∧ n ≤ 4611686018427387904) : IntKind.wrap .i64 n = n := w64_id (by omega) (by omega)
theorem bif_ite {α : Type} (b : Bool) (x y : α) : (bif b then x else y) = if b = true then x else y := by cases b <;> rfl
theorem ite_ff (p q : Bool) : (if p = true then q else false) = (p && q) := by cases p <;> simp
theorem ite_tt (p q : Bool) : (if p = true then true else q) = (p || q) := by cases p <;> simp

/-- two loops in step -/
theorem loop_two {X X' Y Y' : Type} {body : X → Option (X ⊕ Y)} {body' : X' → Option (X' ⊕ Y')} (I : X → X' → Prop) (μ : X → Nat) (S : Y → Y' → Prop)
    (hb : ∀ x x', I x x' → (∃ y y', body x = some (.inl y) ∧ body' x' = some (.inl y') ∧ I y y' ∧ μ y < μ x) ∨ (∃ z z', body x = some (.inr z) ∧ body' x' = some (.inr z') ∧ S z z')) :
    ∀ (n : Nat) (x : X) (x' : X'), I x x' → μ x < n → ∃ z z', loopF body n x = some z ∧ loopF body' n x' = some z' ∧ S z z'
  | 0, x, x', _, h => by omega
  | n + 1, x, x', hI, h => by
    rcases hb x x' hI with ⟨y, y', h1, h2, h3, h4⟩ | ⟨z, z', h1, h2, h3⟩
    · rw [loopF_step h1, loopF_step h2]
      exact loop_two I μ S hb n y y' h3 (by omega)
    · rw [loopF_done h1, loopF_done h2]
      exact ⟨z, z', rfl, rfl, h3⟩

theorem seg_body (n : Nat) (m : TLoad) (f i : Int) : module_validSegments_b2 n m (m.Segments.length : Int) f i = ref31_segments_b2 n m f i := by
  simp only [module_validSegments_b2, ref31_segments_b2, module_validSegments_k4, module_validSegments_k3]
  by_cases h : i < (m.Segments.length : Int)
  · by_cases h0 : 0 ≤ i
    · simp only [h, decide_true, bif_ite, if_true, gd_pos _ (And.intro h0 h)]
      generalize gt m.Segments (Int.toNat i) = g
      split
      · rfl
      · by_cases hi : i = 0
        · subst hi
          simp [gd]
        · have hi' : (i == 0) = false := by simpa using hi
          have hi2 : decide (i > 0) = true := by simp; omega
          by_cases hp : g.Parent < 0 ∨ i ≤ g.Parent
          · have : (if (decide (g.Parent < 0)) = true then true else (decide (g.Parent ≥ i))) = true := by rcases hp with h | h <;> simp [h]
            simp [gd, hi', hi2, this]
          · have : (if (decide (g.Parent < 0)) = true then true else (decide (g.Parent ≥ i))) = false := by simp; omega
            have hb : 0 ≤ g.Parent ∧ g.Parent < (m.Segments.length : Int) := by omega
            simp [gd, hi', hi2, this, hb]
    · simp only [h, h0, decide_true, bif_ite, if_true, gd, false_and, if_false]
  · simp [h]

theorem gd_t {α : Type} (x : Option α) : gd True x = x := rfl
theorem ite_cs {α : Type} {c : Bool} {x y : α} (P : α → Prop) (h1 : P x) (h2 : P y) : P (if c = true then x else y) := by
  cases c
  · exact h2
  · exact h1
def Nx (m : TLoad) (i : Int) (z : Option ((Int × Int) ⊕ (Bool ⊕ Int))) : Prop := (∃ f', z = some (.inl (f', i + 1)) ∧ i < (m.Segments.length : Int)) ∨ z = some (.inr (.inl false)) ∨ ∃ f', z = some (.inr (.inr f'))
theorem seg_next (n : Nat) (m : TLoad) (f i : Int) (h0 : 0 ≤ i) (hl : m.Segments.length ≤ 2097152) : Nx m i (ref31_segments_b2 n m f i) := by
  rw [← seg_body]
  simp only [module_validSegments_b2, module_validSegments_k4, module_validSegments_k3]
  by_cases h : i < (m.Segments.length : Int)
  · simp only [h, h0, and_self, decide_true, bif_ite, if_true, gd_t]
    rw [wid (n := i + 1) (by omega)]
    generalize gt m.Segments (Int.toNat i) = g
    refine ite_cs (Nx m i) (.inr (.inl rfl)) (ite_cs (Nx m i) (ite_cs (Nx m i) (.inr (.inl rfl)) (.inl ⟨_, rfl, h⟩)) ?_)
    by_cases hp : g.Parent < 0 ∨ i ≤ g.Parent
    · have : (if (decide (g.Parent < 0)) = true then true else (decide (g.Parent ≥ i))) = true := by rcases hp with h | h <;> simp [h]
      simp only [gd, this, Bool.not_true, Bool.false_eq_true, false_implies, and_self, if_true]
      exact .inr (.inl rfl)
    · have : (if (decide (g.Parent < 0)) = true then true else (decide (g.Parent ≥ i))) = false := by simp; omega
      have hb : 0 ≤ g.Parent ∧ g.Parent < (m.Segments.length : Int) := by omega
      rw [gd_pos _ (fun _ => hb)]
      exact ite_cs (Nx m i) (.inr (.inl rfl)) (.inl ⟨_, rfl, h⟩)
  · simp only [h, decide_false, bif_ite, Bool.false_eq_true, if_false]
    exact .inr (.inr ⟨_, rfl⟩)

theorem seg_loop (n : Nat) (m : TLoad) (hl : m.Segments.length ≤ 2097152) (hn : 2097152 < n) : ∃ y, loopF (fun (x : Int × Int) => ref31_segments_b2 n m x.1 x.2) n (0, 0) = some y ∧ (y = .inl false ∨ ∃ f, y = .inr f) := by
  refine loopF_inv (fun x => 0 ≤ x.2 ∧ x.2 ≤ (m.Segments.length : Int)) (fun x => m.Segments.length - x.2.toNat) _ (fun x hx => ?_) n (0, 0) ⟨by simp, by simp⟩ (by simp; omega)
  rcases seg_next n m x.1 x.2 hx.1 hl with ⟨f', h1, h2⟩ | h | ⟨f', h⟩
  · exact .inl ⟨_, h1, ⟨by simp; omega, by simp; omega⟩, by simp; omega⟩
  · exact .inr ⟨_, h, .inl rfl⟩
  · exact .inr ⟨_, h, .inr ⟨_, rfl⟩⟩

theorem segments_eq (n : Nat) (m : TLoad) (hl : m.Segments.length ≤ 2097152) (hn : 2097152 < n) : ∃ b, module_validSegments n m = some b ∧ ref31_segments n m = some b ∧ (b = true → 1 ≤ m.Segments.length ∧ m.Segments.length ≤ 64) := by
  obtain ⟨y, hy, hc⟩ := seg_loop n m hl hn
  have e : (fun (x : Int × Int) => module_validSegments_b2 n m (m.Segments.length : Int) x.1 x.2) = fun (x : Int × Int) => ref31_segments_b2 n m x.1 x.2 := by
    funext x; exact seg_body n m x.1 x.2
  simp only [module_validSegments, ref31_segments, e, hy, Option.bind_some, module_validSegments_k1, ref31_segments_k1]
  by_cases h : (m.Segments.length : Int) < 1 ∨ (m.Segments.length : Int) > 64
  · refine ⟨false, ?_, ?_, by simp⟩
    · rcases hc with rfl | ⟨f, rfl⟩
      · rfl
      · simp only [Option.some.injEq]
        rcases h with h | h
        · have : decide ((m.Segments.length : Int) ≥ 1) = false := by simp; omega
          simp only [this]; simp
        · have : decide ((m.Segments.length : Int) ≤ 64) = false := by simp; omega
          simp only [this]; simp
    · have : (if (decide ((m.Segments.length : Int) < 1)) = true then true else (decide ((m.Segments.length : Int) > 64))) = true := by rcases h with h | h <;> simp <;> omega
      rw [this]; rfl
  · have h1 : decide ((m.Segments.length : Int) < 1) = false := by simp; omega
    have h2 : decide ((m.Segments.length : Int) > 64) = false := by simp; omega
    have h3 : decide ((m.Segments.length : Int) ≥ 1) = true := by simp; omega
    have h4 : decide ((m.Segments.length : Int) ≤ 64) = true := by simp; omega
    simp only [h1, h2, h3, h4, if_true, Bool.false_eq_true, if_false, cond_false]
    rcases hc with rfl | ⟨f, rfl⟩
    · exact ⟨false, rfl, rfl, by simp⟩
    · exact ⟨_, rfl, rfl, fun _ => by omega⟩

/-! ## Is a constant in a segment? -/
def inS (a l : Int) (s : TSegment) : Bool := decide (a ≥ s.From) && decide ((IntKind.wrap .i64 (a + l)) ≤ (IntKind.wrap .i64 (s.From + s.Len)))

theorem runL_idx (a l : Int) (b : List TSegment) : ∀ (k : Nat), ∃ y, runL (fun (k : Nat) s => if inS a l s then (.inr (.inl (k : Int)) : Nat ⊕ (Int ⊕ Unit)) else .inl (k + 1)) (fun _ => .inr ()) b k = y ∧ ((b.any (inS a l) = true ∧ ∃ j : Nat, y = .inl (j : Int)) ∨ (b.any (inS a l) = false ∧ y = .inr ())) := by
  induction b with
  | nil => intro k; exact ⟨_, rfl, .inr ⟨rfl, rfl⟩⟩
  | cons s b ih =>
    intro k
    simp only [runL, List.any_cons]
    cases h : inS a l s
    · simp only [Bool.false_eq_true, if_false, Bool.false_or]
      exact ih (k + 1)
    · simp only [if_true, Bool.true_or]
      exact ⟨_, rfl, .inl ⟨trivial, k, rfl⟩⟩

theorem contains_eq (n : Nat) (b : List TSegment) (a l : Int) (g : Bool) (hn : b.length < n) (hl : b.length ≤ 2097152) : slices_ContainsFunc_f54_M1 n b a l g = some (b.any (inS a l)) := by
  have h := loop_list (σ := Nat) (body := fun (x : Int) => slices_IndexFunc_f68_M1_b2 n a l g b (b.length : Int) x) b (fun k _ => (k : Int))
    (fun (k : Nat) s => if inS a l s then (.inr (.inl (k : Int)) : Nat ⊕ (Int ⊕ Unit)) else .inl (k + 1)) (fun _ => .inr ()) (fun k s => s = k) (s := 0) rfl
    (fun k hk s hs => by
      subst hs
      have h1 : decide ((s : Int) < (b.length : Int)) = true := by simp; omega
      have h2 : (0 : Int) ≤ (s : Int) ∧ (s : Int) < (b.length : Int) := by omega
      simp only [slices_IndexFunc_f68_M1_b2, module_CheckLoad_1_M1, h1, bif_ite, if_true, gd_pos _ h2, Option.bind_some, Int.toNat_natCast, gt_lt hk, ite_ff]
      rw [wid (n := (s : Int) + 1) (by omega)]
      show (if inS a l b[s] = true then _ else _) = _
      cases inS a l b[s] <;> simp)
    (fun k hk s hs s' h => by
      subst hs
      cases hi : inS a l b[s] <;> rw [hi] at h <;> simp at h
      exact h.symm)
    (fun s _ => by simp [slices_IndexFunc_f68_M1_b2, bif_ite]) hn
  obtain ⟨y, hy, hc⟩ := runL_idx a l b 0
  rw [hy] at h
  simp only [slices_ContainsFunc_f54_M1, slices_IndexFunc_f68_M1, slices_IndexFunc_f68_M1_k1]
  have h' : loopF (fun (x : Int) => slices_IndexFunc_f68_M1_b2 n a l g b (b.length : Int) x) n 0 = some y := h
  rw [h']
  rcases hc with ⟨e, j, rfl⟩ | ⟨e, rfl⟩
  · rw [e]
    simp only [Option.bind_some]
    have : decide ((j : Int) ≥ 0) = true := by simp
    rw [this]
  · rw [e]
    rfl

theorem runL_in (a l : Int) (b : List TSegment) : ∀ (t : Bool), runL (fun (t : Bool) s => (.inl (t || inS a l s) : Bool ⊕ Bool)) (fun t => t) b t = (t || b.any (inS a l)) := by
  induction b with
  | nil => intro t; simp [runL]
  | cons s b ih => intro t; simp only [runL, List.any_cons, ih, Bool.or_assoc]

theorem in_eq (n : Nat) (m : TLoad) (i a l : Int) (g : Bool) (hn : m.Segments.length < n) (hl : m.Segments.length ≤ 2097152) : loopF (fun (x : Bool × Int) => ref31_CheckLoad_b5 n m i a l g x.1 x.2) n (false, 0) = some (m.Segments.any (inS a l)) := by
  have h := loop_list (σ := Bool) (body := fun (x : Bool × Int) => ref31_CheckLoad_b5 n m i a l g x.1 x.2) m.Segments (fun k t => (t, (k : Int)))
    (fun (t : Bool) s => (.inl (t || inS a l s) : Bool ⊕ Bool)) (fun t => t) (fun _ _ => True) (s := false) trivial
    (fun k hk s _ => by
      have h1 : decide ((k : Int) < (m.Segments.length : Int)) = true := by simp; omega
      have h2 : (0 : Int) ≤ (k : Int) ∧ (k : Int) < (m.Segments.length : Int) := by omega
      simp only [ref31_CheckLoad_b5, h1, bif_ite, if_true, gd_pos _ h2, Int.toNat_natCast, gt_lt hk, ite_ff, ite_tt]
      rw [wid (n := (k : Int) + 1) (by omega)]
      rfl)
    (fun _ _ _ _ _ _ => trivial) (fun s _ => by simp [ref31_CheckLoad_b5, bif_ite]) hn
  have h' : loopF (fun (x : Bool × Int) => ref31_CheckLoad_b5 n m i a l g x.1 x.2) n (false, 0) = some (runL (fun (t : Bool) s => (.inl (t || inS a l s) : Bool ⊕ Bool)) (fun t => t) m.Segments false) := h
  rw [h', runL_in, Bool.false_or]
end Go.Proofs.Ytcbcdjincgclaaa

/-
  ch. 33: module.CheckLoad and the specification's; sizes; FetchFits.
-/
set_option maxHeartbeats 1000000
set_option linter.unusedVariables false
set_option linter.unusedSimpArgs false
set_option maxRecDepth 100000
namespace Go.Proofs.Ytcbcdjincgclaaa
open Go.AE

def prv (m : TLoad) (i : Int) : TReloc := gt m.Relocs (Int.toNat (IntKind.wrap .i64 (i - 1)))
def InvR (m : TLoad) (x : Int × Int) (i : Int) : Prop := x.2 = i ∧ 0 ≤ i ∧ i ≤ (m.Relocs.length : Int) ∧ ((i = 0 ∧ x.1 = 0) ∨ (0 < i ∧ x.1 = IntKind.wrap .i64 ((prv m i).At + (prv m i).Len) ∧ 0 ≤ x.1))
def OutR (z : Int ⊕ Unit) (z' : Bool ⊕ Unit) : Prop := (z = .inl 310 ∧ z' = .inl false) ∨ (z = .inr () ∧ z' = .inr ())

theorem reloc_step (n : Nat) (m : TLoad) (hS : m.Segments.length ≤ 2097152) (hT : m.Text.length ≤ 2097152) (hR : m.Relocs.length ≤ 2097152) (hn : 2097152 < n) (x : Int × Int) (i : Int) (h : InvR m x i) :
    (∃ y y', module_CheckLoad_b2 n m (m.Relocs.length : Int) x.1 x.2 = some (.inl y) ∧ ref31_CheckLoad_b2 n m i = some (.inl y') ∧ InvR m y y' ∧ m.Relocs.length - y.2.toNat < m.Relocs.length - x.2.toNat) ∨
    (∃ z z', module_CheckLoad_b2 n m (m.Relocs.length : Int) x.1 x.2 = some (.inr z) ∧ ref31_CheckLoad_b2 n m i = some (.inr z') ∧ OutR z z') := by
  obtain ⟨f, j⟩ := x
  obtain ⟨h1, h2, h3, h4⟩ := h
  simp only at h1 h4
  subst h1
  simp only [module_CheckLoad_b2, ref31_CheckLoad_b2]
  by_cases hj : j < (m.Relocs.length : Int)
  · simp only [hj, h2, and_self, decide_true, bif_ite, if_true, gd_t]
    have hp : gt m.Relocs (Int.toNat (IntKind.wrap .i64 (j - 1))) = prv m j := rfl
    simp only [hp]
    have hw : 0 < j → 0 ≤ IntKind.wrap .i64 (j - 1) ∧ IntKind.wrap .i64 (j - 1) < (m.Relocs.length : Int) := by
      intro h; rw [wid (by omega)]; omega
    generalize hr : gt m.Relocs (Int.toNat j) = r
    have hc : (if (if (if (if (decide (r.Len < 1)) = true then true else (decide (r.Len > 4))) = true then true else (decide (r.At < 0))) = true then true else (decide (r.At > (m.Text.length : Int)))) = true then true else (if (decide (j > 0)) = true then (decide (r.At < (IntKind.wrap .i64 ((prv m j).At + (prv m j).Len)))) else false)) = (if (if (if (decide (r.At < f)) = true then true else (decide (r.At > (m.Text.length : Int)))) = true then true else (decide (r.Len < 1))) = true then true else (decide (r.Len > 4))) := by
      simp only [ite_tt, ite_ff]
      rw [Bool.eq_iff_iff]
      simp only [Bool.or_eq_true, Bool.and_eq_true, decide_eq_true_eq]
      omega
    rw [gd_pos _ (by
      intro h
      have h' := of_decide_eq_true (Bool.and_eq_true_iff.1 h).2
      exact hw h'), hc]
    generalize hd : (if (if (if (decide (r.At < f)) = true then true else (decide (r.At > (m.Text.length : Int)))) = true then true else (decide (r.Len < 1))) = true then true else (decide (r.Len > 4))) = d
    cases d with
    | true => exact .inr ⟨_, _, rfl, rfl, .inl ⟨rfl, rfl⟩⟩
    | false =>
      simp only [ite_tt] at hd
      simp only [Bool.or_eq_false_iff, decide_eq_false_iff_not] at hd
      simp only [Bool.false_eq_true, if_false]
      rw [contains_eq n _ _ _ _ (by omega) hS, in_eq n m _ _ _ _ (by omega) hS]
      simp only [Option.bind_some, ref31_CheckLoad_k4, ref31_CheckLoad_k3, bif_ite]
      cases m.Segments.any (inS r.At r.Len)
      · exact .inr ⟨_, _, rfl, rfl, .inl ⟨rfl, rfl⟩⟩
      · refine .inl ⟨_, _, rfl, rfl, ⟨rfl, ?_, ?_, .inr ⟨?_, ?_, ?_⟩⟩, ?_⟩
        all_goals (try rw [wid (n := j + 1) (by omega)])
        · omega
        · omega
        · omega
        · simp only [prv]
          rw [wid (n := j + 1 - 1) (by omega), show j + 1 - 1 = j by omega, hr]
        · simp only
          rw [wid (by omega)]; omega
        · simp only; omega
  · simp only [hj, decide_false, bif_ite, Bool.false_eq_true, if_false]
    exact .inr ⟨_, _, rfl, rfl, .inr ⟨rfl, rfl⟩⟩

theorem check_eq (n : Nat) (m : TLoad) (hS : m.Segments.length ≤ 2097152) (hT : m.Text.length ≤ 2097152) (hR : m.Relocs.length ≤ 2097152) (hn : 2097152 < n) : ∃ b, module_CheckLoad n m = some (if b = true then 0 else 310) ∧ ref31_CheckLoad n m = some b := by
  obtain ⟨b, h1, h2, h3⟩ := segments_eq n m hS hn
  obtain ⟨z, z', k1, k2, k3⟩ := loop_two (InvR m) (fun x => m.Relocs.length - x.2.toNat) OutR (fun x i h => reloc_step n m hS hT hR hn x i h) n (0, 0) 0 ⟨rfl, by omega, by omega, .inl ⟨rfl, rfl⟩⟩ (by simp; omega)
  simp only [module_CheckLoad, ref31_CheckLoad, h1, h2, Option.bind_some, k1, k2, module_CheckLoad_k1, ref31_CheckLoad_k1]
  cases b with
  | false => exact ⟨false, by simp [gd], by simp [gd]⟩
  | true =>
    have hl : (0 : Int) < (m.Segments.length : Int) := by have := h3 rfl; omega
    rw [gd_pos _ (fun _ => hl), gd_pos _ (fun _ => hl)]
    simp only [bif_ite]
    generalize (if (if (if (!true) = true then true else (decide ((m.Relocs.length : Int) > 8192))) = true then true else (decide (m.Entry < 0))) = true then true else (decide (m.Entry ≥ ((gt m.Segments 0).Len)))) = c
    cases c with
    | true => exact ⟨false, rfl, rfl⟩
    | false =>
      rcases k3 with ⟨rfl, rfl⟩ | ⟨rfl, rfl⟩
      · exact ⟨false, rfl, rfl⟩
      · exact ⟨true, rfl, rfl⟩

theorem size_body (n : Nat) (m : TLoad) (f i : Int) : fetch_Size_b2 n m (m.Segments.length : Int) f i = ref33_Size_b2 n m f i := by
  simp only [fetch_Size_b2, ref33_Size_b2, and_self]

theorem size_loop (n : Nat) (m : TLoad) (hl : m.Segments.length ≤ 2097152) (hn : 2097152 < n) : ∃ y, loopF (fun (x : Int × Int) => ref33_Size_b2 n m x.1 x.2) n (0, 0) = some y := by
  obtain ⟨y, h, _⟩ := loopF_inv (body := fun (x : Int × Int) => ref33_Size_b2 n m x.1 x.2) (fun x => 0 ≤ x.2 ∧ x.2 ≤ (m.Segments.length : Int)) (fun x => m.Segments.length - x.2.toNat) (fun _ => True) (fun x hx => by
    obtain ⟨f, i⟩ := x
    simp only at hx ⊢
    by_cases h : i < (m.Segments.length : Int)
    · refine .inl ⟨((if (IntKind.wrap .i64 (((gt m.Segments (Int.toNat i)).Origin) + ((gt m.Segments (Int.toNat i)).Len))) > f then (IntKind.wrap .i64 (((gt m.Segments (Int.toNat i)).Origin) + ((gt m.Segments (Int.toNat i)).Len))) else f), i + 1), ?_, ?_, ?_⟩
      · simp only [ref33_Size_b2, h, hx.1, and_self, decide_true, cond_true, gd_t]
        rw [wid (n := i + 1) (by omega)]
      · simp only; omega
      · simp only; omega
    · exact .inr ⟨f, by simp only [ref33_Size_b2, h, decide_false, cond_false], trivial⟩) n (0, 0) ⟨by simp, by simp⟩ (by simp; omega)
  exact ⟨y, h⟩

theorem size_eq (n : Nat) (m : TLoad) (hS : m.Segments.length ≤ 2097152) (hT : m.Text.length ≤ 2097152) (hR : m.Relocs.length ≤ 2097152) (hn : 2097152 < n) : ∃ k, fetch_Size n m = some k ∧ ref33_Size n m = some k := by
  obtain ⟨b, h1, h2⟩ := check_eq n m hS hT hR hn
  obtain ⟨y, hy⟩ := size_loop n m hS hn
  have e : (fun (x : Int × Int) => fetch_Size_b2 n m (m.Segments.length : Int) x.1 x.2) = fun (x : Int × Int) => ref33_Size_b2 n m x.1 x.2 := by
    funext x; exact size_body n m x.1 x.2
  simp only [fetch_Size, ref33_Size, h1, h2, Option.bind_some, e, hy, fetch_Size_k1, ref33_Size_k1]
  cases b with
  | false => exact ⟨0, rfl, rfl⟩
  | true => exact ⟨y, rfl, rfl⟩

theorem fit_eq (n : Nat) (m : TLoad) (size : Int) (hS : m.Segments.length ≤ 2097152) (hT : m.Text.length ≤ 2097152) (hR : m.Relocs.length ≤ 2097152) (hn : 2097152 < n) : ∃ k, fetch_Fit n m size = some k ∧ ref33_Fit n m size = some k := by
  obtain ⟨b, h1, h2⟩ := check_eq n m hS hT hR hn
  obtain ⟨y, h3, h4⟩ := size_eq n m hS hT hR hn
  simp only [fetch_Fit, ref33_Fit, h1, h2, h3, h4, Option.bind_some]
  cases b with
  | false => exact ⟨310, rfl, rfl⟩
  | true =>
    simp only [if_true, bif_ite, Bool.not_true, Bool.false_eq_true, if_false, bne_self_eq_false]
    split
    · exact ⟨_, rfl, rfl⟩
    · exact ⟨_, rfl, rfl⟩
end Go.Proofs.Ytcbcdjincgclaaa

/-
  ch. 33: FetchFits, the law.
-/
set_option maxHeartbeats 1000000
set_option linter.unusedVariables false
set_option linter.unusedSimpArgs false
set_option maxRecDepth 100000
namespace Go.Proofs.Ytcbcdjincgclaaa
open Go.AE
theorem p_law33_FetchFits (n : Nat) (hn : N0 ≤ n) (x0 : TLoad) (x1 : Int) (hc : ∀ i, i < 2 → CanL Try.prog (([(true, [.slice 5, .slice 58, .slice 52, .int .i64]), (false, [.int .i64])] : List (Bool × List Kd)).getD i (false, [])).2 (([[.slice (List.map e_Int x0.Text), .slice (List.map e_TReloc x0.Relocs), .slice (List.map e_TSegment x0.Segments), .int x0.Entry], [.int x1]] : List (List C)).getD i []))
    (hb : cbss [[.slice (List.map e_Int x0.Text), .slice (List.map e_TReloc x0.Relocs), .slice (List.map e_TSegment x0.Segments), .int x0.Entry], [.int x1]] ≤ 2097152) : law33_FetchFits n x0 x1 = some true := by
  clear hc
  have hT : x0.Text.length ≤ 2097152 := len_of_cbss (f := e_Int) (xs := [.slice (List.map e_Int x0.Text), .slice (List.map e_TReloc x0.Relocs), .slice (List.map e_TSegment x0.Segments), .int x0.Entry]) hb (by simp) (by simp)
  have hR : x0.Relocs.length ≤ 2097152 := len_of_cbss (f := e_TReloc) (xs := [.slice (List.map e_Int x0.Text), .slice (List.map e_TReloc x0.Relocs), .slice (List.map e_TSegment x0.Segments), .int x0.Entry]) hb (by simp) (by simp)
  have hS : x0.Segments.length ≤ 2097152 := len_of_cbss (f := e_TSegment) (xs := [.slice (List.map e_Int x0.Text), .slice (List.map e_TReloc x0.Relocs), .slice (List.map e_TSegment x0.Segments), .int x0.Entry]) hb (by simp) (by simp)
  have h : 2097152 < n := by unfold N0 at hn; omega
  obtain ⟨k, h1, h2⟩ := size_eq n x0 hS hT hR h
  obtain ⟨j, h3, h4⟩ := fit_eq n x0 x1 hS hT hR h
  simp only [law33_FetchFits, h1, h2, h3, h4, Option.bind_some, beq_self_eq_true, works]
  simp [gd]
end Go.Proofs.Ytcbcdjincgclaaa
