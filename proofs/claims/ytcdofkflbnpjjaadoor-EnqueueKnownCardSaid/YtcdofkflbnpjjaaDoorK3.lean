/-
  The executor's states against the program's worlds: values and blocks up to where they lie.
-/
import Derived.Test.YtcdofkflbnpjjaaDoorK1
import Derived.RangeFuncRecord
import Derived.RangeFuncLeaves
import Derived.Laws.CopyRow
import Derived.Below
set_option linter.unusedVariables false
set_option linter.unusedSimpArgs false
namespace Go.KX
open Go.RowKit (Below)

/-! ## Finite maps -/
theorem beqF {a b : Nat} (h : ¬ a = b) : Nat.beq a b = false := by
  cases hb : Nat.beq a b with
  | false => rfl
  | true => exact absurd (Nat.eq_of_beq_eq_true hb) h
theorem beqT {a b : Nat} (h : Nat.beq a b = true) : a = b := Nat.eq_of_beq_eq_true h
theorem bleT {a b : Nat} (h : Nat.ble a b = true) : a ≤ b := Nat.le_of_ble_eq_true h
theorem T.get_single {α : Type} : ∀ (f i : Nat) (v : α) (j : Nat), i ≤ f → (T.single f i v).get j = if j = i then some v else none := by
  intro f
  induction f with
  | zero =>
    intro i v j hi
    obtain rfl : i = 0 := by omega
    by_cases hj : j = 0
    · subst hj; simp [T.single, T.get_n, T.get_e]
    · have h0 : Nat.beq j 0 = false := beqF hj
      simp only [T.single, T.get, h0, cond_false, if_neg hj]
      cases Nat.beq (j % 2) 1 <;> rfl
  | succ f ih =>
    intro i v j hi
    unfold T.single
    by_cases h0 : i = 0
    · subst h0
      by_cases hj : j = 0
      · subst hj; simp [T.get_n]
      · have hb : Nat.beq j 0 = false := beqF hj
        simp only [Nat.beq_refl, cond_true, T.get_n, T.get_e, hb, cond_false, if_neg hj]
        cases Nat.beq (j % 2) 1 <;> rfl
    · have hb : Nat.beq i 0 = false := beqF h0
      simp only [hb, cond_false]
      by_cases h1 : i % 2 = 1
      · have hb1 : Nat.beq (i % 2) 1 = true := by simpa using h1
        simp only [hb1, cond_true, T.get_n, T.get_e]
        by_cases hj : j = 0
        · subst hj
          simp [show ¬ 0 = i by omega]
        · have hjb : Nat.beq j 0 = false := beqF hj
          simp only [hjb, cond_false]
          by_cases hj1 : j % 2 = 1
          · have : Nat.beq (j % 2) 1 = true := by simpa using hj1
            simp only [this, cond_true, ih (i / 2) v (j / 2) (by omega)]
            by_cases e : j = i
            · subst e; simp
            · rw [if_neg (by omega), if_neg e]
          · have : Nat.beq (j % 2) 1 = false := beqF hj1
            simp only [this, cond_false, if_neg (show ¬ j = i by omega)]
      · have hb1 : Nat.beq (i % 2) 1 = false := beqF h1
        simp only [hb1, cond_false, T.get_n, T.get_e]
        by_cases hj : j = 0
        · subst hj
          simp [show ¬ 0 = i by omega]
        · have hjb : Nat.beq j 0 = false := beqF hj
          simp only [hjb, cond_false]
          by_cases hj1 : j % 2 = 1
          · have : Nat.beq (j % 2) 1 = true := by simpa using hj1
            simp only [this, cond_true, if_neg (show ¬ j = i by omega)]
          · have : Nat.beq (j % 2) 1 = false := beqF hj1
            simp only [this, cond_false, ih (i / 2 - 1) v (j / 2 - 1) (by omega)]
            by_cases e : j = i
            · subst e; simp
            · rw [if_neg (by omega), if_neg e]

theorem T.get_set {α : Type} : ∀ (t : T α) (i : Nat) (v : α) (j : Nat), (t.set i v).get j = if j = i then some v else t.get j := by
  intro t
  induction t with
  | e => intro i v j; rw [T.set_e, T.get_single _ _ _ _ (Nat.le_refl _)]; rfl
  | n w l r ihl ihr =>
    intro i v j
    rw [T.set_n]
    by_cases h0 : i = 0
    · subst h0
      by_cases hj : j = 0
      · subst hj; simp [T.get_n]
      · have hb : Nat.beq j 0 = false := beqF hj
        simp only [Nat.beq_refl, cond_true, T.get_n, T.get_e, hb, cond_false, if_neg hj]
    · have hb : Nat.beq i 0 = false := beqF h0
      simp only [hb, cond_false]
      by_cases h1 : i % 2 = 1
      · have hb1 : Nat.beq (i % 2) 1 = true := by simpa using h1
        simp only [hb1, cond_true, T.get_n, T.get_e]
        by_cases hj : j = 0
        · subst hj
          simp [show ¬ 0 = i by omega]
        · have hjb : Nat.beq j 0 = false := beqF hj
          simp only [hjb, cond_false]
          by_cases hj1 : j % 2 = 1
          · have : Nat.beq (j % 2) 1 = true := by simpa using hj1
            simp only [this, cond_true, ihl (i / 2) v (j / 2)]
            by_cases e : j = i
            · subst e; simp
            · rw [if_neg (by omega), if_neg e]
          · have : Nat.beq (j % 2) 1 = false := beqF hj1
            simp only [this, cond_false, if_neg (show ¬ j = i by omega)]
      · have hb1 : Nat.beq (i % 2) 1 = false := beqF h1
        simp only [hb1, cond_false, T.get_n, T.get_e]
        by_cases hj : j = 0
        · subst hj
          simp [show ¬ 0 = i by omega]
        · have hjb : Nat.beq j 0 = false := beqF hj
          simp only [hjb, cond_false]
          by_cases hj1 : j % 2 = 1
          · have : Nat.beq (j % 2) 1 = true := by simpa using hj1
            simp only [this, cond_true, if_neg (show ¬ j = i by omega)]
          · have : Nat.beq (j % 2) 1 = false := beqF hj1
            simp only [this, cond_false, ihr (i / 2 - 1) v (j / 2 - 1)]
            by_cases e : j = i
            · subst e; simp
            · rw [if_neg (by omega), if_neg e]

theorem bifS {α : Type} {c : Bool} {x : Option α} {y : α} (h : (bif c then x else none) = some y) : c = true ∧ x = some y := by
  cases c with
  | false => cases h
  | true => exact ⟨rfl, h⟩

/-! ## Values -/
/-- where a block lies, and how many cells it has -/
abbrev Ren := Nat → Option (Nat × Nat)
def Ext (ρ ρ' : Ren) : Prop := ∀ b x, ρ b = some x → ρ' b = some x
theorem Ext.refl (ρ : Ren) : Ext ρ ρ := fun _ _ h => h
theorem Ext.trans {a b c : Ren} (h : Ext a b) (k : Ext b c) : Ext a c := fun x y e => k x y (h x y e)

inductive VR (ρ : Ren) : KV → Value → Prop
  | bool (b : Bool) : VR ρ (.bool b) (.bool b)
  | int (k : IntKind) (n : Int) : VR ρ (.int k n) (.int k n)
  | str (s : List UInt8) (b : ByteArray) : b.data.toList = s → VR ρ (.str s) (.string b)
  | nilp : VR ρ .nilp (.pointer none)
  | ptr (b off B m : Nat) : ρ b = some (B, m) → VR ρ (.ptr b off) (.pointer (some ⟨B, off, none⟩))
  | nilsl : VR ρ .nilsl (.slice none 0 0)
  | sl (b off len cap B m : Nat) : ρ b = some (B, m) → len ≤ cap → VR ρ (.sl b off len cap) (.slice (some ⟨B, off, none⟩) len cap)
  | slo (b off len sz kc B m c : Nat) : ρ b = some (B, m) → len ≤ kc → kc ≤ c → off + c * sz ≤ m → VR ρ (.slo b off len sz kc) (.slice (some ⟨B, off, none⟩) len c)
  | slz (a : Addr) (c : Nat) : VR ρ .slz (.slice (some a) 0 c)
  | nilmap : VR ρ .nilmap (.map none)
  | map (b B m : Nat) : ρ b = some (B, m) → VR ρ (.map b) (.map (some B))
  | nilf : VR ρ .nilf .nilFunc
  | fn (f : FuncId) (xs ys : List KV) (as bs : Array Value) : xs.length = as.toList.length → (∀ (i : Nat) (x : KV) (y : Value), xs[i]? = some x → as.toList[i]? = some y → VR ρ x y) →
      ys.length = bs.toList.length → (∀ (i : Nat) (x : KV) (y : Value), ys[i]? = some x → bs.toList[i]? = some y → VR ρ x y) → VR ρ (.fn f xs ys) (.func (.func f) as bs)
  | yld (l L m : Nat) : ρ l = some (L, m) → VR ρ (.yld l) (.func (.yield L) #[] #[])
  | agg (xs : List KV) (as : Array Value) : xs.length = as.toList.length → (∀ (i : Nat) (x : KV) (y : Value), xs[i]? = some x → as.toList[i]? = some y → VR ρ x y) → VR ρ (.agg xs) (.agg as)
  | tup (xs : List KV) (as : Array Value) : xs.length = as.toList.length → (∀ (i : Nat) (x : KV) (y : Value), xs[i]? = some x → as.toList[i]? = some y → VR ρ x y) → VR ρ (.tup xs) (.tuple as)

theorem VR.mono {ρ ρ' : Ren} (he : Ext ρ ρ') {k : KV} {v : Value} (h : VR ρ k v) : VR ρ' k v := by
  induction h with
  | bool b => exact .bool b
  | int k n => exact .int k n
  | str s b h => exact .str s b h
  | nilp => exact .nilp
  | ptr b off B m h => exact .ptr b off B m (he _ _ h)
  | nilsl => exact .nilsl
  | sl b off len cap B m h h1 => exact .sl b off len cap B m (he _ _ h) h1
  | slo b off len sz kc B m c h h1 h2 h3 => exact .slo b off len sz kc B m c (he _ _ h) h1 h2 h3
  | slz a c => exact .slz a c
  | nilmap => exact .nilmap
  | map b B m h => exact .map b B m (he _ _ h)
  | nilf => exact .nilf
  | fn f xs ys as bs h1 _ h2 _ i1 i2 => exact .fn f xs ys as bs h1 i1 h2 i2
  | yld l L m h => exact .yld l L m (he _ _ h)
  | agg xs as h1 _ i1 => exact .agg xs as h1 i1
  | tup xs as h1 _ i1 => exact .tup xs as h1 i1

def VRs (ρ : Ren) (xs : List KV) (as : List Value) : Prop := xs.length = as.length ∧ ∀ (i : Nat) (x : KV) (y : Value), xs[i]? = some x → as[i]? = some y → VR ρ x y

section
variable {ρ ρ' : Ren}
theorem VRs.mono (he : Ext ρ ρ') {xs : List KV} {as : List Value} (h : VRs ρ xs as) : VRs ρ' xs as := ⟨h.1, fun i x y a b => (h.2 i x y a b).mono he⟩
theorem VRs.nil : VRs ρ [] [] := ⟨rfl, fun i x y h => by simp at h⟩
theorem VRs.cons {x : KV} {v : Value} {xs : List KV} {as : List Value} (h : VR ρ x v) (hs : VRs ρ xs as) : VRs ρ (x :: xs) (v :: as) :=
  ⟨by simp [hs.1], fun i a b h1 h2 => by
    cases i with
    | zero => simp at h1 h2; subst h1; subst h2; exact h
    | succ i => simp at h1 h2; exact hs.2 i a b h1 h2⟩
theorem VRs.head {x : KV} {v : Value} {xs : List KV} {as : List Value} (h : VRs ρ (x :: xs) (v :: as)) : VR ρ x v := h.2 0 x v rfl rfl
theorem VRs.tail {x : KV} {v : Value} {xs : List KV} {as : List Value} (h : VRs ρ (x :: xs) (v :: as)) : VRs ρ xs as := ⟨by simpa using h.1, fun i a b h1 h2 => h.2 (i + 1) a b h1 h2⟩
theorem VRs.append {xs ys : List KV} {as bs : List Value} (h : VRs ρ xs as) (k : VRs ρ ys bs) : VRs ρ (xs ++ ys) (as ++ bs) :=
  ⟨by simp [h.1, k.1], fun i a b h1 h2 => by
    by_cases hi : i < xs.length
    · rw [List.getElem?_append_left hi] at h1
      rw [List.getElem?_append_left (by rw [← h.1]; exact hi)] at h2
      exact h.2 i a b h1 h2
    · rw [List.getElem?_append_right (by omega)] at h1
      rw [List.getElem?_append_right (by rw [← h.1]; omega), ← h.1] at h2
      exact k.2 _ a b h1 h2⟩
theorem VRs.drop {xs : List KV} {as : List Value} (h : VRs ρ xs as) (n : Nat) : VRs ρ (xs.drop n) (as.drop n) :=
  ⟨by simp [h.1], fun i a b h1 h2 => by rw [List.getElem?_drop] at h1 h2; exact h.2 _ a b h1 h2⟩
theorem VRs.take {xs : List KV} {as : List Value} (h : VRs ρ xs as) (n : Nat) : VRs ρ (xs.take n) (as.take n) :=
  ⟨by simp [h.1], fun i a b h1 h2 => by
    rw [List.getElem?_take] at h1 h2
    split at h1
    · rw [if_pos (by assumption)] at h2; exact h.2 _ a b h1 h2
    · cases h1⟩
theorem VRs.get {xs : List KV} {as : List Value} (h : VRs ρ xs as) {i : Nat} {x : KV} (hx : xs[i]? = some x) : ∃ v, as[i]? = some v ∧ VR ρ x v := by
  have hi : i < xs.length := (List.getElem?_eq_some_iff.1 hx).1
  exact ⟨as[i]'(by rw [← h.1]; exact hi), List.getElem?_eq_getElem _, h.2 i x _ hx (List.getElem?_eq_getElem _)⟩
theorem VR.agg' {xs : List KV} {as : List Value} (h : VRs ρ xs as) : VR ρ (.agg xs) (.agg as.toArray) := .agg _ _ (by simpa using h.1) (by simpa using h.2)
theorem VR.tup' {xs : List KV} {as : List Value} (h : VRs ρ xs as) : VR ρ (.tup xs) (.tuple as.toArray) := .tup _ _ (by simpa using h.1) (by simpa using h.2)
theorem VR.agg_inv {xs : List KV} {v : Value} (h : VR ρ (.agg xs) v) : ∃ as : List Value, v = .agg as.toArray ∧ VRs ρ xs as := by
  cases h with | agg _ as h1 h2 => exact ⟨as.toList, by simp, h1, h2⟩
theorem VR.tup_inv {xs : List KV} {v : Value} (h : VR ρ (.tup xs) v) : ∃ as : List Value, v = .tuple as.toArray ∧ VRs ρ xs as := by
  cases h with | tup _ as h1 h2 => exact ⟨as.toList, by simp, h1, h2⟩
theorem VR.undef : VR ρ (.tup []) Go.undef := .tup [] #[] rfl (fun i x y h => by simp at h)

theorem VR.cells {x : KV} {v : Value} (h : VR ρ x v) : VRs ρ x.cells v.cells.toList := by
  cases h with
  | agg xs as h1 h2 => exact ⟨h1, h2⟩
  | bool b => exact VRs.cons (.bool b) .nil
  | int k n => exact VRs.cons (.int k n) .nil
  | str s b h => exact VRs.cons (.str s b h) .nil
  | nilp => exact VRs.cons .nilp .nil
  | ptr b off B m h => exact VRs.cons (.ptr b off B m h) .nil
  | nilsl => exact VRs.cons .nilsl .nil
  | sl b off len cap B m h h1 => exact VRs.cons (.sl b off len cap B m h h1) .nil
  | slo b off len sz kc B m c h h1 h2 h3 => exact VRs.cons (.slo b off len sz kc B m c h h1 h2 h3) .nil
  | slz a c => exact VRs.cons (.slz a c) .nil
  | nilmap => exact VRs.cons .nilmap .nil
  | map b B m h => exact VRs.cons (.map b B m h) .nil
  | nilf => exact VRs.cons .nilf .nil
  | fn f xs ys as bs h1 h2 h3 h4 => exact VRs.cons (.fn f xs ys as bs h1 h2 h3 h4) .nil
  | yld l L m h => exact VRs.cons (.yld l L m h) .nil
  | tup xs as h1 h2 => exact VRs.cons (.tup xs as h1 h2) .nil

theorem VR.one {x : KV} {v : Value} (h : VR ρ x v) (hx : x.one = true) : v.oneCell' = true := by
  cases h <;> first | rfl | (simp [KV.one] at hx)
theorem VRs.one {xs : List KV} {as : List Value} (h : VRs ρ xs as) (hx : xs.all KV.one = true) : ∀ v ∈ as, v.oneCell' = true := by
  intro v hv
  obtain ⟨i, hi, rfl⟩ := List.mem_iff_getElem.1 hv
  have hi' : i < xs.length := by rw [h.1]; exact hi
  exact (h.2 i xs[i] as[i] (List.getElem?_eq_getElem _) (List.getElem?_eq_getElem _)).one (List.all_eq_true.1 hx _ (List.getElem_mem hi'))
end

/-! ## Blocks -/
/-- a frame's temporaries -/
def TR (ρ : Ren) (n : Nat) (tm : T KV) (tms : Array Value) : Prop := tms.size = n ∧ ∀ t, VR ρ ((tm.get t).getD (.tup [])) (tms.getD t undef)

theorem TR.mono {ρ ρ' : Ren} (he : Ext ρ ρ') {n : Nat} {tm : T KV} {tms : Array Value} (h : TR ρ n tm tms) : TR ρ' n tm tms := ⟨h.1, fun t => (h.2 t).mono he⟩

def OR (ρ : Ren) (m : Nat) : KO → Obj → Prop
  | .dead, _ => True
  | .row cs, o => ∃ c t, o = .cells c t (0, 0) ∧ c.size = m ∧ cs.length ≤ m ∧ VRs ρ cs (c.toList.take cs.length)
  | .mp es clock, o => ∃ ents : Array MapEntry, o = .map ents clock ∧ es.length = ents.toList.length ∧ ∀ (i : Nat) (e : KE) (x : MapEntry), es[i]? = some e → ents.toList[i]? = some x → VR ρ e.key x.key ∧ VR ρ e.val x.val ∧ x.born = e.born
  | .mit mm since seen stepped, o => ∃ r, o = .mapIter r since seen.toArray stepped ∧ (match mm with | none => r = none | some b => ∃ B m, ρ b = some (B, m) ∧ r = some B)
  | .sit s pos, o => ∃ b, o = .stringIter b pos ∧ b.data.toList = s
  | .loop st tm n ps a b d, o => ∃ f tms D m', o = .loop { state := st, pending := none, fn := f, tmps := tms, params := ps.toArray, assign := a, body := b, defers := D } ∧ ρ d = some (D, m') ∧ TR ρ n tm tms
  | .defd t, o => o = .deferred (if t then some [] else none)

theorem OR.mono {ρ ρ' : Ren} (he : Ext ρ ρ') {m : Nat} {k : KO} {o : Obj} (h : OR ρ m k o) : OR ρ' m k o := by
  cases k with
  | dead => trivial
  | row cs => obtain ⟨c, t, h1, h2, h3, h4⟩ := h; exact ⟨c, t, h1, h2, h3, h4.mono he⟩
  | mp es clock =>
    obtain ⟨ents, h1, h2, h3⟩ := h
    exact ⟨ents, h1, h2, fun i e x a b => let ⟨p, q, r⟩ := h3 i e x a b; ⟨p.mono he, q.mono he, r⟩⟩
  | mit mm since seen stepped =>
    obtain ⟨r, h1, h2⟩ := h
    refine ⟨r, h1, ?_⟩
    cases mm with
    | none => exact h2
    | some b => obtain ⟨B, m, h3, h4⟩ := h2; exact ⟨B, m, he _ _ h3, h4⟩
  | sit s pos => exact h
  | loop st tm n ps a b d => obtain ⟨f, tms, D, m', h1, h2, h3⟩ := h; exact ⟨f, tms, D, m', h1, he _ _ h2, h3.mono he⟩
  | defd t => exact h

structure HR (ρ : Ren) (w0 : World) (hp : T KO) (w : World) : Prop where
  below : Below w0.heap.size w0 w
  dom : ∀ b B m, ρ b = some (B, m) → ∃ o obj, hp.get b = some o ∧ w.heap[B]? = some obj ∧ OR ρ m o obj
  low : ∀ b B m, ρ b = some (B, m) → w0.heap.size ≤ B
  inj : ∀ b b' B m m', ρ b = some (B, m) → ρ b' = some (B, m') → hp.get b ≠ some .dead → hp.get b' ≠ some .dead → b = b'

section
variable {ρ : Ren} {w0 w : World} {hp : T KO}

theorem HR.get (h : HR ρ w0 hp w) {b B m : Nat} {o : KO} (hb : ρ b = some (B, m)) (ho : hp.get b = some o) : ∃ obj, w.heap[B]? = some obj ∧ OR ρ m o obj := by
  obtain ⟨o', obj, h1, h2, h3⟩ := h.dom b B m hb
  rw [ho] at h1; simp only [Option.some.injEq] at h1; subst h1
  exact ⟨obj, h2, h3⟩
theorem HR.lt (h : HR ρ w0 hp w) {b B m : Nat} (hb : ρ b = some (B, m)) : B < w.heap.size := by
  obtain ⟨o', obj, h1, h2, h3⟩ := h.dom b B m hb
  exact (Array.getElem?_eq_some_iff.1 h2).1

theorem HR.none (h : HR ρ w0 hp w) {b : Nat} (hb : hp.get b = none) : ρ b = none := by
  cases hr : ρ b with
  | none => rfl
  | some x => obtain ⟨o, _, h1, _⟩ := h.dom b x.1 x.2 hr; rw [hb] at h1; cases h1

def Ren.upd (ρ : Ren) (b : Nat) (x : Nat × Nat) : Ren := fun c => if c = b then some x else ρ c
theorem Ren.upd_same (b : Nat) (x : Nat × Nat) : ρ.upd b x b = some x := by simp [Ren.upd]
theorem Ren.ext_upd {b : Nat} {x : Nat × Nat} (hb : ρ b = Option.none) : Ext ρ (ρ.upd b x) := fun c y hc => by
  unfold Ren.upd
  by_cases e : c = b
  · subst e; rw [hb] at hc; cases hc
  · rw [if_neg e]; exact hc

theorem HR.congr {hp' : T KO} (h : HR ρ w0 hp w) (he : ∀ i, hp'.get i = hp.get i) : HR ρ w0 hp' w :=
  ⟨h.below, fun b B m hb => let ⟨o, obj, h1, h2, h3⟩ := h.dom b B m hb; ⟨o, obj, by rw [he]; exact h1, h2, h3⟩, h.low, fun b b' B m m' h1 h2 h3 h4 => h.inj b b' B m m' h1 h2 (by rw [← he]; exact h3) (by rw [← he]; exact h4)⟩

/-- a new block -/
theorem HR.new (h : HR ρ w0 hp w) {b m : Nat} (hb : hp.get b = Option.none) {o : KO} {obj : Obj} (ho : OR (ρ.upd b (w.heap.size, m)) m o obj) :
    HR (ρ.upd b (w.heap.size, m)) w0 (hp.set b o) (w.alloc obj) ∧ Ext ρ (ρ.upd b (w.heap.size, m)) := by
  have he : Ext ρ (ρ.upd b (w.heap.size, m)) := Ren.ext_upd (h.none hb)
  refine ⟨⟨h.below.alloc h.below.size _, fun c B m' hc => ?_, fun c B m' hc => ?_, fun c c' B m1 m2 hc hc' hl hl' => ?_⟩, he⟩
  · by_cases e : c = b
    · subst e
      rw [Ren.upd_same] at hc
      simp only [Option.some.injEq, Prod.mk.injEq] at hc
      obtain ⟨rfl, rfl⟩ := hc
      exact ⟨o, obj, by rw [T.get_set]; simp, World.alloc_heap_new w obj, ho⟩
    · have hc0 : ρ c = some (B, m') := by unfold Ren.upd at hc; rwa [if_neg e] at hc
      obtain ⟨o', obj', h1, h2, h3⟩ := h.dom c B m' hc0
      exact ⟨o', obj', by rw [T.get_set, if_neg e]; exact h1, by rw [Below.heap_alloc _ _ _ (h.lt hc0)]; exact h2, h3.mono he⟩
  · by_cases e : c = b
    · subst e
      rw [Ren.upd_same] at hc
      simp only [Option.some.injEq, Prod.mk.injEq] at hc
      obtain ⟨rfl, rfl⟩ := hc
      exact h.below.size
    · have hc0 : ρ c = some (B, m') := by unfold Ren.upd at hc; rwa [if_neg e] at hc
      exact h.low c B m' hc0
  · by_cases e : c = b
    · by_cases e' : c' = b
      · rw [e, e']
      · have hc0 : ρ c' = some (B, m2) := by unfold Ren.upd at hc'; rwa [if_neg e'] at hc'
        subst e
        rw [Ren.upd_same] at hc
        simp only [Option.some.injEq, Prod.mk.injEq] at hc
        have := h.lt hc0
        omega
    · have hc0 : ρ c = some (B, m1) := by unfold Ren.upd at hc; rwa [if_neg e] at hc
      by_cases e' : c' = b
      · subst e'
        rw [Ren.upd_same] at hc'
        simp only [Option.some.injEq, Prod.mk.injEq] at hc'
        have := h.lt hc0
        omega
      · have hc0' : ρ c' = some (B, m2) := by unfold Ren.upd at hc'; rwa [if_neg e'] at hc'
        rw [T.get_set, if_neg e] at hl
        rw [T.get_set, if_neg e'] at hl'
        exact h.inj c c' B m1 m2 hc0 hc0' hl hl'

/-- a live block turns -/
theorem HR.turn (h : HR ρ w0 hp w) {b B m : Nat} (hb : ρ b = some (B, m)) (hl : hp.get b ≠ some .dead) {o : KO} {obj : Obj} {w' : World} (ho : OR ρ m o obj)
    (hos : w'.os = w.os) (hta : w'.tape = w.tape) (hou : w'.output = w.output) (hsz : w'.heap.size = w.heap.size) (hB : w'.heap[B]? = some obj) (hoth : ∀ k, k ≠ B → w'.heap[k]? = w.heap[k]?) : HR ρ w0 (hp.set b o) w' := by
  have hlow := h.low b B m hb
  refine ⟨h.below.trans ⟨hos, hta, hou, by omega, fun k hk => hoth k (by omega)⟩, fun c C m' hc => ?_, h.low, fun c c' C m1 m2 hc hc' hl1 hl2 => ?_⟩
  · by_cases e : c = b
    · subst e
      rw [hb] at hc
      simp only [Option.some.injEq, Prod.mk.injEq] at hc
      obtain ⟨rfl, rfl⟩ := hc
      exact ⟨o, obj, by rw [T.get_set]; simp, hB, ho⟩
    · obtain ⟨o', obj', h1, h2, h3⟩ := h.dom c C m' hc
      by_cases eC : C = B
      · subst eC
        have hd : o' = .dead := by
          by_cases hd : o' = .dead
          · exact hd
          · exact absurd (h.inj c b C m' m hc hb (by rw [h1]; simpa using hd) hl) e
        subst hd
        exact ⟨.dead, obj, by rw [T.get_set, if_neg e]; exact h1, hB, trivial⟩
      · exact ⟨o', obj', by rw [T.get_set, if_neg e]; exact h1, by rw [hoth C eC]; exact h2, h3⟩
  · have key : ∀ c, (hp.set b o).get c ≠ some .dead → hp.get c ≠ some .dead := by
      intro c hc
      by_cases e : c = b
      · subst e; exact hl
      · rw [T.get_set, if_neg e] at hc; exact hc
    exact h.inj c c' C m1 m2 hc hc' (key c hl1) (key c' hl2)

/-- a block is given up -/
theorem HR.kill (h : HR ρ w0 hp w) {b B m : Nat} (hb : ρ b = some (B, m)) : HR ρ w0 (hp.set b .dead) w := by
  refine ⟨h.below, fun c C m' hc => ?_, h.low, fun c c' C m1 m2 hc hc' hl1 hl2 => ?_⟩
  · obtain ⟨o', obj', h1, h2, h3⟩ := h.dom c C m' hc
    by_cases e : c = b
    · exact ⟨.dead, obj', by rw [T.get_set, if_pos e], h2, trivial⟩
    · exact ⟨o', obj', by rw [T.get_set, if_neg e]; exact h1, h2, h3⟩
  · rw [T.get_set] at hl1 hl2
    by_cases e : c = b
    · rw [if_pos e] at hl1; exact absurd rfl hl1
    · rw [if_neg e] at hl1
      by_cases e' : c' = b
      · rw [if_pos e'] at hl2; exact absurd rfl hl2
      · rw [if_neg e'] at hl2
        exact h.inj c c' C m1 m2 hc hc' hl1 hl2

theorem HR.drew (h : HR ρ w0 hp w) : HR ρ w0 hp w.drew := ⟨h.below.drew, h.dom, h.low, h.inj⟩

/-- another name for a block that is given up -/
theorem HR.rename (h : HR ρ w0 hp w) {b b' B m : Nat} (hb : ρ b = some (B, m)) (hl : hp.get b ≠ some .dead) (hb' : hp.get b' = Option.none) {o : KO} {obj : Obj} (hB : w.heap[B]? = some obj) (ho : OR (ρ.upd b' (B, m)) m o obj) :
    HR (ρ.upd b' (B, m)) w0 ((hp.set b .dead).set b' o) w ∧ Ext ρ (ρ.upd b' (B, m)) := by
  have he : Ext ρ (ρ.upd b' (B, m)) := Ren.ext_upd (h.none hb')
  have hne : b ≠ b' := fun e => by
    subst e
    obtain ⟨o', _, h1, _⟩ := h.dom b B m hb
    rw [hb'] at h1; cases h1
  refine ⟨⟨h.below, fun c C m' hc => ?_, fun c C m' hc => ?_, fun c c' C m1 m2 hc hc' hl1 hl2 => ?_⟩, he⟩
  · by_cases e : c = b'
    · subst e
      rw [Ren.upd_same] at hc
      simp only [Option.some.injEq, Prod.mk.injEq] at hc
      obtain ⟨rfl, rfl⟩ := hc
      exact ⟨o, obj, by rw [T.get_set]; simp, hB, ho⟩
    · have hc0 : ρ c = some (C, m') := by unfold Ren.upd at hc; rwa [if_neg e] at hc
      obtain ⟨o', obj', h1, h2, h3⟩ := h.dom c C m' hc0
      by_cases eb : c = b
      · exact ⟨.dead, obj', by rw [T.get_set, if_neg e, T.get_set, if_pos eb], h2, trivial⟩
      · exact ⟨o', obj', by rw [T.get_set, if_neg e, T.get_set, if_neg eb]; exact h1, h2, h3.mono he⟩
  · by_cases e : c = b'
    · subst e
      rw [Ren.upd_same] at hc
      simp only [Option.some.injEq, Prod.mk.injEq] at hc
      obtain ⟨rfl, rfl⟩ := hc
      exact h.low _ _ _ hb
    · have hc0 : ρ c = some (C, m') := by unfold Ren.upd at hc; rwa [if_neg e] at hc
      exact h.low _ _ _ hc0
  · have key : ∀ c m1, c ≠ b' → ρ.upd b' (B, m) c = some (B, m1) → ((hp.set b .dead).set b' o).get c ≠ some .dead → False := by
      intro c m1 e hc hl1
      have hc0 : ρ c = some (B, m1) := by unfold Ren.upd at hc; rwa [if_neg e] at hc
      rw [T.get_set, if_neg e, T.get_set] at hl1
      by_cases eb : c = b
      · rw [if_pos eb] at hl1; exact hl1 rfl
      · rw [if_neg eb] at hl1
        exact eb (h.inj c b B m1 m hc0 hb hl1 hl)
    by_cases e : c = b'
    · by_cases e' : c' = b'
      · rw [e, e']
      · exfalso
        subst e
        rw [Ren.upd_same] at hc
        simp only [Option.some.injEq, Prod.mk.injEq] at hc
        obtain ⟨rfl, rfl⟩ := hc
        exact key c' m2 e' hc' hl2
    · by_cases e' : c' = b'
      · exfalso
        subst e'
        rw [Ren.upd_same] at hc'
        simp only [Option.some.injEq, Prod.mk.injEq] at hc'
        obtain ⟨rfl, rfl⟩ := hc'
        exact key c m1 e hc hl1
      · have hc0 : ρ c = some (C, m1) := by unfold Ren.upd at hc; rwa [if_neg e] at hc
        have hc0' : ρ c' = some (C, m2) := by unfold Ren.upd at hc'; rwa [if_neg e'] at hc'
        rw [T.get_set, if_neg e, T.get_set] at hl1
        rw [T.get_set, if_neg e', T.get_set] at hl2
        by_cases eb : c = b
        · rw [if_pos eb] at hl1; exact absurd rfl hl1
        · rw [if_neg eb] at hl1
          by_cases eb' : c' = b
          · rw [if_pos eb'] at hl2; exact absurd rfl hl2
          · rw [if_neg eb'] at hl2
            exact h.inj c c' C m1 m2 hc0 hc0' hl1 hl2
end
end Go.KX
