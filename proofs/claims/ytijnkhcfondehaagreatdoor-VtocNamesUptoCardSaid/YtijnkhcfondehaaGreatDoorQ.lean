/- Text. -/
import Derived.Test.YtijnkhcfondehaaGreatDoorE
set_option linter.unusedSimpArgs false
set_option linter.unusedVariables false
set_option maxHeartbeats 8000000
set_option linter.unusedVariables false
set_option linter.unusedSimpArgs false
set_option maxRecDepth 100000
namespace Go.Proofs.YtijnkhcfondehaaGreatDoor
open Go.AE
theorem dropWhile_nil {p : UInt8 → Bool} : ∀ {l : List UInt8}, l.dropWhile p = [] ↔ ∀ x ∈ l, p x = true
  | [] => by simp
  | x :: l => by
    rw [List.dropWhile_cons]
    cases h : p x with
    | true => simp [dropWhile_nil (l := l), h]
    | false => simp [h]
theorem dropWhile_head {p : UInt8 → Bool} : ∀ {l : List UInt8} {x : UInt8} {t : List UInt8}, l.dropWhile p = x :: t → p x = false
  | [], x, t, h => by simp at h
  | y :: l, x, t, h => by
    rw [List.dropWhile_cons] at h
    cases hy : p y with
    | true => rw [hy] at h; exact dropWhile_head (by simpa using h)
    | false =>
      rw [hy] at h
      simp only [Bool.false_eq_true, if_false, List.cons.injEq] at h
      rw [← h.1]; exact hy
theorem trimS_nil (l cs : List UInt8) : Go.Lib.trimS l cs = [] ↔ l.all (cs.contains ·) = true := by
  have hr : Go.Lib.trimRightS l cs = [] ↔ l.all (cs.contains ·) = true := by
    unfold Go.Lib.trimRightS
    rw [List.reverse_eq_nil_iff, dropWhile_nil, List.all_eq_true]
    simp
  rw [← hr]
  unfold Go.Lib.trimS Go.Lib.trimLeftS
  rw [dropWhile_nil]
  constructor
  · intro h
    unfold Go.Lib.trimRightS at h ⊢
    rw [List.reverse_eq_nil_iff]
    cases hd : List.dropWhile (fun x => cs.contains x) l.reverse with
    | nil => rfl
    | cons x t =>
      exfalso
      have h1 := h x (by rw [hd]; simp)
      have h2 := dropWhile_head hd
      rw [h1] at h2; cases h2
  · intro h x hx
    rw [h] at hx; cases hx
theorem trim_ne (l cs : List UInt8) : (Go.Lib.trimS l cs != []) = !l.all (cs.contains ·) := by
  have h1 := trimS_nil l cs
  cases h3 : l.all (cs.contains ·) with
  | true => simpa using h1.2 h3
  | false =>
    have : ¬ Go.Lib.trimS l cs = [] := fun e => by rw [h1.1 e] at h3; cases h3
    simpa using this
def letB (b : UInt8) : Bool := if (decide (((b.toNat : Nat) : Int) ≥ 65)) = true then (decide (((b.toNat : Nat) : Int) ≤ 90)) else false
def digB (b : UInt8) : Bool := if (decide (((b.toNat : Nat) : Int) ≥ 48)) = true then (decide (((b.toNat : Nat) : Int) ≤ 57)) else false
def othB (b : UInt8) : Bool := if (if (((b.toNat : Nat) : Int) == 64) = true then true else (((b.toNat : Nat) : Int) == 35)) = true then true else (((b.toNat : Nat) : Int) == 36)
def chB (b : UInt8) : Bool := letB b || digB b || othB b
def cut39 : List UInt8 := [65, 66, 67, 68, 69, 70, 71, 72, 73, 74, 75, 76, 77, 78, 79, 80, 81, 82, 83, 84, 85, 86, 87, 88, 89, 90, 48, 49, 50, 51, 52, 53, 54, 55, 56, 57, 64, 35, 36]
def cut36 : List UInt8 := [65, 66, 67, 68, 69, 70, 71, 72, 73, 74, 75, 76, 77, 78, 79, 80, 81, 82, 83, 84, 85, 86, 87, 88, 89, 90, 48, 49, 50, 51, 52, 53, 54, 55, 56, 57]
theorem cut39_contains (b : UInt8) : cut39.contains b = chB b := by
  have h : ∀ k : Fin 256, cut39.contains (UInt8.ofNat k.val) = chB (UInt8.ofNat k.val) := by decide
  have := h ⟨b.toNat, b.toNat_lt⟩
  simpa using this
theorem cut36_contains (b : UInt8) : cut36.contains b = (letB b || digB b) := by
  have h : ∀ k : Fin 256, cut36.contains (UInt8.ofNat k.val) = (letB (UInt8.ofNat k.val) || digB (UInt8.ofNat k.val)) := by decide
  have := h ⟨b.toNat, b.toNat_lt⟩
  simpa using this
theorem trim39 (n : Nat) (l : List UInt8) : ∃ t, strings_Trim n l cut39 = some t ∧ (t != []) = !l.all chB := by
  refine ⟨Go.Lib.trimS l cut39, ?_, ?_⟩
  · rw [strings_Trim, gd_pos _ (by decide)]
  · rw [trim_ne]; congr 2; funext b; exact cut39_contains b
theorem trim36 (n : Nat) (l : List UInt8) : ∃ t, strings_Trim n l cut36 = some t ∧ (t != []) = !l.all (fun b => letB b || digB b) := by
  refine ⟨Go.Lib.trimS l cut36, ?_, ?_⟩
  · rw [strings_Trim, gd_pos _ (by decide)]
  · rw [trim_ne]; congr 2; funext b; exact cut36_contains b
def smp (p : List UInt8) : Bool := decide (1 ≤ p.length) && decide (p.length ≤ 8) && (p.all chB && !(match p with | [] => false | b :: _ => digB b))
def parts : List UInt8 → List (List UInt8)
  | [] => [[]]
  | b :: l => if b = 46 then [] :: parts l else match parts l with
    | p :: ps => (b :: p) :: ps
    | [] => [[b]]
theorem parts_ne : ∀ s : List UInt8, parts s ≠ []
  | [] => by simp [parts]
  | b :: l => by
    unfold parts
    split
    · simp
    · split <;> simp
theorem parts_none : ∀ {s : List UInt8}, 46 ∉ s → parts s = [s]
  | [], _ => rfl
  | b :: l, h => by
    have hb : b ≠ 46 := fun e => h (by simp [e])
    have hl : 46 ∉ l := fun e => h (by simp [e])
    rw [parts, if_neg hb, parts_none hl]
theorem parts_app : ∀ {a : List UInt8} (t : List UInt8), 46 ∉ a → parts (a ++ 46 :: t) = a :: parts t
  | [], t, _ => by simp [parts]
  | b :: l, t, h => by
    have hb : b ≠ 46 := fun e => h (by simp [e])
    have hl : 46 ∉ l := fun e => h (by simp [e])
    rw [List.cons_append, parts, if_neg hb, parts_app t hl]
theorem ibyte_none : ∀ {s : List UInt8}, 46 ∉ s → Go.Lib.indexByte s 46 = -1
  | [], _ => rfl
  | b :: l, h => by
    have hb : b ≠ 46 := fun e => h (by simp [e])
    have hl : 46 ∉ l := fun e => h (by simp [e])
    rw [Go.Lib.indexByte, ibyte_none hl]
    simp [hb]
theorem ibyte_app : ∀ {a : List UInt8} (t : List UInt8), 46 ∉ a → Go.Lib.indexByte (a ++ 46 :: t) 46 = (a.length : Int)
  | [], t, _ => by simp [Go.Lib.indexByte]
  | b :: l, t, h => by
    have hb : b ≠ 46 := fun e => h (by simp [e])
    have hl : 46 ∉ l := fun e => h (by simp [e])
    rw [List.cons_append, Go.Lib.indexByte, ibyte_app t hl]
    have : ¬ ((l.length : Int) = -1) := by omega
    simp [hb, this]
theorem at_dot : ∀ s : List UInt8, 46 ∉ s ∨ ∃ a t, s = a ++ 46 :: t ∧ 46 ∉ a
  | [] => .inl (by simp)
  | b :: l => by
    by_cases hb : b = 46
    · exact .inr ⟨[], l, by simp [hb], by simp⟩
    · rcases at_dot l with h | ⟨a, t, rfl, ha⟩
      · exact .inl (by simp [h, Ne.symm hb])
      · exact .inr ⟨b :: a, t, by simp, by simp [ha, Ne.symm hb]⟩
theorem splitK_parts : ∀ (k : Nat) (s : List UInt8), s.count 46 ≤ k → Go.Lib.splitK [46] 0 k s = parts s
  | 0, s, h => by
    have : 46 ∉ s := fun hm => by have := List.count_pos_iff.2 hm; omega
    rw [parts_none this]; rfl
  | k + 1, s, h => by
    rcases at_dot s with hn | ⟨a, t, rfl, ha⟩
    · rw [Go.Lib.splitK, Go.Lib.index_one, ibyte_none hn, parts_none hn]; rfl
    · rw [Go.Lib.splitK, Go.Lib.index_one, ibyte_app t ha, parts_app t ha]
      have h1 : ¬ (((a.length : Nat) : Int) = -1) := by omega
      have h2 : t.count 46 ≤ k := by
        rw [List.count_append, List.count_cons_self] at h; omega
      simp only [beq_iff_eq, h1, if_false, Int.toNat_natCast, Nat.add_zero, List.take_left, List.length_singleton]
      have : (a ++ 46 :: t).drop (a.length + 1) = t := by
        rw [show a ++ 46 :: t = (a ++ [46]) ++ t by simp, show a.length + 1 = (a ++ [46]).length by simp, List.drop_left]
      rw [this, splitK_parts k t h2]
theorem split_parts (n : Nat) (s : List UInt8) (h : s.length < 4294967281) : strings_Split n s [46] = some (parts s) := by
  rw [strings_Split, gd_pos _ ⟨h, rfl⟩]
  unfold Go.Lib.split
  rw [splitK_parts _ _ (by rw [Go.Lib.count_one]; exact Nat.le_refl _)]
theorem parts_len : ∀ s : List UInt8, (parts s).length ≤ s.length + 1
  | [] => by simp [parts]
  | b :: l => by
    have := parts_len l
    unfold parts
    split
    · simp only [List.length_cons]; omega
    · split
      · rename_i p ps hp; rw [hp] at this; simp only [List.length_cons] at this ⊢; omega
      · simp
def nameB (s : List UInt8) : Bool := decide (s.length ≤ 44) && (parts s).all smp
theorem part_len {s p : List UInt8} (h : p ∈ parts s) : p.length ≤ s.length := by
  induction s generalizing p with
  | nil => simp [parts] at h; subst h; simp
  | cons b l ih =>
    unfold parts at h
    split at h
    · rcases List.mem_cons.1 h with rfl | h
      · simp
      · have := ih h; simp only [List.length_cons]; omega
    · split at h
      · rename_i q ps hp
        rcases List.mem_cons.1 h with rfl | h
        · have := ih (p := q) (by rw [hp]; simp); simp only [List.length_cons]; omega
        · have := ih (p := p) (by rw [hp]; simp [h]); simp only [List.length_cons]; omega
      · simp at h; subst h; simp
theorem Name_eq (n : Nat) (s : List UInt8) (hn : N0 ≤ n) : vtoc_Name n s = some (nameB s) := by
  have hn0 : 4194304 ≤ n := hn
  unfold vtoc_Name nameB
  by_cases h44 : s.length ≤ 44
  · have h1 : decide ((s.length : Int) > 44) = false := decide_eq_false (by omega)
    have h2 : decide (s.length ≤ 44) = true := decide_eq_true h44
    rw [h1, cond_false, split_parts n s (by omega), h2, Bool.true_and, Option.bind_some]
    have hpl := parts_len s
    have key : loopF (fun (x : Int) => vtoc_Name_b2 n (parts s) (((parts s).length : Nat) : Int) x) n 0 = some (if (parts s).any (fun p => !smp p) = true then .inl false else .inr ()) := by
      refine loop_any (parts s) (fun p => !smp p) _ _ (fun k hk => ?_) ?_ (by omega)
      · have hlt : ((k : Nat) : Int) < (((parts s).length : Nat) : Int) := by omega
        have h0 : (0 : Int) ≤ (k : Int) := by omega
        unfold vtoc_Name_b2
        have hpk := part_len (List.getElem_mem hk)
        simp only [decide_eq_true hlt, cond_true, Int.toNat_natCast, gt_lt hk]
        rw [gd_pos _ ⟨⟨h0, hlt⟩, hk⟩]
        generalize (parts s)[k] = p at hpk ⊢
        rw [wid (n := (k : Int) + 1) (by omega)]
        obtain ⟨t, ht1, ht2⟩ := trim39 n p
        have ht1' : strings_Trim n p [65, 66, 67, 68, 69, 70, 71, 72, 73, 74, 75, 76, 77, 78, 79, 80, 81, 82, 83, 84, 85, 86, 87, 88, 89, 90, 48, 49, 50, 51, 52, 53, 54, 55, 56, 57, 64, 35, 36] = some t := ht1
        rw [ht1']
        cases p with
        | nil => simp [smp, gd]
        | cons b q =>
          have e1 : decide (((b :: q).length : Int) < 1) = false := decide_eq_false (by simp only [List.length_cons]; omega)
          have e0 : (0 : Int) < ((b :: q).length : Int) := by simp only [List.length_cons]; omega
          simp only [e1, e0, implies_true, and_self, Bool.false_eq_true, if_false, List.getD_cons_zero, Option.bind_some, ht2]
          rw [gd_pos _ trivial]
          have e5 : decide (1 ≤ (b :: q).length) = true := decide_eq_true (by simp only [List.length_cons]; omega)
          have e6 : decide (((b :: q).length : Int) > 8) = !decide ((b :: q).length ≤ 8) := by
            by_cases h : (b :: q).length ≤ 8
            · rw [decide_eq_true h, decide_eq_false (by omega)]; rfl
            · rw [decide_eq_false h, decide_eq_true (by omega)]; rfl
          have e7 : (if (decide (((b.toNat : Nat) : Int) ≥ 48)) = true then (decide (((b.toNat : Nat) : Int) ≤ 57)) else false) = digB b := rfl
          simp only [e6, e7, smp, e5, Bool.true_and]
          cases decide ((b :: q).length ≤ 8) <;> cases digB b <;> cases (b :: q).all chB <;> rfl
      · unfold vtoc_Name_b2
        simp only [Int.lt_irrefl, decide_false, cond_false]
    rw [key, Option.bind_some]
    have ha : (parts s).any (fun p => !smp p) = !(parts s).all smp := by
      rw [List.all_eq_not_any_not]; simp
    rw [ha]
    cases (parts s).all smp <;> rfl
  · have h1 : decide ((s.length : Int) > 44) = true := decide_eq_true (by omega)
    have h2 : decide (s.length ≤ 44) = false := decide_eq_false h44
    rw [h1, h2]; rfl
theorem rletter_eq (n : Nat) (b : UInt8) : ref21_letter n (((b.toNat : Nat) : Int)) = some (letB b) := rfl
theorem rdigit_eq (n : Nat) (b : UInt8) : ref21_digit n (((b.toNat : Nat) : Int)) = some (digB b) := rfl
theorem simple_eq (n : Nat) (p : List UInt8) (hn : p.length < n) (hp : p.length ≤ 1099511627776) : ref21_simple n p = some (smp p) := by
  unfold ref21_simple
  have key := loop_list (σ := Nat) (body := fun (x : Int) => ref21_simple_b2 n p x) p (fun k _ => (k : Int)) (fun s b => if (!letB b && !othB b && (s == 0 || !digB b)) = true then .inr (.inl false) else .inl (s + 1)) (fun _ => .inr ()) (fun k s => s = k) (s := 0) rfl
    (fun k hk s hI => by
      subst hI
      have hlt : ((s : Nat) : Int) < (p.length : Int) := by omega
      have h0 : (0 : Int) ≤ (s : Int) := by omega
      have hg : p.getD s 0 = p[s] := by simp [List.getD_eq_getElem?_getD, hk]
      unfold ref21_simple_b2
      simp only [decide_eq_true hlt, cond_true, Int.toNat_natCast, hg, h0, hlt, and_self, implies_true]
      rw [gd_pos _ trivial, gd_pos _ trivial]
      generalize p[s] = b
      rw [rletter_eq, Option.bind_some]
      simp only [rdigit_eq, Option.isSome_some, Option.getD_some, implies_true, true_and]
      have eo : (if (if (((b.toNat : Nat) : Int) == 64) = true then true else (((b.toNat : Nat) : Int) == 35)) = true then true else (((b.toNat : Nat) : Int) == 36)) = othB b := rfl
      have ez : (((s : Nat) : Int) == 0) = (s == 0) := by
        by_cases h : s = 0
        · subst h; rfl
        · have : ¬ ((s : Int) = 0) := by omega
          rw [beq_eq_false_iff_ne.2 this, beq_eq_false_iff_ne.2 h]
      rw [eo, ez, wid (n := (s : Int) + 1) (by omega)]
      rw [gd_pos _ (by intro h; simpa using h)]
      cases letB b <;> cases othB b <;> cases (s == 0) <;> cases digB b <;> rfl)
    (fun k hk s hI s' he => by
      subst hI
      split at he
      · cases he
      · simp only [Sum.inl.injEq] at he; omega)
    (fun s hs => by
      subst hs
      unfold ref21_simple_b2
      simp only [Int.lt_irrefl, decide_false, cond_false]) hn
  have key' : loopF (fun (x : Int) => ref21_simple_b2 n p x) n 0 = _ := key
  rw [key', Option.bind_some]
  have tail : ∀ (q : List UInt8) (s : Nat), s ≠ 0 → runL (fun (s : Nat) b => if (!letB b && !othB b && (s == 0 || !digB b)) = true then (.inr (.inl false) : Nat ⊕ (Bool ⊕ Unit)) else .inl (s + 1)) (fun _ => .inr ()) q s = cond (q.all chB) (.inr ()) (.inl false) := by
    intro q
    induction q with
    | nil => intro s _; rfl
    | cons b q ih =>
      intro s hs
      have hz : (s == 0) = false := by simpa using hs
      have hih := ih (s + 1) (by omega)
      simp only [runL, hz, Bool.false_or, List.all_cons]
      have e : (!letB b && !othB b && !digB b) = !chB b := by unfold chB; cases letB b <;> cases othB b <;> cases digB b <;> rfl
      rw [e]
      rcases Bool.eq_false_or_eq_true (chB b) with h | h
      · rw [h]; simpa using hih
      · rw [h]; rfl
  cases p with
  | nil => simp [runL, ref21_simple_k1, smp]
  | cons b q =>
    have ht := tail q 1 (by omega)
    simp only [runL, beq_self_eq_true, Bool.true_or, Bool.and_true]
    have el : decide (1 ≤ (b :: q).length) = true := decide_eq_true (by simp only [List.length_cons]; omega)
    have el1 : decide (((b :: q).length : Int) ≥ 1) = true := decide_eq_true (by simp only [List.length_cons]; omega)
    have el2 : decide (((b :: q).length : Int) ≤ 8) = decide ((b :: q).length ≤ 8) := by
      by_cases h : (b :: q).length ≤ 8
      · rw [decide_eq_true h, decide_eq_true (by omega)]
      · rw [decide_eq_false h, decide_eq_false (by omega)]
    have ek : ref21_simple_k1 n (b :: q) = some (decide ((b :: q).length ≤ 8)) := by simp only [ref21_simple_k1, el1, el2, if_true]
    have hx : ∀ b : UInt8, (letB b || othB b) = true → digB b = false := by
      intro b
      have h : ∀ k : Fin 256, (letB (UInt8.ofNat k.val) || othB (UInt8.ofNat k.val)) = true → digB (UInt8.ofNat k.val) = false := by decide
      have := h ⟨b.toNat, b.toNat_lt⟩
      simpa using this
    have hxb := hx b
    simp only [smp, el, Bool.true_and, List.all_cons]
    cases hl : letB b <;> cases ho : othB b <;> simp only [hl, ho, Bool.not_false, Bool.not_true, Bool.and_self, Bool.and_false, Bool.false_and, Bool.or_false, Bool.or_true, Bool.false_or, Bool.true_or, if_true, Bool.false_eq_true, if_false] at hxb ⊢
    · unfold chB
      rw [hl, ho]
      cases digB b <;> simp
    all_goals
      have hd := hxb trivial
      have hc : chB b = true := by unfold chB; rw [hl, ho]; simp
      simp only [Nat.zero_add, ht, ek, hc, hd, Bool.true_and, Bool.not_false, Bool.and_true]
      cases q.all chB <;> simp
end Go.Proofs.YtijnkhcfondehaaGreatDoor
/-
  ch. 21: names by the specification; the law of names.
-/
set_option maxHeartbeats 8000000
set_option linter.unusedVariables false
set_option linter.unusedSimpArgs false
set_option maxRecDepth 100000
namespace Go.Proofs.YtijnkhcfondehaaGreatDoor
open Go.AE
def goN : List UInt8 → List UInt8 → Bool
  | cur, [] => smp cur
  | cur, b :: r => if b = 46 then smp cur && goN [] r else goN (cur ++ [b]) r
theorem goN_parts : ∀ (r cur : List UInt8), goN cur r = match parts r with | p :: ps => smp (cur ++ p) && ps.all smp | [] => false
  | [], cur => by simp [goN, parts]
  | b :: r, cur => by
    rw [goN, parts]
    by_cases hb : b = 46
    · rw [if_pos hb, if_pos hb, goN_parts r []]
      simp only [List.append_nil, List.nil_append]
      cases hp : parts r with
      | nil => exact absurd hp (parts_ne r)
      | cons p ps => simp
    · rw [if_neg hb, if_neg hb, goN_parts r (cur ++ [b])]
      cases hp : parts r with
      | nil => exact absurd hp (parts_ne r)
      | cons p ps => simp
theorem goN_all (s : List UInt8) : goN [] s = (parts s).all smp := by
  rw [goN_parts]
  cases hp : parts s with
  | nil => exact absurd hp (parts_ne s)
  | cons p ps => simp
theorem rname_go (n : Nat) (s : List UInt8) (hn : N0 ≤ n) (hs : s.length ≤ 2097152) : ∀ (j f i m : Nat), i + j = s.length → f ≤ i → j + 1 < m →
    loopF (fun (x : Int × Int) => ref21_Name_b2 n s x.1 x.2) m ((f : Int), (i : Int)) = some (if goN (List.drop f (List.take i s)) (s.drop i) = true then .inr () else .inl false)
  | 0, f, i, m, hj, hf, hm => by
    have hn0 : 4194304 ≤ n := hn
    have hi : i = s.length := by omega
    obtain ⟨m, rfl⟩ : ∃ q, m = q + 1 + 1 := ⟨m - 2, by omega⟩
    have h1 : decide ((i : Int) ≤ (s.length : Int)) = true := decide_eq_true (by omega)
    have h2 : ((i : Int) == (s.length : Int)) = true := by simp; omega
    have hd : s.drop i = [] := List.drop_eq_nil_of_le (by omega)
    have hb : ref21_Name_b2 n s (f : Int) (i : Int) = some (if smp (List.drop f (List.take i s)) = true then .inl (((i + 1 : Nat) : Int), ((i + 1 : Nat) : Int)) else .inr (.inl false)) := by
      unfold ref21_Name_b2
      rw [h1, cond_true, h2]
      simp only [Bool.not_true, Bool.false_eq_true, false_implies, if_true, cond_true, Int.toNat_natCast]
      rw [gd_pos _ trivial, gd_pos _ (by omega), simple_eq n _ (by simp only [List.length_drop, List.length_take]; omega) (by simp only [List.length_drop, List.length_take]; omega), Option.bind_some]
      rw [wid (n := (i : Int) + 1) (by omega)]
      simp only [ref21_Name_k3, wid (n := (i : Int) + 1) (by omega)]
      cases smp (List.drop f (List.take i s)) <;> rfl
    rw [hd, goN]
    cases hsm : smp (List.drop f (List.take i s)) with
    | false =>
      rw [hsm] at hb
      rw [loopF_done (y := .inl false) (by simpa using hb)]; simp
    | true =>
      rw [hsm] at hb
      rw [loopF_step (x' := (((i + 1 : Nat) : Int), ((i + 1 : Nat) : Int))) (by simpa using hb)]
      have he : ref21_Name_b2 n s ((i + 1 : Nat) : Int) ((i + 1 : Nat) : Int) = some (.inr (.inr ())) := by
        unfold ref21_Name_b2
        rw [decide_eq_false (by omega), cond_false]
      rw [loopF_done he]; simp
  | j + 1, f, i, m, hj, hf, hm => by
    have hn0 : 4194304 ≤ n := hn
    obtain ⟨m, rfl⟩ : ∃ q, m = q + 1 := ⟨m - 1, by omega⟩
    have hlt : i < s.length := by omega
    have h1 : decide ((i : Int) ≤ (s.length : Int)) = true := decide_eq_true (by omega)
    have h2 : ((i : Int) == (s.length : Int)) = false := by simp; omega
    have hd : s.drop i = s[i] :: s.drop (i + 1) := List.drop_eq_getElem_cons hlt
    have hg : s.getD i 0 = s[i] := by simp [List.getD_eq_getElem?_getD, hlt]
    have ht : List.take (i + 1) s = List.take i s ++ [s[i]] := by rw [List.take_add_one]; simp [hlt]
    have e46 : ((((s[i]).toNat : Nat) : Int) == 46) = decide (s[i] = 46) := by
      generalize s[i] = b
      have h : ∀ k : Fin 256, ((((UInt8.ofNat k.val).toNat : Nat) : Int) == 46) = decide ((UInt8.ofNat k.val) = 46) := by decide
      have := h ⟨b.toNat, b.toNat_lt⟩
      simpa using this
    have hb : ref21_Name_b2 n s (f : Int) (i : Int) = some (if s[i] = 46 then (if smp (List.drop f (List.take i s)) = true then .inl (((i + 1 : Nat) : Int), ((i + 1 : Nat) : Int)) else .inr (.inl false)) else .inl ((f : Int), ((i + 1 : Nat) : Int))) := by
      unfold ref21_Name_b2
      rw [h1, cond_true, h2]
      simp only [Bool.not_false, Bool.false_eq_true, if_false, Int.toNat_natCast, hg, e46]
      rw [gd_pos _ (fun _ => by omega)]
      by_cases hc : s[i] = 46
      · rw [if_pos hc, decide_eq_true hc, cond_true]
        rw [gd_pos _ (by omega), simple_eq n _ (by simp only [List.length_drop, List.length_take]; omega) (by simp only [List.length_drop, List.length_take]; omega), Option.bind_some]
        rw [wid (n := (i : Int) + 1) (by omega)]
        simp only [ref21_Name_k3, wid (n := (i : Int) + 1) (by omega)]
        cases smp (List.drop f (List.take i s)) <;> rfl
      · rw [if_neg hc, decide_eq_false hc, cond_false]
        simp only [ref21_Name_k3, wid (n := (i : Int) + 1) (by omega)]
        rfl
    rw [hd, goN]
    by_cases hc : s[i] = 46
    · rw [if_pos hc] at hb ⊢
      cases hsm : smp (List.drop f (List.take i s)) with
      | false =>
        rw [hsm] at hb
        rw [loopF_done (y := .inl false) (by simpa using hb)]; simp
      | true =>
        rw [hsm] at hb
        rw [loopF_step (x' := (((i + 1 : Nat) : Int), ((i + 1 : Nat) : Int))) (by simpa using hb), rname_go n s hn hs j (i + 1) (i + 1) m (by omega) (by omega) (by omega)]
        have : List.drop (i + 1) (List.take (i + 1) s) = [] := List.drop_eq_nil_of_le (by rw [List.length_take]; omega)
        rw [this]; simp
    · rw [if_neg hc] at hb ⊢
      rw [loopF_step (x' := ((f : Int), ((i + 1 : Nat) : Int))) hb, rname_go n s hn hs j f (i + 1) m (by omega) (by omega) (by omega), ht]
      have : List.drop f (List.take i s ++ [s[i]]) = List.drop f (List.take i s) ++ [s[i]] := by
        rw [List.drop_append_of_le_length (by rw [List.length_take]; omega)]
      rw [this]
theorem RName_eq (n : Nat) (s : List UInt8) (hn : N0 ≤ n) (hs : s.length ≤ 2097152) : ref21_Name n s = some (nameB s) := by
  have hn0 : 4194304 ≤ n := hn
  unfold ref21_Name nameB
  have := rname_go n s hn hs s.length 0 0 n (by omega) (by omega) (by omega)
  simp only [List.take_zero, List.drop_nil, List.drop_zero, goN_all] at this
  have this' : loopF (fun (x : Int × Int) => ref21_Name_b2 n s x.1 x.2) n (0, 0) = some (if (parts s).all smp = true then .inr () else .inl false) := this
  rw [this', Option.bind_some]
  have e : decide ((s.length : Int) ≤ 44) = decide (s.length ≤ 44) := by
    by_cases h : s.length ≤ 44
    · rw [decide_eq_true h, decide_eq_true (by omega)]
    · rw [decide_eq_false h, decide_eq_false (by omega)]
  cases (parts s).all smp with
  | true => simp only [if_true, ref21_Name_k1, e, Bool.and_true]
  | false => simp
def serB (s : List UInt8) : Bool := decide (1 ≤ s.length) && decide (s.length ≤ 6) && s.all (fun b => letB b || digB b)
def inB (x lo hi : Int) : Bool := decide (lo ≤ x) && decide (x ≤ hi)
theorem in_eq (n : Nat) (x lo hi : Int) : vtoc_in n x lo hi = some (inB x lo hi) := by
  unfold vtoc_in inB
  by_cases h : lo ≤ x
  · simp [h]
  · simp [h]
theorem rin_eq (n : Nat) (x lo hi : Int) : ref21_in n x lo hi = some (inB x lo hi) := by
  unfold ref21_in inB
  by_cases h : lo ≤ x
  · have : x ≥ lo := h
    simp [h, this]
  · have : ¬ (x ≥ lo) := h
    simp [h, this]
theorem inB_len (s : List UInt8) : inB (s.length : Int) 1 6 = (decide (1 ≤ s.length) && decide (s.length ≤ 6)) := by
  unfold inB
  congr 1 <;> (apply decide_eq_decide.2; omega)
theorem serial_eq (n : Nat) (s : List UInt8) (hn : s.length < n) (hs : s.length ≤ 2097152) : ref21_serial n s = some (serB s) := by
  unfold ref21_serial
  have key : loopF (fun (x : Int) => ref21_serial_b2 n s x) n 0 = some (if s.any (fun b => !(letB b || digB b)) = true then .inl false else .inr ()) := by
    refine loop_any s (fun b => !(letB b || digB b)) _ _ (fun k hk => ?_) ?_ hn
    · have hlt : ((k : Nat) : Int) < (s.length : Int) := by omega
      have h0 : (0 : Int) ≤ (k : Int) := by omega
      have hg : s.getD k 0 = s[k] := by simp [List.getD_eq_getElem?_getD, hk]
      unfold ref21_serial_b2
      simp only [decide_eq_true hlt, cond_true, Int.toNat_natCast, hg, h0, hlt, and_self, implies_true]
      rw [gd_pos _ trivial, rletter_eq, Option.bind_some, rdigit_eq]
      simp only [Option.isSome_some, Option.getD_some, implies_true, and_self]
      rw [gd_pos _ trivial, wid (n := (k : Int) + 1) (by omega)]
      cases letB s[k] <;> cases digB s[k] <;> rfl
    · unfold ref21_serial_b2
      simp only [Int.lt_irrefl, decide_false, cond_false]
  rw [key, Option.bind_some]
  have ha : s.any (fun b => !(letB b || digB b)) = !s.all (fun b => letB b || digB b) := by rw [List.all_eq_not_any_not]; simp
  rw [ha]
  unfold serB
  cases s.all (fun b => letB b || digB b) with
  | false => simp
  | true => simp only [Bool.not_true, Bool.false_eq_true, if_false, ref21_serial_k1, rin_eq, Option.bind_some, inB_len, Bool.and_true]
def headB (s : List UInt8) (c h z : Int) : Bool := serB s && inB c 1 64 && inB h 1 8 && inB z 1 (IntKind.wrap .i64 (IntKind.wrap .i64 (c * h) - 1))
theorem head_z {s : List UInt8} {c h z : Int} (hh : headB s c h z = true) : 1 ≤ z ∧ z ≤ 511 := by
  simp only [headB, inB, Bool.and_eq_true, decide_eq_true_eq] at hh
  obtain ⟨⟨⟨_, h1, h2⟩, h3, h4⟩, h5, h6⟩ := hh
  have e1 : 1 ≤ c * h := by
    have : 0 < c * h := Int.mul_pos (by omega) (by omega)
    omega
  have e2 : c * h ≤ 512 := by
    have a : c * h ≤ 64 * h := Int.mul_le_mul_of_nonneg_right h2 (by omega)
    omega
  rw [wid (n := c * h) (by omega), wid (n := c * h - 1) (by omega)] at h6
  omega
theorem Check0_eq (n : Nat) (hn : N0 ≤ n) (s : List UInt8) (c h z : Int) (hs : s.length ≤ 2097152) : vtoc_Check n ⟨s, c, h, z, []⟩ = some (if headB s c h z = true then 0 else 5) := by
  have hn0 : 4194304 ≤ n := hn
  unfold vtoc_Check
  obtain ⟨t, ht1, ht2⟩ := trim36 n s
  have ht1' : strings_Trim n s [65, 66, 67, 68, 69, 70, 71, 72, 73, 74, 75, 76, 77, 78, 79, 80, 81, 82, 83, 84, 85, 86, 87, 88, 89, 90, 48, 49, 50, 51, 52, 53, 54, 55, 56, 57] = some t := ht1
  simp only [in_eq, Option.bind_some, ht1', Option.isSome_some, Option.getD_some, implies_true, and_self, ht2, inB_len]
  rw [gd_pos _ trivial]
  have e1 : (if (!(decide (1 ≤ s.length) && decide (s.length ≤ 6))) = true then true else !s.all fun b => letB b || digB b) = !serB s := by
    unfold serB
    cases (decide (1 ≤ s.length) && decide (s.length ≤ 6)) <;> simp
  rw [e1]
  cases hser : serB s with
  | false => simp [headB, hser]
  | true =>
    simp only [Bool.not_true, cond_false]
    rw [gd_pos _ trivial]
    have e2 : (if (if (!inB c 1 64) = true then true else !inB h 1 8) = true then true else !inB z 1 (IntKind.wrap .i64 (IntKind.wrap .i64 (c * h) - 1))) = !headB s c h z := by
      unfold headB; rw [hser]
      cases inB c 1 64 <;> cases inB h 1 8 <;> simp
    rw [e2]
    cases hh : headB s c h z with
    | false => simp
    | true =>
      obtain ⟨z1, z2⟩ := head_z hh
      simp only [Bool.not_true, cond_false, if_true]
      have w1 : IntKind.wrap .i64 (14 * z) = 14 * z := wid (by omega)
      have w2 : IntKind.wrap .i64 (z + 1) = z + 1 := wid (by omega)
      rw [w1, w2]
      have e3 : decide ((([] : List TDscb).length : Int) > (if 14 * z < 64 then 14 * z else 64)) = false := by
        refine decide_eq_false ?_
        simp only [List.length_nil]
        split <;> omega
      rw [e3, cond_false]
      have hl : loopF (fun (x : (List TExtent) × Int) => vtoc_Check_b2 n ⟨s, c, h, z, []⟩ ((([] : List TDscb).length : Nat) : Int) x.1 x.2) n ([(⟨0, z + 1⟩ : TExtent)], 0) = some (.inr [(⟨0, z + 1⟩ : TExtent)]) := by
        obtain ⟨m, rfl⟩ : ∃ m, n = m + 1 := ⟨n - 1, by omega⟩
        refine loopF_done ?_
        simp [vtoc_Check_b2]
      have hv : (trkF [] [(⟨0, z + 1⟩ : TExtent)]).isSome = true := by
        rw [trkF_isSome]
        refine ⟨?_, ?_⟩
        · have : val ⟨0, z + 1⟩ = true := (val_iff _).2 ⟨by simp, by simp only; omega, by simp, by simp only; omega⟩
          simp [this]
        · rw [trks_cons]
          simp only [trks, List.flatMap_nil, List.append_nil]
          exact trk_nodup _
      have hl' : loopF (fun (x : (List TExtent) × Int) => vtoc_Check_b2 n ⟨s, c, h, z, []⟩ (([] : List TDscb).length : Int) x.1 x.2) n ([(⟨0, z + 1⟩ : TExtent)], 0) = some (.inr [(⟨0, z + 1⟩ : TExtent)]) := hl
      rw [hl', Option.bind_some]
      simp only [vtoc_Check_k1, Valid_eq n hn [(⟨0, z + 1⟩ : TExtent)] (by simp), hv, Option.bind_some, Bool.not_true, cond_false]
theorem Valid0_eq (n : Nat) (hn : N0 ≤ n) (s : List UInt8) (c h z : Int) (hs : s.length ≤ 2097152) : ref21_Valid n ⟨s, c, h, z, []⟩ = some (headB s c h z) := by
  have hn0 : 4194304 ≤ n := hn
  unfold ref21_Valid
  simp only [serial_eq n s (by omega) hs, rin_eq, Option.bind_some, Option.isSome_some, Option.getD_some, implies_true, and_self]
  rw [gd_pos _ trivial]
  have e2 : (if (if (if (!serB s) = true then true else !inB c 1 64) = true then true else !inB h 1 8) = true then true else !inB z 1 (IntKind.wrap .i64 (IntKind.wrap .i64 (c * h) - 1))) = !headB s c h z := by
    unfold headB
    cases serB s <;> cases inB c 1 64 <;> cases inB h 1 8 <;> simp
  rw [e2]
  cases hh : headB s c h z with
  | false => simp
  | true =>
    obtain ⟨z1, z2⟩ := head_z hh
    have w1 : IntKind.wrap .i64 (14 * z) = 14 * z := wid (by omega)
    have e3 : decide ((([] : List TDscb).length : Int) > 64) = false := by simp
    have e4 : decide ((([] : List TDscb).length : Int) > 14 * z) = false := decide_eq_false (by simp only [List.length_nil]; omega)
    simp only [w1, e3, e4, Bool.not_true, Bool.false_eq_true, if_false, cond_false]
    have hl : loopF (fun (x : Int) => ref21_Valid_b2 n ⟨s, c, h, z, []⟩ x) n 0 = some (.inr ()) := by
      obtain ⟨m, rfl⟩ : ∃ m, n = m + 1 := ⟨n - 1, by omega⟩
      refine loopF_done ?_
      simp [ref21_Valid_b2]
    have ha : ref21_all n ⟨s, c, h, z, []⟩ = some [] := by
      have hl2 : loopF (fun (x : (List TExtent) × Int) => ref21_all_b2 n ⟨s, c, h, z, []⟩ x.1 x.2) n ([], 0) = some [] := by
        obtain ⟨m, rfl⟩ : ∃ m, n = m + 1 := ⟨n - 1, by omega⟩
        refine loopF_done ?_
        simp [ref21_all_b2]
      simp only [ref21_all, hl2, Option.bind_some, ref21_all_k1]
    rw [hl, Option.bind_some]
    have : (trkF [] []).isSome = true := rfl
    simp only [ref21_Valid_k1, ha, Option.bind_some, RValid_eq n hn [] (by simp), this]
theorem New_eq (n : Nat) (hn : N0 ≤ n) (s : List UInt8) (c h z : Int) (hs : s.length ≤ 2097152) : ∃ r, vtoc_New n s c h z = some r ∧ ref21_New n s c h z = some r ∧ r.1.Sets = [] := by
  simp only [vtoc_New, ref21_New, Check0_eq n hn s c h z hs, Valid0_eq n hn s c h z hs, Option.bind_some]
  cases headB s c h z with
  | true => exact ⟨_, rfl, rfl, rfl⟩
  | false => exact ⟨_, rfl, rfl, rfl⟩
theorem ref0_eq (n : Nat) (hn : N0 ≤ n) (v : TVtoc) : law21_ref n ⟨v.Serial, v.Cyls, v.Heads, v.Size, []⟩ = some ⟨v.Serial, v.Cyls, v.Heads, v.Size, []⟩ := by
  have hn0 : 4194304 ≤ n := hn
  have hl2 : loopF (fun (x : (List TDscb) × Int) => law21_ref_b2 n ⟨v.Serial, v.Cyls, v.Heads, v.Size, []⟩ x.1 x.2) n ([], 0) = some [] := by
    obtain ⟨m, rfl⟩ : ∃ m, n = m + 1 := ⟨n - 1, by omega⟩
    refine loopF_done ?_
    simp [law21_ref_b2]
  simp only [law21_ref, hl2, Option.bind_some, law21_ref_k1]
theorem same0_eq (n : Nat) (hn : N0 ≤ n) (a : List UInt8) (c h z : Int) : ref21_Same n ⟨a, c, h, z, []⟩ ⟨a, c, h, z, []⟩ = some true := by
  have hn0 : 4194304 ≤ n := hn
  have hl : loopF (fun (x : Int) => ref21_Same_b2 n ⟨a, c, h, z, []⟩ ⟨a, c, h, z, []⟩ x) n 0 = some (.inr ()) := by
    obtain ⟨m, rfl⟩ : ∃ m, n = m + 1 := ⟨n - 1, by omega⟩
    refine loopF_done ?_
    simp [ref21_Same_b2]
  simp only [ref21_Same, bne_self_eq_false, Bool.false_eq_true, if_false, cond_false, hl, Option.bind_some, ref21_Same_k1]
theorem works_N0 : law21_works N0 = some true := by decide +kernel
theorem Names_true (s : List UInt8) (c h : Int) (hs : s.length ≤ 2097152) : law21_VtocNames N0 s c h = some true := by
  have hn := Nat.le_refl N0
  simp only [law21_VtocNames, works_N0, Option.bind_some, Bool.not_true, cond_false]
  by_cases h2 : (s.length : Int) > 200
  · rw [decide_eq_true h2, cond_true]
  · rw [decide_eq_false h2, cond_false]
    obtain ⟨r1, a1, b1, c1⟩ := New_eq N0 hn s c h c hs
    obtain ⟨r2, a2, b2, c2⟩ := New_eq N0 hn s c h 1 hs
    simp only [a1, b1, a2, b2, Name_eq N0 s hn, RName_eq N0 s hn hs, Option.bind_some, beq_self_eq_true, if_true, cond_true, ref0_eq N0 hn, same0_eq N0 hn]
    rw [gd_pos _ trivial, gd_pos _ trivial]
end Go.Proofs.YtijnkhcfondehaaGreatDoor
