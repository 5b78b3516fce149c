import Derived.RangeFuncNested
import Derived.RangeFuncBound
import Derived.RangeFuncCalls
import Derived.RangeFuncLeaves
import Derived.RangeFuncBox
import Derived.Shelf.Abstract
import Derived.Shelf.RegionOpen
import Derived.WalkKit
import Derived.OwnWalkIn
import Derived.TacticsInMore
import Derived.LoopNIn
import Derived.LoopIn
import Derived.Test.YtojnggohjbidaaaProg
set_option maxRecDepth 100000
namespace Go.Proofs.Ytojnggohjbidaaa
open Go.RowKit Go.Shelf Go.Proofs
attribute [local go_sem] Oper.semAt_some

set_option maxHeartbeats 1000000 in
theorem tracks_in (F : Fence) (n : Nat) (h41 : F.fn 41) (hro : F.round = none) (a : Option Addr) (len cap : Nat) (w : World) :
    CallsIn F n Try.prog 41 #[.slice a len cap] w fun e w' => e = .returned (.func (.func 46) #[] #[.pointer (some ⟨w.heap.size, 0, none⟩)]) ∧ w' = w.alloc (.cells #[.slice a len cap] 22) := by
  refine callsIn_of_wp Try.func41 rfl h41 ?_ hro
  simp only [Try.ntmps41, List.size_toArray, List.length_cons, List.length_nil, Nat.reduceAdd, Nat.reduceSub, Array.replicate_succ, Array.replicate_zero, List.push_toArray, List.append_toArray, List.nil_append, List.cons_append]
  gi_wp2
  go_ret
  exact ⟨rfl, rfl⟩

/-- all blocks of cells lie as they lay -/
structure KC (W W' : World) : Prop where
  size : W.heap.size ≤ W'.heap.size
  same : ∀ (k : Nat) (o : Obj), W.heap[k]? = some o → o.isCells = true → W'.heap[k]? = some o
theorem KC.refl (W : World) : KC W W := ⟨Nat.le_refl _, fun _ _ h _ => h⟩
theorem KC.trans {A B C : World} (h : KC A B) (k : KC B C) : KC A C := ⟨Nat.le_trans h.size k.size, fun i o h1 h2 => k.same i o (h.same i o h1 h2) h2⟩
theorem KC.alloc (W : World) (o : Obj) : KC W (W.alloc o) := ⟨by simp, fun k o' hk _ => (Below.heap_alloc W o k (Array.getElem?_eq_some_iff.1 hk).1).trans hk⟩
theorem KC.cell {W W' : World} (h : KC W W') {a : Addr} {v : Value} (hc : W.cell? a = some v) : W'.cell? a = some v := by
  unfold World.cell? at hc ⊢
  cases ho : W.heap[a.block]? with
  | none => simp [ho] at hc
  | some o =>
    have hcell : o.isCells = true := by cases o <;> simp_all [Obj.isCells]
    rw [h.same _ _ ho hcell]
    rw [ho] at hc; exact hc

/-- what has come: the tracks of the first extents -/
def cells43 (f : Nat → Int × Int) (W : World) (b off len : Nat) : Prop := ∀ j, j < len → W.cell? ⟨b, off + j * 2, none⟩ = some (.int .i64 (f j).1) ∧ W.cell? ⟨b, off + j * 2 + 1, none⟩ = some (.int .i64 (f j).2)
def upT (f : Nat → Int × Int) : Nat → List (Nat × Int)
  | 0 => []
  | k + 1 => upT f k ++ (List.range (f k).2.toNat).map fun (j : Nat) => ((upT f k).length + j, (f k).1 + (j : Int))
def ptT (f : Nat → Int × Int) (k m : Nat) : List (Nat × Int) := upT f k ++ (List.range m).map fun (j : Nat) => ((upT f k).length + j, (f k).1 + (j : Int))
theorem ptT_zero (f : Nat → Int × Int) (k : Nat) : ptT f k 0 = upT f k := by simp [ptT]
theorem ptT_succ (f : Nat → Int × Int) (k m : Nat) : ptT f k (m + 1) = ptT f k m ++ [((upT f k).length + m, (f k).1 + (m : Int))] := by simp [ptT, List.range_succ]
theorem ptT_full (f : Nat → Int × Int) (k : Nat) : ptT f k (f k).2.toNat = upT f (k + 1) := rfl
theorem ptT_len (f : Nat → Int × Int) (k m : Nat) : (ptT f k m).length = (upT f k).length + m := by simp [ptT]
theorem upT_mono (f : Nat → Int × Int) (k : Nat) : ∀ d, upT f k <+: upT f (k + d)
  | 0 => List.prefix_refl _
  | d + 1 => (upT_mono f k d).trans (List.prefix_append _ _)
theorem ptT_prefix (f : Nat → Int × Int) {k m len : Nat} (hk : k < len) (hm : m ≤ (f k).2.toNat) : ptT f k m <+: upT f len := by
  have h1 : ptT f k m <+: upT f (k + 1) := by
    obtain ⟨e, he⟩ : ∃ e, (f k).2.toNat = m + e := ⟨(f k).2.toNat - m, by omega⟩
    show upT f k ++ _ <+: upT f k ++ _
    rw [List.prefix_append_right_inj, he, List.range_add, List.map_append]
    exact List.prefix_append _ _
  have h2 := upT_mono f (k + 1) (len - (k + 1))
  have e : k + 1 + (len - (k + 1)) = len := by omega
  rw [e] at h2
  exact h1.trans h2

set_option maxHeartbeats 2000000 in
theorem iter1_in (F : Fence) (n : Nat) (h46 : F.fn 46) (hro : F.round = none) (hn : 1 ≤ n) (l Bs b off len cap : Nat) (f : Nat → Int × Int) (hreach : len ≤ 512) (hf : ∀ j, j < len → 0 ≤ (f j).1 ∧ (f j).1 ≤ 512 ∧ 0 ≤ (f j).2 ∧ (f j).2 ≤ 512) (hup : (upT f len).length ≤ 512) (J Jx : List (Nat × Int) → World → Prop)
    (hJ : ∀ s (W W' : World), J s W → KC W W' → W.grownBy W' none → J s W')
    (hY : ∀ pre x W, J pre W → pre.length < (upT f len).length → YieldAt F (n - 1) Try.prog l #[.int .i64 (x.1 : Int), .int .i64 x.2] W fun e W' =>
      (e = .returned (.bool true) ∧ J (pre ++ [x]) W' ∧ KC W W') ∨ (e = .returned (.bool false) ∧ Jx (pre ++ [x]) W'))
    (W : World) (hBs : W.cell? ⟨Bs, 0, none⟩ = some (.slice (some ⟨b, off, none⟩) len cap)) (hc : cells43 f W b off len) (h0 : J [] W) :
    CallsIn F n Try.prog 46 #[.func (.yield l) #[] #[], .pointer (some ⟨Bs, 0, none⟩)] W fun e W' => (∃ v, e = .returned v) ∧
      ((∃ ys, ys = upT f len ∧ J ys W') ∨ (∃ pre, pre <+: upT f len ∧ Jx pre W')) := by
  refine callsIn_of_wp Try.func46 rfl h46 ?_ hro
  simp only [Try.ntmps46, List.size_toArray, List.length_cons, List.length_nil, Nat.reduceAdd, Nat.reduceSub, Array.replicate_succ, Array.replicate_zero, List.push_toArray, List.append_toArray, List.nil_append, List.cons_append]
  gi_wp2
  gi_loopw [3, 9] (fun c i wr => ∃ k : Nat, k ≤ len ∧ i = .int .i64 k ∧ c = .int .i64 ((upT f k).length : Int) ∧ J (upT f k) wr ∧ KC W wr)
    (fun _ i _ => len - (intOf i).toNat)
  case atStart => exact ⟨0, Nat.zero_le _, rfl, rfl, h0, KC.refl _⟩
  case round =>
    obtain ⟨k, hk, rfl, rfl, hJs, hnx⟩ := hrel
    by_cases hlt : k < len
    · have hcx0 := hnx.cell (hc k hlt).1
      have hcx1 := hnx.cell (hc k hlt).2
      have hfk := hf k hlt
      gi_wp2
      obtain ⟨W2, hW2⟩ : ∃ W2, wr.alloc (.cells #[.int .i64 (f k).1, .int .i64 (f k).2] 43) = W2 := ⟨_, rfl⟩
      have hx0 : W2.cell? ⟨wr.heap.size, 0, none⟩ = some (.int .i64 (f k).1) := by rw [← hW2]; simp
      have hJ2 : J (upT f k) W2 := by rw [← hW2]; exact hJ _ _ _ hJs (KC.alloc _ _) ⟨rfl, rfl, rfl, by simp, fun i hi _ => Below.heap_alloc _ _ _ hi⟩
      have hK2 : KC wr W2 := by rw [← hW2]; exact KC.alloc _ _
      rw [hW2]
      gi_loopw [3, 15] (fun c j wi => ∃ m : Nat, m ≤ (f k).2.toNat ∧ j = .int .i64 m ∧ c = .int .i64 (((upT f k).length + m : Nat) : Int) ∧ J (ptT f k m) wi ∧ KC W2 wi)
        (fun _ j _ => (f k).2.toNat - (intOf j).toNat)
      case atStart => exact ⟨0, Nat.zero_le _, rfl, rfl, by rw [ptT_zero]; exact hJ2, KC.refl _⟩
      case round =>
        obtain ⟨m, hm, rfl, rfl, hJm, hKm⟩ := hrel
        have hxm := hKm.cell hx0
        by_cases hlm : m < (f k).2.toNat
        · have hpre := ptT_prefix f hlt (show m + 1 ≤ (f k).2.toNat from hlm)
          have hplen := hpre.length_le
          rw [ptT_len] at hplen
          obtain ⟨fn, tmps, assign, body, hy, hR⟩ := hY (ptT f k m) ((upT f k).length + m, (f k).1 + (m : Int)) wr hJm (by rw [ptT_len]; omega)
          dsimp only at hy
          rw [Int.natCast_add] at hy
          gi_wp2
          refine hR.mono ?_
          rintro e W3 (⟨rfl, hJ3, hk3⟩ | ⟨rfl, hJx3⟩)
          · gi_wp2
            go_roundw
            case rel => exact ⟨m + 1, hlm, by simp, by simp; omega, by rw [ptT_succ]; exact hJ3, hKm.trans hk3⟩
            case measure => simp [intOf]; omega
          · gi_wp2
            refine bodyPost_ret (results_none rfl _ _ _) rfl ?_
            exact ⟨⟨_, rfl⟩, .inr ⟨_, by rw [← ptT_succ]; exact hpre, hJx3⟩⟩
        · obtain rfl : m = (f k).2.toNat := by omega
          gi_wp2
          exact ⟨⟨k + 1, hlt, by simp, by rw [← ptT_full, ptT_len], by rw [← ptT_full]; exact hJm, (hnx.trans hK2).trans hKm⟩, by simp [intOf]; omega⟩
    · obtain rfl : k = len := by omega
      gi_wp2
      go_end0
      exact ⟨⟨_, rfl⟩, .inl ⟨_, rfl, hJs⟩⟩
end Go.Proofs.Ytojnggohjbidaaa
