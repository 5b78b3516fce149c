/-
  ch. 39: the chapter's examples.
-/
import Derived.Test.YtkebegfopnlkhaaS
import Derived.Test.YtkebegfopnlkhaaF
set_option linter.unusedSimpArgs false
set_option linter.unusedVariables false
set_option maxRecDepth 1000000
namespace Go.Proofs.Ytkebegfopnlkhaa
open Go.AE Go.RowKit

/-! ## The pieces, walked once -/
def runW : Bool → Int → List Int → Nat
  | _, _, [] => 0
  | first, left, c :: cs => if first = true ∨ c ≤ left then runW false (wrap64 (left - c)) cs + 1 else 0
theorem reach_run (cs : List Int) (fr : Nat) : ∀ (q to : Nat) (left : Int), fr ≤ to → cs.length ≤ q + to → reachP cs fr q to left = to + runW (to == fr) left (cs.drop to)
  | 0, to, left, hf, hq => by
    rw [List.drop_eq_nil_iff.2 (by omega)]
    rfl
  | q + 1, to, left, hf, hq => by
    unfold reachP
    by_cases h : to < cs.length
    · rw [List.drop_eq_getElem_cons h]
      unfold runW
      rw [gtl h]
      have e : (to + 1 == fr) = false := by rw [beq_eq_false_iff_ne]; omega
      by_cases c : to = fr ∨ cs[to] ≤ left
      · rw [if_pos ⟨h, c⟩, if_pos (c.imp (fun e => beq_iff_eq.2 e) id), reach_run cs fr q (to + 1) _ (by omega) (by omega), e]
        omega
      · rw [if_neg (fun h2 => c h2.2), if_neg (fun h2 => c (h2.imp (fun e => beq_iff_eq.1 e) id))]
        omega
    · rw [if_neg (fun h2 => h h2.1), List.drop_eq_nil_iff.2 (by omega)]
      rfl
def divW (room : Int) : Nat → Nat → List Int → List (Nat × Nat)
  | 0, _, _ => []
  | _ + 1, _, [] => []
  | q + 1, fr, c :: cs => (fr, fr + runW true room (c :: cs)) :: divW room q (fr + runW true room (c :: cs)) ((c :: cs).drop (runW true room (c :: cs)))
theorem div_W (cs : List Int) (room : Int) : ∀ (q fr : Nat), divF cs room q fr = divW room q fr (cs.drop fr)
  | 0, fr => rfl
  | q + 1, fr => by
    unfold divF
    by_cases h : fr < cs.length
    · rw [if_pos h, reach_run cs fr cs.length fr room (Nat.le_refl _) (by omega), beq_self_eq_true, div_W cs room q]
      have e := List.drop_eq_getElem_cons h
      rw [← List.drop_drop]
      generalize cs.drop fr = d at e ⊢
      rw [e]
      rfl
    · rw [if_neg h, List.drop_eq_nil_iff.2 (by omega)]
      rfl
def divR (cs : List Int) (room : Int) : List (Nat × Nat) := divW room cs.length 0 cs
theorem div_R (cs : List Int) (room : Int) : divP cs room = divR cs room := by
  unfold divP divR
  rw [div_W]
  rfl
def recsR (l : List TLine) : List TRec := (divR (List.map szLine l) 1020).map fun e => mkRec (gdata e.1 (piece l e))
def tracksRR (rs : List TRec) : List (List TRec) := (divR (List.map szRec rs) 2048).map fun e => numb (piece rs e)
def tracksF (l : List TLine) : List (List TRec) × Int :=
  if l.length > 4096 then ([], 2) else if l.any longT = true then ([], 2) else if l.any badC = true then ([], 1) else (tracksRR (recsR l), 0)
theorem tracks_F (l : List TLine) : tracksS l = tracksF l := by
  have h1 : ∀ rs, tracksR rs = tracksRR rs := fun rs => by unfold tracksR tracksRR; rw [div_R]
  have h2 : recsL l = recsR l := by unfold recsL recsR; rw [div_R]
  unfold tracksS tracksF trkL
  rw [h1, h2]

theorem works_N0 : law39_works N0 = some true := by decide +kernel

def bigL : List TLine := List.take 4096 (zreps 4097 (⟨0, []⟩ : TLine))
def okBig (r : List (List TRec) × Int) : Bool :=
  (r.2 == 0 && r.1.length == 8 && (gt r.1 7).length == 2) && ((gt (gt r.1 7) 1).Data.length == 36 && (gt r.1 0).length == 1 && (gt (gt r.1 0) 0).Data.length == 1024)
theorem big_ok : okBig (tracksS bigL) = true := by
  rw [tracks_F]
  decide +kernel
end Go.Proofs.Ytkebegfopnlkhaa

/-
  ch. 39: the limits (SpoolKnown).
-/
set_option maxRecDepth 1000000
namespace Go.Proofs.Ytkebegfopnlkhaa
open Go.AE

theorem bind_eq {α β : Type} {o : Option α} {x : α} {f : α → Option β} (h : o = some x) : o.bind f = f x := by rw [h]; rfl
theorem isSome_eq {α : Type} {o : Option α} {x : α} (h : o = some x) : o.isSome = true := by rw [h]; rfl
theorem getD_eq {α : Type} {o : Option α} {x d : α} (h : o = some x) : o.getD d = x := by rw [h]; rfl
theorem all_true {b c : Bool} (hc : c = true) (hb : b = true) : (if b = true then c else false) = true := by rw [if_pos hb]; exact hc
set_option maxHeartbeats 400000 in
theorem Known_true : law39_SpoolKnown N0 = some true := by
  have q1 : spool_Tracks N0 (zreps 4097 (⟨0, []⟩ : TLine)) = some ([], 2) := by
    rw [Tracks_S N0 (zreps 4097 (⟨0, []⟩ : TLine)) (Nat.le_refl _)]
    have e : (zreps 4097 (⟨0, []⟩ : TLine)).length > 4096 := by rw [zreps_len]; decide
    generalize zreps 4097 (⟨0, []⟩ : TLine) = l at e
    unfold tracksS
    rw [if_pos e]
  have hok := big_ok
  have q2 : spool_Tracks N0 (List.take 4096 (zreps 4097 (⟨0, []⟩ : TLine))) = some (tracksS bigL) := by
    unfold bigL
    exact Tracks_S N0 (List.take 4096 (zreps 4097 (⟨0, []⟩ : TLine))) (Nat.le_refl _)
  generalize tracksS bigL = R at hok q2
  simp only [okBig, Bool.and_eq_true, beq_iff_eq] at hok
  obtain ⟨⟨⟨h1, h2⟩, h3⟩, ⟨h4, h5⟩, h6⟩ := hok
  have p3 : spool_Put N0 (⟨513, []⟩ : TSpace) [] = some (⟨0, []⟩, ⟨[], 0⟩, [], 1) := by decide +kernel
  have p4 : spool_Put N0 (⟨4, [(⟨2, 3⟩ : TExtent)]⟩ : TSpace) [] = some (⟨0, []⟩, ⟨[], 0⟩, [], 1) := by decide +kernel
  have p5 : spool_Drop N0 (⟨4, []⟩ : TSpace) (⟨[(⟨3, 2⟩ : TExtent)], 0⟩ : TFile) = some (⟨0, []⟩, 1) := by decide +kernel
  have p6 : spool_Drop N0 (⟨4, [(⟨3, 1⟩ : TExtent)]⟩ : TSpace) (⟨[(⟨2, 2⟩ : TExtent)], 0⟩ : TFile) = some (⟨0, []⟩, 1) := by decide +kernel
  have p7 : spool_Drop N0 (⟨4, []⟩ : TSpace) (⟨[(⟨4611686018427387904, 4611686018427387904⟩ : TExtent)], 0⟩ : TFile) = some (⟨0, []⟩, 1) := by decide +kernel
  have p8 : spool_Put N0 (⟨4, []⟩ : TSpace) [] = some (⟨4, []⟩, ⟨[], 0⟩, [], 0) := by decide +kernel
  have p9 : spool_New N0 (-1) = some (⟨0, []⟩, 6) := by decide +kernel
  have p10 : spool_New N0 513 = some (⟨0, []⟩, 6) := by decide +kernel
  have p11 : spool_Tracks N0 [(⟨(-1), []⟩ : TLine), (⟨0, (toStr8 (zreps 133 0))⟩ : TLine)] = some ([], 2) := by decide +kernel
  unfold law39_SpoolKnown
  refine (gd_pos _ (by decide)).trans ((bind_eq q1).trans ((gd_pos _ (by decide)).trans ((bind_eq q2).trans ?_)))
  clear q1 q2
  refine (gd_pos _ (by simp [h1, h2, h3, h4, h5])).trans ((bind_eq p3).trans ((bind_eq p4).trans ((bind_eq p5).trans ((bind_eq p6).trans ((bind_eq p7).trans ((bind_eq p8).trans ((bind_eq p9).trans ((bind_eq p10).trans ((gd_pos _ (by decide)).trans ((bind_eq p11).trans ?_))))))))))
  refine (gd_pos _ (fun _ => isSome_eq works_N0)).trans ?_
  refine congrArg some (all_true (getD_eq works_N0) ?_)
  simp only [h1, h2, h3, h4, h5, h6]
  decide
end Go.Proofs.Ytkebegfopnlkhaa
