/-
  ch. 39: the chapter's examples.
-/
import Derived.Test.YtkebegfopnlkhaaS
import Derived.Test.YtkebegfopnlkhaaF
set_option linter.unusedSimpArgs false
set_option linter.unusedVariables false
set_option maxRecDepth 1000000
namespace Go.Proofs.Ytkebegfopnlkhaa
open Go.AE Go.RowKit

/-! ## The pieces, walked once -/
def runW : Bool → Int → List Int → Nat
  | _, _, [] => 0
  | first, left, c :: cs => if first = true ∨ c ≤ left then runW false (wrap64 (left - c)) cs + 1 else 0
theorem reach_run (cs : List Int) (fr : Nat) : ∀ (q to : Nat) (left : Int), fr ≤ to → cs.length ≤ q + to → reachP cs fr q to left = to + runW (to == fr) left (cs.drop to)
  | 0, to, left, hf, hq => by
    rw [List.drop_eq_nil_iff.2 (by omega)]
    rfl
  | q + 1, to, left, hf, hq => by
    unfold reachP
    by_cases h : to < cs.length
    · rw [List.drop_eq_getElem_cons h]
      unfold runW
      rw [gtl h]
      have e : (to + 1 == fr) = false := by rw [beq_eq_false_iff_ne]; omega
      by_cases c : to = fr ∨ cs[to] ≤ left
      · rw [if_pos ⟨h, c⟩, if_pos (c.imp (fun e => beq_iff_eq.2 e) id), reach_run cs fr q (to + 1) _ (by omega) (by omega), e]
        omega
      · rw [if_neg (fun h2 => c h2.2), if_neg (fun h2 => c (h2.imp (fun e => beq_iff_eq.1 e) id))]
        omega
    · rw [if_neg (fun h2 => h h2.1), List.drop_eq_nil_iff.2 (by omega)]
      rfl
def divW (room : Int) : Nat → Nat → List Int → List (Nat × Nat)
  | 0, _, _ => []
  | _ + 1, _, [] => []
  | q + 1, fr, c :: cs => (fr, fr + runW true room (c :: cs)) :: divW room q (fr + runW true room (c :: cs)) ((c :: cs).drop (runW true room (c :: cs)))
theorem div_W (cs : List Int) (room : Int) : ∀ (q fr : Nat), divF cs room q fr = divW room q fr (cs.drop fr)
  | 0, fr => rfl
  | q + 1, fr => by
    unfold divF
    by_cases h : fr < cs.length
    · rw [if_pos h, reach_run cs fr cs.length fr room (Nat.le_refl _) (by omega), beq_self_eq_true, div_W cs room q]
      have e := List.drop_eq_getElem_cons h
      rw [← List.drop_drop]
      generalize cs.drop fr = d at e ⊢
      rw [e]
      rfl
    · rw [if_neg h, List.drop_eq_nil_iff.2 (by omega)]
      rfl
def divR (cs : List Int) (room : Int) : List (Nat × Nat) := divW room cs.length 0 cs
theorem div_R (cs : List Int) (room : Int) : divP cs room = divR cs room := by
  unfold divP divR
  rw [div_W]
  rfl
def recsR (l : List TLine) : List TRec := (divR (List.map szLine l) 1020).map fun e => mkRec (gdata e.1 (piece l e))
def tracksRR (rs : List TRec) : List (List TRec) := (divR (List.map szRec rs) 2048).map fun e => numb (piece rs e)
def tracksF (l : List TLine) : List (List TRec) × Int :=
  if l.length > 4096 then ([], 2) else if l.any longT = true then ([], 2) else if l.any badC = true then ([], 1) else (tracksRR (recsR l), 0)
theorem tracks_F (l : List TLine) : tracksS l = tracksF l := by
  have h1 : ∀ rs, tracksR rs = tracksRR rs := fun rs => by unfold tracksR tracksRR; rw [div_R]
  have h2 : recsL l = recsR l := by unfold recsL recsR; rw [div_R]
  unfold tracksS tracksF trkL
  rw [h1, h2]

theorem works_N0 : law39_works N0 = some true := by decide +kernel

def bigL : List TLine := List.take 4096 (zreps 4097 (⟨0, []⟩ : TLine))
def okBig (r : List (List TRec) × Int) : Bool :=
  (r.2 == 0 && r.1.length == 8 && (gt r.1 7).length == 2) && ((gt (gt r.1 7) 1).Data.length == 36 && (gt r.1 0).length == 1 && (gt (gt r.1 0) 0).Data.length == 1024)
theorem big_ok : okBig (tracksS bigL) = true := by
  rw [tracks_F]
  decide +kernel
end Go.Proofs.Ytkebegfopnlkhaa

/-
  ch. 39: New, Check, Put and Drop on areas whose tracks are each free or a file's.
-/
set_option maxRecDepth 100000
namespace Go.Proofs.Ytkebegfopnlkhaa
open Go.AE

/-! ## Areas -/
def tks (files : List TFile) : List Int := files.flatMap fun f => trks f.Extents
structure INV (N : Int) (F : List TExtent) (files : List TFile) : Prop where
  n0 : 0 ≤ N
  n1 : N ≤ 512
  nf : nf (-1) F
  val : ∀ f ∈ files, f.Extents.all val = true
  nd : (trks F ++ tks files).Nodup
  mem : ∀ k, k ∈ trks F ++ tks files ↔ 0 ≤ k ∧ k < N
theorem INV.chkN {N : Int} {F : List TExtent} {files : List TFile} (h : INV N F files) : chk N (-1) F = true := (chk_iff N F (-1)).2 ⟨h.nf, fun k hk => ((h.mem k).1 (by simp [hk])).2⟩
theorem INV.chk512 {N : Int} {F : List TExtent} {files : List TFile} (h : INV N F files) : chk 512 (-1) F = true := (chk_iff 512 F (-1)).2 ⟨h.nf, fun k hk => by
  have := ((h.mem k).1 (by simp [hk])).2
  have := h.n1
  omega⟩
theorem INV.flen {N : Int} {F : List TExtent} {files : List TFile} (h : INV N F files) : F.length ≤ 512 := by
  have h1 := len_le_trks (nf_val h.nf)
  have h2 := few (m := 512) (List.nodup_append.1 h.nd).1 (fun k hk => by
    have := (h.mem k).1 (by simp [hk]); have := h.n1; omega)
  omega

theorem Free0 (m : Int) (h0 : 0 ≤ m) (h1 : m ≤ 512) : extent_Free N0 [] m = some (if m = 0 then [] else [⟨0, m⟩]) := by
  have hv : extent_Valid N0 [] = some true := by decide +kernel
  have hs : extent_sorted N0 [] = some [] := by
    obtain ⟨r, h, hp, _⟩ := sorted_eq N0 [] (by decide)
    rw [h, hp.eq_nil]
  have hl : loopF (fun (x : (List TExtent) × Int × Int) => extent_Free_b3 N0 m [] ((([] : List TExtent).length : Nat) : Int) x.1 x.2.1 x.2.2) N0 ([], 0, 0) = some ([], 0) := by
    show loopF _ (4194303 + 1) _ = _
    exact loopF_done rfl
  have e1 : decide (m < 0) = false := by simp; omega
  have e2 : decide (m > 512) = false := by simp; omega
  simp only [extent_Free, hv, Option.bind_some, e1, e2, Bool.not_true, Bool.false_eq_true, if_false, cond_false, hs, hl, extent_Free_k1, extent_Free_k2]
  by_cases c : m = 0
  · subst c; rfl
  · have e3 : decide (m > 0) = true := by simp; omega
    rw [e3, cond_true, gd_pos _ (by decide), wid (by omega), if_neg c]
    simp
theorem New_val (m : Int) (h0 : 0 ≤ m) (h1 : m ≤ 512) : spool_New N0 m = some (⟨m, if m = 0 then [] else [⟨0, m⟩]⟩, 0) := by
  have e1 : decide (m < 0) = false := by simp; omega
  have e2 : decide (m > 512) = false := by simp; omega
  simp only [spool_New, e1, e2, Bool.false_eq_true, if_false, cond_false, Free0 m h0 h1, Option.bind_some]
theorem New_inv (m : Int) (h0 : 0 ≤ m) (h1 : m ≤ 512) : INV m (if m = 0 then [] else [⟨0, m⟩]) [] := by
  by_cases c : m = 0
  · subst c
    exact ⟨by omega, by omega, trivial, by simp, by simp [trks, tks], fun k => by simp [trks, tks]⟩
  · rw [if_neg c]
    have hv : val ⟨0, m⟩ = true := (val_iff _).2 (by dsimp only; omega)
    refine ⟨h0, h1, ⟨hv, by show (-1 : Int) < 0; omega, trivial⟩, by simp, ?_, fun k => ?_⟩
    · rw [trks_one]; simp only [tks, List.flatMap_nil, List.append_nil]; exact trk_nodup _
    · rw [trks_one]; simp only [tks, List.flatMap_nil, List.append_nil, trk_mem]; omega

theorem Check_ok {N : Int} {F : List TExtent} {files : List TFile} (h : INV N F files) : spool_Check N0 ⟨N, F⟩ = some 0 := by
  have hf := h.flen
  have h0 := h.n0
  have h1 := h.n1
  have e1 : decide (N < 0) = false := by simp; omega
  have e2 : decide (N > 512) = false := by simp; omega
  simp only [spool_Check, e1, e2, Bool.false_eq_true, if_false, Check_eq N0 F N (by unfold N0; omega) (by omega), h.chkN, Option.isSome_some, Option.getD_some, Bool.not_true]
  rw [gd_pos _ (by simp)]
  rfl
end Go.Proofs.Ytkebegfopnlkhaa

/-
  ch. 39: releases and placements keep the areas.
-/
set_option maxRecDepth 100000
namespace Go.Proofs.Ytkebegfopnlkhaa
open Go.AE

theorem Give_val (n : Nat) (hn : N0 ≤ n) (a b : List TExtent) (ha : a.length ≤ 2097152) (hb : b.length ≤ 2097152) (c1 : chk 512 (-1) a = true) (c2 : (trkF [] b).isSome = true) (hnd : (trks a ++ trks b).Nodup) :
    ∃ out, extent_Give n a b = some (out, 0) ∧ nf (-1) out ∧ ∀ k, k ∈ trks out ↔ k ∈ trks a ∨ k ∈ trks b := by
  have hn0 : 4194304 ≤ n := hn
  simp only [extent_Give, Check_eq n a 512 (by omega) (by omega), Valid_eq n hn b (by omega), Overlap_eq n hn a b ha hb, Option.bind_some, Option.isSome_some, Option.getD_some]
  rw [gd_pos _ (by simp)]
  have hnf := ((chk_iff 512 a (-1)).1 c1).1
  have ha1 : trkF [] a = some (trks a) := nf_trkF hnf
  obtain ⟨hvb, hndb⟩ := (trkF_isSome b).1 c2
  have hvab : (a ++ b).all val = true := by rw [List.all_append, nf_val hnf, hvb]; rfl
  have hnd2 : (trks (a ++ b)).Nodup := by rw [trks_app]; exact hnd
  have c3 : (trkF [] (a ++ b)).isSome = true := (trkF_isSome (a ++ b)).2 ⟨hvab, hnd2⟩
  simp only [c1, c2, c3, ha1, Option.isSome_some, Bool.not_true, Bool.false_eq_true, if_false, bif_ite, Bool.and_self]
  obtain ⟨r, r1, r2, r3⟩ := sorted_eq n (a ++ b) (by rw [List.length_append]; omega)
  have hrv : r.all val = true := by rw [perm_all r2]; exact hvab
  have hap : r.Pairwise apart := (nodup_apart hrv r3).1 ((perm_trks r2).nodup_iff.2 hnd2)
  have hle := len_le_trks hvab
  have hfw := few (m := 512) hnd2 (trks_range hvab)
  have hrl := r2.length_eq
  obtain ⟨g1, g2⟩ := mg_spec r [] trivial hrv hap (fun x hx => by
    have := (val_iff _).1 (List.all_eq_true.1 hrv x hx)
    show (-1 : Int) ≤ x.At
    omega)
  simp only [Clone_eq n a (by omega), Option.bind_some, r1, Give_loop n r hrv (by omega) (by omega), extent_Give_k1]
  rw [gd_pos _ (by omega)]
  refine ⟨_, rfl, g1, fun k => ?_⟩
  rw [g2, (perm_trks r2).mem_iff, trks_app, List.mem_append]
  simp [trks]

theorem tks_app (A B : List TFile) : tks (A ++ B) = tks A ++ tks B := by simp [tks]
theorem tks_cons (f : TFile) (B : List TFile) : tks (f :: B) = trks f.Extents ++ tks B := by simp [tks]

theorem over_eq (N : Int) (F es : List TExtent) (hv : es.all val = true) (hN : ∀ k ∈ trks es, k < N) (hl : es.length ≤ 1048576) : slices_ContainsFunc_f37_M1 N0 es N F = some false := by
  have hp : es.any (fun x => decide (x.At + x.Len > N)) = false := by
    rw [List.any_eq_false]
    intro x hx
    have h1 := (val_iff x).1 (List.all_eq_true.1 hv x hx)
    have h2 : x.At + x.Len - 1 ∈ trks es := List.mem_flatMap.2 ⟨x, hx, trk_mem.2 (by omega)⟩
    have := hN _ h2
    simp; omega
  obtain ⟨y, h1, h2⟩ := find_loop es (fun x => decide (x.At + x.Len > N)) (body := fun (x : Int) => slices_IndexFunc_f65_M1_b2 N0 N F es (es.length : Int) x) (n := N0)
    (fun k hk => by
      have h1 : decide ((k : Int) < (es.length : Int)) = true := by simp; omega
      have h2 : (0 : Int) ≤ (k : Int) ∧ (k : Int) < (es.length : Int) := by omega
      have h3 := (val_iff _).1 (List.all_eq_true.1 hv es[k] (List.getElem_mem hk))
      simp only [slices_IndexFunc_f65_M1_b2, h1, bif_ite, if_true, gd_pos _ h2, spool_Drop_1_M1, Option.bind_some, Int.toNat_natCast, gt_lt hk]
      rw [wid (by omega), wid (by omega)]
      by_cases hp : es[k].At + es[k].Len > N <;> simp [hp])
    (by simp [slices_IndexFunc_f65_M1_b2, bif_ite]) (by unfold N0; omega)
  simp only [slices_ContainsFunc_f37_M1, slices_IndexFunc_f65_M1, h1, Option.bind_some]
  rcases h2 with ⟨k, rfl, h⟩ | ⟨rfl, h⟩
  · rw [hp] at h; cases h
  · rfl

theorem Drop_ok {N : Int} {F : List TExtent} {A B : List TFile} {f : TFile} (h : INV N F (A ++ f :: B)) : ∃ F', spool_Drop N0 ⟨N, F⟩ f = some (⟨N, F'⟩, 0) ∧ INV N F' (A ++ B) := by
  have hv : f.Extents.all val = true := h.val f (by simp)
  have hnd := h.nd
  rw [tks_app, tks_cons] at hnd
  have hm : ∀ k, k ∈ trks F ++ (tks A ++ (trks f.Extents ++ tks B)) ↔ 0 ≤ k ∧ k < N := by
    have := h.mem; rwa [tks_app, tks_cons] at this
  obtain ⟨p1, p2, p3⟩ := List.nodup_append.1 hnd
  obtain ⟨q1, q2, q3⟩ := List.nodup_append.1 p2
  obtain ⟨r1, r2, r3⟩ := List.nodup_append.1 q2
  have hn1 := h.n1
  have hrange : ∀ k ∈ trks f.Extents, k < N := fun k hk => ((hm k).1 (by simp [hk])).2
  have hfew := few (m := 512) r1 (fun k hk => by have := (hm k).1 (by simp [hk]); omega)
  have hle := len_le_trks hv
  have hfl := h.flen
  have c2 : (trkF [] f.Extents).isSome = true := (trkF_isSome _).2 ⟨hv, r1⟩
  have hab : (trks F ++ trks f.Extents).Nodup := List.nodup_append.2 ⟨p1, r1, fun a ha b hb => p3 a ha b (by simp [hb])⟩
  obtain ⟨out, g1, g2, g3⟩ := Give_val N0 (Nat.le_refl _) F f.Extents (by omega) (by omega) h.chk512 c2 hab
  refine ⟨out, ?_, h.n0, h.n1, g2, fun g hg => h.val g (by simp at hg ⊢; rcases hg with hg | hg <;> simp [hg]), ?_, fun k => ?_⟩
  · simp only [spool_Drop, Check_ok h, Option.bind_some, Valid_eq N0 (Nat.le_refl _) f.Extents (by omega), c2, Option.isSome_some, Option.getD_some, Bool.not_true]
    rw [gd_pos _ (by simp)]
    simp only [bne_self_eq_false, Bool.false_eq_true, if_false, cond_false, Bool.not_false]
    rw [gd_pos _ trivial, over_eq N F f.Extents hv hrange (by omega)]
    simp only [Option.bind_some, cond_false, g1, bne_self_eq_false]
  · rw [tks_app]
    refine List.nodup_append.2 ⟨(nf_asc g2).imp (fun h => by omega), List.nodup_append.2 ⟨q1, r2, fun a ha b hb => q3 a ha b (by simp [hb])⟩, ?_⟩
    intro a ha b hb e
    subst e
    rcases (g3 a).1 ha with h1 | h1
    · exact p3 a h1 a (by simp at hb ⊢; rcases hb with hb | hb <;> simp [hb]) rfl
    · rcases List.mem_append.1 hb with hb | hb
      · exact q3 a hb a (by simp [h1]) rfl
      · exact r3 a h1 a hb rfl
  · rw [tks_app, ← hm]
    simp only [List.mem_append, g3]
    constructor
    · rintro ((h | h) | h | h) <;> simp [h]
    · rintro (h | h | h | h) <;> simp [h]

theorem trkL_ne {l : List TLine} (h : l ≠ []) : trkL l ≠ [] := by
  have d1 : ∀ (cs : List Int) (room : Int), cs ≠ [] → divP cs room ≠ [] := by
    intro cs room hc
    cases cs with
    | nil => exact absurd rfl hc
    | cons c cs => simp [divP, divF]
  have h1 : recsL l ≠ [] := by
    unfold recsL
    intro e
    rw [List.map_eq_nil_iff] at e
    exact d1 _ _ (by simpa using h) e
  unfold trkL tracksR
  intro e
  rw [List.map_eq_nil_iff] at e
  exact d1 _ _ (by simpa using h1) e
theorem trkL_len (l : List TLine) : (trkL l).length ≤ l.length := by
  have h1 := divF_len (List.map szRec (recsL l)) 2048 (List.map szRec (recsL l)).length 0
  have h2 := recsL_len l
  unfold trkL tracksR divP
  simp only [List.length_map] at h1 ⊢
  omega

theorem Put_ok {N : Int} {F : List TExtent} {files : List TFile} (h : INV N F files) (l : List TLine) (hl : l.length ≤ 4096) (h1 : l.any longT = false) (h2 : l.any badC = false) :
    ∃ r, spool_Put N0 ⟨N, F⟩ l = some r ∧ (r.2.2.2 = 7 ∨ (r.2.2.2 = 0 ∧ r.1.Tracks = N ∧ INV N r.1.Free (files ++ [r.2.1]) ∧ (((trks r.2.1.Extents).length : Nat) : Int) = ((r.2.2.1.length : Nat) : Int) ∧ r.2.1.Lines = ((l.length : Nat) : Int) ∧ r.2.1.Extents.length ≤ 8)) := by
  have ht : tracksS l = (trkL l, 0) := by
    unfold tracksS
    rw [if_neg (by omega), h1, h2]
    simp
  have hfl := h.flen
  have htl := trkL_len l
  simp only [spool_Put, Check_ok h, Option.bind_some, bne_self_eq_false, cond_false, Tracks_S N0 l (Nat.le_refl _), ht]
  by_cases c : l = []
  · subst c
    have e : trkL [] = [] := rfl
    simp only [e, List.length_nil]
    refine ⟨_, by rw [show ((((0 : Nat) : Nat) : Int) == 0) = true from rfl, cond_true, Clone_eq N0 F (by omega), Option.bind_some], .inr ⟨rfl, rfl, ⟨h.n0, h.n1, h.nf, ?_, ?_, ?_⟩, rfl, rfl, by simp⟩⟩
    · intro f hf
      rcases List.mem_append.1 hf with hf | hf
      · exact h.val f hf
      · simp only [List.mem_singleton] at hf; subst hf; rfl
    · have := h.nd; rw [tks_app]; simpa [tks, trks] using this
    · have := h.mem; rw [tks_app]; simpa [tks, trks] using this
  · have hne := trkL_ne c
    have hpos : 0 < (trkL l).length := List.length_pos_iff.2 hne
    have e : ((((trkL l).length : Nat) : Int) == 0) = false := by rw [beq_eq_false_iff_ne]; omega
    simp only [e, cond_false]
    rcases Take_out N0 (Nat.le_refl _) F (((trkL l).length : Nat) : Int) 8 (by omega) (by omega) with ⟨_, h3⟩ | ⟨_, v, h3, h4, h5, h6, h7, h8, h9⟩ | ⟨_, h3, _⟩
    · exact absurd ⟨⟨h.chk512, by omega⟩, by omega⟩ h3
    · refine ⟨_, by rw [h3, Option.bind_some, h4]; rfl, .inr ⟨rfl, rfl, ⟨h.n0, h.n1, h5, ?_, ?_, fun k => ?_⟩, h8, rfl, by dsimp only; omega⟩⟩
      · intro f hf
        rcases List.mem_append.1 hf with hf | hf
        · exact h.val f hf
        · simp only [List.mem_singleton] at hf; subst hf; exact h6
      · have hp : (trks F ++ tks files).Perm (trks v.2.1 ++ tks (files ++ [⟨v.1, ((l.length : Nat) : Int)⟩])) := by
          rw [tks_app]
          simp only [tks, List.flatMap_cons, List.flatMap_nil, List.append_nil]
          have := (h7.symm.append_right (tks files))
          refine this.trans ?_
          rw [List.append_assoc]
          refine (List.perm_append_comm).trans ?_
          rw [List.append_assoc]
          exact List.Perm.refl _
        exact hp.nodup_iff.1 h.nd
      · rw [← h.mem k, tks_app]
        simp only [tks, List.flatMap_cons, List.flatMap_nil, List.append_nil, List.mem_append]
        have := h7.mem_iff (a := k)
        rw [List.mem_append] at this
        rw [← this]
        constructor
        · rintro (a | a | a) <;> simp [a]
        · rintro ((a | a) | a) <;> simp [a]
    · exact ⟨_, by rw [h3, Option.bind_some]; rfl, .inl rfl⟩
end Go.Proofs.Ytkebegfopnlkhaa

/-
  ch. 39: each track is free or a file's (SpoolKeeps).
-/
set_option maxRecDepth 100000
namespace Go.Proofs.Ytkebegfopnlkhaa
open Go.AE

/-! ## How often the tracks occur -/
def cnt (T : List Int) : List Int := (List.range 600).map fun (i : Nat) => ((T.count (i : Int) : Nat) : Int)
theorem cnt_len (T : List Int) : (cnt T).length = 600 := by simp [cnt]
theorem cnt_gt (T : List Int) {k : Nat} (h : k < 600) : gt (cnt T) k = ((T.count (k : Int) : Nat) : Int) := by
  have : k < (cnt T).length := by rw [cnt_len]; exact h
  rw [gt_lt this]; simp [cnt]
theorem cnt_nil : zreps 600 0 = cnt [] := by decide +kernel
theorem cnt_set (T : List Int) {k : Nat} (h : k < 600) (hT : T.length ≤ 1073741824) : List.set (cnt T) k (IntKind.wrap .i64 (gt (cnt T) k + 1)) = cnt (T ++ [(k : Int)]) := by
  have hc := List.count_le_length (a := (k : Int)) (l := T)
  rw [cnt_gt T h, wid (by omega)]
  apply List.ext_getElem
  · simp [cnt_len]
  · intro i h1 h2
    rw [List.getElem_set]
    have hi : i < 600 := by rw [cnt_len] at h2; exact h2
    by_cases e : k = i
    · subst e
      rw [if_pos rfl]
      simp [cnt, List.count_append]
    · rw [if_neg e]
      have : ((k : Int) == (i : Int)) = false := by rw [beq_eq_false_iff_ne]; omega
      simp only [cnt, List.getElem_map, List.getElem_range, List.count_append, List.count_singleton, this]
      simp

theorem mark_one (s : TSpace) (lists : List (List TExtent)) (a b c d : Int) (v : List TExtent) (x : TExtent) (T : List Int) (hx : val x = true) (hT : T.length ≤ 536870912) :
    loopF (fun (y : (List Int) × Int) => law39_whole_b9 N0 s x.At x.Len lists a b v c d y.1 y.2) N0 (cnt T, 0) = some (.inr (cnt (T ++ trk x))) := by
  have hv := (val_iff x).1 hx
  have hlen := trk_length x
  have hl := loop_list (σ := List Int) (body := fun (y : (List Int) × Int) => law39_whole_b9 N0 s x.At x.Len lists a b v c d y.1 y.2) (trk x) (fun k T' => (cnt T', (k : Int))) (fun T' k => .inl (T' ++ [k])) (fun T' => .inr (cnt T')) (fun k T' => T'.length = T.length + k) (s := T) rfl
    (fun k hk T' hI => by
      have hk' : (k : Int) < x.Len := by omega
      have e1 : decide ((k : Int) < x.Len) = true := by simp; exact hk'
      have e2 : decide ((k : Int) < 600) = true := by simp; omega
      have e3 : decide (x.At < 0) = false := by simp; omega
      have e4 : decide (x.At + (k : Int) ≥ 600) = false := by simp; omega
      have hg := trk_get (x := x) hk
      obtain ⟨q, hq⟩ : ∃ q : Nat, x.At + (k : Int) = (q : Int) := ⟨(x.At + (k : Int)).toNat, by omega⟩
      simp only [law39_whole_b9, e1, e2, e3, if_true, bif_ite, Bool.false_eq_true, if_false, hg]
      rw [wid (by omega), e4, hq]
      simp only [Bool.false_eq_true, if_false, Int.toNat_natCast]
      rw [gd_pos _ (by rw [cnt_len]; omega), cnt_set T' (by omega) (by omega), wid (by omega)]
      rfl)
    (fun k hk T' hI s' he => by
      simp only [Sum.inl.injEq] at he
      subst he
      simp; omega)
    (fun T' hI => by
      have e1 : decide (((trk x).length : Int) < x.Len) = false := by simp; omega
      simp only [law39_whole_b9, e1, Bool.false_eq_true, if_false, bif_ite]) (n := N0) (by unfold N0; omega)
  have e : ∀ (l : List Int) (T : List Int), runL (fun T' k => (.inl (T' ++ [k]) : List Int ⊕ (Bool ⊕ List Int))) (fun T' => .inr (cnt T')) l T = .inr (cnt (T ++ l)) := by
    intro l
    induction l with
    | nil => intro T; simp [runL]
    | cons k l ih => intro T; simp only [runL, ih]; simp
  rw [e] at hl
  exact hl

theorem mark_list (s : TSpace) (lists : List (List TExtent)) (a b : Int) (v : List TExtent) (T : List Int) (hv : v.all val = true) (hvl : v.length ≤ 1048576) (hT : T.length + (trks v).length ≤ 536870912) :
    loopF (fun (y : (List Int) × Int) => law39_whole_b7 N0 s lists a b v (v.length : Int) y.1 y.2) N0 (cnt T, 0) = some (.inr (cnt (T ++ trks v))) := by
  have hl := loop_list (σ := List Int) (body := fun (y : (List Int) × Int) => law39_whole_b7 N0 s lists a b v (v.length : Int) y.1 y.2) v (fun k T' => (cnt T', (k : Int))) (fun T' x => .inl (T' ++ trk x)) (fun T' => .inr (cnt T')) (fun k T' => T' = T ++ trks (v.take k)) (s := T) (by simp [trks])
    (fun k hk T' hI => by
      have h1 : decide ((k : Int) < (v.length : Int)) = true := by simp; omega
      have h2 : (0 : Int) ≤ (k : Int) ∧ (k : Int) < (v.length : Int) := by omega
      have hle : (trks (v.take k)).length ≤ (trks v).length := by
        have : trks v = trks (v.take k) ++ trks (v.drop k) := by rw [← trks_app, List.take_append_drop]
        rw [this, List.length_append]; omega
      have hT' : T'.length ≤ 536870912 := by rw [hI, List.length_append]; omega
      simp only [law39_whole_b7, h1, bif_ite, if_true, gd_pos _ h2, Int.toNat_natCast, gt_lt hk, mark_one s lists a b (v.length : Int) (k : Int) v v[k] T' (List.all_eq_true.1 hv _ (List.getElem_mem hk)) hT', Option.bind_some, law39_whole_k8]
      rw [wid (by omega)]
      rfl)
    (fun k hk T' hI s' he => by
      simp only [Sum.inl.injEq] at he
      subst he
      rw [hI, List.take_succ_eq_append_getElem hk, trks_app, trks_one, List.append_assoc])
    (fun T' hI => by
      have e1 : decide ((v.length : Int) < (v.length : Int)) = false := by simp
      simp only [law39_whole_b7, e1, bif_ite, Bool.false_eq_true, if_false]) (n := N0) (by unfold N0; omega)
  have e : ∀ (l : List TExtent) (T : List Int), runL (fun T' x => (.inl (T' ++ trk x) : List Int ⊕ (Bool ⊕ List Int))) (fun T' => .inr (cnt T')) l T = .inr (cnt (T ++ trks l)) := by
    intro l
    induction l with
    | nil => intro T; simp [runL, trks]
    | cons k l ih => intro T; simp only [runL, ih, trks_cons, List.append_assoc]
  rw [e] at hl
  exact hl

theorem mark_lists (s : TSpace) (lists : List (List TExtent)) (hv : ∀ v ∈ lists, v.all val = true) (hll : lists.length ≤ 1000) (hT : (lists.flatMap trks).length ≤ 512) :
    loopF (fun (y : (List Int) × Int) => law39_whole_b5 N0 s lists (lists.length : Int) y.1 y.2) N0 (cnt [], 0) = some (.inr (cnt (lists.flatMap trks))) := by
  have hl := loop_list (σ := List Int) (body := fun (y : (List Int) × Int) => law39_whole_b5 N0 s lists (lists.length : Int) y.1 y.2) lists (fun k T' => (cnt T', (k : Int))) (fun T' x => .inl (T' ++ trks x)) (fun T' => .inr (cnt T')) (fun k T' => T' = (lists.take k).flatMap trks) (s := []) (by simp)
    (fun k hk T' hI => by
      have h1 : decide ((k : Int) < (lists.length : Int)) = true := by simp; omega
      have h2 : (0 ≤ (k : Int) ∧ (k : Int) < (lists.length : Int)) ∧ k < lists.length := by omega
      have hsum : (lists.flatMap trks).length = ((lists.take k).flatMap trks).length + ((trks lists[k]).length + ((lists.drop (k + 1)).flatMap trks).length) := by
        have h3 : lists = lists.take k ++ lists[k] :: lists.drop (k + 1) := by rw [← List.drop_eq_getElem_cons hk, List.take_append_drop]
        have h4 := congrArg (fun l => (l.flatMap trks).length) h3
        simp only [List.flatMap_append, List.flatMap_cons, List.length_append] at h4
        exact h4
      have hvk := hv lists[k] (List.getElem_mem hk)
      have hlk := len_le_trks hvk
      have hT' : T'.length + (trks lists[k]).length ≤ 536870912 := by rw [hI]; omega
      simp only [law39_whole_b5, h1, bif_ite, if_true, Int.toNat_natCast]
      rw [gd_pos _ h2, gt_lt hk, mark_list s lists (lists.length : Int) (k : Int) lists[k] T' hvk (by omega) hT']
      simp only [Option.bind_some, law39_whole_k6]
      rw [wid (by omega)]
      rfl)
    (fun k hk T' hI s' he => by
      simp only [Sum.inl.injEq] at he
      subst he
      rw [hI, List.take_succ_eq_append_getElem hk, List.flatMap_append]
      simp only [List.flatMap_cons, List.flatMap_nil, List.append_nil])
    (fun T' hI => by
      have e1 : decide ((lists.length : Int) < (lists.length : Int)) = false := by simp
      simp only [law39_whole_b5, e1, bif_ite, Bool.false_eq_true, if_false]) (n := N0) (by unfold N0; omega)
  have e : ∀ (l : List (List TExtent)) (T : List Int), runL (fun T' x => (.inl (T' ++ trks x) : List Int ⊕ (Bool ⊕ List Int))) (fun T' => .inr (cnt T')) l T = .inr (cnt (T ++ l.flatMap trks)) := by
    intro l
    induction l with
    | nil => intro T; simp [runL]
    | cons k l ih => intro T; simp only [runL, ih, List.flatMap_cons, List.append_assoc]
  rw [e] at hl
  exact hl

theorem lists_loop (s : TSpace) (i : List Int) (files : List TFile) (F : List TExtent) (hl : files.length ≤ 1000) :
    loopF (fun (x : (List (List TExtent)) × Int) => law39_whole_b10 N0 s i files (files.length : Int) x.1 x.2) N0 ([F], 0) = some (F :: files.map (·.Extents)) := by
  have hl := loop_list (σ := List (List TExtent)) (body := fun (x : (List (List TExtent)) × Int) => law39_whole_b10 N0 s i files (files.length : Int) x.1 x.2) files (fun k T' => (T', (k : Int))) (fun T' f => .inl (T' ++ [f.Extents])) (fun T' => T') (fun k T' => T'.length = k + 1) (s := [F]) rfl
    (fun k hk T' hI => by
      have h1 : decide ((k : Int) < (files.length : Int)) = true := by simp; omega
      have h2 : (0 : Int) ≤ (k : Int) ∧ (k : Int) < (files.length : Int) := by omega
      simp only [law39_whole_b10, h1, bif_ite, if_true, gd_pos _ h2, Int.toNat_natCast, gt_lt hk]
      rw [gd_pos _ (by omega), wid (by omega)]
      rfl)
    (fun k hk T' hI s' he => by
      simp only [Sum.inl.injEq] at he
      subst he
      simp; omega)
    (fun T' hI => by
      have e1 : decide ((files.length : Int) < (files.length : Int)) = false := by simp
      simp only [law39_whole_b10, e1, bif_ite, Bool.false_eq_true, if_false]) (n := N0) (by unfold N0; omega)
  have e : ∀ (l : List TFile) (T : List (List TExtent)), runL (fun T' f => (.inl (T' ++ [f.Extents]) : List (List TExtent) ⊕ List (List TExtent))) (fun T' => T') l T = T ++ l.map (·.Extents) := by
    intro l
    induction l with
    | nil => intro T; simp [runL]
    | cons k l ih => intro T; simp only [runL, ih]; simp
  rw [e] at hl
  exact hl

theorem whole_ok {N : Int} {F : List TExtent} {files : List TFile} (h : INV N F files) (hl : files.length ≤ 999) : law39_whole N0 ⟨N, F⟩ files = some true := by
  have hn0 := h.n0
  have hn1 := h.n1
  obtain ⟨T, hT⟩ : ∃ T, (F :: files.map (·.Extents)).flatMap trks = T := ⟨_, rfl⟩
  have hTe : T = trks F ++ tks files := by rw [← hT]; simp [tks, List.flatMap_map]
  have hnd : T.Nodup := by rw [hTe]; exact h.nd
  have hmem : ∀ k, k ∈ T ↔ 0 ≤ k ∧ k < N := by rw [hTe]; exact h.mem
  have hlen : T.length ≤ 512 := few (m := 512) hnd (fun k hk => by have := (hmem k).1 hk; omega)
  have hcnt : ∀ k : Nat, T.count (k : Int) = if (k : Int) < N then 1 else 0 := by
    intro k
    by_cases c : (k : Int) < N
    · rw [if_pos c]; rw [List.Nodup.count hnd, if_pos ((hmem _).2 ⟨by omega, c⟩)]
    · rw [if_neg c, List.count_eq_zero]; intro hk; exact c ((hmem _).1 hk).2
  have hm := mark_lists ⟨N, F⟩ (F :: files.map (·.Extents)) (by
    intro v hv
    rcases List.mem_cons.1 hv with rfl | hv
    · exact nf_val h.nf
    · obtain ⟨f, hf, rfl⟩ := List.mem_map.1 hv
      exact h.val f hf) (by simp; omega) (by rw [hT]; exact hlen)
  have hb4 := loop_list (σ := Unit) (body := fun (x : Int) => law39_whole_b4 N0 ⟨N, F⟩ (cnt T) ((600 : Nat) : Int) x) (List.range 600) (fun k _ => (k : Int)) (fun _ _ => .inl ()) (fun _ => .inr ()) (fun _ _ => True) (s := ()) trivial
    (fun k hk _ _ => by
      rw [List.length_range] at hk
      have h1 : decide ((k : Int) < ((600 : Nat) : Int)) = true := by simp; omega
      have h2 : (0 ≤ (k : Int) ∧ (k : Int) < ((cnt T).length : Int)) ∧ k < (cnt T).length := by rw [cnt_len]; omega
      simp only [law39_whole_b4, h1, bif_ite, if_true, Int.toNat_natCast]
      rw [gd_pos _ h2]
      simp only [cnt_gt T hk, hcnt k]
      rw [wid (by omega)]
      by_cases c : (k : Int) < N
      · simp [c]
      · simp [c])
    (fun _ _ _ _ _ _ => trivial)
    (fun _ _ => by simp [law39_whole_b4, bif_ite]) (n := N0) (by rw [List.length_range]; unfold N0; omega)
  have e : ∀ l : List Nat, runL (fun (_ : Unit) (_ : Nat) => (.inl () : Unit ⊕ (Bool ⊕ Unit))) (fun _ => .inr ()) l () = .inr () := by
    intro l
    induction l with
    | nil => rfl
    | cons a l ih => simp only [runL, ih]
  rw [e] at hb4
  rw [hT] at hm
  simp only [law39_whole, cnt_nil, lists_loop ⟨N, F⟩ (cnt []) files F (by omega), Option.bind_some, law39_whole_k1]
  rw [gd_pos _ (by decide), hm]
  simp only [Option.bind_some, law39_whole_k2, cnt_len]
  have hb4' : loopF (fun (x : Int) => law39_whole_b4 N0 ⟨N, F⟩ (cnt T) ((600 : Nat) : Int) x) N0 0 = some (.inr ()) := hb4
  rw [hb4']
  simp only [Option.bind_some, law39_whole_k3, Check_ok h]
  rfl
end Go.Proofs.Ytkebegfopnlkhaa

/-
  ch. 39: sequences of placements and releases (SpoolKeeps).
-/
set_option maxRecDepth 100000
namespace Go.Proofs.Ytkebegfopnlkhaa
open Go.AE

theorem loop_inv {X Y : Type} {body : X → Option (X ⊕ Y)} (I : X → Prop) (Q : Y → Prop) (μ : X → Nat) (h : ∀ x, I x → ∃ z, body x = some z ∧ (∀ x', z = .inl x' → I x' ∧ μ x' < μ x) ∧ (∀ y, z = .inr y → Q y)) :
    ∀ (n : Nat) (x : X), I x → μ x < n → ∃ y, loopF body n x = some y ∧ Q y
  | 0, x, _, hn => by omega
  | n + 1, x, hI, hn => by
    obtain ⟨z, h1, h2, h3⟩ := h x hI
    cases z with
    | inl x' =>
      obtain ⟨h4, h5⟩ := h2 x' rfl
      rw [loopF_step h1]
      exact loop_inv I Q μ h n x' h4 (by omega)
    | inr y => exact ⟨y, loopF_done h1, h3 y rfl⟩

def actOk (a : TAct) : Prop := (0 ≤ a.N ∧ a.N ≤ 255) ∧ (0 ≤ a.Size ∧ a.Size ≤ 255)
theorem rem_nat {a m : Int} (ha : 0 ≤ a ∧ a ≤ 1000000) (hm : 0 < m) : ∃ q : Nat, Int.tmod (IntKind.wrap .i64 a) m = (q : Int) ∧ (q : Int) < m := by
  rw [wid (by omega)]
  have h1 := Int.tmod_nonneg m ha.1
  have h2 := Int.tmod_lt_of_pos a hm
  exact ⟨(Int.tmod a m).toNat, by omega, by omega⟩

theorem lines_ok (l : List TAct) (s : Int) (F : List TExtent) (files : List TFile) (i : Nat) (hi : i < l.length) (ha : actOk l[i]) :
    ∃ ls, loopF (fun (x : (List TLine) × Int) => law39_SpoolKeeps_b7 N0 l s F files (i : Int) x.1 x.2) N0 ([], 0) = some ls ∧ ls.length ≤ 59 ∧ ls.any longT = false ∧ ls.any badC = false := by
  obtain ⟨w, hw, hw2⟩ := rem_nat (a := l[i].N) (m := 60) (by have := ha.1; omega) (by decide)
  obtain ⟨z, hz, hz2⟩ := rem_nat (a := l[i].Size) (m := 133) (by have := ha.2; omega) (by decide)
  have hi2 : (0 : Int) ≤ (i : Int) ∧ (i : Int) < (l.length : Int) := by omega
  have hl := loop_list (σ := List TLine) (body := fun (x : (List TLine) × Int) => law39_SpoolKeeps_b7 N0 l s F files (i : Int) x.1 x.2) (List.range w) (fun k ls => (ls, (k : Int))) (fun ls k => .inl (ls ++ [⟨(k : Int), toStr8 (zreps z 0)⟩])) (fun ls => ls)
    (fun k ls => ls.length = k) (s := []) rfl
    (fun k hk ls hI => by
      rw [List.length_range] at hk
      have h1 : decide ((k : Int) < (w : Int)) = true := by simp; omega
      simp only [law39_SpoolKeeps_b7, Int.toNat_natCast, gt_lt hi, hw, hz, h1, bif_ite, if_true, List.getElem_range]
      rw [gd_pos _ hi2, gd_pos _ (by omega), wid (by omega)]
      rfl)
    (fun k hk ls hI s' he => by
      simp only [Sum.inl.injEq] at he
      subst he
      simp; omega)
    (fun ls hI => by
      have h1 : decide (((List.range w).length : Int) < (w : Int)) = false := by simp
      simp only [law39_SpoolKeeps_b7, Int.toNat_natCast, gt_lt hi, hw, h1, bif_ite, Bool.false_eq_true, if_false]
      rw [gd_pos _ hi2]) (n := N0) (by rw [List.length_range]; unfold N0; omega)
  have e : ∀ (r : List Nat) (ls : List TLine), runL (fun ls (k : Nat) => (.inl (ls ++ [⟨(k : Int), toStr8 (zreps z 0)⟩]) : List TLine ⊕ List TLine)) (fun ls => ls) r ls = ls ++ r.map fun (k : Nat) => (⟨(k : Int), toStr8 (zreps z 0)⟩ : TLine) := by
    intro r
    induction r with
    | nil => intro ls; simp [runL]
    | cons k r ih => intro ls; simp only [runL, ih]; simp
  rw [e] at hl
  refine ⟨_, hl, ?_, ?_, ?_⟩
  · simp; omega
  · rw [List.any_eq_false]
    intro x hx
    simp only [List.nil_append, List.mem_map] at hx
    obtain ⟨k, hk, rfl⟩ := hx
    simp [longT, toStr8_len, zreps_len]; omega
  · rw [List.any_eq_false]
    intro x hx
    simp only [List.nil_append, List.mem_map, List.mem_range] at hx
    obtain ⟨k, hk, rfl⟩ := hx
    have h1 : decide ((k : Int) < 0) = false := by simp
    have h2 : decide ((k : Int) > 255) = false := by simp; omega
    simp [badC, h1, h2]

theorem many_ok (l : List TAct) (s : Int) (F : List TExtent) (files : List TFile) (i : Int) (ls : List TLine) (t : Int) (G : List TExtent) (es : List TExtent) (c : Int) (tr : List (List TRec)) (hv : es.all val = true) (hl : es.length ≤ 1048576) (hT : (trks es).length ≤ 1048576) :
    loopF (fun (x : Int × Int) => law39_SpoolKeeps_b6 N0 l s F files i ls t G es c tr ((es.length : Nat) : Int) x.1 x.2) N0 (0, 0) = some (((trks es).length : Nat) : Int) := by
  have hl := loop_list (σ := Int) (body := fun (x : Int × Int) => law39_SpoolKeeps_b6 N0 l s F files i ls t G es c tr ((es.length : Nat) : Int) x.1 x.2) es (fun k m => (m, (k : Int))) (fun m x => .inl (m + x.Len)) (fun m => m)
    (fun k m => m = (((trks (es.take k)).length : Nat) : Int)) (s := 0) (by simp [trks])
    (fun k hk m hI => by
      have h1 : decide ((k : Int) < ((es.length : Nat) : Int)) = true := by simp; omega
      have h2 : (0 ≤ (k : Int) ∧ (k : Int) < (es.length : Int)) ∧ k < es.length := by omega
      have h3 := (val_iff _).1 (List.all_eq_true.1 hv es[k] (List.getElem_mem hk))
      have hle : (trks (es.take k)).length ≤ (trks es).length := by
        have : trks es = trks (es.take k) ++ trks (es.drop k) := by rw [← trks_app, List.take_append_drop]
        rw [this, List.length_append]; omega
      simp only [law39_SpoolKeeps_b6, h1, bif_ite, if_true, Int.toNat_natCast]
      rw [gd_pos _ h2, gt_lt hk, wid (by omega), wid (by omega)]
      rfl)
    (fun k hk m hI s' he => by
      simp only [Sum.inl.injEq] at he
      subst he
      have h3 := (val_iff _).1 (List.all_eq_true.1 hv es[k] (List.getElem_mem hk))
      rw [hI, List.take_succ_eq_append_getElem hk, trks_app, trks_one, List.length_append, trk_length]; omega)
    (fun m hI => by simp [law39_SpoolKeeps_b6, bif_ite]) (n := N0) (by unfold N0; omega)
  refine Eq.trans hl ?_
  have e : ∀ (es : List TExtent) (m : Int), es.all val = true → runL (fun m (x : TExtent) => (.inl (m + x.Len) : Int ⊕ Int)) (fun m => m) es m = m + (((trks es).length : Nat) : Int) := by
    intro es
    induction es with
    | nil => intro m _; simp [runL, trks]
    | cons x es ih =>
      intro m hv
      simp only [List.all_cons, Bool.and_eq_true] at hv
      have h3 := (val_iff _).1 hv.1
      simp only [runL, ih _ hv.2, trks_cons, List.length_append, trk_length]
      omega
  rw [e es 0 hv]
  simp

theorem Keeps_true (n_ : Int) (l : List TAct) (hn : 0 ≤ n_ ∧ n_ ≤ 65535) (hl : ∀ a ∈ l, actOk a) : law39_SpoolKeeps N0 n_ l = some true := by
  obtain ⟨m, hm, hm2⟩ := rem_nat (a := n_) (m := 513) (by omega) (by decide)
  obtain ⟨y, h1, h2⟩ := loop_inv (body := fun (x : Int × (List TExtent) × (List TFile) × Int) => law39_SpoolKeeps_b2 N0 l x.1 x.2.1 x.2.2.1 x.2.2.2)
    (fun x => ∃ k : Nat, x.2.2.2 = (k : Int) ∧ k ≤ 40 ∧ x.2.2.1.length ≤ k ∧ INV x.1 x.2.1 x.2.2.1)
    (fun y => ∃ v, y = .inr v ∧ v.2.2.length ≤ 40 ∧ INV v.1 v.2.1 v.2.2) (fun x => 41 - x.2.2.2.toNat)
    (by
      rintro ⟨N, F, files, i⟩ ⟨k, hk, hk40, hfl, hinv⟩
      dsimp only at hk hfl hinv ⊢
      subst hk
      by_cases c : k < l.length ∧ k < 40
      · have e1 : decide ((k : Int) < (l.length : Int)) = true := by simp; omega
        have e2 : decide ((k : Int) < 40) = true := by simp; omega
        have hi2 : (0 : Int) ≤ (k : Int) ∧ (k : Int) < (l.length : Int) := by omega
        have ha := hl l[k] (List.getElem_mem c.1)
        have k3 : ∀ (N' : Int) (F' : List TExtent) (fs : List TFile), law39_SpoolKeeps_k3 N0 l N' F' fs (k : Int) = some (.inl (N', F', fs, ((k + 1 : Nat) : Int))) := by
          intro N' F' fs
          simp only [law39_SpoolKeeps_k3]
          rw [wid (by omega)]
          rfl
        simp only [law39_SpoolKeeps_b2, e1, e2, if_true, bif_ite, Int.toNat_natCast, gt_lt c.1]
        rw [gd_pos _ hi2]
        by_cases d : l[k].Drop = true ∧ 0 < files.length
        · have e3 : (if l[k].Drop = true then (decide (((files.length : Nat) : Int) > 0)) else false) = true := by
            rw [if_pos d.1]; simp; omega
          obtain ⟨q, hq, hq2⟩ := rem_nat (a := l[k].N) (m := ((files.length : Nat) : Int)) (by have := ha.1; omega) (by omega)
          have hq3 : q < files.length := by omega
          have hsp : files = files.take q ++ files[q] :: files.drop (q + 1) := by rw [← List.drop_eq_getElem_cons hq3, List.take_append_drop]
          have hin2 : INV N F (files.take q ++ files[q] :: files.drop (q + 1)) := by rw [← hsp]; exact hinv
          obtain ⟨F', g1, g2⟩ := Drop_ok hin2
          simp only [e3, if_true, hq, Int.toNat_natCast, gt_lt hq3]
          have e4 : IntKind.wrap .i64 ((q : Int) + 1) = ((q + 1 : Nat) : Int) := by rw [wid (by omega)]; rfl
          rw [gd_pos _ (by omega), gd_pos _ (by omega), g1]
          simp only [Option.bind_some, bne_self_eq_false, Bool.false_eq_true, if_false, e4, Int.sub_zero, Int.toNat_natCast]
          have e5 : List.take (Int.toNat ((files.length : Int) - ((q + 1 : Nat) : Int))) (List.drop (q + 1) files) = List.drop (q + 1) files := by
            rw [List.take_of_length_le]; simp; omega
          rw [e5, gd_pos _ (by rw [List.length_take, List.length_drop]; omega), k3]
          refine ⟨_, rfl, fun x' hx => ?_, fun y hy => by cases hy⟩
          cases hx
          refine ⟨⟨k + 1, rfl, by omega, ?_, g2⟩, by simp; omega⟩
          rw [List.length_append, List.length_take, List.length_drop]; omega
        · have e3 : (if l[k].Drop = true then (decide (((files.length : Nat) : Int) > 0)) else false) = false := by
            by_cases d1 : l[k].Drop = true
            · rw [if_pos d1]; simp; simp [d1] at d; omega
            · rw [if_neg d1]
          obtain ⟨ls, l1, l2, l3, l4⟩ := lines_ok l N F files k c.1 ha
          obtain ⟨r, p1, p2⟩ := Put_ok hinv ls (by omega) l3 l4
          simp only [e3, Bool.false_eq_true, if_false, l1, Option.bind_some, law39_SpoolKeeps_k4, p1]
          rcases p2 with p2 | ⟨p2, p3, p4, p5, p6, p7⟩
          · simp only [p2, show ((7 : Int) != 0) = true from rfl, bne_self_eq_false, bif_ite, if_true, Bool.false_eq_true, if_false, k3]
            refine ⟨_, rfl, fun x' hx => ?_, fun y hy => by cases hy⟩
            cases hx
            exact ⟨⟨k + 1, rfl, by omega, by dsimp only; omega, hinv⟩, by simp; omega⟩
          · have hv : r.2.1.Extents.all val = true := p4.val r.2.1 (by simp)
            have hT : (trks r.2.1.Extents).length ≤ 512 := by
              have hnd := (List.nodup_append.1 p4.nd).2.1
              rw [tks_app] at hnd
              have h3 := (List.nodup_append.1 hnd).2.1
              simp only [tks, List.flatMap_cons, List.flatMap_nil, List.append_nil] at h3
              exact few (m := 512) h3 (fun q hq => by have := trks_range hv q hq; omega)
            have hwh := whole_ok p4 (by simp; omega)
            have e6 : ((((trks r.2.1.Extents).length : Nat) : Int) != ((r.2.2.1.length : Nat) : Int)) = false := by rw [p5]; simp
            have e7 : (r.2.1.Lines != ((ls.length : Nat) : Int)) = false := by rw [p6]; simp
            have e8 : decide (((r.2.1.Extents.length : Nat) : Int) > 8) = false := by simp; omega
            simp only [p2, bne_self_eq_false, bif_ite, Bool.false_eq_true, if_false, many_ok l N F files (k : Int) ls r.1.Tracks r.1.Free r.2.1.Extents r.2.1.Lines r.2.2.1 hv (by omega) (by omega), Option.bind_some, law39_SpoolKeeps_k5, e6, e7, e8]
            rw [gd_pos _ (by omega)]
            have e9 : (⟨r.1.Tracks, r.1.Free⟩ : TSpace) = ⟨N, r.1.Free⟩ := by rw [p3]
            have e10 : (⟨r.2.1.Extents, r.2.1.Lines⟩ : TFile) = r.2.1 := rfl
            rw [e9, e10, hwh]
            simp only [Option.bind_some, Bool.not_true, Bool.false_eq_true, if_false, k3, p3]
            refine ⟨_, rfl, fun x' hx => ?_, fun y hy => by cases hy⟩
            cases hx
            exact ⟨⟨k + 1, rfl, by omega, by simp; omega, p4⟩, by simp; omega⟩
      · have e1 : (if (decide ((k : Int) < (l.length : Int))) = true then (decide ((k : Int) < 40)) else false) = false := by
          by_cases c1 : k < l.length
          · have c2 : ¬ k < 40 := fun h => c ⟨c1, h⟩
            have : decide ((k : Int) < 40) = false := by simp; omega
            rw [this]; split <;> rfl
          · have : decide ((k : Int) < (l.length : Int)) = false := by simp; omega
            rw [this]; rfl
        simp only [law39_SpoolKeeps_b2, e1, bif_ite, Bool.false_eq_true, if_false]
        refine ⟨_, rfl, fun x' hx => (by cases hx), fun y hy => ?_⟩
        cases hy
        exact ⟨_, rfl, by dsimp only; omega, hinv⟩)
    N0 ((m : Int), (if (m : Int) = 0 then [] else [⟨0, (m : Int)⟩]), [], 0) ⟨0, rfl, by omega, by simp, New_inv (m : Int) (by omega) (by omega)⟩ (by unfold N0; simp)
  obtain ⟨v, rfl, h3, h4⟩ := h2
  simp only [law39_SpoolKeeps, works_N0, Option.bind_some, Bool.not_true, cond_false, hm, New_val (m : Int) (by omega) (by omega), bne_self_eq_false]
  rw [h1]
  simp only [Option.bind_some, law39_SpoolKeeps_k1]
  have e : (⟨v.1, v.2.1⟩ : TSpace) = ⟨v.1, v.2.1⟩ := rfl
  rw [whole_ok h4 (by omega)]
  rfl
end Go.Proofs.Ytkebegfopnlkhaa

/-
  ch. 39: SpoolKeeps, for arguments of its types.
-/
set_option maxRecDepth 100000
namespace Go.Proofs.Ytkebegfopnlkhaa
open Go.AE

theorem can_u16 {x : Int} (h : Go.AE.Can Try.prog (.int .u16) (.int x)) : 0 ≤ x ∧ x ≤ 65535 := by
  cases h with
  | int _ _ h =>
    have h1 : IntKind.u16.min = 0 := by decide
    have h2 : IntKind.u16.max = 65535 := by decide
    obtain ⟨h3, h4⟩ := h
    omega
theorem can_u8 {x : Int} (h : Go.AE.Can Try.prog (.int .u8) (.int x)) : 0 ≤ x ∧ x ≤ 255 := by
  cases h with
  | int _ _ h =>
    have h1 : IntKind.u8.min = 0 := by decide
    have h2 : IntKind.u8.max = 255 := by decide
    obtain ⟨h3, h4⟩ := h
    omega
theorem p_Keeps (x0 : Int) (x1 : List TAct) (hc : ∀ i, i < 2 → CanL Try.prog (([(false, [.int .u16]), (false, [.slice 42])] : List (Bool × List Kd)).getD i (false, [])).2 (([[.int x0], [.slice (List.map e_TAct x1)]] : List (List C)).getD i [])) :
    law39_SpoolKeeps N0 x0 x1 = some true := by
  have h0 := (hc 0 (by decide)).2 0 (by decide)
  have h1 := (hc 1 (by decide)).2 0 (by decide)
  simp only [List.getD_cons_zero, List.getD_cons_succ, cg_zero] at h0 h1
  refine Keeps_true x0 x1 (can_u16 h0) fun a ha => ?_
  have h2 := (can_elt ty42 e_TAct h1 a ha).2
  have h3 := h2 1 (by decide)
  have h4 := h2 2 (by decide)
  simp only [List.getD_cons_zero, List.getD_cons_succ, e_TAct, cg_zero, cg_succ] at h3 h4
  exact ⟨can_u8 h3, can_u8 h4⟩
end Go.Proofs.Ytkebegfopnlkhaa
