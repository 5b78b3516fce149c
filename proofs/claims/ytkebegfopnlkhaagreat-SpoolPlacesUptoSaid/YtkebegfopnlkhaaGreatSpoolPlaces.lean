/- Text. -/
import Derived.Test.YtkebegfopnlkhaaGreatQ
import Derived.JoinedCond
set_option maxHeartbeats 8000000
set_option linter.unusedVariables false
set_option linter.unusedSimpArgs false
set_option maxRecDepth 100000
namespace Go.Proofs.YtkebegfopnlkhaaGreat
open Go.AE
namespace spoolPlaces
open Go.ChangeShapes Go.WideShapes Go.ChangeAt Go.RowKit
theorem own:ownKnob Tryz.prog.godebug=none:=by kernel_rfl
mutual
theorem bulk_le {H:Type}:∀ d:DataW H,bulk d≤Rows.uptoBulk d
  | .lit l=>by cases l <;> simp [bulk,Rows.uptoBulk]
  | .nil=>by simp [bulk,Rows.uptoBulk]
  | .ptr d=>by have:=bulk_le d;simp [bulk,Rows.uptoBulk];omega
  | .slice es sp=>by have:=bulkAll_le es;have:=bulkAll_le sp;simp [bulk,Rows.uptoBulk];omega
  | .agg ps=>by have:=bulkAll_le ps;simp [bulk,Rows.uptoBulk];omega
  | .iface n d=>by have:=bulk_le d;simp [bulk,Rows.uptoBulk];omega
  | .map es=>by simp [bulk,Rows.uptoBulk]
  | .held h=>by simp [bulk,Rows.uptoBulk]
theorem bulkAll_le {H:Type}:∀ ds:List (DataW H),bulkAll ds≤Rows.uptoBulkAll ds
  | []=>by simp [bulkAll,Rows.uptoBulkAll]
  | d :: ds=>by have:=bulk_le d;have:=bulkAll_le ds;simp [bulkAll,Rows.uptoBulkAll];omega
end
theorem bulkAll_app {H:Type} (ds gs:List (DataW H)):bulkAll ds≤bulkAll (ds ++ gs):=by
  induction ds with
  | nil=>simp [bulkAll]
  | cons d ds ih=>simp [bulkAll];omega
theorem canp0 (c:List C) (h:CanL Tryz.prog [.int .i64] c):([.int (cg c 0).toInt]:List C)=c:=by
  obtain ⟨hl,hc⟩:=h
  match c,hl with
  | [x0],_ =>
    have h0:=can_int (hc 0 (by decide))
    simp only [cg_zero,cg_succ] at h0
    simp only [cg_zero,cg_succ,h0]
theorem can49 (c:List C) (h:CanL Tryz.prog [.int .i64,.int .i64] c):e_TExtent (d_TExtent c)=c:=by
  obtain ⟨hl,hc⟩:=h
  match c,hl with
  | [x0,x1],_ =>
    have h0:=can_int (hc 0 (by decide))
    have h1:=can_int (hc 1 (by decide))
    simp only [cg_zero,cg_succ] at h0 h1
    simp only [e_TExtent,d_TExtent,cg_zero,cg_succ,h0,h1]
theorem canp1 (c:List C) (h:CanL Tryz.prog [.slice 49] c):([.slice (List.map e_TExtent (List.map d_TExtent (cg c 0).toSl))]:List C)=c:=by
  obtain ⟨hl,hc⟩:=h
  match c,hl with
  | [x0],_ =>
    have h0:=can_slice ty49 e_TExtent d_TExtent can49 (hc 0 (by decide))
    simp only [cg_zero,cg_succ] at h0
    simp only [cg_zero,cg_succ,h0]
theorem canp2 (c:List C) (h:CanL Tryz.prog [.slice 49] c):([.slice (List.map e_TExtent (List.map d_TExtent (cg c 0).toSl))]:List C)=c:=by
  obtain ⟨hl,hc⟩:=h
  match c,hl with
  | [x0],_ =>
    have h0:=can_slice ty49 e_TExtent d_TExtent can49 (hc 0 (by decide))
    simp only [cg_zero,cg_succ] at h0
    simp only [cg_zero,cg_succ,h0]
theorem can55 (c:List C) (h:CanL Tryz.prog [.int .i64,.str] c):e_TLine (d_TLine c)=c:=by
  obtain ⟨hl,hc⟩:=h
  match c,hl with
  | [x0,x1],_ =>
    have h0:=can_int (hc 0 (by decide))
    have h1:=can_str (hc 1 (by decide))
    simp only [cg_zero,cg_succ] at h0 h1
    simp only [e_TLine,d_TLine,cg_zero,cg_succ,h0,h1]
theorem canp3 (c:List C) (h:CanL Tryz.prog [.slice 55] c):([.slice (List.map e_TLine (List.map d_TLine (cg c 0).toSl))]:List C)=c:=by
  obtain ⟨hl,hc⟩:=h
  match c,hl with
  | [x0],_ =>
    have h0:=can_slice ty55 e_TLine d_TLine can55 (hc 0 (by decide))
    simp only [cg_zero,cg_succ] at h0
    simp only [cg_zero,cg_succ,h0]
set_option maxRecDepth 100000 in
theorem lifted (os:Os) (started:os.Started) (H:Type) (enc:TypeId×Value→H) (F:Stop.Interp) :
    ReturnsInHanded {} Tryz.checked os 3 .any ((Rows.OpenSpec.upto Rows.spoolPlacesSpec).pre6 enc Tryz.prog Tryz.f3 Rows.spoolPlacesUptoRow.domain false) (((Rows.OpenSpec.upto Rows.spoolPlacesSpec).at F).post enc Tryz.prog Tryz.f3 false true false false):=by
  refine returnsInHanded_of_cond (C:=Tryz.checked) (s:=Rows.OpenSpec.upto Rows.spoolPlacesSpec) (k:=Rows.uptoSmall) rfl own started (by kernel_rfl) Tryz.func3
    (OpenSpec.witness (enc:=enc) (C:=Tryz.checked) (s:=Rows.OpenSpec.upto Rows.spoolPlacesSpec) (k:=Rows.uptoSmall) rfl false ⟨#[],#[.int .i64 0,.slice none 0 0,.slice none 0 0,.slice none 0 0],[]⟩ 12 (by kernel_rfl) (by kernel_rfl) (by kernel_rfl)
      (x:=([.lit (.int .i64 0),.nil,.nil,.nil],[],[])) (by kernel_rfl) rfl (by kernel_rfl)) ?_
  intro W base args ds gs before hval hW _ hk _
  have hb:bulkAll ds≤1048576:=Nat.le_trans (bulkAll_app ds gs) (Nat.le_trans (bulkAll_le _) (of_decide_eq_true hk))
  refine law_mk (n:=8) (bt:=4) (f:=Tryz.f3) (s:=Rows.spoolPlacesSpec) (claw39_SpoolPlaces N0) (by kernel_rfl) (by kernel_rfl) (by kernel_rfl) (by kernel_rfl) rfl (by kernel_rfl) (by kernel_rfl) ?_ ?_ ?_ hval hW hb
  · intro ds hds
    match ds,hds with
    | [d0,d1,d2,d3],_=>rfl
  · intro cs h1 h2
    match cs,h1 with
    | [c0,c1,c2,c3],_ =>
      have q0:=h2 0 (by decide)
      have q1:=h2 1 (by decide)
      have q2:=h2 2 (by decide)
      have q3:=h2 3 (by decide)
      simp only [List.getD_cons_zero,List.getD_cons_succ] at q0 q1 q2 q3
      exact (by rw [canp0 c0 q0,canp1 c1 q1,canp2 c2 q2,canp3 c3 q3]:([[.int (cg c0 0).toInt],[.slice (List.map e_TExtent (List.map d_TExtent (cg c1 0).toSl))],[.slice (List.map e_TExtent (List.map d_TExtent (cg c2 0).toSl))],[.slice (List.map e_TLine (List.map d_TLine (cg c3 0).toSl))]]:List (List C))=[c0,c1,c2,c3]).symm
  · rintro ⟨x0,x1,x2,x3⟩ hc hb
    exact Places_true x0 x1 x2 x3 (len_of_cbss hb (xs:=[.slice (List.map e_TExtent x1)]) (l:=x1) (f:=e_TExtent) (by simp) (by simp)) (len_of_cbss hb (xs:=[.slice (List.map e_TExtent x2)]) (l:=x2) (f:=e_TExtent) (by simp) (by simp))
theorem over:Rows.spoolPlacesUptoRow.holds Tryz.pinned (Rows.OpenSpec.upto Rows.spoolPlacesSpec) :=
  OpenClaim.holds_of_cond 3 Tryz.f3 rfl rfl rfl rfl rfl rfl rfl ⟨rfl,rfl,rfl,rfl,rfl⟩ rfl rfl rfl rfl rfl (by kernel_rfl) Tryz.func3 (by kernel_rfl)
    (of_decide_eq_true (by kernel_rfl)) (by unfold Func.isWrapper;first | (rw [if_pos (by decide +kernel)];kernel_rfl) | (rw [if_neg (by decide +kernel)];exact ⟨rfl,rfl⟩))
    (fun os started H enc _ F=>lifted os started H enc F)
end spoolPlaces
theorem SpoolPlaces_upto:Rows.SpoolPlacesUptoSaid:=spoolPlaces.over
end Go.Proofs.YtkebegfopnlkhaaGreat
