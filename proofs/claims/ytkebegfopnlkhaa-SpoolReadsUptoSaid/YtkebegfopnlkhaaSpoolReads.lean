/- Text. -/
import Derived.Test.YtkebegfopnlkhaaRF
import Derived.Test.YtkebegfopnlkhaaSJ
import Derived.JoinedCond
set_option maxHeartbeats 8000000
set_option linter.unusedVariables false
set_option linter.unusedSimpArgs false
set_option maxRecDepth 100000
open Go.Proofs.Try renaming prog→jd
namespace Go.Proofs.Ytkebegfopnlkhaa
open Go.AE
namespace spoolReads
open Go.ChangeShapes Go.WideShapes Go.ChangeAt Go.RowKit
theorem own:ownKnob jd.godebug=none:=by kernel_rfl
mutual
theorem bulk_le {H:Type}:∀ d:DataW H,bulk d≤Rows.uptoBulk d
  | .lit l=>by cases l <;> simp [bulk,Rows.uptoBulk]
  | .nil=>by simp [bulk,Rows.uptoBulk]
  | .ptr d=>by have:=bulk_le d;simp [bulk,Rows.uptoBulk];omega
  | .slice es sp=>by have:=bulkAll_le es;have:=bulkAll_le sp;simp [bulk,Rows.uptoBulk];omega
  | .agg ps=>by have:=bulkAll_le ps;simp [bulk,Rows.uptoBulk];omega
  | .iface n d=>by have:=bulk_le d;simp [bulk,Rows.uptoBulk];omega
  | .map es=>by simp [bulk,Rows.uptoBulk]
  | .held h=>by simp [bulk,Rows.uptoBulk]
theorem bulkAll_le {H:Type}:∀ ds:List (DataW H),bulkAll ds≤Rows.uptoBulkAll ds
  | []=>by simp [bulkAll,Rows.uptoBulkAll]
  | d :: ds=>by have:=bulk_le d;have:=bulkAll_le ds;simp [bulkAll,Rows.uptoBulkAll];omega
end
theorem bulkAll_app {H:Type} (ds gs:List (DataW H)):bulkAll ds≤bulkAll (ds ++ gs):=by
  induction ds with
  | nil=>simp [bulkAll]
  | cons d ds ih=>simp [bulkAll];omega
theorem can48 (c:List C) (h:CanL jd [.int .i64,.str] c):e_TLine (d_TLine c)=c:=by
  obtain ⟨hl,hc⟩:=h
  match c,hl with
  | [x0,x1],_ =>
    have h0:=can_int (hc 0 (by decide))
    have h1:=can_str (hc 1 (by decide))
    simp only [cg_zero,cg_succ] at h0 h1
    simp only [e_TLine,d_TLine,cg_zero,cg_succ,h0,h1]
theorem canp0 (c:List C) (h:CanL jd [.slice 48] c):([.slice (List.map e_TLine (List.map d_TLine (cg c 0).toSl))]:List C)=c:=by
  obtain ⟨hl,hc⟩:=h
  match c,hl with
  | [x0],_ =>
    have h0:=can_slice ty48 e_TLine d_TLine can48 (hc 0 (by decide))
    simp only [cg_zero,cg_succ] at h0
    simp only [cg_zero,cg_succ,h0]
theorem can5 (c:List C) (h:CanL jd [.int .u8] c):e_Int (d_Int c)=c:=by
  obtain ⟨hl,hc⟩:=h
  match c,hl with
  | [x0],_ =>
    have h0:=can_int (hc 0 (by decide))
    simp only [cg_zero,cg_succ] at h0
    simp only [e_Int,d_Int,cg_zero,cg_succ,h0]
theorem can59 (c:List C) (h:CanL jd [.int .i64,.slice 5,.slice 5,.bool] c):e_TRec (d_TRec c)=c:=by
  obtain ⟨hl,hc⟩:=h
  match c,hl with
  | [x0,x1,x2,x3],_ =>
    have h0:=can_int (hc 0 (by decide))
    have h1:=can_slice ty5 e_Int d_Int can5 (hc 1 (by decide))
    have h2:=can_slice ty5 e_Int d_Int can5 (hc 2 (by decide))
    have h3:=can_bool (hc 3 (by decide))
    simp only [cg_zero,cg_succ] at h0 h1 h2 h3
    simp only [e_TRec,d_TRec,cg_zero,cg_succ,h0,h1,h2,h3]
theorem can57 (c:List C) (h:CanL jd [.slice 59] c):e_LTRec (d_LTRec c)=c:=by
  obtain ⟨hl,hc⟩:=h
  match c,hl with
  | [x0],_ =>
    have h0:=can_slice ty59 e_TRec d_TRec can59 (hc 0 (by decide))
    simp only [cg_zero,cg_succ] at h0
    simp only [e_LTRec,d_LTRec,cg_zero,cg_succ,h0]
theorem canp1 (c:List C) (h:CanL jd [.slice 57] c):([.slice (List.map e_LTRec (List.map d_LTRec (cg c 0).toSl))]:List C)=c:=by
  obtain ⟨hl,hc⟩:=h
  match c,hl with
  | [x0],_ =>
    have h0:=can_slice ty57 e_LTRec d_LTRec can57 (hc 0 (by decide))
    simp only [cg_zero,cg_succ] at h0
    simp only [cg_zero,cg_succ,h0]
theorem canp2 (c:List C) (h:CanL jd [.int .i64] c):([.int (cg c 0).toInt]:List C)=c:=by
  obtain ⟨hl,hc⟩:=h
  match c,hl with
  | [x0],_ =>
    have h0:=can_int (hc 0 (by decide))
    simp only [cg_zero,cg_succ] at h0
    simp only [cg_zero,cg_succ,h0]
theorem canp3 (c:List C) (h:CanL jd [.int .u8] c):([.int (cg c 0).toInt]:List C)=c:=by
  obtain ⟨hl,hc⟩:=h
  match c,hl with
  | [x0],_ =>
    have h0:=can_int (hc 0 (by decide))
    simp only [cg_zero,cg_succ] at h0
    simp only [cg_zero,cg_succ,h0]
theorem canp4 (c:List C) (h:CanL jd [.int .u8] c):([.int (cg c 0).toInt]:List C)=c:=by
  obtain ⟨hl,hc⟩:=h
  match c,hl with
  | [x0],_ =>
    have h0:=can_int (hc 0 (by decide))
    simp only [cg_zero,cg_succ] at h0
    simp only [cg_zero,cg_succ,h0]
theorem canp5 (c:List C) (h:CanL jd [.int .u8] c):([.int (cg c 0).toInt]:List C)=c:=by
  obtain ⟨hl,hc⟩:=h
  match c,hl with
  | [x0],_ =>
    have h0:=can_int (hc 0 (by decide))
    simp only [cg_zero,cg_succ] at h0
    simp only [cg_zero,cg_succ,h0]
set_option maxRecDepth 100000 in
theorem lifted (os:Os) (started:os.Started) (H:Type) (enc:TypeId×Value→H) (F:Stop.Interp) :
    ReturnsInHanded {} Try.checked os 4 .any ((Rows.OpenSpec.upto Rows.spoolReadsSpec).pre6 enc jd Try.f4 Rows.spoolReadsUptoRow.domain false) (((Rows.OpenSpec.upto Rows.spoolReadsSpec).at F).post enc jd Try.f4 false true false false):=by
  refine returnsInHanded_of_cond (C:=Try.checked) (s:=Rows.OpenSpec.upto Rows.spoolReadsSpec) (k:=Rows.uptoSmall) rfl own started (by kernel_rfl) Try.func4
    (OpenSpec.witness (enc:=enc) (C:=Try.checked) (s:=Rows.OpenSpec.upto Rows.spoolReadsSpec) (k:=Rows.uptoSmall) rfl false ⟨#[],#[.slice none 0 0,.slice none 0 0,.int .i64 0,.int .u8 0,.int .u8 0,.int .u8 0],[]⟩ 12 (by kernel_rfl) (by kernel_rfl) (by kernel_rfl)
      (x:=([.nil,.nil,.lit (.int .i64 0),.lit (.int .u8 0),.lit (.int .u8 0),.lit (.int .u8 0)],[],[])) (by kernel_rfl) rfl (by kernel_rfl)) ?_
  intro W base args ds gs before hval hW _ hk _
  have hb:bulkAll ds≤1048576:=Nat.le_trans (bulkAll_app ds gs) (Nat.le_trans (bulkAll_le _) (of_decide_eq_true hk))
  refine law_mk (n:=8) (bt:=4) (f:=Try.f4) (s:=Rows.spoolReadsSpec) (claw39_SpoolReads' N0) (by kernel_rfl) (by kernel_rfl) (by kernel_rfl) (by kernel_rfl) rfl (by kernel_rfl) (by kernel_rfl) ?_ ?_ ?_ hval hW hb
  · intro ds hds
    match ds,hds with
    | [d0,d1,d2,d3,d4,d5],_=>rfl
  · intro cs h1 h2
    match cs,h1 with
    | [c0,c1,c2,c3,c4,c5],_ =>
      have q0:=h2 0 (by decide)
      have q1:=h2 1 (by decide)
      have q2:=h2 2 (by decide)
      have q3:=h2 3 (by decide)
      have q4:=h2 4 (by decide)
      have q5:=h2 5 (by decide)
      simp only [List.getD_cons_zero,List.getD_cons_succ] at q0 q1 q2 q3 q4 q5
      exact (by rw [canp0 c0 q0,canp1 c1 q1,canp2 c2 q2,canp3 c3 q3,canp4 c4 q4,canp5 c5 q5]:([[.slice (List.map e_TLine (List.map d_TLine (cg c0 0).toSl))],[.slice (List.map e_LTRec (List.map d_LTRec (cg c1 0).toSl))],[.int (cg c2 0).toInt],[.int (cg c3 0).toInt],[.int (cg c4 0).toInt],[.int (cg c5 0).toInt]]:List (List C))=[c0,c1,c2,c3,c4,c5]).symm
  · rintro ⟨x0,x1,x2,x3,x4,x5⟩ hc hb
    exact p_law39_SpoolReads x0 x1 x2 x3 x4 x5 (hc 1 (by decide)) (by simp) hb
theorem over:Rows.spoolReadsUptoRow.holds Try.pinned (Rows.OpenSpec.upto Rows.spoolReadsSpec) :=
  OpenClaim.holds_of_cond 4 Try.f4 rfl rfl rfl rfl rfl rfl rfl ⟨rfl,rfl,rfl,rfl,rfl⟩ rfl rfl rfl rfl rfl (by kernel_rfl) Try.func4 (by kernel_rfl)
    (of_decide_eq_true (by kernel_rfl)) (by unfold Func.isWrapper;first | (rw [if_pos (by decide +kernel)];kernel_rfl) | (rw [if_neg (by decide +kernel)];exact ⟨rfl,rfl⟩))
    (fun os started H enc _ F=>lifted os started H enc F)
end spoolReads
theorem SpoolReads_upto:Rows.SpoolReadsUptoSaid:=spoolReads.over
end Go.Proofs.Ytkebegfopnlkhaa
