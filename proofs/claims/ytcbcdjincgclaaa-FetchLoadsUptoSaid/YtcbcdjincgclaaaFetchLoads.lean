/- Text. -/
import Derived.Test.YtcbcdjincgclaaaZB
import Derived.JoinedCond
set_option maxHeartbeats 8000000
set_option linter.unusedVariables false
set_option linter.unusedSimpArgs false
set_option maxRecDepth 100000
namespace Go.Proofs.Ytcbcdjincgclaaa
open Go.AE
namespace fetchLoads
open Go.ChangeShapes Go.WideShapes Go.ChangeAt Go.RowKit
theorem own:ownKnob Try.prog.godebug=none:=by kernel_rfl
mutual
theorem bulk_le {H:Type}:∀ d:DataW H,bulk d≤Rows.uptoBulk d
  | .lit l=>by cases l <;> simp [bulk,Rows.uptoBulk]
  | .nil=>by simp [bulk,Rows.uptoBulk]
  | .ptr d=>by have:=bulk_le d;simp [bulk,Rows.uptoBulk];omega
  | .slice es sp=>by have:=bulkAll_le es;have:=bulkAll_le sp;simp [bulk,Rows.uptoBulk];omega
  | .agg ps=>by have:=bulkAll_le ps;simp [bulk,Rows.uptoBulk];omega
  | .iface n d=>by have:=bulk_le d;simp [bulk,Rows.uptoBulk];omega
  | .map es=>by simp [bulk,Rows.uptoBulk]
  | .held h=>by simp [bulk,Rows.uptoBulk]
theorem bulkAll_le {H:Type}:∀ ds:List (DataW H),bulkAll ds≤Rows.uptoBulkAll ds
  | []=>by simp [bulkAll,Rows.uptoBulkAll]
  | d :: ds=>by have:=bulk_le d;have:=bulkAll_le ds;simp [bulkAll,Rows.uptoBulkAll];omega
end
theorem bulkAll_app {H:Type} (ds gs:List (DataW H)):bulkAll ds≤bulkAll (ds ++ gs):=by
  induction ds with
  | nil=>simp [bulkAll]
  | cons d ds ih=>simp [bulkAll];omega
theorem can5 (c:List C) (h:CanL Try.prog [.int .u8] c):e_Int (d_Int c)=c:=by
  obtain ⟨hl,hc⟩:=h
  match c,hl with
  | [x0],_ =>
    have h0:=can_int (hc 0 (by decide))
    simp only [cg_zero,cg_succ] at h0
    simp only [e_Int,d_Int,cg_zero,cg_succ,h0]
theorem can58 (c:List C) (h:CanL Try.prog [.int .i64,.int .i64,.bool] c):e_TReloc (d_TReloc c)=c:=by
  obtain ⟨hl,hc⟩:=h
  match c,hl with
  | [x0,x1,x2],_ =>
    have h0:=can_int (hc 0 (by decide))
    have h1:=can_int (hc 1 (by decide))
    have h2:=can_bool (hc 2 (by decide))
    simp only [cg_zero,cg_succ] at h0 h1 h2
    simp only [e_TReloc,d_TReloc,cg_zero,cg_succ,h0,h1,h2]
theorem can52 (c:List C) (h:CanL Try.prog [.int .i64,.int .i64,.int .i64,.int .i64] c):e_TSegment (d_TSegment c)=c:=by
  obtain ⟨hl,hc⟩:=h
  match c,hl with
  | [x0,x1,x2,x3],_ =>
    have h0:=can_int (hc 0 (by decide))
    have h1:=can_int (hc 1 (by decide))
    have h2:=can_int (hc 2 (by decide))
    have h3:=can_int (hc 3 (by decide))
    simp only [cg_zero,cg_succ] at h0 h1 h2 h3
    simp only [e_TSegment,d_TSegment,cg_zero,cg_succ,h0,h1,h2,h3]
theorem can3 (c:List C) (h:CanL Try.prog [.int .i64] c):e_Int (d_Int c)=c:=by
  obtain ⟨hl,hc⟩:=h
  match c,hl with
  | [x0],_ =>
    have h0:=can_int (hc 0 (by decide))
    simp only [cg_zero,cg_succ] at h0
    simp only [e_Int,d_Int,cg_zero,cg_succ,h0]
theorem canp0 (c:List C) (h:CanL Try.prog [.slice 5,.slice 58,.slice 52,.int .i64,.int .i64,.int .i64,.int .i64,.int .i64,.slice 3,.slice 3] c):([.slice (List.map e_Int (List.map d_Int (cg c 0).toSl)),.slice (List.map e_TReloc (List.map d_TReloc (cg c 1).toSl)),.slice (List.map e_TSegment (List.map d_TSegment (cg c 2).toSl)),.int (cg c 3).toInt,.int (cg c 4).toInt,.int (cg c 5).toInt,.int (cg c 6).toInt,.int (cg c 7).toInt,.slice (List.map e_Int (List.map d_Int (cg c 8).toSl)),.slice (List.map e_Int (List.map d_Int (cg c 9).toSl))]:List C)=c:=by
  obtain ⟨hl,hc⟩:=h
  match c,hl with
  | [x0,x1,x2,x3,x4,x5,x6,x7,x8,x9],_ =>
    have h0:=can_slice ty5 e_Int d_Int can5 (hc 0 (by decide))
    have h1:=can_slice ty58 e_TReloc d_TReloc can58 (hc 1 (by decide))
    have h2:=can_slice ty52 e_TSegment d_TSegment can52 (hc 2 (by decide))
    have h3:=can_int (hc 3 (by decide))
    have h4:=can_int (hc 4 (by decide))
    have h5:=can_int (hc 5 (by decide))
    have h6:=can_int (hc 6 (by decide))
    have h7:=can_int (hc 7 (by decide))
    have h8:=can_slice ty3 e_Int d_Int can3 (hc 8 (by decide))
    have h9:=can_slice ty3 e_Int d_Int can3 (hc 9 (by decide))
    simp only [cg_zero,cg_succ] at h0 h1 h2 h3 h4 h5 h6 h7 h8 h9
    simp only [cg_zero,cg_succ,h0,h1,h2,h3,h4,h5,h6,h7,h8,h9]
set_option maxRecDepth 100000 in
theorem lifted (os:Os) (started:os.Started) (H:Type) (enc:TypeId×Value→H) (F:Stop.Interp) :
    ReturnsInHanded {} Try.checked os 4 .any ((Rows.OpenSpec.upto Rows.fetchLoadsSpec).pre6 enc Try.prog Try.f4 Rows.fetchLoadsUptoRow.domain false) (((Rows.OpenSpec.upto Rows.fetchLoadsSpec).at F).post enc Try.prog Try.f4 false true false false):=by
  refine returnsInHanded_of_cond (C:=Try.checked) (s:=Rows.OpenSpec.upto Rows.fetchLoadsSpec) (k:=Rows.uptoSmall) rfl own started (by kernel_rfl) Try.func4
    (OpenSpec.witness (enc:=enc) (C:=Try.checked) (s:=Rows.OpenSpec.upto Rows.fetchLoadsSpec) (k:=Rows.uptoSmall) rfl false ⟨#[],#[.agg #[.slice none 0 0,.slice none 0 0,.slice none 0 0,.int .i64 0,.int .i64 0,.int .i64 0,.int .i64 0,.int .i64 0,.slice none 0 0,.slice none 0 0]],[]⟩ 12 (by kernel_rfl) (by kernel_rfl) (by kernel_rfl)
      (x:=([.agg [.agg [.nil,.nil,.nil,.lit (.int .i64 0)],.lit (.int .i64 0),.lit (.int .i64 0),.lit (.int .i64 0),.lit (.int .i64 0),.nil,.nil]],[],[])) (by kernel_rfl) rfl (by kernel_rfl)) ?_
  intro W base args ds gs before hval hW _ hk _
  have hb:bulkAll ds≤1048576:=Nat.le_trans (bulkAll_app ds gs) (Nat.le_trans (bulkAll_le _) (of_decide_eq_true hk))
  refine law_mk (n:=8) (bt:=4) (f:=Try.f4) (s:=Rows.fetchLoadsSpec) (claw33_FetchLoads N0) (by kernel_rfl) (by kernel_rfl) (by kernel_rfl) (by kernel_rfl) rfl (by kernel_rfl) (by kernel_rfl) ?_ ?_ ?_ hval hW hb
  · intro ds hds
    match ds,hds with
    | [d0],_=>rfl
  · intro cs h1 h2
    match cs,h1 with
    | [c0],_ =>
      have q0:=h2 0 (by decide)
      simp only [List.getD_cons_zero,List.getD_cons_succ] at q0
      exact (by rw [canp0 c0 q0]:([[.slice (List.map e_Int (List.map d_Int (cg c0 0).toSl)),.slice (List.map e_TReloc (List.map d_TReloc (cg c0 1).toSl)),.slice (List.map e_TSegment (List.map d_TSegment (cg c0 2).toSl)),.int (cg c0 3).toInt,.int (cg c0 4).toInt,.int (cg c0 5).toInt,.int (cg c0 6).toInt,.int (cg c0 7).toInt,.slice (List.map e_Int (List.map d_Int (cg c0 8).toSl)),.slice (List.map e_Int (List.map d_Int (cg c0 9).toSl))]]:List (List C))=[c0]).symm
  · rintro x0 hc hb
    exact p_law33_FetchLoads N0 (Nat.le_refl _) x0 hc hb
theorem over:Rows.fetchLoadsUptoRow.holds Try.pinned (Rows.OpenSpec.upto Rows.fetchLoadsSpec) :=
  OpenClaim.holds_of_cond 4 Try.f4 rfl rfl rfl rfl rfl rfl rfl ⟨rfl,rfl,rfl,rfl,rfl⟩ rfl rfl rfl rfl rfl (by kernel_rfl) Try.func4 (by kernel_rfl)
    (of_decide_eq_true (by kernel_rfl)) (by unfold Func.isWrapper;first | (rw [if_pos (by decide +kernel)];kernel_rfl) | (rw [if_neg (by decide +kernel)];exact ⟨rfl,rfl⟩))
    (fun os started H enc _ F=>lifted os started H enc F)
end fetchLoads
theorem FetchLoads_upto:Rows.FetchLoadsUptoSaid:=fetchLoads.over
end Go.Proofs.Ytcbcdjincgclaaa
