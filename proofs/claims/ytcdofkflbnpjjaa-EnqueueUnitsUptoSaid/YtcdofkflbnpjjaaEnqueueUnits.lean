/- Text. -/
import Derived.Test.YtcdofkflbnpjjaaSZU
import Derived.JoinedCond
set_option maxHeartbeats 8000000
set_option linter.unusedVariables false
set_option linter.unusedSimpArgs false
set_option maxRecDepth 100000
namespace Go.Proofs.Ytcdofkflbnpjjaa
open Go.AE
namespace enqueueUnits
open Go.ChangeShapes Go.WideShapes Go.ChangeAt Go.RowKit
theorem own:ownKnob Try.prog.godebug=none:=by kernel_rfl
mutual
theorem bulk_le {H:Type}:∀ d:DataW H,bulk d≤Rows.uptoBulk d
  | .lit l=>by cases l <;> simp [bulk,Rows.uptoBulk]
  | .nil=>by simp [bulk,Rows.uptoBulk]
  | .ptr d=>by have:=bulk_le d;simp [bulk,Rows.uptoBulk];omega
  | .slice es sp=>by have:=bulkAll_le es;have:=bulkAll_le sp;simp [bulk,Rows.uptoBulk];omega
  | .agg ps=>by have:=bulkAll_le ps;simp [bulk,Rows.uptoBulk];omega
  | .iface n d=>by have:=bulk_le d;simp [bulk,Rows.uptoBulk];omega
  | .map es=>by simp [bulk,Rows.uptoBulk]
  | .held h=>by simp [bulk,Rows.uptoBulk]
theorem bulkAll_le {H:Type}:∀ ds:List (DataW H),bulkAll ds≤Rows.uptoBulkAll ds
  | []=>by simp [bulkAll,Rows.uptoBulkAll]
  | d :: ds=>by have:=bulk_le d;have:=bulkAll_le ds;simp [bulkAll,Rows.uptoBulkAll];omega
end
theorem bulkAll_app {H:Type} (ds gs:List (DataW H)):bulkAll ds≤bulkAll (ds ++ gs):=by
  induction ds with
  | nil=>simp [bulkAll]
  | cons d ds ih=>simp [bulkAll];omega
theorem can77 (c:List C) (h:CanL Try.prog [.int .i64,.int .i64,.str,.int .i64,.int .i64] c):e_TUnitConf (d_TUnitConf c)=c:=by
  obtain ⟨hl,hc⟩:=h
  match c,hl with
  | [x0,x1,x2,x3,x4],_ =>
    have h0:=can_int (hc 0 (by decide))
    have h1:=can_int (hc 1 (by decide))
    have h2:=can_str (hc 2 (by decide))
    have h3:=can_int (hc 3 (by decide))
    have h4:=can_int (hc 4 (by decide))
    simp only [cg_zero,cg_succ] at h0 h1 h2 h3 h4
    simp only [e_TUnitConf,d_TUnitConf,cg_zero,cg_succ,h0,h1,h2,h3,h4]
theorem canp0 (c:List C) (h:CanL Try.prog [.slice 77] c):([.slice (List.map e_TUnitConf (List.map d_TUnitConf (cg c 0).toSl))]:List C)=c:=by
  obtain ⟨hl,hc⟩:=h
  match c,hl with
  | [x0],_ =>
    have h0:=can_slice ty77 e_TUnitConf d_TUnitConf can77 (hc 0 (by decide))
    simp only [cg_zero,cg_succ] at h0
    simp only [cg_zero,cg_succ,h0]
theorem can3 (c:List C) (h:CanL Try.prog [.int .i64] c):e_Int (d_Int c)=c:=by
  obtain ⟨hl,hc⟩:=h
  match c,hl with
  | [x0],_ =>
    have h0:=can_int (hc 0 (by decide))
    simp only [cg_zero,cg_succ] at h0
    simp only [e_Int,d_Int,cg_zero,cg_succ,h0]
theorem canp1 (c:List C) (h:CanL Try.prog [.slice 3] c):([.slice (List.map e_Int (List.map d_Int (cg c 0).toSl))]:List C)=c:=by
  obtain ⟨hl,hc⟩:=h
  match c,hl with
  | [x0],_ =>
    have h0:=can_slice ty3 e_Int d_Int can3 (hc 0 (by decide))
    simp only [cg_zero,cg_succ] at h0
    simp only [cg_zero,cg_succ,h0]
theorem can69 (c:List C) (h:CanL Try.prog [.int .i64,.str] c):e_TNeed (d_TNeed c)=c:=by
  obtain ⟨hl,hc⟩:=h
  match c,hl with
  | [x0,x1],_ =>
    have h0:=can_int (hc 0 (by decide))
    have h1:=can_str (hc 1 (by decide))
    simp only [cg_zero,cg_succ] at h0 h1
    simp only [e_TNeed,d_TNeed,cg_zero,cg_succ,h0,h1]
theorem canp2 (c:List C) (h:CanL Try.prog [.slice 69] c):([.slice (List.map e_TNeed (List.map d_TNeed (cg c 0).toSl))]:List C)=c:=by
  obtain ⟨hl,hc⟩:=h
  match c,hl with
  | [x0],_ =>
    have h0:=can_slice ty69 e_TNeed d_TNeed can69 (hc 0 (by decide))
    simp only [cg_zero,cg_succ] at h0
    simp only [cg_zero,cg_succ,h0]
set_option maxRecDepth 100000 in
theorem lifted (os:Os) (started:os.Started) (H:Type) (enc:TypeId×Value→H) (F:Stop.Interp) :
    ReturnsInHanded {} Try.checked os 10 .any ((Rows.OpenSpec.upto Rows.enqueueUnitsSpec).pre6 enc Try.prog Try.f10 Rows.enqueueUnitsUptoRow.domain false) (((Rows.OpenSpec.upto Rows.enqueueUnitsSpec).at F).post enc Try.prog Try.f10 false true false false):=by
  refine returnsInHanded_of_cond (C:=Try.checked) (s:=Rows.OpenSpec.upto Rows.enqueueUnitsSpec) (k:=Rows.uptoSmall) rfl own started (by kernel_rfl) Try.func10
    (OpenSpec.witness (enc:=enc) (C:=Try.checked) (s:=Rows.OpenSpec.upto Rows.enqueueUnitsSpec) (k:=Rows.uptoSmall) rfl false ⟨#[],#[.slice none 0 0,.slice none 0 0,.slice none 0 0],[]⟩ 12 (by kernel_rfl) (by kernel_rfl) (by kernel_rfl)
      (x:=([.nil,.nil,.nil],[],[])) (by kernel_rfl) rfl (by kernel_rfl)) ?_
  intro W base args ds gs before hval hW _ hk _
  have hb:bulkAll ds≤1048576:=Nat.le_trans (bulkAll_app ds gs) (Nat.le_trans (bulkAll_le _) (of_decide_eq_true hk))
  refine law_mk (n:=8) (bt:=4) (f:=Try.f10) (s:=Rows.enqueueUnitsSpec) (claw37_EnqueueUnits N0) (by kernel_rfl) (by kernel_rfl) (by kernel_rfl) (by kernel_rfl) rfl (by kernel_rfl) (by kernel_rfl) ?_ ?_ ?_ hval hW hb
  · intro ds hds
    match ds,hds with
    | [d0,d1,d2],_=>rfl
  · intro cs h1 h2
    match cs,h1 with
    | [c0,c1,c2],_ =>
      have q0:=h2 0 (by decide)
      have q1:=h2 1 (by decide)
      have q2:=h2 2 (by decide)
      simp only [List.getD_cons_zero,List.getD_cons_succ] at q0 q1 q2
      exact (by rw [canp0 c0 q0,canp1 c1 q1,canp2 c2 q2]:([[.slice (List.map e_TUnitConf (List.map d_TUnitConf (cg c0 0).toSl))],[.slice (List.map e_Int (List.map d_Int (cg c1 0).toSl))],[.slice (List.map e_TNeed (List.map d_TNeed (cg c2 0).toSl))]]:List (List C))=[c0,c1,c2]).symm
  · rintro ⟨x0,x1,x2⟩ hc hb
    exact p_units x0 x1 x2
theorem over:Rows.enqueueUnitsUptoRow.holds Try.pinned (Rows.OpenSpec.upto Rows.enqueueUnitsSpec) :=
  OpenClaim.holds_of_cond 10 Try.f10 rfl rfl rfl rfl rfl rfl rfl ⟨rfl,rfl,rfl,rfl,rfl⟩ rfl rfl rfl rfl rfl (by kernel_rfl) Try.func10 (by kernel_rfl)
    (of_decide_eq_true (by kernel_rfl)) (by unfold Func.isWrapper;first | (rw [if_pos (by decide +kernel)];kernel_rfl) | (rw [if_neg (by decide +kernel)];exact ⟨rfl,rfl⟩))
    (fun os started H enc _ F=>lifted os started H enc F)
end enqueueUnits
theorem EnqueueUnits_upto:Rows.EnqueueUnitsUptoSaid:=enqueueUnits.over
end Go.Proofs.Ytcdofkflbnpjjaa
