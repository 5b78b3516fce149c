/- Text. -/
import Derived.Test.YtijnkhcfondehaaGreatDoorC2
import Derived.JoinedCond
import Derived.Test.YtijnkhcfondehaaGreatDoorCards
import Derived.Test.YtijnkhcfondehaaGreatDoorTie
import Derived.Deep.DeepHandedRow
import Derived.Lib.LaidTab
set_option maxHeartbeats 8000000
set_option linter.unusedVariables false
set_option linter.unusedSimpArgs false
set_option maxRecDepth 100000
open Go.Proofs.Tryz renaming prog→jd
namespace Go.Proofs.YtijnkhcfondehaaGreatDoor
open Go.AE
namespace vtocApart
open Go.ChangeShapes Go.WideShapes Go.ChangeAt Go.RowKit
theorem own:ownKnob jd.godebug=none:=by kernel_rfl
mutual
theorem bulk_le {H:Type}:∀ d:DataW H,bulk d≤Rows.uptoBulk d
  | .lit l=>by cases l <;> simp [bulk,Rows.uptoBulk]
  | .nil=>by simp [bulk,Rows.uptoBulk]
  | .ptr d=>by have:=bulk_le d;simp [bulk,Rows.uptoBulk];omega
  | .slice es sp=>by have:=bulkAll_le es;have:=bulkAll_le sp;simp [bulk,Rows.uptoBulk];omega
  | .agg ps=>by have:=bulkAll_le ps;simp [bulk,Rows.uptoBulk];omega
  | .iface n d=>by have:=bulk_le d;simp [bulk,Rows.uptoBulk];omega
  | .map es=>by simp [bulk,Rows.uptoBulk]
  | .held h=>by simp [bulk,Rows.uptoBulk]
theorem bulkAll_le {H:Type}:∀ ds:List (DataW H),bulkAll ds≤Rows.uptoBulkAll ds
  | []=>by simp [bulkAll,Rows.uptoBulkAll]
  | d :: ds=>by have:=bulk_le d;have:=bulkAll_le ds;simp [bulkAll,Rows.uptoBulkAll];omega
end
theorem bulkAll_app {H:Type} (ds gs:List (DataW H)):bulkAll ds≤bulkAll (ds ++ gs):=by
  induction ds with
  | nil=>simp [bulkAll]
  | cons d ds ih=>simp [bulkAll];omega
theorem canp0 (c:List C) (h:CanL jd [.int .u8,.int .u8,.int .u8] c):([.int (cg c 0).toInt,.int (cg c 1).toInt,.int (cg c 2).toInt]:List C)=c:=by
  obtain ⟨hl,hc⟩:=h
  match c,hl with
  | [x0,x1,x2],_ =>
    have h0:=can_int (hc 0 (by decide))
    have h1:=can_int (hc 1 (by decide))
    have h2:=can_int (hc 2 (by decide))
    simp only [cg_zero,cg_succ] at h0 h1 h2
    simp only [cg_zero,cg_succ,h0,h1,h2]
theorem can62 (c:List C) (h:CanL jd [.int .u8,.str,.str,.int .i64,.int .i64,.bool,.bool,.int .i64,.int .i64,.int .i64,.int .i64,.int .i64] c):e_TAct (d_TAct c)=c:=by
  obtain ⟨hl,hc⟩:=h
  match c,hl with
  | [x0,x1,x2,x3,x4,x5,x6,x7,x8,x9,x10,x11],_ =>
    have h0:=can_int (hc 0 (by decide))
    have h1:=can_str (hc 1 (by decide))
    have h2:=can_str (hc 2 (by decide))
    have h3:=can_int (hc 3 (by decide))
    have h4:=can_int (hc 4 (by decide))
    have h5:=can_bool (hc 5 (by decide))
    have h6:=can_bool (hc 6 (by decide))
    have h7:=can_int (hc 7 (by decide))
    have h8:=can_int (hc 8 (by decide))
    have h9:=can_int (hc 9 (by decide))
    have h10:=can_int (hc 10 (by decide))
    have h11:=can_int (hc 11 (by decide))
    simp only [cg_zero,cg_succ] at h0 h1 h2 h3 h4 h5 h6 h7 h8 h9 h10 h11
    simp only [e_TAct,d_TAct,cg_zero,cg_succ,h0,h1,h2,h3,h4,h5,h6,h7,h8,h9,h10,h11]
theorem canp1 (c:List C) (h:CanL jd [.slice 62] c):([.slice (List.map e_TAct (List.map d_TAct (cg c 0).toSl))]:List C)=c:=by
  obtain ⟨hl,hc⟩:=h
  match c,hl with
  | [x0],_ =>
    have h0:=can_slice ty62 e_TAct d_TAct can62 (hc 0 (by decide))
    simp only [cg_zero,cg_succ] at h0
    simp only [cg_zero,cg_succ,h0]
def layC (c:Array Value):Obj→Obj
  | .cells _ t frozen=>.cells c t frozen
  | o=>o
def layW (w:World) (c1 c2:Array Value):World:={ w with heap:=(w.heap.modify 1 (layC c1)).modify 2 (layC c2) }
def cells1:Array Value:=(Go.Pinned.utf8FirstZ.map fun (n:Nat)=>Value.int .u8 n).toArray
def cells2:Array Value:=#[.int .u8 128,.int .u8 191,.int .u8 160,.int .u8 191,.int .u8 128,.int .u8 159,.int .u8 144,.int .u8 191,.int .u8 128,.int .u8 143,.int .u8 0,.int .u8 0,.int .u8 0,.int .u8 0,.int .u8 0,.int .u8 0,.int .u8 0,.int .u8 0,.int .u8 0,.int .u8 0,.int .u8 0,.int .u8 0,.int .u8 0,.int .u8 0,.int .u8 0,.int .u8 0,.int .u8 0,.int .u8 0,.int .u8 0,.int .u8 0,.int .u8 0,.int .u8 0]
theorem laid_met (os:Os):laidMet jd Rows.vtocApartUptoRow.laid ((layW (World.holding jd os ⟨#[],#[],[]⟩) cells1 cells2).forCall (fun _ _=>0) ⟨#[],#[.agg #[.int .u8 0,.int .u8 0,.int .u8 0],.slice none 0 0],[]⟩).memory :=
  laidMet_of_run' 8 (by kernel_rfl) (by kernel_rfl)
theorem reads (os:Os) {H:Type} (enc:TypeId×Value→H):∃ places,DataW.whole enc jd ((layW (World.holding jd os ⟨#[],#[],[]⟩) cells1 cells2).forCall (fun _ _=>0) ⟨#[],#[.agg #[.int .u8 0,.int .u8 0,.int .u8 0],.slice none 0 0],[]⟩).memory Tryz.f10.params.toList Rows.vtocApartSpec.vars false (#[.agg #[.int .u8 0,.int .u8 0,.int .u8 0],.slice none 0 0]:Array Value).toList 12=some ([.agg [.lit (.int .u8 0),.lit (.int .u8 0),.lit (.int .u8 0)],.nil],[],places) :=
  ⟨[],by kernel_rfl⟩
set_option maxRecDepth 100000 in
theorem lifted (os:Os) (started:os.Started) (H:Type) (enc:TypeId×Value→H) (F:Stop.Interp) :
    ReturnsInHanded {} Tryz.checked os 10 .any ((Rows.OpenSpec.upto Rows.vtocApartSpec).preRow enc jd Tryz.f10 Rows.vtocApartUptoRow.domain false Rows.vtocApartUptoRow.laid) (((Rows.OpenSpec.upto Rows.vtocApartSpec).at F).post enc jd Tryz.f10 false true false false):=by
  obtain ⟨places,hx⟩:=reads os enc
  refine returnsInHanded_of_row (C:=Tryz.checked) (s:=Rows.OpenSpec.upto Rows.vtocApartSpec) own started (by kernel_rfl) Tryz.func10
    (witness_row_at (enc:=enc) (C:=Tryz.checked) false (layW (World.holding jd os ⟨#[],#[],[]⟩) cells1 cells2) #[.agg #[.int .u8 0,.int .u8 0,.int .u8 0],.slice none 0 0] rfl (by kernel_rfl) (by kernel_rfl) (by kernel_rfl)
      (OpenSpec.preRow_of_cond 12 hx (by kernel_rfl) (fun k hk=>by cases hk;kernel_rfl) (by kernel_rfl) (laid_met os))) ?_
  intro W base args ds gs before hval hW _ hcond _ hL _ _
  have hk:=hcond _ rfl
  have hb:bulkAll ds≤1048576:=Nat.le_trans (bulkAll_app ds gs) (Nat.le_trans (bulkAll_le _) (of_decide_eq_true hk))
  refine law_mk (n:=8) (bt:=4) (f:=Tryz.f10) (s:=Rows.vtocApartSpec) (claw21_VtocApart N0) (by kernel_rfl) (by kernel_rfl) (by kernel_rfl) (by kernel_rfl) rfl (by kernel_rfl) (by kernel_rfl) ?_ ?_ ?_ hval hW hb
  · intro ds hds
    match ds,hds with
    | [d0,d1],_=>rfl
  · intro cs h1 h2
    match cs,h1 with
    | [c0,c1],_ =>
      have q0:=h2 0 (by decide)
      have q1:=h2 1 (by decide)
      simp only [List.getD_cons_zero,List.getD_cons_succ] at q0 q1
      exact (by rw [canp0 c0 q0,canp1 c1 q1]:([[.int (cg c0 0).toInt,.int (cg c0 1).toInt,.int (cg c0 2).toInt],[.slice (List.map e_TAct (List.map d_TAct (cg c1 0).toSl))]]:List (List C))=[c0,c1]).symm
  · rintro ⟨x0,x1⟩ hc hb
    exact p_law21_VtocApart x0 x1 hc hb
theorem over:Rows.vtocApartUptoRow.holds Tryz.pinned (Rows.OpenSpec.upto Rows.vtocApartSpec) :=
  OpenClaim.holds_of_cond 10 Tryz.f10 rfl rfl rfl rfl rfl rfl rfl ⟨rfl,rfl,rfl,rfl,rfl⟩ rfl rfl rfl rfl rfl (by kernel_rfl) Tryz.func10 (by kernel_rfl)
    (of_decide_eq_true (by kernel_rfl)) (by unfold Func.isWrapper;first | (rw [if_pos (by decide +kernel)];kernel_rfl) | (rw [if_neg (by decide +kernel)];exact ⟨rfl,rfl⟩))
    (fun os started H enc _ F=>by rw [OpenClaim.pre_eq_preRow];exact lifted os started H enc F)
theorem plain (f:FuncId) (fn:Func) (hf:Tryz.pinned.checked.prog.funcNamed Rows.vtocApartUptoRow.func=some f) (hfn:Tryz.pinned.checked.prog.funcs[f]? = some fn) :
    false=Tryz.pinned.checked.prog.looks []∧∀ (j:Nat) t,fn.params[j]? = some t→Tryz.pinned.checked.prog.wantsStandIn t=false:=by
  obtain rfl:f=10:=Option.some.inj ((show jd.funcNamed Rows.vtocApartUptoRow.func=some 10 by kernel_rfl).symm.trans hf) |>.symm
  obtain rfl:fn=Tryz.f10:=(Option.some.inj (Tryz.func10.symm.trans hfn)).symm
  refine ⟨by kernel_rfl,fun j t ht=>?_⟩
  have h:∀ t∈Tryz.f10.params.toList,Tryz.pinned.checked.prog.wantsStandIn t=false:=fun t h=>by
    have:=List.all_eq_true.1 (show (Tryz.f10.params.toList.all fun t=>!Tryz.pinned.checked.prog.wantsStandIn t)=true by kernel_rfl) t h
    simpa using this
  exact h t (Array.mem_toList_iff.2 (Array.mem_of_getElem? ht))
end vtocApart
theorem VtocApart_upto:Rows.VtocApartUptoCardSaid :=
  Claim7.holds_tied_plain_at .later [] _ _ _ _ vtocApart.over (fun _ h=>by cases h) (by kernel_rfl) (fun _ h=>by cases h) vtocApartUpto_row_tie rfl ⟨rfl,rfl⟩ (by kernel_rfl) rfl vtocApart.plain (by kernel_rfl)
end Go.Proofs.YtijnkhcfondehaaGreatDoor
