/- Text. -/
import Derived.Test.YtijnkhcfondehaaGreatDoorBH
import Derived.JoinedCond
import Derived.Test.YtijnkhcfondehaaGreatDoorCards
import Derived.Test.YtijnkhcfondehaaGreatDoorTie
import Derived.Deep.DeepHandedRow
import Derived.Lib.LaidTab
set_option maxHeartbeats 8000000
set_option linter.unusedVariables false
set_option linter.unusedSimpArgs false
set_option maxRecDepth 100000
open Go.Proofs.Tryz renaming prog→jd
namespace Go.Proofs.YtijnkhcfondehaaGreatDoor
open Go.AE
namespace vtocBack
open Go.ChangeShapes Go.WideShapes Go.ChangeAt Go.RowKit
theorem own:ownKnob jd.godebug=none:=by kernel_rfl
mutual
theorem fjd {H:Type}:∀ d:DataW H,bulk d≤Rows.uptoBulk d
 | .lit l=>by cases l <;> simp [bulk,Rows.uptoBulk]
 | .nil=>by simp [bulk,Rows.uptoBulk]
 | .ptr d=>by have:=fjd d;simp [bulk,Rows.uptoBulk];omega
 | .slice es sp=>by have:=bjm es;have:=bjm sp;simp [bulk,Rows.uptoBulk];omega
 | .agg ps=>by have:=bjm ps;simp [bulk,Rows.uptoBulk];omega
 | .iface n d=>by have:=fjd d;simp [bulk,Rows.uptoBulk];omega
 | .map es=>by simp [bulk,Rows.uptoBulk]
 | .held h=>by simp [bulk,Rows.uptoBulk]
theorem bjm {H:Type}:∀ ds:List (DataW H),awp ds≤Rows.uptoBulkAll ds
 | []=>by simp [awp,Rows.uptoBulkAll]
 | d :: ds=>by have:=fjd d;have:=bjm ds;simp [awp,Rows.uptoBulkAll];omega
end
theorem fqn {H:Type} (ds gs:List (DataW H)):awp ds≤awp (ds ++ gs):=by
 induction ds with
 | nil=>simp [awp]
 | cons d ds ih=>simp [awp];omega
theorem iqm (c:List C) (h:CanL jd [.int .u8,.int .u8,.int .u8] c):([.int (cg c 0).toInt,.int (cg c 1).toInt,.int (cg c 2).toInt]:List C)=c:=by
 obtain ⟨hl,hc⟩:=h
 match c,hl with
 | [x0,x1,x2],_ =>
  have h0:=bzf (hc 0 (by decide));have h1:=bzf (hc 1 (by decide));have h2:=bzf (hc 2 (by decide));simp only [cg_zero,cg_succ] at h0 h1 h2;simp only [cg_zero,cg_succ,h0,h1,h2]
theorem iq9 (c:List C) (h:CanL jd [.int .u8,.str,.str,.int .i64,.int .i64,.bool,.bool,.int .i64,.int .i64,.int .i64,.int .i64,.int .i64] c):aw4 (cqx c)=c:=by
 obtain ⟨hl,hc⟩:=h
 match c,hl with
 | [x0,x1,x2,x3,x4,x5,x6,x7,x8,x9,x10,x11],_ =>
  have h0:=bzf (hc 0 (by decide));have h1:=gj6 (hc 1 (by decide));have h2:=gj6 (hc 2 (by decide));have h3:=bzf (hc 3 (by decide));have h4:=bzf (hc 4 (by decide));have h5:=fw7 (hc 5 (by decide));have h6:=fw7 (hc 6 (by decide));have h7:=bzf (hc 7 (by decide));have h8:=bzf (hc 8 (by decide));have h9:=bzf (hc 9 (by decide));have h10:=bzf (hc 10 (by decide));have h11:=bzf (hc 11 (by decide));simp only [cg_zero,cg_succ] at h0 h1 h2 h3 h4 h5 h6 h7 h8 h9 h10 h11;simp only [aw4,cqx,cg_zero,cg_succ,h0,h1,h2,h3,h4,h5,h6,h7,h8,h9,h10,h11]
theorem iq2 (c:List C) (h:CanL jd [.slice 62] c):([.slice (List.map aw4 (List.map cqx (cg c 0).toSl))]:List C)=c:=by
 obtain ⟨hl,hc⟩:=h
 match c,hl with
 | [x0],_ =>
  have h0:=fyw ty62 aw4 cqx iq9 (hc 0 (by decide));simp only [cg_zero,cg_succ] at h0;simp only [cg_zero,cg_succ,h0]
def layC (c:Array Value):Obj→Obj
 | .cells _ t frozen=>.cells c t frozen
 | o=>o
def layW (w:World) (c1 c2:Array Value):World:={ w with heap:=(w.heap.modify 1 (layC c1)).modify 2 (layC c2) }
def gjf:Array Value:=(Go.Pinned.utf8FirstZ.map fun (n:Nat)=>Value.int .u8 n).toArray
def gws:Array Value:=#[.int .u8 128,.int .u8 191,.int .u8 160,.int .u8 191,.int .u8 128,.int .u8 159,.int .u8 144,.int .u8 191,.int .u8 128,.int .u8 143,.int .u8 0,.int .u8 0,.int .u8 0,.int .u8 0,.int .u8 0,.int .u8 0,.int .u8 0,.int .u8 0,.int .u8 0,.int .u8 0,.int .u8 0,.int .u8 0,.int .u8 0,.int .u8 0,.int .u8 0,.int .u8 0,.int .u8 0,.int .u8 0,.int .u8 0,.int .u8 0,.int .u8 0,.int .u8 0]
theorem hj2 (os:Os):laidMet jd Rows.vtocBackUptoRow.laid ((layW (World.holding jd os ⟨#[],#[],[]⟩) gjf gws).forCall (fun _ _=>0) ⟨#[],#[.agg #[.int .u8 0,.int .u8 0,.int .u8 0],.slice none 0 0],[]⟩).memory :=
 laidMet_of_run' 8 (by kernel_rfl) (by kernel_rfl)
theorem reads (os:Os) {H:Type} (enc:TypeId×Value→H):∃ places,DataW.whole enc jd ((layW (World.holding jd os ⟨#[],#[],[]⟩) gjf gws).forCall (fun _ _=>0) ⟨#[],#[.agg #[.int .u8 0,.int .u8 0,.int .u8 0],.slice none 0 0],[]⟩).memory Tryz.f13.params.toList Rows.vtocBackSpec.vars false (#[.agg #[.int .u8 0,.int .u8 0,.int .u8 0],.slice none 0 0]:Array Value).toList 12=some ([.agg [.lit (.int .u8 0),.lit (.int .u8 0),.lit (.int .u8 0)],.nil],[],places) :=
 ⟨[],by kernel_rfl⟩
set_option maxRecDepth 100000 in
theorem lifted (os:Os) (started:os.Started) (H:Type) (enc:TypeId×Value→H) (F:Stop.Interp) :
  ReturnsInHanded {} Tryz.checked os 13 .any ((Rows.OpenSpec.upto Rows.vtocBackSpec).preRow enc jd Tryz.f13 Rows.vtocBackUptoRow.domain false Rows.vtocBackUptoRow.laid) (((Rows.OpenSpec.upto Rows.vtocBackSpec).at F).post enc jd Tryz.f13 false true false false):=by
 obtain ⟨places,hx⟩:=reads os enc
 refine returnsInHanded_of_row (C:=Tryz.checked) (s:=Rows.OpenSpec.upto Rows.vtocBackSpec) own started (by kernel_rfl) Tryz.func13
  (witness_row_at (enc:=enc) (C:=Tryz.checked) false (layW (World.holding jd os ⟨#[],#[],[]⟩) gjf gws) #[.agg #[.int .u8 0,.int .u8 0,.int .u8 0],.slice none 0 0] rfl (by kernel_rfl) (by kernel_rfl) (by kernel_rfl)
   (OpenSpec.preRow_of_cond 12 hx (by kernel_rfl) (fun k hk=>by cases hk;kernel_rfl) (by kernel_rfl) (hj2 os))) ?_
 intro W base args ds gs before hval hW _ hcond _ hL _ _;have hk:=hcond _ rfl;have hb:awp ds≤1048576:=Nat.le_trans (fqn ds gs) (Nat.le_trans (bjm _) (of_decide_eq_true hk));refine ijd (n:=8) (bt:=4) (f:=Tryz.f13) (s:=Rows.vtocBackSpec) (dko N0) (by kernel_rfl) (by kernel_rfl) (by kernel_rfl) (by kernel_rfl) rfl (by kernel_rfl) (by kernel_rfl) ?_ ?_ ?_ hval hW hb
 ·intro ds hds
  match ds,hds with
  | [d0,d1],_=>rfl
 ·intro cs h1 h2
  match cs,h1 with
  | [c0,c1],_ =>
   have q0:=h2 0 (by decide);have q1:=h2 1 (by decide);simp only [List.getD_cons_zero,List.getD_cons_succ] at q0 q1;exact (by rw [iqm c0 q0,iq2 c1 q1]:([[.int (cg c0 0).toInt,.int (cg c0 1).toInt,.int (cg c0 2).toInt],[.slice (List.map aw4 (List.map cqx (cg c1 0).toSl))]]:List (List C))=[c0,c1]).symm
 ·rintro ⟨x0,x1⟩ hc hb;exact dwm x0 x1 hc hb
theorem over:Rows.vtocBackUptoRow.holds Tryz.pinned (Rows.OpenSpec.upto Rows.vtocBackSpec) :=
 OpenClaim.holds_of_cond 13 Tryz.f13 rfl rfl rfl rfl rfl rfl rfl ⟨rfl,rfl,rfl,rfl,rfl⟩ rfl rfl rfl rfl rfl (by kernel_rfl) Tryz.func13 (by kernel_rfl)
  (of_decide_eq_true (by kernel_rfl)) (by unfold Func.isWrapper;first | (rw [if_pos (by decide +kernel)];kernel_rfl) | (rw [if_neg (by decide +kernel)];exact ⟨rfl,rfl⟩))
  (fun os started H enc _ F=>by rw [OpenClaim.pre_eq_preRow];exact lifted os started H enc F)
theorem plain (f:FuncId) (fn:Func) (hf:Tryz.pinned.checked.prog.funcNamed Rows.vtocBackUptoRow.func=some f) (hfn:Tryz.pinned.checked.prog.funcs[f]? = some fn) :
  false=Tryz.pinned.checked.prog.looks []∧∀ (j:Nat) t,fn.params[j]? = some t→Tryz.pinned.checked.prog.wantsStandIn t=false:=by
 obtain rfl:f=13:=Option.some.inj ((show jd.funcNamed Rows.vtocBackUptoRow.func=some 13 by kernel_rfl).symm.trans hf) |>.symm
 obtain rfl:fn=Tryz.f13:=(Option.some.inj (Tryz.func13.symm.trans hfn)).symm;refine ⟨by kernel_rfl,fun j t ht=>?_⟩
 have h:∀ t∈Tryz.f13.params.toList,Tryz.pinned.checked.prog.wantsStandIn t=false:=fun t h=>by
  have:=List.all_eq_true.1 (show (Tryz.f13.params.toList.all fun t=>!Tryz.pinned.checked.prog.wantsStandIn t)=true by kernel_rfl) t h
  simpa using this
 exact h t (Array.mem_toList_iff.2 (Array.mem_of_getElem? ht))
end vtocBack
theorem VtocBack_upto:Rows.VtocBackUptoCardSaid :=
 Claim7.holds_tied_plain_at .later [] _ _ _ _ vtocBack.over (fun _ h=>by cases h) (by kernel_rfl) (fun _ h=>by cases h) vtocBackUpto_row_tie rfl ⟨rfl,rfl⟩ (by kernel_rfl) rfl vtocBack.plain (by kernel_rfl)
end Go.Proofs.YtijnkhcfondehaaGreatDoor
