/- Text. -/
import Derived.Test.YtijnkhcfondehaaGreatDoorDF
import Derived.JoinedCond
import Derived.Test.YtijnkhcfondehaaGreatDoorCards
import Derived.Test.YtijnkhcfondehaaGreatDoorTie
import Derived.Deep.DeepHandedRow
import Derived.Lib.LaidTab
set_option maxHeartbeats 8000000
set_option linter.unusedVariables false
set_option linter.unusedSimpArgs false
set_option maxRecDepth 100000
open Go.Proofs.Tryz renaming prog→jd
namespace Go.Proofs.YtijnkhcfondehaaGreatDoor
open Go.AE
namespace vtocDecodes
open Go.ChangeShapes Go.WideShapes Go.ChangeAt Go.RowKit
theorem own:ownKnob jd.godebug=none:=by kernel_rfl
mutual
theorem fzw {H:Type}:∀ d:DataW H,bulk d≤Rows.uptoBulk d
 | .lit l=>by cases l <;> simp [bulk,Rows.uptoBulk]
 | .nil=>by simp [bulk,Rows.uptoBulk]
 | .ptr d=>by have:=fzw d;simp [bulk,Rows.uptoBulk];omega
 | .slice es sp=>by have:=bjh es;have:=bjh sp;simp [bulk,Rows.uptoBulk];omega
 | .agg ps=>by have:=bjh ps;simp [bulk,Rows.uptoBulk];omega
 | .iface n d=>by have:=fzw d;simp [bulk,Rows.uptoBulk];omega
 | .map es=>by simp [bulk,Rows.uptoBulk]
 | .held h=>by simp [bulk,Rows.uptoBulk]
theorem bjh {H:Type}:∀ ds:List (DataW H),aw2 ds≤Rows.uptoBulkAll ds
 | []=>by simp [aw2,Rows.uptoBulkAll]
 | d :: ds=>by have:=fzw d;have:=bjh ds;simp [aw2,Rows.uptoBulkAll];omega
end
theorem fy9 {H:Type} (ds gs:List (DataW H)):aw2 ds≤aw2 (ds ++ gs):=by
 induction ds with
 | nil=>simp [aw2]
 | cons d ds ih=>simp [aw2];omega
theorem can5 (c:List C) (h:CanL jd [.int .u8] c):ajj (akn c)=c:=by
 obtain ⟨hl,hc⟩:=h
 match c,hl with
 | [x0],_ =>
  have h0:=gzh (hc 0 (by decide));simp only [cg_zero,cg_succ] at h0;simp only [ajj,akn,cg_zero,cg_succ,h0]
theorem ike (c:List C) (h:CanL jd [.int .i64,.slice 5,.slice 5,.bool] c):ajr (bqx c)=c:=by
 obtain ⟨hl,hc⟩:=h
 match c,hl with
 | [x0,x1,x2,x3],_ =>
  have h0:=gzh (hc 0 (by decide));have h1:=dqf ty5 ajj akn can5 (hc 1 (by decide));have h2:=dqf ty5 ajj akn can5 (hc 2 (by decide));have h3:=hwt (hc 3 (by decide));simp only [cg_zero,cg_succ] at h0 h1 h2 h3;simp only [ajr,bqx,cg_zero,cg_succ,h0,h1,h2,h3]
theorem ik5 (c:List C) (h:CanL jd [.slice 87] c):ajh (bje c)=c:=by
 obtain ⟨hl,hc⟩:=h
 match c,hl with
 | [x0],_ =>
  have h0:=dqf ty87 ajr bqx ike (hc 0 (by decide));simp only [cg_zero,cg_succ] at h0;simp only [ajh,bje,cg_zero,cg_succ,h0]
theorem iky (c:List C) (h:CanL jd [.slice 84] c):([.slice (List.map ajh (List.map bje (cg c 0).toSl))]:List C)=c:=by
 obtain ⟨hl,hc⟩:=h
 match c,hl with
 | [x0],_ =>
  have h0:=dqf ty84 ajh bje ik5 (hc 0 (by decide));simp only [cg_zero,cg_succ] at h0;simp only [cg_zero,cg_succ,h0]
def layC (c:Array Value):Obj→Obj
 | .cells _ t frozen=>.cells c t frozen
 | o=>o
def layW (w:World) (c1 c2:Array Value):World:={ w with heap:=(w.heap.modify 1 (layC c1)).modify 2 (layC c2) }
def gzz:Array Value:=(Go.Pinned.utf8FirstZ.map fun (n:Nat)=>Value.int .u8 n).toArray
def hjj:Array Value:=#[.int .u8 128,.int .u8 191,.int .u8 160,.int .u8 191,.int .u8 128,.int .u8 159,.int .u8 144,.int .u8 191,.int .u8 128,.int .u8 143,.int .u8 0,.int .u8 0,.int .u8 0,.int .u8 0,.int .u8 0,.int .u8 0,.int .u8 0,.int .u8 0,.int .u8 0,.int .u8 0,.int .u8 0,.int .u8 0,.int .u8 0,.int .u8 0,.int .u8 0,.int .u8 0,.int .u8 0,.int .u8 0,.int .u8 0,.int .u8 0,.int .u8 0,.int .u8 0]
theorem hkw (os:Os):laidMet jd Rows.vtocDecodesUptoRow.laid ((layW (World.holding jd os ⟨#[],#[],[]⟩) gzz hjj).forCall (fun _ _=>0) ⟨#[],#[.slice none 0 0],[]⟩).memory :=
 laidMet_of_run' 8 (by kernel_rfl) (by kernel_rfl)
theorem reads (os:Os) {H:Type} (enc:TypeId×Value→H):∃ places,DataW.whole enc jd ((layW (World.holding jd os ⟨#[],#[],[]⟩) gzz hjj).forCall (fun _ _=>0) ⟨#[],#[.slice none 0 0],[]⟩).memory Tryz.f12.params.toList Rows.vtocDecodesSpec.vars false (#[.slice none 0 0]:Array Value).toList 12=some ([.nil],[],places) :=
 ⟨[],by kernel_rfl⟩
set_option maxRecDepth 100000 in
theorem lifted (os:Os) (started:os.Started) (H:Type) (enc:TypeId×Value→H) (F:Stop.Interp) :
  ReturnsInHanded {} Tryz.checked os 12 .any ((Rows.OpenSpec.upto Rows.vtocDecodesSpec).preRow enc jd Tryz.f12 Rows.vtocDecodesUptoRow.domain false Rows.vtocDecodesUptoRow.laid) (((Rows.OpenSpec.upto Rows.vtocDecodesSpec).at F).post enc jd Tryz.f12 false true false false):=by
 obtain ⟨places,hx⟩:=reads os enc
 refine returnsInHanded_of_row (C:=Tryz.checked) (s:=Rows.OpenSpec.upto Rows.vtocDecodesSpec) own started (by kernel_rfl) Tryz.func12
  (witness_row_at (enc:=enc) (C:=Tryz.checked) false (layW (World.holding jd os ⟨#[],#[],[]⟩) gzz hjj) #[.slice none 0 0] rfl (by kernel_rfl) (by kernel_rfl) (by kernel_rfl)
   (OpenSpec.preRow_of_cond 12 hx (by kernel_rfl) (fun k hk=>by cases hk;kernel_rfl) (by kernel_rfl) (hkw os))) ?_
 intro W base args ds gs before hval hW _ hcond _ hL _ _;have hk:=hcond _ rfl;have hb:aw2 ds≤1048576:=Nat.le_trans (fy9 ds gs) (Nat.le_trans (bjh _) (of_decide_eq_true hk));refine izl (n:=8) (bt:=4) (f:=Tryz.f12) (s:=Rows.vtocDecodesSpec) (dz7 N0) (by kernel_rfl) (by kernel_rfl) (by kernel_rfl) (by kernel_rfl) rfl (by kernel_rfl) (by kernel_rfl) ?_ ?_ ?_ hval hW hb
 ·intro ds hds
  match ds,hds with
  | [d0],_=>rfl
 ·intro cs h1 h2
  match cs,h1 with
  | [c0],_ =>
   have q0:=h2 0 (by decide);simp only [List.getD_cons_zero,List.getD_cons_succ] at q0;exact (by rw [iky c0 q0]:([[.slice (List.map ajh (List.map bje (cg c0 0).toSl))]]:List (List C))=[c0]).symm
 ·rintro x0 hc hb;exact dq3 x0 hc hb
theorem over:Rows.vtocDecodesUptoRow.holds Tryz.pinned (Rows.OpenSpec.upto Rows.vtocDecodesSpec) :=
 OpenClaim.holds_of_cond 12 Tryz.f12 rfl rfl rfl rfl rfl rfl rfl ⟨rfl,rfl,rfl,rfl,rfl⟩ rfl rfl rfl rfl rfl (by kernel_rfl) Tryz.func12 (by kernel_rfl)
  (of_decide_eq_true (by kernel_rfl)) (by unfold Func.isWrapper;first | (rw [if_pos (by decide +kernel)];kernel_rfl) | (rw [if_neg (by decide +kernel)];exact ⟨rfl,rfl⟩))
  (fun os started H enc _ F=>by rw [OpenClaim.pre_eq_preRow];exact lifted os started H enc F)
theorem plain (f:FuncId) (fn:Func) (hf:Tryz.pinned.checked.prog.funcNamed Rows.vtocDecodesUptoRow.func=some f) (hfn:Tryz.pinned.checked.prog.funcs[f]? = some fn) :
  false=Tryz.pinned.checked.prog.looks []∧∀ (j:Nat) t,fn.params[j]? = some t→Tryz.pinned.checked.prog.wantsStandIn t=false:=by
 obtain rfl:f=12:=Option.some.inj ((show jd.funcNamed Rows.vtocDecodesUptoRow.func=some 12 by kernel_rfl).symm.trans hf) |>.symm
 obtain rfl:fn=Tryz.f12:=(Option.some.inj (Tryz.func12.symm.trans hfn)).symm;refine ⟨by kernel_rfl,fun j t ht=>?_⟩
 have h:∀ t∈Tryz.f12.params.toList,Tryz.pinned.checked.prog.wantsStandIn t=false:=fun t h=>by
  have:=List.all_eq_true.1 (show (Tryz.f12.params.toList.all fun t=>!Tryz.pinned.checked.prog.wantsStandIn t)=true by kernel_rfl) t h
  simpa using this
 exact h t (Array.mem_toList_iff.2 (Array.mem_of_getElem? ht))
end vtocDecodes
theorem VtocDecodes_upto:Rows.VtocDecodesUptoCardSaid :=
 Claim7.holds_tied_plain_at .later [] _ _ _ _ vtocDecodes.over (fun _ h=>by cases h) (by kernel_rfl) (fun _ h=>by cases h) vtocDecodesUpto_row_tie rfl ⟨rfl,rfl⟩ (by kernel_rfl) rfl vtocDecodes.plain (by kernel_rfl)
end Go.Proofs.YtijnkhcfondehaaGreatDoor
