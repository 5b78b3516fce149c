/- Text. -/
import Derived.Test.YtijnkhcfondehaaGreatDoorA1
import Derived.JoinedCond
import Derived.Test.YtijnkhcfondehaaGreatDoorCards
import Derived.Test.YtijnkhcfondehaaGreatDoorTie
import Derived.Deep.DeepHandedRow
import Derived.Lib.LaidTab
set_option maxHeartbeats 8000000
set_option linter.unusedVariables false
set_option linter.unusedSimpArgs false
set_option maxRecDepth 100000
open Go.Proofs.Tryz renaming prog→je
namespace Go.Proofs.YtijnkhcfondehaaGreatDoor
open Go.AE
namespace vtocActs
open Go.ChangeShapes Go.WideShapes Go.ChangeAt Go.RowKit
theorem own:ownKnob je.godebug=none:=by kernel_rfl
mutual
theorem fws {H:Type}:∀ d:DataW H,bulk d≤Rows.uptoBulk d
 | .lit l=>by cases l <;> simp [bulk,Rows.uptoBulk]
 | .nil=>by simp [bulk,Rows.uptoBulk]
 | .ptr d=>by have:=fws d;simp [bulk,Rows.uptoBulk];omega
 | .slice es sp=>by have:=bju es;have:=bju sp;simp [bulk,Rows.uptoBulk];omega
 | .agg ps=>by have:=bju ps;simp [bulk,Rows.uptoBulk];omega
 | .iface n d=>by have:=fws d;simp [bulk,Rows.uptoBulk];omega
 | .map es=>by simp [bulk,Rows.uptoBulk]
 | .held h=>by simp [bulk,Rows.uptoBulk]
theorem bju {H:Type}:∀ ds:List (DataW H),awd ds≤Rows.uptoBulkAll ds
 | []=>by simp [awd,Rows.uptoBulkAll]
 | d :: ds=>by have:=fws d;have:=bju ds;simp [awd,Rows.uptoBulkAll];omega
end
theorem fzx {H:Type} (ds gs:List (DataW H)):awd ds≤awd (ds ++ gs):=by
 induction ds with
 | nil=>simp [awd]
 | cons d ds ih=>simp [awd];omega
theorem ij6 (c:List C) (h:CanL je [.int .i64,.int .i64] c):aj1 (ajl c)=c:=by
 obtain ⟨hl,hc⟩:=h
 match c,hl with
 | [x0,x1],_ =>
  have h0:=azl (hc 0 (by decide))
  have h1:=azl (hc 1 (by decide))
  simp only [cg_zero,cg_succ] at h0 h1
  simp only [aj1,ajl,cg_zero,cg_succ,h0,h1]
theorem ij3 (c:List C) (h:CanL je [.str,.int .i64,.int .i64,.bool,.bool,.int .i64,.int .i64,.int .i64,.int .i64,.slice 80,.int .i64] c):aj3 (aq3 c)=c:=by
 obtain ⟨hl,hc⟩:=h
 match c,hl with
 | [x0,x1,x2,x3,x4,x5,x6,x7,x8,x9,x10],_ =>
  have h0:=ekb (hc 0 (by decide))
  have h1:=azl (hc 1 (by decide))
  have h2:=azl (hc 2 (by decide))
  have h3:=dyd (hc 3 (by decide))
  have h4:=dyd (hc 4 (by decide))
  have h5:=azl (hc 5 (by decide))
  have h6:=azl (hc 6 (by decide))
  have h7:=azl (hc 7 (by decide))
  have h8:=azl (hc 8 (by decide))
  have h9:=eyu ty80 aj1 ajl ij6 (hc 9 (by decide))
  have h10:=azl (hc 10 (by decide))
  simp only [cg_zero,cg_succ] at h0 h1 h2 h3 h4 h5 h6 h7 h8 h9 h10
  simp only [aj3,aq3,cg_zero,cg_succ,h0,h1,h2,h3,h4,h5,h6,h7,h8,h9,h10]
theorem ija (c:List C) (h:CanL je [.str,.int .i64,.int .i64,.int .i64,.slice 41] c):([.str (cg c 0).toStr,.int (cg c 1).toInt,.int (cg c 2).toInt,.int (cg c 3).toInt,.slice (List.map aj3 (List.map aq3 (cg c 4).toSl))]:List C)=c:=by
 obtain ⟨hl,hc⟩:=h
 match c,hl with
 | [x0,x1,x2,x3,x4],_ =>
  have h0:=ekb (hc 0 (by decide))
  have h1:=azl (hc 1 (by decide))
  have h2:=azl (hc 2 (by decide))
  have h3:=azl (hc 3 (by decide))
  have h4:=eyu ty41 aj3 aq3 ij3 (hc 4 (by decide))
  simp only [cg_zero,cg_succ] at h0 h1 h2 h3 h4
  simp only [cg_zero,cg_succ,h0,h1,h2,h3,h4]
theorem hyn (c:List C) (h:CanL je [.int .u8,.str,.str,.int .i64,.int .i64,.bool,.bool,.int .i64,.int .i64,.int .i64,.int .i64,.int .i64] c):([.int (cg c 0).toInt,.str (cg c 1).toStr,.str (cg c 2).toStr,.int (cg c 3).toInt,.int (cg c 4).toInt,.bool (cg c 5).toBool,.bool (cg c 6).toBool,.int (cg c 7).toInt,.int (cg c 8).toInt,.int (cg c 9).toInt,.int (cg c 10).toInt,.int (cg c 11).toInt]:List C)=c:=by
 obtain ⟨hl,hc⟩:=h
 match c,hl with
 | [x0,x1,x2,x3,x4,x5,x6,x7,x8,x9,x10,x11],_ =>
  have h0:=azl (hc 0 (by decide))
  have h1:=ekb (hc 1 (by decide))
  have h2:=ekb (hc 2 (by decide))
  have h3:=azl (hc 3 (by decide))
  have h4:=azl (hc 4 (by decide))
  have h5:=dyd (hc 5 (by decide))
  have h6:=dyd (hc 6 (by decide))
  have h7:=azl (hc 7 (by decide))
  have h8:=azl (hc 8 (by decide))
  have h9:=azl (hc 9 (by decide))
  have h10:=azl (hc 10 (by decide))
  have h11:=azl (hc 11 (by decide))
  simp only [cg_zero,cg_succ] at h0 h1 h2 h3 h4 h5 h6 h7 h8 h9 h10 h11
  simp only [cg_zero,cg_succ,h0,h1,h2,h3,h4,h5,h6,h7,h8,h9,h10,h11]
def layC (c:Array Value):Obj→Obj
 | .cells _ t frozen=>.cells c t frozen
 | o=>o
def layW (w:World) (c1 c2:Array Value):World:={ w with heap:=(w.heap.modify 1 (layC c1)).modify 2 (layC c2) }
def gw8:Array Value:=(Go.Pinned.utf8FirstZ.map fun (n:Nat)=>Value.int .u8 n).toArray
def gk6:Array Value:=#[.int .u8 128,.int .u8 191,.int .u8 160,.int .u8 191,.int .u8 128,.int .u8 159,.int .u8 144,.int .u8 191,.int .u8 128,.int .u8 143,.int .u8 0,.int .u8 0,.int .u8 0,.int .u8 0,.int .u8 0,.int .u8 0,.int .u8 0,.int .u8 0,.int .u8 0,.int .u8 0,.int .u8 0,.int .u8 0,.int .u8 0,.int .u8 0,.int .u8 0,.int .u8 0,.int .u8 0,.int .u8 0,.int .u8 0,.int .u8 0,.int .u8 0,.int .u8 0]
theorem hjf (os:Os):laidMet je Rows.vtocActsUptoRow.laid ((layW (World.holding je os ⟨#[],#[],[]⟩) gw8 gk6).forCall (fun _ _=>0) ⟨#[],#[.agg #[.string ⟨#[]⟩,.int .i64 0,.int .i64 0,.int .i64 0,.slice none 0 0],.agg #[.int .u8 0,.string ⟨#[]⟩,.string ⟨#[]⟩,.int .i64 0,.int .i64 0,.bool false,.bool false,.int .i64 0,.int .i64 0,.int .i64 0,.int .i64 0,.int .i64 0]],[]⟩).memory :=
 laidMet_of_run' 8 (by kernel_rfl) (by kernel_rfl)
theorem reads (os:Os) {H:Type} (enc:TypeId×Value→H):∃ places,DataW.whole enc je ((layW (World.holding je os ⟨#[],#[],[]⟩) gw8 gk6).forCall (fun _ _=>0) ⟨#[],#[.agg #[.string ⟨#[]⟩,.int .i64 0,.int .i64 0,.int .i64 0,.slice none 0 0],.agg #[.int .u8 0,.string ⟨#[]⟩,.string ⟨#[]⟩,.int .i64 0,.int .i64 0,.bool false,.bool false,.int .i64 0,.int .i64 0,.int .i64 0,.int .i64 0,.int .i64 0]],[]⟩).memory Tryz.f6.params.toList Rows.vtocActsSpec.vars false (#[.agg #[.string ⟨#[]⟩,.int .i64 0,.int .i64 0,.int .i64 0,.slice none 0 0],.agg #[.int .u8 0,.string ⟨#[]⟩,.string ⟨#[]⟩,.int .i64 0,.int .i64 0,.bool false,.bool false,.int .i64 0,.int .i64 0,.int .i64 0,.int .i64 0,.int .i64 0]]:Array Value).toList 12=some ([.agg [.lit (.string []),.lit (.int .i64 0),.lit (.int .i64 0),.lit (.int .i64 0),.nil],.agg [.lit (.int .u8 0),.lit (.string []),.lit (.string []),.agg [.lit (.int .i64 0),.lit (.int .i64 0),.lit (.bool false),.lit (.bool false),.lit (.int .i64 0),.lit (.int .i64 0),.lit (.int .i64 0),.lit (.int .i64 0)],.lit (.int .i64 0)]],[],places) :=
 ⟨[],by kernel_rfl⟩
set_option maxRecDepth 100000 in
theorem lifted (os:Os) (started:os.Started) (H:Type) (enc:TypeId×Value→H) (F:Stop.Interp) :
  ReturnsInHanded {} Tryz.checked os 6 .any ((Rows.OpenSpec.upto Rows.vtocActsSpec).preRow enc je Tryz.f6 Rows.vtocActsUptoRow.domain false Rows.vtocActsUptoRow.laid) (((Rows.OpenSpec.upto Rows.vtocActsSpec).at F).post enc je Tryz.f6 false true false false):=by
 obtain ⟨places,hx⟩:=reads os enc
 refine returnsInHanded_of_row (C:=Tryz.checked) (s:=Rows.OpenSpec.upto Rows.vtocActsSpec) own started (by kernel_rfl) Tryz.func6
  (witness_row_at (enc:=enc) (C:=Tryz.checked) false (layW (World.holding je os ⟨#[],#[],[]⟩) gw8 gk6) #[.agg #[.string ⟨#[]⟩,.int .i64 0,.int .i64 0,.int .i64 0,.slice none 0 0],.agg #[.int .u8 0,.string ⟨#[]⟩,.string ⟨#[]⟩,.int .i64 0,.int .i64 0,.bool false,.bool false,.int .i64 0,.int .i64 0,.int .i64 0,.int .i64 0,.int .i64 0]] rfl (by kernel_rfl) (by kernel_rfl) (by kernel_rfl)
   (OpenSpec.preRow_of_cond 12 hx (by kernel_rfl) (fun k hk=>by cases hk;kernel_rfl) (by kernel_rfl) (hjf os))) ?_
 intro W base args ds gs before hval hW _ hcond _ hL _ _
 have hk:=hcond _ rfl
 have hb:awd ds≤1048576:=Nat.le_trans (fzx ds gs) (Nat.le_trans (bju _) (of_decide_eq_true hk))
 refine hkt (n:=8) (bt:=4) (f:=Tryz.f6) (s:=Rows.vtocActsSpec) (dyv N0) (by kernel_rfl) (by kernel_rfl) (by kernel_rfl) (by kernel_rfl) rfl (by kernel_rfl) (by kernel_rfl) ?_ ?_ ?_ hval hW hb
 ·intro ds hds
  match ds,hds with
  | [d0,d1],_=>rfl
 ·intro cs h1 h2
  match cs,h1 with
  | [c0,c1],_ =>
   have q0:=h2 0 (by decide)
   have q1:=h2 1 (by decide)
   simp only [List.getD_cons_zero,List.getD_cons_succ] at q0 q1
   exact (by rw [ija c0 q0,hyn c1 q1]:([[.str (cg c0 0).toStr,.int (cg c0 1).toInt,.int (cg c0 2).toInt,.int (cg c0 3).toInt,.slice (List.map aj3 (List.map aq3 (cg c0 4).toSl))],[.int (cg c1 0).toInt,.str (cg c1 1).toStr,.str (cg c1 2).toStr,.int (cg c1 3).toInt,.int (cg c1 4).toInt,.bool (cg c1 5).toBool,.bool (cg c1 6).toBool,.int (cg c1 7).toInt,.int (cg c1 8).toInt,.int (cg c1 9).toInt,.int (cg c1 10).toInt,.int (cg c1 11).toInt]]:List (List C))=[c0,c1]).symm
 ·rintro ⟨x0,x1⟩ hc hb
  exact dy7 x0 x1 hc hb
theorem over:Rows.vtocActsUptoRow.holds Tryz.pinned (Rows.OpenSpec.upto Rows.vtocActsSpec) :=
 OpenClaim.holds_of_cond 6 Tryz.f6 rfl rfl rfl rfl rfl rfl rfl ⟨rfl,rfl,rfl,rfl,rfl⟩ rfl rfl rfl rfl rfl (by kernel_rfl) Tryz.func6 (by kernel_rfl)
  (of_decide_eq_true (by kernel_rfl)) (by unfold Func.isWrapper;first | (rw [if_pos (by decide +kernel)];kernel_rfl) | (rw [if_neg (by decide +kernel)];exact ⟨rfl,rfl⟩))
  (fun os started H enc _ F=>by rw [OpenClaim.pre_eq_preRow];exact lifted os started H enc F)
theorem plain (f:FuncId) (fn:Func) (hf:Tryz.pinned.checked.prog.funcNamed Rows.vtocActsUptoRow.func=some f) (hfn:Tryz.pinned.checked.prog.funcs[f]? = some fn) :
  false=Tryz.pinned.checked.prog.looks []∧∀ (j:Nat) t,fn.params[j]? = some t→Tryz.pinned.checked.prog.wantsStandIn t=false:=by
 obtain rfl:f=6:=Option.some.inj ((show je.funcNamed Rows.vtocActsUptoRow.func=some 6 by kernel_rfl).symm.trans hf) |>.symm
 obtain rfl:fn=Tryz.f6:=(Option.some.inj (Tryz.func6.symm.trans hfn)).symm
 refine ⟨by kernel_rfl,fun j t ht=>?_⟩
 have h:∀ t∈Tryz.f6.params.toList,Tryz.pinned.checked.prog.wantsStandIn t=false:=fun t h=>by
  have:=List.all_eq_true.1 (show (Tryz.f6.params.toList.all fun t=>!Tryz.pinned.checked.prog.wantsStandIn t)=true by kernel_rfl) t h
  simpa using this
 exact h t (Array.mem_toList_iff.2 (Array.mem_of_getElem? ht))
end vtocActs
theorem VtocActs_upto:Rows.VtocActsUptoCardSaid :=
 Claim7.holds_tied_plain_at .later [] _ _ _ _ vtocActs.over (fun _ h=>by cases h) (by kernel_rfl) (fun _ h=>by cases h) vtocActsUpto_row_tie rfl ⟨rfl,rfl⟩ (by kernel_rfl) rfl vtocActs.plain (by kernel_rfl)
end Go.Proofs.YtijnkhcfondehaaGreatDoor
