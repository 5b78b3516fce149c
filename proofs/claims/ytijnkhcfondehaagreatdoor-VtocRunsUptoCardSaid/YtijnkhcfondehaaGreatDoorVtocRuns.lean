/- Text. -/
import Derived.Test.YtijnkhcfondehaaGreatDoorR8
import Derived.JoinedCond
import Derived.Test.YtijnkhcfondehaaGreatDoorCards
import Derived.Test.YtijnkhcfondehaaGreatDoorTie
import Derived.Deep.DeepHandedRow
import Derived.Lib.LaidTab
set_option maxHeartbeats 8000000
set_option linter.unusedVariables false
set_option linter.unusedSimpArgs false
set_option maxRecDepth 100000
namespace Go.Proofs.YtijnkhcfondehaaGreatDoor
open Go.AE
namespace vtocRuns
open Go.ChangeShapes Go.WideShapes Go.ChangeAt Go.RowKit
theorem own:ownKnob Tryz.prog.godebug=none:=by kernel_rfl
mutual
theorem fw5 {H:Type}:∀ d:DataW H,bulk d≤Rows.uptoBulk d
 | .lit l=>by cases l <;> simp [bulk,Rows.uptoBulk]
 | .nil=>by simp [bulk,Rows.uptoBulk]
 | .ptr d=>by have:=fw5 d;simp [bulk,Rows.uptoBulk];omega
 | .slice es sp=>by have:=bql es;have:=bql sp;simp [bulk,Rows.uptoBulk];omega
 | .agg ps=>by have:=bql ps;simp [bulk,Rows.uptoBulk];omega
 | .iface n d=>by have:=fw5 d;simp [bulk,Rows.uptoBulk];omega
 | .map es=>by simp [bulk,Rows.uptoBulk]
 | .held h=>by simp [bulk,Rows.uptoBulk]
theorem bql {H:Type}:∀ ds:List (DataW H),awt ds≤Rows.uptoBulkAll ds
 | []=>by simp [awt,Rows.uptoBulkAll]
 | d :: ds=>by have:=fw5 d;have:=bql ds;simp [awt,Rows.uptoBulkAll];omega
end
theorem fz4 {H:Type} (ds gs:List (DataW H)):awt ds≤awt (ds ++ gs):=by
 induction ds with
 | nil=>simp [awt]
 | cons d ds ih=>simp [awt];omega
theorem hws (c:List C) (h:CanL Tryz.prog [.int .u8,.int .u8,.int .u8] c):([.int (cg c 0).toInt,.int (cg c 1).toInt,.int (cg c 2).toInt]:List C)=c:=by
 obtain ⟨hl,hc⟩:=h
 match c,hl with
 | [x0,x1,x2],_ =>
  have h0:=by7 (hc 0 (by decide))
  have h1:=by7 (hc 1 (by decide))
  have h2:=by7 (hc 2 (by decide))
  simp only [cg_zero,cg_succ] at h0 h1 h2
  simp only [cg_zero,cg_succ,h0,h1,h2]
theorem hwy (c:List C) (h:CanL Tryz.prog [.int .u8,.str,.str,.int .i64,.int .i64,.bool,.bool,.int .i64,.int .i64,.int .i64,.int .i64,.int .i64] c):awh (czu c)=c:=by
 obtain ⟨hl,hc⟩:=h
 match c,hl with
 | [x0,x1,x2,x3,x4,x5,x6,x7,x8,x9,x10,x11],_ =>
  have h0:=by7 (hc 0 (by decide))
  have h1:=gqg (hc 1 (by decide))
  have h2:=gqg (hc 2 (by decide))
  have h3:=by7 (hc 3 (by decide))
  have h4:=by7 (hc 4 (by decide))
  have h5:=fkp (hc 5 (by decide))
  have h6:=fkp (hc 6 (by decide))
  have h7:=by7 (hc 7 (by decide))
  have h8:=by7 (hc 8 (by decide))
  have h9:=by7 (hc 9 (by decide))
  have h10:=by7 (hc 10 (by decide))
  have h11:=by7 (hc 11 (by decide))
  simp only [cg_zero,cg_succ] at h0 h1 h2 h3 h4 h5 h6 h7 h8 h9 h10 h11
  simp only [awh,czu,cg_zero,cg_succ,h0,h1,h2,h3,h4,h5,h6,h7,h8,h9,h10,h11]
theorem hwz (c:List C) (h:CanL Tryz.prog [.slice 62] c):([.slice (List.map awh (List.map czu (cg c 0).toSl))]:List C)=c:=by
 obtain ⟨hl,hc⟩:=h
 match c,hl with
 | [x0],_ =>
  have h0:=gw0 ty62 awh czu hwy (hc 0 (by decide))
  simp only [cg_zero,cg_succ] at h0
  simp only [cg_zero,cg_succ,h0]
def layC (c:Array Value):Obj→Obj
 | .cells _ t frozen=>.cells c t frozen
 | o=>o
def layW (w:World) (c1 c2:Array Value):World:={ w with heap:=(w.heap.modify 1 (layC c1)).modify 2 (layC c2) }
def gqy:Array Value:=(Go.Pinned.utf8FirstZ.map fun (n:Nat)=>Value.int .u8 n).toArray
def gqq:Array Value:=#[.int .u8 128,.int .u8 191,.int .u8 160,.int .u8 191,.int .u8 128,.int .u8 159,.int .u8 144,.int .u8 191,.int .u8 128,.int .u8 143,.int .u8 0,.int .u8 0,.int .u8 0,.int .u8 0,.int .u8 0,.int .u8 0,.int .u8 0,.int .u8 0,.int .u8 0,.int .u8 0,.int .u8 0,.int .u8 0,.int .u8 0,.int .u8 0,.int .u8 0,.int .u8 0,.int .u8 0,.int .u8 0,.int .u8 0,.int .u8 0,.int .u8 0,.int .u8 0]
theorem gzx (os:Os):laidMet Tryz.prog Rows.vtocRunsUptoRow.laid ((layW (World.holding Tryz.prog os ⟨#[],#[],[]⟩) gqy gqq).forCall (fun _ _=>0) ⟨#[],#[.agg #[.int .u8 0,.int .u8 0,.int .u8 0],.slice none 0 0],[]⟩).memory :=
 laidMet_of_run' 8 (by kernel_rfl) (by kernel_rfl)
theorem reads (os:Os) {H:Type} (enc:TypeId×Value→H):∃ places,DataW.whole enc Tryz.prog ((layW (World.holding Tryz.prog os ⟨#[],#[],[]⟩) gqy gqq).forCall (fun _ _=>0) ⟨#[],#[.agg #[.int .u8 0,.int .u8 0,.int .u8 0],.slice none 0 0],[]⟩).memory Tryz.f7.params.toList Rows.vtocRunsSpec.vars false (#[.agg #[.int .u8 0,.int .u8 0,.int .u8 0],.slice none 0 0]:Array Value).toList 12=some ([.agg [.lit (.int .u8 0),.lit (.int .u8 0),.lit (.int .u8 0)],.nil],[],places) :=
 ⟨[],by kernel_rfl⟩
set_option maxRecDepth 100000 in
theorem lifted (os:Os) (started:os.Started) (H:Type) (enc:TypeId×Value→H) (F:Stop.Interp) :
  ReturnsInHanded {} Tryz.checked os 7 .any ((Rows.OpenSpec.upto Rows.vtocRunsSpec).preRow enc Tryz.prog Tryz.f7 Rows.vtocRunsUptoRow.domain false Rows.vtocRunsUptoRow.laid) (((Rows.OpenSpec.upto Rows.vtocRunsSpec).at F).post enc Tryz.prog Tryz.f7 false true false false):=by
 obtain ⟨places,hx⟩:=reads os enc
 refine returnsInHanded_of_row (C:=Tryz.checked) (s:=Rows.OpenSpec.upto Rows.vtocRunsSpec) own started (by kernel_rfl) Tryz.func7
  (witness_row_at (enc:=enc) (C:=Tryz.checked) false (layW (World.holding Tryz.prog os ⟨#[],#[],[]⟩) gqy gqq) #[.agg #[.int .u8 0,.int .u8 0,.int .u8 0],.slice none 0 0] rfl (by kernel_rfl) (by kernel_rfl) (by kernel_rfl)
   (OpenSpec.preRow_of_cond 12 hx (by kernel_rfl) (fun k hk=>by cases hk;kernel_rfl) (by kernel_rfl) (gzx os))) ?_
 intro W base args ds gs before hval hW _ hcond _ hL _ _
 have hk:=hcond _ rfl
 have hb:awt ds≤1048576:=Nat.le_trans (fz4 ds gs) (Nat.le_trans (bql _) (of_decide_eq_true hk))
 refine hqy (n:=8) (bt:=4) (f:=Tryz.f7) (s:=Rows.vtocRunsSpec) (ejg N0) (by kernel_rfl) (by kernel_rfl) (by kernel_rfl) (by kernel_rfl) rfl (by kernel_rfl) (by kernel_rfl) ?_ ?_ ?_ hval hW hb
 ·intro ds hds
  match ds,hds with
  | [d0,d1],_=>rfl
 ·intro cs h1 h2
  match cs,h1 with
  | [c0,c1],_ =>
   have q0:=h2 0 (by decide)
   have q1:=h2 1 (by decide)
   simp only [List.getD_cons_zero,List.getD_cons_succ] at q0 q1
   exact (by rw [hws c0 q0,hwz c1 q1]:([[.int (cg c0 0).toInt,.int (cg c0 1).toInt,.int (cg c0 2).toInt],[.slice (List.map awh (List.map czu (cg c1 0).toSl))]]:List (List C))=[c0,c1]).symm
 ·rintro ⟨x0,x1⟩ hc hb
  exact dkn x0 x1 hc hb
theorem over:Rows.vtocRunsUptoRow.holds Tryz.pinned (Rows.OpenSpec.upto Rows.vtocRunsSpec) :=
 OpenClaim.holds_of_cond 7 Tryz.f7 rfl rfl rfl rfl rfl rfl rfl ⟨rfl,rfl,rfl,rfl,rfl⟩ rfl rfl rfl rfl rfl (by kernel_rfl) Tryz.func7 (by kernel_rfl)
  (of_decide_eq_true (by kernel_rfl)) (by unfold Func.isWrapper;first | (rw [if_pos (by decide +kernel)];kernel_rfl) | (rw [if_neg (by decide +kernel)];exact ⟨rfl,rfl⟩))
  (fun os started H enc _ F=>by rw [OpenClaim.pre_eq_preRow];exact lifted os started H enc F)
theorem plain (f:FuncId) (fn:Func) (hf:Tryz.pinned.checked.prog.funcNamed Rows.vtocRunsUptoRow.func=some f) (hfn:Tryz.pinned.checked.prog.funcs[f]? = some fn) :
  false=Tryz.pinned.checked.prog.looks []∧∀ (j:Nat) t,fn.params[j]? = some t→Tryz.pinned.checked.prog.wantsStandIn t=false:=by
 obtain rfl:f=7:=Option.some.inj ((show Tryz.prog.funcNamed Rows.vtocRunsUptoRow.func=some 7 by kernel_rfl).symm.trans hf) |>.symm
 obtain rfl:fn=Tryz.f7:=(Option.some.inj (Tryz.func7.symm.trans hfn)).symm
 refine ⟨by kernel_rfl,fun j t ht=>?_⟩
 have h:∀ t∈Tryz.f7.params.toList,Tryz.pinned.checked.prog.wantsStandIn t=false:=fun t h=>by
  have:=List.all_eq_true.1 (show (Tryz.f7.params.toList.all fun t=>!Tryz.pinned.checked.prog.wantsStandIn t)=true by kernel_rfl) t h
  simpa using this
 exact h t (Array.mem_toList_iff.2 (Array.mem_of_getElem? ht))
end vtocRuns
theorem VtocRuns_upto:Rows.VtocRunsUptoCardSaid :=
 Claim7.holds_tied_plain_at .later [] _ _ _ _ vtocRuns.over (fun _ h=>by cases h) (by kernel_rfl) (fun _ h=>by cases h) vtocRunsUpto_row_tie rfl ⟨rfl,rfl⟩ (by kernel_rfl) rfl vtocRuns.plain (by kernel_rfl)
end Go.Proofs.YtijnkhcfondehaaGreatDoor
