/- Text. -/
import Derived.Test.YtijnkhcfondehaaGreatDoorCE
import Derived.JoinedCond
import Derived.Test.YtijnkhcfondehaaGreatDoorCards
import Derived.Test.YtijnkhcfondehaaGreatDoorTie
import Derived.Deep.DeepHandedRow
import Derived.Lib.LaidTab
set_option maxHeartbeats 8000000
set_option linter.unusedVariables false
set_option linter.unusedSimpArgs false
set_option maxRecDepth 100000
open Go.Proofs.Tryz renaming prog→jd
namespace Go.Proofs.YtijnkhcfondehaaGreatDoor
open Go.AE
namespace vtocChecks
open Go.ChangeShapes Go.WideShapes Go.ChangeAt Go.RowKit
theorem own:ownKnob jd.godebug=none:=by kernel_rfl
mutual
theorem eym {H:Type}:∀ d:DataW H,bulk d≤Rows.uptoBulk d
 | .lit l=>by cases l <;> simp [bulk,Rows.uptoBulk]
 | .nil=>by simp [bulk,Rows.uptoBulk]
 | .ptr d=>by have:=eym d;simp [bulk,Rows.uptoBulk];omega
 | .slice es sp=>by have:=ayo es;have:=ayo sp;simp [bulk,Rows.uptoBulk];omega
 | .agg ps=>by have:=ayo ps;simp [bulk,Rows.uptoBulk];omega
 | .iface n d=>by have:=eym d;simp [bulk,Rows.uptoBulk];omega
 | .map es=>by simp [bulk,Rows.uptoBulk]
 | .held h=>by simp [bulk,Rows.uptoBulk]
theorem ayo {H:Type}:∀ ds:List (DataW H),aqu ds≤Rows.uptoBulkAll ds
 | []=>by simp [aqu,Rows.uptoBulkAll]
 | d :: ds=>by have:=eym d;have:=ayo ds;simp [aqu,Rows.uptoBulkAll];omega
end
theorem fjp {H:Type} (ds gs:List (DataW H)):aqu ds≤aqu (ds ++ gs):=by
 induction ds with
 | nil=>simp [aqu]
 | cons d ds ih=>simp [aqu];omega
theorem hws (c:List C) (h:CanL jd [.int .i64,.int .i64] c):aj2 (ajl c)=c:=by
 obtain ⟨hl,hc⟩:=h
 match c,hl with
 | [x0,x1],_ =>
  have h0:=bqy (hc 0 (by decide))
  have h1:=bqy (hc 1 (by decide))
  simp only [cg_zero,cg_succ] at h0 h1
  simp only [aj2,ajl,cg_zero,cg_succ,h0,h1]
theorem hwn (c:List C) (h:CanL jd [.str,.int .i64,.int .i64,.bool,.bool,.int .i64,.int .i64,.int .i64,.int .i64,.slice 80,.int .i64] c):aj5 (aql c)=c:=by
 obtain ⟨hl,hc⟩:=h
 match c,hl with
 | [x0,x1,x2,x3,x4,x5,x6,x7,x8,x9,x10],_ =>
  have h0:=fkt (hc 0 (by decide))
  have h1:=bqy (hc 1 (by decide))
  have h2:=bqy (hc 2 (by decide))
  have h3:=fq8 (hc 3 (by decide))
  have h4:=fq8 (hc 4 (by decide))
  have h5:=bqy (hc 5 (by decide))
  have h6:=bqy (hc 6 (by decide))
  have h7:=bqy (hc 7 (by decide))
  have h8:=bqy (hc 8 (by decide))
  have h9:=ewx ty80 aj2 ajl hws (hc 9 (by decide))
  have h10:=bqy (hc 10 (by decide))
  simp only [cg_zero,cg_succ] at h0 h1 h2 h3 h4 h5 h6 h7 h8 h9 h10
  simp only [aj5,aql,cg_zero,cg_succ,h0,h1,h2,h3,h4,h5,h6,h7,h8,h9,h10]
theorem hwv (c:List C) (h:CanL jd [.str,.int .i64,.int .i64,.int .i64,.slice 41] c):([.str (cg c 0).toStr,.int (cg c 1).toInt,.int (cg c 2).toInt,.int (cg c 3).toInt,.slice (List.map aj5 (List.map aql (cg c 4).toSl))]:List C)=c:=by
 obtain ⟨hl,hc⟩:=h
 match c,hl with
 | [x0,x1,x2,x3,x4],_ =>
  have h0:=fkt (hc 0 (by decide))
  have h1:=bqy (hc 1 (by decide))
  have h2:=bqy (hc 2 (by decide))
  have h3:=bqy (hc 3 (by decide))
  have h4:=ewx ty41 aj5 aql hwn (hc 4 (by decide))
  simp only [cg_zero,cg_succ] at h0 h1 h2 h3 h4
  simp only [cg_zero,cg_succ,h0,h1,h2,h3,h4]
def layC (c:Array Value):Obj→Obj
 | .cells _ t frozen=>.cells c t frozen
 | o=>o
def layW (w:World) (c1 c2:Array Value):World:={ w with heap:=(w.heap.modify 1 (layC c1)).modify 2 (layC c2) }
def fy0:Array Value:=(Go.Pinned.utf8FirstZ.map fun (n:Nat)=>Value.int .u8 n).toArray
def gq5:Array Value:=#[.int .u8 128,.int .u8 191,.int .u8 160,.int .u8 191,.int .u8 128,.int .u8 159,.int .u8 144,.int .u8 191,.int .u8 128,.int .u8 143,.int .u8 0,.int .u8 0,.int .u8 0,.int .u8 0,.int .u8 0,.int .u8 0,.int .u8 0,.int .u8 0,.int .u8 0,.int .u8 0,.int .u8 0,.int .u8 0,.int .u8 0,.int .u8 0,.int .u8 0,.int .u8 0,.int .u8 0,.int .u8 0,.int .u8 0,.int .u8 0,.int .u8 0,.int .u8 0]
theorem gzt (os:Os):laidMet jd Rows.vtocChecksUptoRow.laid ((layW (World.holding jd os ⟨#[],#[],[]⟩) fy0 gq5).forCall (fun _ _=>0) ⟨#[],#[.agg #[.string ⟨#[]⟩,.int .i64 0,.int .i64 0,.int .i64 0,.slice none 0 0]],[]⟩).memory :=
 laidMet_of_run' 8 (by kernel_rfl) (by kernel_rfl)
theorem reads (os:Os) {H:Type} (enc:TypeId×Value→H):∃ places,DataW.whole enc jd ((layW (World.holding jd os ⟨#[],#[],[]⟩) fy0 gq5).forCall (fun _ _=>0) ⟨#[],#[.agg #[.string ⟨#[]⟩,.int .i64 0,.int .i64 0,.int .i64 0,.slice none 0 0]],[]⟩).memory Tryz.f5.params.toList Rows.vtocChecksSpec.vars false (#[.agg #[.string ⟨#[]⟩,.int .i64 0,.int .i64 0,.int .i64 0,.slice none 0 0]]:Array Value).toList 12=some ([.agg [.lit (.string []),.lit (.int .i64 0),.lit (.int .i64 0),.lit (.int .i64 0),.nil]],[],places) :=
 ⟨[],by kernel_rfl⟩
set_option maxRecDepth 100000 in
theorem lifted (os:Os) (started:os.Started) (H:Type) (enc:TypeId×Value→H) (F:Stop.Interp) :
  ReturnsInHanded {} Tryz.checked os 5 .any ((Rows.OpenSpec.upto Rows.vtocChecksSpec).preRow enc jd Tryz.f5 Rows.vtocChecksUptoRow.domain false Rows.vtocChecksUptoRow.laid) (((Rows.OpenSpec.upto Rows.vtocChecksSpec).at F).post enc jd Tryz.f5 false true false false):=by
 obtain ⟨places,hx⟩:=reads os enc
 refine returnsInHanded_of_row (C:=Tryz.checked) (s:=Rows.OpenSpec.upto Rows.vtocChecksSpec) own started (by kernel_rfl) Tryz.func5
  (witness_row_at (enc:=enc) (C:=Tryz.checked) false (layW (World.holding jd os ⟨#[],#[],[]⟩) fy0 gq5) #[.agg #[.string ⟨#[]⟩,.int .i64 0,.int .i64 0,.int .i64 0,.slice none 0 0]] rfl (by kernel_rfl) (by kernel_rfl) (by kernel_rfl)
   (OpenSpec.preRow_of_cond 12 hx (by kernel_rfl) (fun k hk=>by cases hk;kernel_rfl) (by kernel_rfl) (gzt os))) ?_
 intro W base args ds gs before hval hW _ hcond _ hL _ _
 have hk:=hcond _ rfl
 have hb:aqu ds≤1048576:=Nat.le_trans (fjp ds gs) (Nat.le_trans (ayo _) (of_decide_eq_true hk))
 refine hqq (n:=8) (bt:=4) (f:=Tryz.f5) (s:=Rows.vtocChecksSpec) (dq1 N0) (by kernel_rfl) (by kernel_rfl) (by kernel_rfl) (by kernel_rfl) rfl (by kernel_rfl) (by kernel_rfl) ?_ ?_ ?_ hval hW hb
 ·intro ds hds
  match ds,hds with
  | [d0],_=>rfl
 ·intro cs h1 h2
  match cs,h1 with
  | [c0],_ =>
   have q0:=h2 0 (by decide)
   simp only [List.getD_cons_zero,List.getD_cons_succ] at q0
   exact (by rw [hwv c0 q0]:([[.str (cg c0 0).toStr,.int (cg c0 1).toInt,.int (cg c0 2).toInt,.int (cg c0 3).toInt,.slice (List.map aj5 (List.map aql (cg c0 4).toSl))]]:List (List C))=[c0]).symm
 ·rintro x0 hc hb
  exact cyr x0 hc hb
theorem over:Rows.vtocChecksUptoRow.holds Tryz.pinned (Rows.OpenSpec.upto Rows.vtocChecksSpec) :=
 OpenClaim.holds_of_cond 5 Tryz.f5 rfl rfl rfl rfl rfl rfl rfl ⟨rfl,rfl,rfl,rfl,rfl⟩ rfl rfl rfl rfl rfl (by kernel_rfl) Tryz.func5 (by kernel_rfl)
  (of_decide_eq_true (by kernel_rfl)) (by unfold Func.isWrapper;first | (rw [if_pos (by decide +kernel)];kernel_rfl) | (rw [if_neg (by decide +kernel)];exact ⟨rfl,rfl⟩))
  (fun os started H enc _ F=>by rw [OpenClaim.pre_eq_preRow];exact lifted os started H enc F)
theorem plain (f:FuncId) (fn:Func) (hf:Tryz.pinned.checked.prog.funcNamed Rows.vtocChecksUptoRow.func=some f) (hfn:Tryz.pinned.checked.prog.funcs[f]? = some fn) :
  false=Tryz.pinned.checked.prog.looks []∧∀ (j:Nat) t,fn.params[j]? = some t→Tryz.pinned.checked.prog.wantsStandIn t=false:=by
 obtain rfl:f=5:=Option.some.inj ((show jd.funcNamed Rows.vtocChecksUptoRow.func=some 5 by kernel_rfl).symm.trans hf) |>.symm
 obtain rfl:fn=Tryz.f5:=(Option.some.inj (Tryz.func5.symm.trans hfn)).symm
 refine ⟨by kernel_rfl,fun j t ht=>?_⟩
 have h:∀ t∈Tryz.f5.params.toList,Tryz.pinned.checked.prog.wantsStandIn t=false:=fun t h=>by
  have:=List.all_eq_true.1 (show (Tryz.f5.params.toList.all fun t=>!Tryz.pinned.checked.prog.wantsStandIn t)=true by kernel_rfl) t h
  simpa using this
 exact h t (Array.mem_toList_iff.2 (Array.mem_of_getElem? ht))
end vtocChecks
theorem VtocChecks_upto:Rows.VtocChecksUptoCardSaid :=
 Claim7.holds_tied_plain_at .later [] _ _ _ _ vtocChecks.over (fun _ h=>by cases h) (by kernel_rfl) (fun _ h=>by cases h) vtocChecksUpto_row_tie rfl ⟨rfl,rfl⟩ (by kernel_rfl) rfl vtocChecks.plain (by kernel_rfl)
end Go.Proofs.YtijnkhcfondehaaGreatDoor
