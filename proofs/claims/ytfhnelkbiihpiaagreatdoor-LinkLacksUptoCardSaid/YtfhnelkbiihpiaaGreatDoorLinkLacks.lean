/- Text. -/
import Derived.Test.YtfhnelkbiihpiaaGreatDoorU5
import Derived.JoinedCond
import Derived.Test.YtfhnelkbiihpiaaGreatDoorCards
import Derived.Test.YtfhnelkbiihpiaaGreatDoorTie
import Derived.Deep.DeepHandedRow
import Derived.Lib.LaidTab
set_option maxHeartbeats 8000000
set_option linter.unusedVariables false
set_option linter.unusedSimpArgs false
set_option maxRecDepth 100000
open Go.Proofs.Tryz renaming prog→ji
namespace Go.Proofs.YtfhnelkbiihpiaaGreatDoor
open Go.AE
namespace linkLacks
open Go.ChangeShapes Go.WideShapes Go.ChangeAt Go.RowKit
theorem own:ownKnob ji.godebug=none:=by kernel_rfl
mutual
theorem dqh {H:Type}:∀ d:DataW H,bulk d≤Rows.uptoBulk d
 | .lit l=>by cases l <;> simp [bulk,Rows.uptoBulk]
 | .nil=>by simp [bulk,Rows.uptoBulk]
 | .ptr d=>by have:=dqh d;simp [bulk,Rows.uptoBulk];omega
 | .slice es sp=>by have:=akd es;have:=akd sp;simp [bulk,Rows.uptoBulk];omega
 | .agg ps=>by have:=akd ps;simp [bulk,Rows.uptoBulk];omega
 | .iface n d=>by have:=dqh d;simp [bulk,Rows.uptoBulk];omega
 | .map es=>by simp [bulk,Rows.uptoBulk]
 | .held h=>by simp [bulk,Rows.uptoBulk]
theorem akd {H:Type}:∀ ds:List (DataW H),aqq ds≤Rows.uptoBulkAll ds
 | []=>by simp [aqq,Rows.uptoBulkAll]
 | d :: ds=>by have:=dqh d;have:=akd ds;simp [aqq,Rows.uptoBulkAll];omega
end
theorem dwa {H:Type} (ds gs:List (DataW H)):aqq ds≤aqq (ds ++ gs):=by
 induction ds with
 | nil=>simp [aqq]
 | cons d ds ih=>simp [aqq];omega
theorem fje (c:List C) (h:CanL ji [.str,.int .i64,.int .i64,.int .i64,.int .i64] c):aqx (byw c)=c:=by
 obtain ⟨hl,hc⟩:=h
 match c,hl with
 | [x0,x1,x2,x3,x4],_ =>
  have h0:=eju (hc 0 (by decide))
  have h1:=ayp (hc 1 (by decide))
  have h2:=ayp (hc 2 (by decide))
  have h3:=ayp (hc 3 (by decide))
  have h4:=ayp (hc 4 (by decide))
  simp only [cg_zero,cg_succ] at h0 h1 h2 h3 h4
  simp only [aqx,byw,cg_zero,cg_succ,h0,h1,h2,h3,h4]
theorem can5 (c:List C) (h:CanL ji [.int .u8] c):ajd (ck4 c)=c:=by
 obtain ⟨hl,hc⟩:=h
 match c,hl with
 | [x0],_ =>
  have h0:=ayp (hc 0 (by decide))
  simp only [cg_zero,cg_succ] at h0
  simp only [ajd,ck4,cg_zero,cg_succ,h0]
theorem eyf (c:List C) (h:CanL ji [.int .i64,.int .i64,.slice 5] c):azf (byt c)=c:=by
 obtain ⟨hl,hc⟩:=h
 match c,hl with
 | [x0,x1,x2],_ =>
  have h0:=ayp (hc 0 (by decide))
  have h1:=ayp (hc 1 (by decide))
  have h2:=bw0 ty5 ajd ck4 can5 (hc 2 (by decide))
  simp only [cg_zero,cg_succ] at h0 h1 h2
  simp only [azf,byt,cg_zero,cg_succ,h0,h1,h2]
theorem eym (c:List C) (h:CanL ji [.int .i64,.int .i64,.int .i64,.int .i64,.bool] c):azt (cj2 c)=c:=by
 obtain ⟨hl,hc⟩:=h
 match c,hl with
 | [x0,x1,x2,x3,x4],_ =>
  have h0:=ayp (hc 0 (by decide))
  have h1:=ayp (hc 1 (by decide))
  have h2:=ayp (hc 2 (by decide))
  have h3:=ayp (hc 3 (by decide))
  have h4:=ew1 (hc 4 (by decide))
  simp only [cg_zero,cg_succ] at h0 h1 h2 h3 h4
  simp only [azt,cj2,cg_zero,cg_succ,h0,h1,h2,h3,h4]
theorem fja (c:List C) (h:CanL ji [.slice 51,.slice 102,.slice 109,.str] c):aj2 (awa c)=c:=by
 obtain ⟨hl,hc⟩:=h
 match c,hl with
 | [x0,x1,x2,x3],_ =>
  have h0:=bw0 ty51 aqx byw fje (hc 0 (by decide))
  have h1:=bw0 eyl azf byt eyf (hc 1 (by decide))
  have h2:=bw0 ey9 azt cj2 eym (hc 2 (by decide))
  have h3:=eju (hc 3 (by decide))
  simp only [cg_zero,cg_succ] at h0 h1 h2 h3
  simp only [aj2,awa,cg_zero,cg_succ,h0,h1,h2,h3]
theorem fj5 (c:List C) (h:CanL ji [.slice 49] c):([.slice (List.map aj2 (List.map awa (cg c 0).toSl))]:List C)=c:=by
 obtain ⟨hl,hc⟩:=h
 match c,hl with
 | [x0],_ =>
  have h0:=bw0 ty49 aj2 awa fja (hc 0 (by decide))
  simp only [cg_zero,cg_succ] at h0
  simp only [cg_zero,cg_succ,h0]
def layC (c:Array Value):Obj→Obj
 | .cells _ t frozen=>.cells c t frozen
 | o=>o
def layW (w:World) (c1 c2:Array Value):World:={ w with heap:=(w.heap.modify 1 (layC c1)).modify 2 (layC c2) }
def eq6:Array Value:=(Go.Pinned.utf8FirstZ.map fun (n:Nat)=>Value.int .u8 n).toArray
def dy4:Array Value:=#[.int .u8 128,.int .u8 191,.int .u8 160,.int .u8 191,.int .u8 128,.int .u8 159,.int .u8 144,.int .u8 191,.int .u8 128,.int .u8 143,.int .u8 0,.int .u8 0,.int .u8 0,.int .u8 0,.int .u8 0,.int .u8 0,.int .u8 0,.int .u8 0,.int .u8 0,.int .u8 0,.int .u8 0,.int .u8 0,.int .u8 0,.int .u8 0,.int .u8 0,.int .u8 0,.int .u8 0,.int .u8 0,.int .u8 0,.int .u8 0,.int .u8 0,.int .u8 0]
theorem eqr (os:Os):laidMet ji Rows.linkLacksUptoRow.laid ((layW (World.holding ji os ⟨#[],#[],[]⟩) eq6 dy4).forCall (fun _ _=>0) ⟨#[],#[.slice none 0 0],[]⟩).memory :=
 laidMet_of_run' 8 (by kernel_rfl) (by kernel_rfl)
theorem reads (os:Os) {H:Type} (enc:TypeId×Value→H):∃ places,DataW.whole enc ji ((layW (World.holding ji os ⟨#[],#[],[]⟩) eq6 dy4).forCall (fun _ _=>0) ⟨#[],#[.slice none 0 0],[]⟩).memory Tryz.f7.params.toList Rows.linkLacksSpec.vars false (#[.slice none 0 0]:Array Value).toList 12=some ([.nil],[],places) :=
 ⟨[],by kernel_rfl⟩
set_option maxRecDepth 100000 in
theorem lifted (os:Os) (started:os.Started) (H:Type) (enc:TypeId×Value→H) (F:Stop.Interp) :
  ReturnsInHanded {} Tryz.checked os 7 .any ((Rows.OpenSpec.upto Rows.linkLacksSpec).preRow enc ji Tryz.f7 Rows.linkLacksUptoRow.domain false Rows.linkLacksUptoRow.laid) (((Rows.OpenSpec.upto Rows.linkLacksSpec).at F).post enc ji Tryz.f7 false true false false):=by
 obtain ⟨places,hx⟩:=reads os enc
 refine returnsInHanded_of_row (C:=Tryz.checked) (s:=Rows.OpenSpec.upto Rows.linkLacksSpec) own started (by kernel_rfl) Tryz.func7
  (witness_row_at (enc:=enc) (C:=Tryz.checked) false (layW (World.holding ji os ⟨#[],#[],[]⟩) eq6 dy4) #[.slice none 0 0] rfl (by kernel_rfl) (by kernel_rfl) (by kernel_rfl)
   (OpenSpec.preRow_of_cond 12 hx (by kernel_rfl) (fun k hk=>by cases hk;kernel_rfl) (by kernel_rfl) (eqr os))) ?_
 intro W base args ds gs before hval hW _ hcond _ hL _ _
 have hk:=hcond _ rfl
 have hb:aqq ds≤1048576:=Nat.le_trans (dwa ds gs) (Nat.le_trans (akd _) (of_decide_eq_true hk))
 refine eya (n:=8) (bt:=4) (f:=Tryz.f7) (s:=Rows.linkLacksSpec) (cjb N0) (by kernel_rfl) (by kernel_rfl) (by kernel_rfl) (by kernel_rfl) rfl (by kernel_rfl) (by kernel_rfl) ?_ ?_ ?_ hval hW hb
 ·intro ds hds
  match ds,hds with
  | [d0],_=>rfl
 ·intro cs h1 h2
  match cs,h1 with
  | [c0],_ =>
   have q0:=h2 0 (by decide)
   simp only [List.getD_cons_zero,List.getD_cons_succ] at q0
   exact (by rw [fj5 c0 q0]:([[.slice (List.map aj2 (List.map awa (cg c0 0).toSl))]]:List (List C))=[c0]).symm
 ·rintro x0 hc hb
  exact dwb N0 (Nat.le_refl _) x0 hb
theorem over:Rows.linkLacksUptoRow.holds Tryz.pinned (Rows.OpenSpec.upto Rows.linkLacksSpec) :=
 OpenClaim.holds_of_cond 7 Tryz.f7 rfl rfl rfl rfl rfl rfl rfl ⟨rfl,rfl,rfl,rfl,rfl⟩ rfl rfl rfl rfl rfl (by kernel_rfl) Tryz.func7 (by kernel_rfl)
  (of_decide_eq_true (by kernel_rfl)) (by unfold Func.isWrapper;first | (rw [if_pos (by decide +kernel)];kernel_rfl) | (rw [if_neg (by decide +kernel)];exact ⟨rfl,rfl⟩))
  (fun os started H enc _ F=>by rw [OpenClaim.pre_eq_preRow];exact lifted os started H enc F)
theorem plain (f:FuncId) (fn:Func) (hf:Tryz.pinned.checked.prog.funcNamed Rows.linkLacksUptoRow.func=some f) (hfn:Tryz.pinned.checked.prog.funcs[f]? = some fn) :
  false=Tryz.pinned.checked.prog.looks []∧∀ (j:Nat) t,fn.params[j]? = some t→Tryz.pinned.checked.prog.wantsStandIn t=false:=by
 obtain rfl:f=7:=Option.some.inj ((show ji.funcNamed Rows.linkLacksUptoRow.func=some 7 by kernel_rfl).symm.trans hf) |>.symm
 obtain rfl:fn=Tryz.f7:=(Option.some.inj (Tryz.func7.symm.trans hfn)).symm
 refine ⟨by kernel_rfl,fun j t ht=>?_⟩
 have h:∀ t∈Tryz.f7.params.toList,Tryz.pinned.checked.prog.wantsStandIn t=false:=fun t h=>by
  have:=List.all_eq_true.1 (show (Tryz.f7.params.toList.all fun t=>!Tryz.pinned.checked.prog.wantsStandIn t)=true by kernel_rfl) t h
  simpa using this
 exact h t (Array.mem_toList_iff.2 (Array.mem_of_getElem? ht))
end linkLacks
theorem LinkLacks_upto:Rows.LinkLacksUptoCardSaid :=
 Claim7.holds_tied_plain_at .later [] _ _ _ _ linkLacks.over (fun _ h=>by cases h) (by kernel_rfl) (fun _ h=>by cases h) linkLacksUpto_row_tie rfl ⟨rfl,rfl⟩ (by kernel_rfl) rfl linkLacks.plain (by kernel_rfl)
end Go.Proofs.YtfhnelkbiihpiaaGreatDoor
