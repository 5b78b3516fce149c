/-
  VtocKnown: the statement in its full form, out of the function and its contract. No condition.
-/
import Derived.Test.YtijnkhcfondehaaGreatDoorCE
import Derived.JoinedCond
import Derived.Test.YtijnkhcfondehaaGreatDoorCards
import Derived.Test.YtijnkhcfondehaaGreatDoorTie
import Derived.Deep.DeepHandedRow
import Derived.Lib.LaidTab
set_option maxHeartbeats 8000000
set_option linter.unusedVariables false
set_option linter.unusedSimpArgs false
set_option maxRecDepth 100000
open Go.Proofs.Tryz renaming prog→jd
namespace Go.Proofs.YtijnkhcfondehaaGreatDoor
open Go.AE
namespace vtocKnown
open Go.ChangeShapes Go.WideShapes Go.ChangeAt Go.RowKit
theorem own:ownKnob jd.godebug=none:=by kernel_rfl
theorem no_arg {H : Type} {enc : TypeId × Value → H} {W : World} {args : Array Value} {ds gs : List (DataW H)} {before : List MemPlace} {vs : List String} (hW : DataW.Whole enc jd Tryz.f11.params.toList vs false W args.toList ds gs before) : aqs ds ≤ 1048576 := by
  obtain ⟨p, q, hA, _⟩ := hW
  rw [show Tryz.f11.params.toList = [] from rfl] at hA
  obtain ⟨e1, e2, e3⟩ := trodAll_nil hA
  subst e2
  simp [aqs]
def layC (c:Array Value):Obj→Obj
 | .cells _ t frozen=>.cells c t frozen
 | o=>o
def layW (w:World) (c1 c2:Array Value):World:={ w with heap:=(w.heap.modify 1 (layC c1)).modify 2 (layC c2) }
def fzp:Array Value:=(Go.Pinned.utf8FirstZ.map fun (n:Nat)=>Value.int .u8 n).toArray
def fyb:Array Value:=#[.int .u8 128,.int .u8 191,.int .u8 160,.int .u8 191,.int .u8 128,.int .u8 159,.int .u8 144,.int .u8 191,.int .u8 128,.int .u8 143,.int .u8 0,.int .u8 0,.int .u8 0,.int .u8 0,.int .u8 0,.int .u8 0,.int .u8 0,.int .u8 0,.int .u8 0,.int .u8 0,.int .u8 0,.int .u8 0,.int .u8 0,.int .u8 0,.int .u8 0,.int .u8 0,.int .u8 0,.int .u8 0,.int .u8 0,.int .u8 0,.int .u8 0,.int .u8 0]
theorem gqg (os:Os):laidMet jd Rows.vtocKnownRow.laid ((layW (World.holding jd os ⟨#[],#[],[]⟩) fzp fyb).forCall (fun _ _=>0) ⟨#[],#[],[]⟩).memory :=
 laidMet_of_run' 8 (by kernel_rfl) (by kernel_rfl)
theorem reads (os:Os) {H:Type} (enc:TypeId×Value→H):∃ places,DataW.whole enc jd ((layW (World.holding jd os ⟨#[],#[],[]⟩) fzp fyb).forCall (fun _ _=>0) ⟨#[],#[],[]⟩).memory Tryz.f11.params.toList Rows.vtocKnownSpec.vars false (#[]:Array Value).toList 12=some ([],[],places) :=
 ⟨[],by kernel_rfl⟩
set_option maxRecDepth 100000 in
theorem lifted (os:Os) (started:os.Started) (H:Type) (enc:TypeId×Value→H) (F:Stop.Interp) :
  ReturnsInHanded {} Tryz.checked os 11 .any ((OpenSpec.ofChange Rows.vtocKnownSpec).preRow enc jd Tryz.f11 Rows.vtocKnownRow.domain false Rows.vtocKnownRow.laid) (((OpenSpec.ofChange Rows.vtocKnownSpec).at F).post enc jd Tryz.f11 false true false false):=by
 obtain ⟨places,hx⟩:=reads os enc
 refine returnsInHanded_of_row (C:=Tryz.checked) (s:=OpenSpec.ofChange Rows.vtocKnownSpec) own started (by kernel_rfl) Tryz.func11
  (witness_row_at (enc:=enc) (C:=Tryz.checked) false (layW (World.holding jd os ⟨#[],#[],[]⟩) fzp fyb) #[] rfl (by kernel_rfl) (by kernel_rfl) (by kernel_rfl)
   (OpenSpec.preRow_of_cond 12 hx (by kernel_rfl) (fun k hk=>by cases hk) (by kernel_rfl) (gqg os))) ?_
 intro W base args ds gs before hval hW _ hcond _ hL _ _
 have hb := no_arg hW
 refine gk3 (n:=8) (bt:=4) (f:=Tryz.f11) (s:=Rows.vtocKnownSpec) (dzb N0) (by kernel_rfl) (by kernel_rfl) (by kernel_rfl) (by kernel_rfl) rfl (by kernel_rfl) (by kernel_rfl) ?_ ?_ ?_ hval hW hb
 ·intro ds hds
  match ds,hds with
  | [],_=>rfl
 ·intro cs h1 h2
  match cs,h1 with
  | [],_=>rfl
 ·rintro ⟨⟩ hc hb
  exact dqf hc hb
theorem over:Rows.vtocKnownRow.holds Tryz.pinned (OpenSpec.ofChange Rows.vtocKnownSpec) :=
 OpenClaim.holds_of_cond 11 Tryz.f11 rfl rfl rfl rfl rfl rfl rfl ⟨rfl,rfl,rfl,rfl,rfl⟩ rfl rfl rfl rfl rfl (by kernel_rfl) Tryz.func11 (by kernel_rfl)
  (of_decide_eq_true (by kernel_rfl)) (by unfold Func.isWrapper;first | (rw [if_pos (by decide +kernel)];kernel_rfl) | (rw [if_neg (by decide +kernel)];exact ⟨rfl,rfl⟩))
  (fun os started H enc _ F=>by rw [OpenClaim.pre_eq_preRow];exact lifted os started H enc F)
theorem plain (f:FuncId) (fn:Func) (hf:Tryz.pinned.checked.prog.funcNamed Rows.vtocKnownRow.func=some f) (hfn:Tryz.pinned.checked.prog.funcs[f]? = some fn) :
  false=Tryz.pinned.checked.prog.looks []∧∀ (j:Nat) t,fn.params[j]? = some t→Tryz.pinned.checked.prog.wantsStandIn t=false:=by
 obtain rfl:f=11:=Option.some.inj ((show jd.funcNamed Rows.vtocKnownRow.func=some 11 by kernel_rfl).symm.trans hf) |>.symm
 obtain rfl:fn=Tryz.f11:=(Option.some.inj (Tryz.func11.symm.trans hfn)).symm
 refine ⟨by kernel_rfl,fun j t ht=>?_⟩
 have h:∀ t∈Tryz.f11.params.toList,Tryz.pinned.checked.prog.wantsStandIn t=false:=fun t h=>by
  have:=List.all_eq_true.1 (show (Tryz.f11.params.toList.all fun t=>!Tryz.pinned.checked.prog.wantsStandIn t)=true by kernel_rfl) t h
  simpa using this
 exact h t (Array.mem_toList_iff.2 (Array.mem_of_getElem? ht))
end vtocKnown
theorem VtocKnown_full : Rows.VtocKnownCardSaid :=
 Claim7.holds_tied_plain_at .later [] _ _ _ _ vtocKnown.over (fun _ h=>by cases h) (by kernel_rfl) (fun _ h=>by cases h) vtocKnown_row_tie rfl ⟨rfl,rfl⟩ (by kernel_rfl) rfl vtocKnown.plain (by kernel_rfl)
end Go.Proofs.YtijnkhcfondehaaGreatDoor
