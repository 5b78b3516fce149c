/- Text. -/
import Derived.Shelf.SlLaysF0
import Derived.Test.YtkebegfopnlkhaaProg
import Derived.Shelf.SlLaysC2
import Derived.Test.YtkebegfopnlkhaaAE41
import Derived.Test.YtkebegfopnlkhaaAE28
import Derived.Shelf.SlicesG.Cmp
import Derived.WalkKit
set_option linter.unusedSimpArgs false
set_option linter.unusedVariables false
set_option maxRecDepth 100000
namespace Go.Proofs.Ytkebegfopnlkhaa
open Go.Shelf
def lay78_ren:Go.Shelf.Ren:=⟨fun | 6=>78 | 15=>85 | 14=>84 | 28=>96 | 29=>97 | 20=>88 | 21=>89 | 22=>90 | 23=>91 | 24=>92 | 25=>93 | 26=>94 | 27=>95 | 46=>98 | 47=>99 | 48=>100 | 49=>101 | 50=>102 | 57=>103 | n=>n,fun | 22=>34 | 24=>52 | 25=>129 | 3=>3 | 39=>69 | 0=>0 | 53=>120 | 55=>145 | 4=>4 | 46=>137 | 45=>136 | 50=>141 | 5=>5 | 9=>9 | 66=>146 | 70=>150 | 76=>152 | 77=>153 | n=>n,fun | n=>n⟩
theorem lay78:Go.Proofs.SlLaysF0.n6 Try.prog lay78_ren:={
  mixed:=by kernel_rfl
  f6:=⟨Try.f78.name,by decide,Try.func78.trans (congrArg some (by kernel_rfl))⟩
  f14:=⟨Try.f84.name,by decide,Try.func84.trans (congrArg some (by kernel_rfl))⟩
  f15:=Try.func85.trans (congrArg some (by kernel_rfl))
  f20:=⟨Try.f88.name,by decide,Try.func88.trans (congrArg some (by kernel_rfl))⟩
  f21:=⟨Try.f89.name,by decide,Try.func89.trans (congrArg some (by kernel_rfl))⟩
  f22:=⟨Try.f90.name,by decide,Try.func90.trans (congrArg some (by kernel_rfl))⟩
  f23:=⟨Try.f91.name,by decide,Try.func91.trans (congrArg some (by kernel_rfl))⟩
  f24:=⟨Try.f92.name,by decide,Try.func92.trans (congrArg some (by kernel_rfl))⟩
  f25:=⟨Try.f93.name,by decide,Try.func93.trans (congrArg some (by kernel_rfl))⟩
  f26:=⟨Try.f94.name,by decide,Try.func94.trans (congrArg some (by kernel_rfl))⟩
  f27:=⟨Try.f95.name,by decide,Try.func95.trans (congrArg some (by kernel_rfl))⟩
  f28:=Try.func96.trans (congrArg some (by kernel_rfl))
  f29:=Try.func97.trans (congrArg some (by kernel_rfl))
  f46:=⟨Try.f98.name,by decide,Try.func98.trans (congrArg some (by kernel_rfl))⟩
  f47:=Try.func99.trans (congrArg some (by kernel_rfl))
  f48:=Try.func100.trans (congrArg some (by kernel_rfl))
  f49:=⟨Try.f101.name,by decide,Try.func101.trans (congrArg some (by kernel_rfl))⟩
  f50:=⟨Try.f102.name,by decide,Try.func102.trans (congrArg some (by kernel_rfl))⟩
  f57:=⟨Try.f103.name,by decide,Try.func103.trans (congrArg some (by kernel_rfl))⟩
  t0:=Try.underlying0
  a0:=Try.isAgg0
  z0:=Try.sizeOf0
  v0:=Try.zeroValue0
  t3:=Try.underlying3
  a3:=Try.isAgg3
  z3:=Try.sizeOf3
  v3:=Try.zeroValue3
  t4:=Try.underlying4
  a4:=Try.isAgg4
  z4:=Try.sizeOf4
  v4:=Try.zeroValue4
  t5:=Try.underlying5
  a5:=Try.isAgg5
  z5:=Try.sizeOf5
  v5:=Try.zeroValue5
  t9:=Try.underlying9
  a9:=Try.isAgg9
  z9:=Try.sizeOf9
  v9:=Try.zeroValue9
  t22:=Try.underlying34
  a22:=Try.isAgg34
  z22:=Try.sizeOf34
  v22:=Try.zeroValue34
  t25:=Try.underlying129
  a25:=Try.isAgg129
  z25:=Try.sizeOf129
  v25:=Try.zeroValue129
  t39:=Try.underlying69
  a39:=Try.isAgg69
  z39:=Try.sizeOf69
  v39:=Try.zeroValue69
  t45:=Try.underlying136
  a45:=Try.isAgg136
  z45:=Try.sizeOf136
  v45:=Try.zeroValue136
  t46:=Try.underlying137
  a46:=Try.isAgg137
  z46:=Try.sizeOf137
  v46:=Try.zeroValue137
  t50:=Try.underlying141
  a50:=Try.isAgg141
  z50:=Try.sizeOf141
  v50:=Try.zeroValue141
  t53:=Try.underlying120
  a53:=Try.isAgg120
  z53:=Try.sizeOf120
  v53:=Try.zeroValue120
  t55:=Try.underlying145
  a55:=Try.isAgg145
  z55:=Try.sizeOf145
  v55:=Try.zeroValue145
  t66:=Try.underlying146
  a66:=Try.isAgg146
  z66:=Try.sizeOf146
  v66:=Try.zeroValue146
  t70:=Try.underlying150
  a70:=Try.isAgg150
  z70:=Try.sizeOf150
  v70:=Try.zeroValue150
  t76:=Try.underlying152
  a76:=Try.isAgg152
  z76:=Try.sizeOf152
  v76:=Try.zeroValue152
  t77:=Try.underlying153
  a77:=Try.isAgg153
  z77:=Try.sizeOf153
  v77:=Try.zeroValue153 }
end Go.Proofs.Ytkebegfopnlkhaa
/-
  ch. 39: where cmp.Compare lies (laying of the shelf's contract, written by the shelf's tool).
-/
set_option maxRecDepth 100000
namespace Go.Proofs.Ytkebegfopnlkhaa
open Go.Shelf
def lay80_ren:Go.Shelf.Ren:=⟨fun | 5=>80 | 7=>86 | n=>n,fun | 22=>3 | 3=>3 | 4=>4 | n=>n,fun | n=>n⟩
theorem lay80:Go.Proofs.SlLaysC2.n5 Try.prog lay80_ren:={
  mixed:=by kernel_rfl
  f5:=⟨Try.f80.name,by decide,Try.func80.trans (congrArg some (by kernel_rfl))⟩
  f7:=⟨Try.f86.name,by decide,Try.func86.trans (congrArg some (by kernel_rfl))⟩
  t3:=Try.underlying3
  a3:=Try.isAgg3
  z3:=Try.sizeOf3
  v3:=Try.zeroValue3
  t4:=Try.underlying4
  a4:=Try.isAgg4
  z4:=Try.sizeOf4
  v4:=Try.zeroValue4
  t22:=Try.underlying3
  a22:=Try.isAgg3
  z22:=Try.sizeOf3
  v22:=Try.zeroValue3 }
end Go.Proofs.Ytkebegfopnlkhaa
/-
  ch. 39: the comparator of extent.sorted, on raw cells (a walk of the kit's).
-/
set_option maxRecDepth 100000
namespace Go.Proofs.Ytkebegfopnlkhaa
open Go.RowKit Go.Shelf Go.Proofs Go.Sort
set_option maxHeartbeats 1000000 in
theorem closure79 (a b c d:Int) (W:World):Calls Try.prog 79 #[.agg #[.int .i64 a,.int .i64 b],.agg #[.int .i64 c,.int .i64 d]] W fun e w'=>e = .returned (.int .i64 (Lib.compareInt a c))∧∃ q os',w'=grow (W.drewN q) os':=by
  have hcon:=fun W'=>AnyG.cmp_Compare_int lay80 a c W'
  change ∀ W',Calls Try.prog 80 _ _ _ at hcon
  generalize Lib.compareInt a c=r at hcon ⊢
  go_enter Try.func79,Try.ntmps79
  go_wp2_with (go_at_call 80;refine (hcon _).mono ?_;rintro e w' ⟨rfl,rfl⟩)
  go_ret
  exact ⟨rfl,0,_,by rw [alloc_eq_grow,alloc_eq_grow,grow_grow];rfl⟩
theorem compareInt_eq (a c:Int):Lib.compareInt a c=if a < c then -1 else if c < a then 1 else 0:=by
  unfold Lib.compareInt
  split
  · rfl
  · split <;> simp_all
theorem raw79 (a b c d r:Int) (hr:r=if a < c then -1 else if c < a then 1 else 0):Go.AE.RawCmp Try.prog 79 [.int .i64,.int .i64] [.int a,.int b] [.int c,.int d] r:=by
  intro W al us vs h1 h2
  obtain ⟨us',e1,l1,_,r1⟩:=h1
  obtain ⟨vs',e2,l2,_,r2⟩:=h2
  have u0:=r1 0 (by simp)
  have u1:=r1 1 (by simp)
  have v0:=r2 0 (by simp)
  have v1:=r2 1 (by simp)
  rw [e1,e2]
  match us',l1,vs',l2 with
  | [x0,x1],_,[y0,y1],_ =>
    simp only [List.getD_cons_zero,List.getD_cons_succ,Go.AE.cg_zero,Go.AE.cg_succ] at u0 u1 v0 v1
    cases u0;cases u1;cases v0;cases v1
    have h:=closure79 a b c d W
    rw [compareInt_eq,← hr] at h
    exact h
set_option maxHeartbeats 1000000 in
theorem size46 (a:Int) (t:ByteArray) (W:World):Calls Try.prog 46 #[.agg #[.int .i64 a,.string t]] W fun e w'=>e = .returned (.int .i64 (wrap64 (2+(t.size:Int))))∧W.grownBy w' none:=by
  go_enter Try.func46,Try.ntmps46
  go_wp2
  go_ret
  exact ⟨rfl,Go.AE.grown_alloc _ _⟩
def sz49 (kl dl:Nat):Int:=if kl=0 then wrap64 (32+(dl:Int)) else wrap64 (wrap64 (wrap64 (32+(dl:Int))+16)+(kl:Int))
set_option maxRecDepth 1000000 in
set_option maxHeartbeats 1000000 in
theorem size49 (r:Int) (ka:Option Addr) (kl kc:Nat) (da:Option Addr) (dl dc:Nat) (bad:Bool) (W:World):Calls Try.prog 49 #[.agg #[.int .i64 r,.slice ka kl kc,.slice da dl dc,.bool bad]] W fun e w' =>
    e = .returned (.int .i64 (sz49 kl dl))∧W.grownBy w' none:=by
  rcases Nat.eq_zero_or_pos kl with rfl | hk
  · have e:sz49 0 dl=wrap64 (32+(dl:Int)):=if_pos rfl
    rw [e]
    go_enter Try.func49,Try.ntmps49
    go_wp2
    go_ret
    exact ⟨rfl,Go.AE.grown_alloc _ _⟩
  · have h0:¬ ((kl:Int)=0):=by omega
    have e:sz49 kl dl=wrap64 (wrap64 (wrap64 (32+(dl:Int))+16)+(kl:Int)):=if_neg (by omega)
    rw [e]
    go_enter Try.func49,Try.ntmps49
    go_wp2
    go_ret
    exact ⟨rfl,Go.AE.grown_alloc _ _⟩
theorem list3 {vs:List Value} (h:vs.length=3):∃ a b c,vs=[a,b,c]:=by
  match vs,h with
  | [a,b,c],_=>exact ⟨a,b,c,rfl⟩
set_option maxHeartbeats 1000000 in
theorem maker45:Go.AE.Maker Try.prog 45 69 [22,3,96]:=by
  refine ⟨fun args w=>by exact Try.call45 args w,fun vs w hl hv=>?_⟩
  obtain ⟨a,b,c,rfl⟩:=list3 hl
  have h1:=hv a (by simp)
  have h2:=hv b (by simp)
  have h3:=hv c (by simp)
  clear hv hl
  go_enter Try.func45,Try.ntmps45
  go_wp2
  all_goals first | (exfalso;revert h1;simp [Value.oneCell'];done) | (exfalso;revert h2;simp [Value.oneCell'];done) | (exfalso;revert h3;simp [Value.oneCell'];done) | (go_ret;exact ⟨rfl,rfl⟩)
set_option maxHeartbeats 1000000 in
theorem maker48:Go.AE.Maker Try.prog 48 71 [57,3,101]:=by
  refine ⟨fun args w=>by exact Try.call48 args w,fun vs w hl hv=>?_⟩
  obtain ⟨a,b,c,rfl⟩:=list3 hl
  have h1:=hv a (by simp)
  have h2:=hv b (by simp)
  have h3:=hv c (by simp)
  clear hv hl
  go_enter Try.func48,Try.ntmps48
  go_wp2
  all_goals first | (exfalso;revert h1;simp [Value.oneCell'];done) | (exfalso;revert h2;simp [Value.oneCell'];done) | (exfalso;revert h3;simp [Value.oneCell'];done) | (go_ret;exact ⟨rfl,rfl⟩)
end Go.Proofs.Ytkebegfopnlkhaa
