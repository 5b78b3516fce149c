/- Text. -/
import Derived.Shelf.SlLaysF0
import Derived.Test.YtkebegfopnlkhaaGreatProg
import Derived.Shelf.SlLaysC2
import Derived.Test.YtkebegfopnlkhaaGreatAE41
import Derived.Test.YtkebegfopnlkhaaGreatAE28
import Derived.Shelf.SlicesG.Cmp
import Derived.WalkKit
set_option linter.unusedSimpArgs false
set_option linter.unusedVariables false
set_option maxRecDepth 100000
namespace Go.Proofs.YtkebegfopnlkhaaGreat
open Go.Shelf
def lay61_ren:Go.Shelf.Ren:=⟨fun | 6=>61 | 15=>77 | 14=>76 | 28=>90 | 29=>91 | 20=>82 | 21=>83 | 22=>84 | 23=>85 | 24=>86 | 25=>87 | 26=>88 | 27=>89 | 46=>96 | 47=>97 | 48=>98 | 49=>99 | 50=>100 | 57=>104 | n=>n,fun | 22=>22 | 24=>49 | 25=>111 | 3=>3 | 39=>25 | 0=>0 | 53=>119 | 55=>139 | 4=>4 | 46=>131 | 45=>130 | 50=>135 | 5=>5 | 9=>9 | 66=>143 | 70=>147 | 76=>152 | 77=>153 | n=>n,fun | n=>n⟩
theorem lay61:Go.Proofs.SlLaysF0.n6 Tryz.prog lay61_ren:={
  mixed:=by kernel_rfl
  f6:=⟨Tryz.f61.name,by decide,Tryz.func61.trans (congrArg some (by kernel_rfl))⟩
  f14:=⟨Tryz.f76.name,by decide,Tryz.func76.trans (congrArg some (by kernel_rfl))⟩
  f15:=Tryz.func77.trans (congrArg some (by kernel_rfl))
  f20:=⟨Tryz.f82.name,by decide,Tryz.func82.trans (congrArg some (by kernel_rfl))⟩
  f21:=⟨Tryz.f83.name,by decide,Tryz.func83.trans (congrArg some (by kernel_rfl))⟩
  f22:=⟨Tryz.f84.name,by decide,Tryz.func84.trans (congrArg some (by kernel_rfl))⟩
  f23:=⟨Tryz.f85.name,by decide,Tryz.func85.trans (congrArg some (by kernel_rfl))⟩
  f24:=⟨Tryz.f86.name,by decide,Tryz.func86.trans (congrArg some (by kernel_rfl))⟩
  f25:=⟨Tryz.f87.name,by decide,Tryz.func87.trans (congrArg some (by kernel_rfl))⟩
  f26:=⟨Tryz.f88.name,by decide,Tryz.func88.trans (congrArg some (by kernel_rfl))⟩
  f27:=⟨Tryz.f89.name,by decide,Tryz.func89.trans (congrArg some (by kernel_rfl))⟩
  f28:=Tryz.func90.trans (congrArg some (by kernel_rfl))
  f29:=Tryz.func91.trans (congrArg some (by kernel_rfl))
  f46:=⟨Tryz.f96.name,by decide,Tryz.func96.trans (congrArg some (by kernel_rfl))⟩
  f47:=Tryz.func97.trans (congrArg some (by kernel_rfl))
  f48:=Tryz.func98.trans (congrArg some (by kernel_rfl))
  f49:=⟨Tryz.f99.name,by decide,Tryz.func99.trans (congrArg some (by kernel_rfl))⟩
  f50:=⟨Tryz.f100.name,by decide,Tryz.func100.trans (congrArg some (by kernel_rfl))⟩
  f57:=⟨Tryz.f104.name,by decide,Tryz.func104.trans (congrArg some (by kernel_rfl))⟩
  t0:=Tryz.underlying0
  a0:=Tryz.isAgg0
  z0:=Tryz.sizeOf0
  v0:=Tryz.zeroValue0
  t3:=Tryz.underlying3
  a3:=Tryz.isAgg3
  z3:=Tryz.sizeOf3
  v3:=Tryz.zeroValue3
  t4:=Tryz.underlying4
  a4:=Tryz.isAgg4
  z4:=Tryz.sizeOf4
  v4:=Tryz.zeroValue4
  t5:=Tryz.underlying5
  a5:=Tryz.isAgg5
  z5:=Tryz.sizeOf5
  v5:=Tryz.zeroValue5
  t9:=Tryz.underlying9
  a9:=Tryz.isAgg9
  z9:=Tryz.sizeOf9
  v9:=Tryz.zeroValue9
  t22:=Tryz.underlying22
  a22:=Tryz.isAgg22
  z22:=Tryz.sizeOf22
  v22:=Tryz.zeroValue22
  t25:=Tryz.underlying111
  a25:=Tryz.isAgg111
  z25:=Tryz.sizeOf111
  v25:=Tryz.zeroValue111
  t39:=Tryz.underlying25
  a39:=Tryz.isAgg25
  z39:=Tryz.sizeOf25
  v39:=Tryz.zeroValue25
  t45:=Tryz.underlying130
  a45:=Tryz.isAgg130
  z45:=Tryz.sizeOf130
  v45:=Tryz.zeroValue130
  t46:=Tryz.underlying131
  a46:=Tryz.isAgg131
  z46:=Tryz.sizeOf131
  v46:=Tryz.zeroValue131
  t50:=Tryz.underlying135
  a50:=Tryz.isAgg135
  z50:=Tryz.sizeOf135
  v50:=Tryz.zeroValue135
  t53:=Tryz.underlying119
  a53:=Tryz.isAgg119
  z53:=Tryz.sizeOf119
  v53:=Tryz.zeroValue119
  t55:=Tryz.underlying139
  a55:=Tryz.isAgg139
  z55:=Tryz.sizeOf139
  v55:=Tryz.zeroValue139
  t66:=Tryz.underlying143
  a66:=Tryz.isAgg143
  z66:=Tryz.sizeOf143
  v66:=Tryz.zeroValue143
  t70:=Tryz.underlying147
  a70:=Tryz.isAgg147
  z70:=Tryz.sizeOf147
  v70:=Tryz.zeroValue147
  t76:=Tryz.underlying152
  a76:=Tryz.isAgg152
  z76:=Tryz.sizeOf152
  v76:=Tryz.zeroValue152
  t77:=Tryz.underlying153
  a77:=Tryz.isAgg153
  z77:=Tryz.sizeOf153
  v77:=Tryz.zeroValue153 }
end Go.Proofs.YtkebegfopnlkhaaGreat
/-
  ch. 39z: where cmp.Compare lies (laying of the shelf's contract, written by the shelf's tool).
-/
set_option maxRecDepth 100000
namespace Go.Proofs.YtkebegfopnlkhaaGreat
open Go.Shelf
def lay63_ren:Go.Shelf.Ren:=⟨fun | 5=>63 | 7=>78 | n=>n,fun | 22=>3 | 3=>3 | 4=>4 | n=>n,fun | n=>n⟩
theorem lay63:Go.Proofs.SlLaysC2.n5 Tryz.prog lay63_ren:={
  mixed:=by kernel_rfl
  f5:=⟨Tryz.f63.name,by decide,Tryz.func63.trans (congrArg some (by kernel_rfl))⟩
  f7:=⟨Tryz.f78.name,by decide,Tryz.func78.trans (congrArg some (by kernel_rfl))⟩
  t3:=Tryz.underlying3
  a3:=Tryz.isAgg3
  z3:=Tryz.sizeOf3
  v3:=Tryz.zeroValue3
  t4:=Tryz.underlying4
  a4:=Tryz.isAgg4
  z4:=Tryz.sizeOf4
  v4:=Tryz.zeroValue4
  t22:=Tryz.underlying3
  a22:=Tryz.isAgg3
  z22:=Tryz.sizeOf3
  v22:=Tryz.zeroValue3 }
end Go.Proofs.YtkebegfopnlkhaaGreat
/-
  ch. 39: the comparator of extent.sorted, on raw cells (a walk of the kit's).
-/
set_option maxRecDepth 100000
namespace Go.Proofs.YtkebegfopnlkhaaGreat
open Go.RowKit Go.Shelf Go.Proofs Go.Sort
set_option maxHeartbeats 1000000 in
theorem closure79 (a b c d:Int) (W:World):Calls Tryz.prog 62 #[.agg #[.int .i64 a,.int .i64 b],.agg #[.int .i64 c,.int .i64 d]] W fun e w'=>e = .returned (.int .i64 (Lib.compareInt a c))∧∃ q os',w'=grow (W.drewN q) os':=by
  have hcon:=fun W'=>AnyG.cmp_Compare_int lay63 a c W'
  change ∀ W',Calls Tryz.prog 63 _ _ _ at hcon
  generalize Lib.compareInt a c=r at hcon ⊢
  go_enter Tryz.func62,Tryz.ntmps62
  go_wp2_with (go_at_call 63;refine (hcon _).mono ?_;rintro e w' ⟨rfl,rfl⟩)
  go_ret
  exact ⟨rfl,0,_,by rw [alloc_eq_grow,alloc_eq_grow,grow_grow];rfl⟩
theorem compareInt_eq (a c:Int):Lib.compareInt a c=if a < c then -1 else if c < a then 1 else 0:=by
  unfold Lib.compareInt
  split
  · rfl
  · split <;> simp_all
theorem raw62 (a b c d r:Int) (hr:r=if a < c then -1 else if c < a then 1 else 0):Go.AE.RawCmp Tryz.prog 62 [.int .i64,.int .i64] [.int a,.int b] [.int c,.int d] r:=by
  intro W al us vs h1 h2
  obtain ⟨us',e1,l1,_,r1⟩:=h1
  obtain ⟨vs',e2,l2,_,r2⟩:=h2
  have u0:=r1 0 (by simp)
  have u1:=r1 1 (by simp)
  have v0:=r2 0 (by simp)
  have v1:=r2 1 (by simp)
  rw [e1,e2]
  match us',l1,vs',l2 with
  | [x0,x1],_,[y0,y1],_ =>
    simp only [List.getD_cons_zero,List.getD_cons_succ,Go.AE.cg_zero,Go.AE.cg_succ] at u0 u1 v0 v1
    cases u0;cases u1;cases v0;cases v1
    have h:=closure79 a b c d W
    rw [compareInt_eq,← hr] at h
    exact h
set_option maxHeartbeats 1000000 in
theorem size46 (a:Int) (t:ByteArray) (W:World):Calls Tryz.prog 51 #[.agg #[.int .i64 a,.string t]] W fun e w'=>e = .returned (.int .i64 (wrap64 (2+(t.size:Int))))∧W.grownBy w' none:=by
  go_enter Tryz.func51,Tryz.ntmps51
  go_wp2
  go_ret
  exact ⟨rfl,Go.AE.grown_alloc _ _⟩
def sz49 (kl dl:Nat):Int:=if kl=0 then wrap64 (32+(dl:Int)) else wrap64 (wrap64 (wrap64 (32+(dl:Int))+16)+(kl:Int))
set_option maxRecDepth 1000000 in
set_option maxHeartbeats 1000000 in
theorem size49 (r:Int) (ka:Option Addr) (kl kc:Nat) (da:Option Addr) (dl dc:Nat) (bad:Bool) (W:World):Calls Tryz.prog 54 #[.agg #[.int .i64 r,.slice ka kl kc,.slice da dl dc,.bool bad]] W fun e w' =>
    e = .returned (.int .i64 (sz49 kl dl))∧W.grownBy w' none:=by
  rcases Nat.eq_zero_or_pos kl with rfl | hk
  · have e:sz49 0 dl=wrap64 (32+(dl:Int)):=if_pos rfl
    rw [e]
    go_enter Tryz.func54,Tryz.ntmps54
    go_wp2
    go_ret
    exact ⟨rfl,Go.AE.grown_alloc _ _⟩
  · have h0:¬ ((kl:Int)=0):=by omega
    have e:sz49 kl dl=wrap64 (wrap64 (wrap64 (32+(dl:Int))+16)+(kl:Int)):=if_neg (by omega)
    rw [e]
    go_enter Tryz.func54,Tryz.ntmps54
    go_wp2
    go_ret
    exact ⟨rfl,Go.AE.grown_alloc _ _⟩
theorem list3 {vs:List Value} (h:vs.length=3):∃ a b c,vs=[a,b,c]:=by
  match vs,h with
  | [a,b,c],_=>exact ⟨a,b,c,rfl⟩
set_option maxHeartbeats 1000000 in
theorem maker45:Go.AE.Maker Tryz.prog 50 72 [23,3,97]:=by
  refine ⟨fun args w=>by exact Tryz.call50 args w,fun vs w hl hv=>?_⟩
  obtain ⟨a,b,c,rfl⟩:=list3 hl
  have h1:=hv a (by simp)
  have h2:=hv b (by simp)
  have h3:=hv c (by simp)
  clear hv hl
  go_enter Tryz.func50,Tryz.ntmps50
  go_wp2
  all_goals first | (exfalso;revert h1;simp [Value.oneCell'];done) | (exfalso;revert h2;simp [Value.oneCell'];done) | (exfalso;revert h3;simp [Value.oneCell'];done) | (go_ret;exact ⟨rfl,rfl⟩)
set_option maxHeartbeats 1000000 in
theorem maker48:Go.AE.Maker Tryz.prog 53 74 [71,3,102]:=by
  refine ⟨fun args w=>by exact Tryz.call53 args w,fun vs w hl hv=>?_⟩
  obtain ⟨a,b,c,rfl⟩:=list3 hl
  have h1:=hv a (by simp)
  have h2:=hv b (by simp)
  have h3:=hv c (by simp)
  clear hv hl
  go_enter Tryz.func53,Tryz.ntmps53
  go_wp2
  all_goals first | (exfalso;revert h1;simp [Value.oneCell'];done) | (exfalso;revert h2;simp [Value.oneCell'];done) | (exfalso;revert h3;simp [Value.oneCell'];done) | (go_ret;exact ⟨rfl,rfl⟩)
end Go.Proofs.YtkebegfopnlkhaaGreat
