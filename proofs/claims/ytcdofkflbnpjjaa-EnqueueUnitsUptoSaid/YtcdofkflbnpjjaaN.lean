/- Text. -/
import Derived.Shelf.SlLaysF0
import Derived.Test.YtcdofkflbnpjjaaProg
import Derived.Test.YtcdofkflbnpjjaaT
import Derived.Laws.Externs
import Derived.WalkKit
import GoSem.Extern.BytealgCompare
set_option linter.unusedSimpArgs false
set_option linter.unusedVariables false
set_option maxRecDepth 100000
namespace Go.Proofs.Ytcdofkflbnpjjaa
open Go.Shelf
def lay67_ren:Go.Shelf.Ren:=⟨fun | 6=>67 | 15=>73 | 14=>81 | 28=>91 | 29=>92 | 20=>95 | 21=>96 | 22=>97 | 23=>98 | 24=>99 | 25=>100 | 26=>101 | 27=>102 | 46=>109 | 47=>105 | 48=>106 | 49=>110 | 50=>111 | 57=>113 | n=>n,fun | 22=>43 | 24=>92 | 25=>123 | 3=>3 | 39=>128 | 0=>0 | 53=>144 | 55=>146 | 4=>4 | 46=>138 | 45=>137 | 50=>107 | 5=>5 | 9=>9 | 66=>154 | 70=>158 | 76=>162 | 77=>163 | n=>n,fun | n=>n⟩
theorem lay67:Go.Proofs.SlLaysF0.n6 Try.prog lay67_ren:={
  mixed:=by kernel_rfl
  f6:=⟨Try.f67.name,by decide,Try.func67.trans (congrArg some (by kernel_rfl))⟩
  f14:=⟨Try.f81.name,by decide,Try.func81.trans (congrArg some (by kernel_rfl))⟩
  f15:=Try.func73.trans (congrArg some (by kernel_rfl))
  f20:=⟨Try.f95.name,by decide,Try.func95.trans (congrArg some (by kernel_rfl))⟩
  f21:=⟨Try.f96.name,by decide,Try.func96.trans (congrArg some (by kernel_rfl))⟩
  f22:=⟨Try.f97.name,by decide,Try.func97.trans (congrArg some (by kernel_rfl))⟩
  f23:=⟨Try.f98.name,by decide,Try.func98.trans (congrArg some (by kernel_rfl))⟩
  f24:=⟨Try.f99.name,by decide,Try.func99.trans (congrArg some (by kernel_rfl))⟩
  f25:=⟨Try.f100.name,by decide,Try.func100.trans (congrArg some (by kernel_rfl))⟩
  f26:=⟨Try.f101.name,by decide,Try.func101.trans (congrArg some (by kernel_rfl))⟩
  f27:=⟨Try.f102.name,by decide,Try.func102.trans (congrArg some (by kernel_rfl))⟩
  f28:=Try.func91.trans (congrArg some (by kernel_rfl))
  f29:=Try.func92.trans (congrArg some (by kernel_rfl))
  f46:=⟨Try.f109.name,by decide,Try.func109.trans (congrArg some (by kernel_rfl))⟩
  f47:=Try.func105.trans (congrArg some (by kernel_rfl))
  f48:=Try.func106.trans (congrArg some (by kernel_rfl))
  f49:=⟨Try.f110.name,by decide,Try.func110.trans (congrArg some (by kernel_rfl))⟩
  f50:=⟨Try.f111.name,by decide,Try.func111.trans (congrArg some (by kernel_rfl))⟩
  f57:=⟨Try.f113.name,by decide,Try.func113.trans (congrArg some (by kernel_rfl))⟩
  t0:=Try.underlying0
  a0:=Try.isAgg0
  z0:=Try.sizeOf0
  v0:=Try.zeroValue0
  t3:=Try.underlying3
  a3:=Try.isAgg3
  z3:=Try.sizeOf3
  v3:=Try.zeroValue3
  t4:=Try.underlying4
  a4:=Try.isAgg4
  z4:=Try.sizeOf4
  v4:=Try.zeroValue4
  t5:=Try.underlying5
  a5:=Try.isAgg5
  z5:=Try.sizeOf5
  v5:=Try.zeroValue5
  t9:=Try.underlying9
  a9:=Try.isAgg9
  z9:=Try.sizeOf9
  v9:=Try.zeroValue9
  t22:=Try.underlying43
  a22:=Try.isAgg43
  z22:=Try.sizeOf43
  v22:=Try.zeroValue43
  t25:=Try.underlying123
  a25:=Try.isAgg123
  z25:=Try.sizeOf123
  v25:=Try.zeroValue123
  t39:=Try.underlying128
  a39:=Try.isAgg128
  z39:=Try.sizeOf128
  v39:=Try.zeroValue128
  t45:=Try.underlying137
  a45:=Try.isAgg137
  z45:=Try.sizeOf137
  v45:=Try.zeroValue137
  t46:=Try.underlying138
  a46:=Try.isAgg138
  z46:=Try.sizeOf138
  v46:=Try.zeroValue138
  t50:=Try.underlying107
  a50:=Try.isAgg107
  z50:=Try.sizeOf107
  v50:=Try.zeroValue107
  t53:=Try.underlying144
  a53:=Try.isAgg144
  z53:=Try.sizeOf144
  v53:=Try.zeroValue144
  t55:=Try.underlying146
  a55:=Try.isAgg146
  z55:=Try.sizeOf146
  v55:=Try.zeroValue146
  t66:=Try.underlying154
  a66:=Try.isAgg154
  z66:=Try.sizeOf154
  v66:=Try.zeroValue154
  t70:=Try.underlying158
  a70:=Try.isAgg158
  z70:=Try.sizeOf158
  v70:=Try.zeroValue158
  t76:=Try.underlying162
  a76:=Try.isAgg162
  z76:=Try.sizeOf162
  v76:=Try.zeroValue162
  t77:=Try.underlying163
  a77:=Try.isAgg163
  z77:=Try.sizeOf163
  v77:=Try.zeroValue163 }
end Go.Proofs.Ytcdofkflbnpjjaa
/-
  ch. 37: the comparator of enqueue.normalize, on raw cells (a walk of the kit's).
-/
set_option maxRecDepth 100000
set_option linter.unusedVariables false
namespace Go.Proofs.Ytcdofkflbnpjjaa
open Go.RowKit Go.Shelf Go.Proofs Go.Sort
def cmpS (x y:List UInt8):Int:=if Op.bytesLess x y=true then -1 else if x=y then 0 else 1
theorem find_succ (n:Nat) (p:Nat→Bool):(List.range (n+1)).find? p=if p 0=true then some 0 else ((List.range n).find? fun i=>p (i+1)).map (· + 1):=by
  rw [List.range_succ_eq_map,List.find?_cons]
  cases h:p 0
  · simp only [List.find?_map,Function.comp_def,Bool.false_eq_true,if_false]
  · simp
theorem ba_get (x:List UInt8) (i:Nat):(⟨x.toArray⟩:ByteArray)[i]! = x.getD i 0:=by
  by_cases h:i < x.length
  · rw [getElem!_pos _ _ (by simpa [ByteArray.size] using h)]
    simp [List.getD_eq_getElem?_getD,h,ByteArray.getElem_eq_getElem_data]
  · rw [getElem!_neg _ _ (by simpa [ByteArray.size] using h)]
    simp [List.getD_eq_getElem?_getD,Nat.le_of_not_lt h]
    rfl
def cmpL (x y:List UInt8):Int :=
  match (List.range (min x.length y.length)).find? fun i=>x.getD i 0 != y.getD i 0 with
  | some i=>if x.getD i 0 < y.getD i 0 then -1 else 1
  | none=>if x.length < y.length then -1 else if x.length > y.length then 1 else 0
theorem cmpL_eq:∀ (x y:List UInt8),cmpL x y=cmpS x y
  | [],[]=>by decide
  | [],y :: ys=>by simp [cmpL,cmpS,Op.bytesLess]
  | x :: xs,[]=>by simp [cmpL,cmpS,Op.bytesLess]
  | x :: xs,y :: ys=>by
    have ih:=cmpL_eq xs ys
    have hl:min (x :: xs).length (y :: ys).length=min xs.length ys.length+1:=by simp only [List.length_cons];omega
    unfold cmpL at ih ⊢
    rw [hl,find_succ]
    by_cases hxy:x=y
    · subst hxy
      have e1:((x :: xs).getD 0 0 != (x :: ys).getD 0 0)=false:=by simp
      rw [e1]
      simp only [Bool.false_eq_true,if_false,List.getD_cons_succ,List.length_cons]
      have e2:cmpS (x :: xs) (x :: ys)=cmpS xs ys:=by
        unfold cmpS
        have:Op.bytesLess (x :: xs) (x :: ys)=Op.bytesLess xs ys:=by simp [Op.bytesLess]
        rw [this];simp
      rw [e2,← ih]
      cases (List.range (min xs.length ys.length)).find? fun i=>xs.getD i 0 != ys.getD i 0 with
      | some i=>simp
      | none=>simp
    · have e1:((x :: xs).getD 0 0 != (y :: ys).getD 0 0)=true:=by simpa using hxy
      rw [e1]
      simp only [if_true,List.getD_cons_zero]
      have e3:(x == y)=false:=by simpa using hxy
      by_cases hlt:x < y
      · simp [cmpS,Op.bytesLess,hlt]
      · have:¬ (x :: xs=y :: ys):=fun h=>hxy (List.cons.inj h).1
        simp [cmpS,Op.bytesLess,hlt,hxy]
theorem cmp_eq (x y:List UInt8):Extern.BytealgCompare.cmp ⟨x.toArray⟩ ⟨y.toArray⟩=cmpS x y:=by
  rw [← cmpL_eq]
  unfold Extern.BytealgCompare.cmp cmpL
  have hs:∀ l:List UInt8,(⟨l.toArray⟩:ByteArray).size=l.length:=fun l=>rfl
  simp only [hs,ba_get]
  rfl
theorem run103 (x y:List UInt8) (W:World):(callFunc 103 #[.string ⟨x.toArray⟩,.string ⟨y.toArray⟩]).run Try.prog W = .ok (.value (.int .i64 (cmpS x y))) W:=by
  rw [run_callFunc_extern Try.func103 (by kernel_rfl) (by kernel_rfl) (by kernel_rfl) (e:=Extern.BytealgCompare.compare) (by kernel_rfl)]
  rw [← cmp_eq]
  rfl
set_option maxHeartbeats 1000000 in
theorem closure82 (x y:List UInt8) (W:World):Calls Try.prog 82 #[.string ⟨x.toArray⟩,.string ⟨y.toArray⟩] W fun e w'=>e = .returned (.int .i64 (cmpS x y))∧w'=W:=by
  go_enter Try.func82,Try.ntmps82
  go_wp2
  rw [run103]
  rw [Oper.upon_value]
  go_wp2
  go_ret
  exact ⟨rfl,rfl⟩
set_option maxHeartbeats 1000000 in
theorem closure69 (x y:List UInt8) (W:World):Calls Try.prog 69 #[.string ⟨x.toArray⟩,.string ⟨y.toArray⟩] W fun e w'=>e = .returned (.int .i64 (cmpS x y))∧w'=W:=by
  go_enter Try.func69,Try.ntmps69
  go_wp2_with (go_at_call 82;refine (closure82 x y _).mono ?_;rintro e w' ⟨rfl,rfl⟩)
  go_ret
  exact ⟨rfl,rfl⟩
set_option maxHeartbeats 1000000 in
theorem closure68 (x y:List UInt8) (a b:Bool) (W:World):Calls Try.prog 68 #[.agg #[.string ⟨x.toArray⟩,.bool a],.agg #[.string ⟨y.toArray⟩,.bool b]] W fun e w'=>e = .returned (.int .i64 (cmpS x y))∧∃ q os',w'=grow (W.drewN q) os':=by
  go_enter Try.func68,Try.ntmps68
  go_wp2_with (go_at_call 69;refine (closure69 x y _).mono ?_;rintro e w' ⟨rfl,rfl⟩)
  go_ret
  exact ⟨rfl,0,_,by rw [alloc_eq_grow,alloc_eq_grow,grow_grow];rfl⟩
def enqueue_normalize_1 (n:Nat) (a b:TWant):Option Int:=some (cmpS a.Name b.Name)
theorem raw68 {n:Nat} (x y:TWant) (c:Int) (h:enqueue_normalize_1 n x y=some c):Go.AE.RawCmp Try.prog 68 [.str,.bool] (e_TWant x) (e_TWant y) c:=by
  simp only [enqueue_normalize_1,Option.some.injEq] at h
  subst h
  intro W al us vs h1 h2
  obtain ⟨us',e1,l1,_,r1⟩:=h1
  obtain ⟨vs',e2,l2,_,r2⟩:=h2
  have u0:=r1 0 (by simp)
  have u1:=r1 1 (by simp)
  have v0:=r2 0 (by simp)
  have v1:=r2 1 (by simp)
  rw [e1,e2]
  match us',l1,vs',l2 with
  | [x0,x1],_,[y0,y1],_ =>
    simp only [List.getD_cons_zero,List.getD_cons_succ,Go.AE.cg_zero,Go.AE.cg_succ,e_TWant] at u0 u1 v0 v1
    cases u0;cases u1;cases v0;cases v1
    exact closure68 x.Name y.Name _ _ W
end Go.Proofs.Ytcdofkflbnpjjaa
