/- Text. -/
import Derived.Test.YtfhnelkbiihpiaaGreatDoorAE2
set_option linter.unusedVariables false
open _root_.Option.some renaming injEq→ja
open _root_.Prod.mk renaming injEq→jj
namespace Go.AE
open Go.RowKit (Below)
theorem InR.wrap (k:IntKind) (n:Int):InR k (k.wrap n):=by
 cases k <;> simp only [InR,IntKind.wrap,IntKind.min,IntKind.max,IntKind.bits,IntKind.signed] <;> simp <;> (try split) <;> omega
theorem dka (a b:Int):(0≤a→0≤a.tmod b∧a.tmod b≤a)∧(a≤0→a≤a.tmod b∧a.tmod b≤0):=by
 have hn:(a.tmod b).natAbs≤a.natAbs:=by rw [Int.natAbs_tmod];exact Nat.mod_le _ _
 refine ⟨fun h=>?_,fun h=>?_⟩
 ·have:=Int.tmod_nonneg b h;omega
 ·have:=Int.tmod_nonneg b (a:=-a) (by omega);rw [Int.neg_tmod] at this;omega
theorem InR.tmod {k:IntKind} {a b:Int} (ha:InR k a):InR k (a.tmod b):=by
 have h:=dka a b
 revert ha
 cases k <;> simp only [InR,IntKind.min,IntKind.max,IntKind.bits,IntKind.signed] <;> simp <;> omega
variable {P:Program} {w:World} {al:Nat→Prop} {σ:Nat→RefI}
theorem ARel.int_inv {k:IntKind} {v:Value} {x:C} (h:ARel P w al σ v (.c (.int k) x)):v = .int k x.toInt∧InR k x.toInt:=by
 cases h with
 | c _ _ _ h=>cases h with | int _ _ h=>exact ⟨rfl,h⟩
theorem ARel.bool_inv {v:Value} {x:C} (h:ARel P w al σ v (.c .bool x)):v = .bool x.toBool:=by
 cases h with
 | c _ _ _ h=>cases h;rfl
theorem ARel.str_inv {v:Value} {x:C} (h:ARel P w al σ v (.c .str x)):v = .string ⟨x.toStr.toArray⟩∧x.toStr.length≤9223372036854775807:=by
 cases h with
 | c _ _ _ h=>cases h with | str _ h=>exact ⟨rfl,h⟩
theorem ARel.mk_int {k:IntKind} {n:Int} (h:InR k n):ARel P w al σ (.int k n) (ki k n):=.c _ _ _ (.int k (.int n) h)
theorem ARel.mk_bool (b:Bool):ARel P w al σ (.bool b) (kb b):=.c _ _ _ (.bool (.bool b))
theorem ARel.mk_str {s:List UInt8} (h:s.length≤9223372036854775807):ARel P w al σ (.string ⟨s.toArray⟩) (.c .str (.str s)):=.c _ _ _ (.str (.str s) h)
theorem cj4 (s:List UInt8):(⟨s.toArray⟩:ByteArray).toList=s:=by
 have:(⟨s.toArray⟩:ByteArray).toList=(⟨s.toArray⟩:ByteArray).data.toList:=by
  simp
 rw [this]
theorem cye {op:BinOp} {k:IntKind} {a b:Int} {p:Prop} {z:A} (h:akh op k a b=some (p,z)) (hp:p) (ha:InR k a) (hb:InR k b) (t:TypeId) :
  ∃ v,(binOp op t (.int k a) (.int k b)).run P w = .ok v w∧ARel P w al σ v z:=by
 cases op <;> simp only [akh,ja,jj,reduceCtorEq] at h <;> obtain ⟨rfl,rfl⟩:=h
 case add=>exact ⟨.int k (k.wrap (a+b)),by simp [binOp,Op.intArith],ARel.mk_int (InR.wrap _ _)⟩
 case sub=>exact ⟨.int k (k.wrap (a - b)),by simp [binOp,Op.intArith],ARel.mk_int (InR.wrap _ _)⟩
 case mul=>exact ⟨.int k (k.wrap (a * b)),by simp [binOp,Op.intArith],ARel.mk_int (InR.wrap _ _)⟩
 case quo=>exact ⟨.int k (k.wrap (a.tdiv b)),by simp [binOp,Op.intDiv,hp],ARel.mk_int (InR.wrap _ _)⟩
 case rem=>exact ⟨.int k (a.tmod b),by simp [binOp,Op.intDiv,hp],ARel.mk_int ha.tmod⟩
 case and=>exact ⟨.int k (k.wrap (BitVec.ofInt k.bits a &&& BitVec.ofInt k.bits b).toNat),by simp [binOp,Op.intBits],ARel.mk_int (InR.wrap _ _)⟩
 case or=>exact ⟨.int k (k.wrap (BitVec.ofInt k.bits a ||| BitVec.ofInt k.bits b).toNat),by simp [binOp,Op.intBits],ARel.mk_int (InR.wrap _ _)⟩
 case xor=>exact ⟨.int k (k.wrap (BitVec.ofInt k.bits a ^^^ BitVec.ofInt k.bits b).toNat),by simp [binOp,Op.intBits],ARel.mk_int (InR.wrap _ _)⟩
 case andNot=>exact ⟨.int k (k.wrap (BitVec.ofInt k.bits a &&& ~~~BitVec.ofInt k.bits b).toNat),by simp [binOp,Op.intBits],ARel.mk_int (InR.wrap _ _)⟩
 case eql=>exact ⟨.bool (a == b),by simp [binOp,Op.intCmp],ARel.mk_bool _⟩
 case neq=>exact ⟨.bool (a != b),by simp [binOp,Op.intCmp],ARel.mk_bool _⟩
 case lss=>exact ⟨.bool (decide (a < b)),by simp [binOp,Op.intCmp],ARel.mk_bool _⟩
 case leq=>exact ⟨.bool (decide (a≤b)),by simp [binOp,Op.intCmp],ARel.mk_bool _⟩
 case gtr=>exact ⟨.bool (decide (a > b)),by simp [binOp,Op.intCmp],ARel.mk_bool _⟩
 case geq=>exact ⟨.bool (decide (a ≥ b)),by simp [binOp,Op.intCmp],ARel.mk_bool _⟩
theorem cyn {op:BinOp} {x y:List UInt8} {p:Prop} {z:A} (h:bw4 op x y=some (p,z)) (hp:p) (t:TypeId) :
  ∃ v,(binOp op t (.string ⟨x.toArray⟩) (.string ⟨y.toArray⟩)).run P w = .ok v w∧ARel P w al σ v z:=by
 cases op <;> simp only [bw4,ja,jj,reduceCtorEq] at h <;> obtain ⟨rfl,rfl⟩:=h
 ·refine ⟨.string ⟨(x ++ y).toArray⟩,?_,ARel.mk_str (by simp;omega)⟩
  have hs:¬ (((⟨x.toArray⟩:ByteArray).size+(⟨y.toArray⟩:ByteArray).size:Nat):Int) > IntKind.i64.max:=by
   simp only [ByteArray.size,List.size_toArray,IntKind.max,IntKind.signed,IntKind.bits]
   simp
   omega
  have he:(⟨x.toArray⟩:ByteArray) ++ ⟨y.toArray⟩=⟨(x ++ y).toArray⟩:=by
   apply ByteArray.ext;simp
  simp only [binOp,Op.stringOp]
  rw [if_neg hs,he];rfl
 all_goals
  simp only [binOp,Op.stringOp,cj4]
  refine ⟨_,rfl,?_⟩
  first | exact ARel.mk_bool _ | (simp only [bne];exact ARel.mk_bool _)
structure ez7 (P:Program) (t:TypeId) (T:TyI) where
 i:TypeInfo
 d:TypeDesc
 info:P.info? t=some i
 und:P.underlying t=some d
 kinds:aqi P 12 t=some T.kinds
 size:i.size=T.kinds.length
 ne:T.kinds≠[]
 bytes:i.bytes=T.bytes
 pos:0 < T.bytes
 agg:T.agg=awn d
 fields:T.fields=ay6 d
 elem:T.elem=dqi d
 fit:bkc P T.kinds.length d=true
 z:Value
 zero:i.zero=some z
 zfits:akp T.kinds z.cells.toList=true
 zagg:awn d=dwu z
theorem ajk {t:TypeId} {T:TyI} (h:tyI P t=some T):Nonempty (ez7 P t T):=by
 unfold tyI at h
 split at h
 ·rename_i i d ks hi hd hk
  split at h
  ·rename_i hok
   simp only [ja] at h
   subst h
   simp only [tyOk,Bool.and_eq_true,beq_iff_eq,decide_eq_true_eq] at hok
   obtain ⟨h1,h2,h3,h4,h5⟩:=hok
   cases hz:i.zero with
   | none=>simp [hz] at h5
   | some z =>
    simp only [hz,Bool.and_eq_true,beq_iff_eq] at h5
    exact ⟨⟨i,d,hi,hd,hk,h1,by simpa using h2,rfl,h3,rfl,rfl,rfl,h4,z,hz,h5.1,h5.2⟩⟩
  ·cases h
 ·cases h
theorem dz2 {t:TypeId} (h:cz9 (tyI P t)=true):P.underlying t=some .bool:=by
 unfold cz9 at h
 split at h
 ·rename_i f e b hT
  obtain ⟨T⟩:=ajk hT
  have hk:=T.kinds
  have ha:=T.agg
  have hd:=T.und
  rw [hd]
  generalize T.d=d at *
  simp only [aqi,hd] at hk
  cases d <;> simp [awn] at hk ha ⊢
 ·cases h
theorem run_equalIn_bool {t:TypeId} (h:P.underlying t=some .bool) (d:Nat) (a b:Bool):(Op.equalIn (d+1) t (.bool a) (.bool b)).run P w = .ok (a == b) w:=by
 simp [Op.equalIn,run_underlying h]
theorem run_equal_bool {t:TypeId} (h:P.underlying t=some .bool) (a b:Bool):(Op.equal t (.bool a) (.bool b)).run P w = .ok (a == b) w:=run_equalIn_bool h 9999 a b
theorem run_eql_bool {t:TypeId} (h:P.underlying t=some .bool) (a b:Bool) (ox oy:Operand) :
  (do eqGuard .eql t ox oy (.bool a) (.bool b);binOp .eql t (.bool a) (.bool b):Sem Value).run P w = .ok (.bool (a == b)) w:=by
 have hg:(eqGuard .eql t ox oy (.bool a) (.bool b)).run P w = .ok () w:=rfl
 have hb:(binOp .eql t (.bool a) (.bool b))=(do pure (.bool (← Op.equal t (.bool a) (.bool b)))):=rfl
 rw [hb]
 simp only [Sem.run_bind,hg,Result.andThen_ok,run_equal_bool h,Sem.run_pure]
theorem run_neq_bool {t:TypeId} (h:P.underlying t=some .bool) (a b:Bool) (ox oy:Operand) :
  (do eqGuard .neq t ox oy (.bool a) (.bool b);binOp .neq t (.bool a) (.bool b):Sem Value).run P w = .ok (.bool (a != b)) w:=by
 have hg:(eqGuard .neq t ox oy (.bool a) (.bool b)).run P w = .ok () w:=rfl
 have hb:(binOp .neq t (.bool a) (.bool b))=(do pure (.bool (!(← Op.equal t (.bool a) (.bool b))))):=rfl
 rw [hb]
 simp only [Sem.run_bind,hg,Result.andThen_ok,run_equal_bool h,Sem.run_pure,bne]
theorem dzu {op:BinOp} {x y:A} {vx vy:Value} {p:Prop} {z:A} (t:TypeId) (h:binA op (tyI P t) x y=some (p,z)) (hp:p) (hx:ARel P w al σ vx x) (hy:ARel P w al σ vy y) (ox oy:Operand) :
  ∃ v,(do eqGuard op t ox oy vx vy;binOp op t vx vy:Sem Value).run P w = .ok v w∧ARel P w al σ v z:=by
 unfold binA at h
 split at h
 ·rename_i k x k' y
  split at h
  ·rename_i e;subst e
   obtain ⟨rfl,ha⟩:=hx.int_inv
   obtain ⟨rfl,hb⟩:=hy.int_inv
   obtain ⟨v,hr,hv⟩:=cye (P:=P) (w:=w) (al:=al) (σ:=σ) h hp ha hb t
   refine ⟨v,?_,hv⟩
   have hg:(eqGuard op t ox oy (.int k x.toInt) (.int k y.toInt)).run P w = .ok () w:=by
    unfold eqGuard;cases op <;> rfl
   simp [hg,hr]
  ·cases h
 ·rename_i x y
  obtain ⟨rfl,ha⟩:=hx.str_inv
  obtain ⟨rfl,hb⟩:=hy.str_inv
  obtain ⟨v,hr,hv⟩:=cyn (P:=P) (w:=w) (al:=al) (σ:=σ) h hp t
  refine ⟨v,?_,hv⟩
  have hg:(eqGuard op t ox oy (.string ⟨x.toStr.toArray⟩) (.string ⟨y.toStr.toArray⟩)).run P w = .ok () w:=by
   unfold eqGuard;cases op <;> rfl
  simp [hg,hr]
 ·rename_i x y
  have ha:=hx.bool_inv
  have hb:=hy.bool_inv
  subst ha hb
  split at h
  ·split at h
   ·rename_i hb
    simp only [ja,jj] at h;obtain ⟨rfl,rfl⟩:=h
    exact ⟨.bool (x.toBool == y.toBool),run_eql_bool (dz2 hb) _ _ _ _,ARel.mk_bool _⟩
   ·cases h
  ·split at h
   ·rename_i hb
    simp only [ja,jj] at h;obtain ⟨rfl,rfl⟩:=h
    exact ⟨.bool (x.toBool != y.toBool),run_neq_bool (dz2 hb) _ _ _ _,ARel.mk_bool _⟩
   ·cases h
  ·cases h
 ·cases h
end Go.AE
