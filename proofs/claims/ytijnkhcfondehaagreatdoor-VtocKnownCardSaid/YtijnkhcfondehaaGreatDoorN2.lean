/- Text. -/
import Derived.Test.YtijnkhcfondehaaGreatDoorT
import Derived.Test.YtijnkhcfondehaaGreatDoorL166
import Derived.Test.YtijnkhcfondehaaGreatDoorAE41
import Derived.Test.YtijnkhcfondehaaGreatDoorAE28
import Derived.Shelf.SlicesG.Cmp
import Derived.Shelf.Strings.SlTrimAscii
import Derived.Shelf.Strings.Split
import Derived.Laws.Externs
import Derived.WalkKit
import GoSem.Extern.BytealgCompare
set_option linter.unusedSimpArgs false
set_option linter.unusedVariables false
set_option maxRecDepth 100000
open _root_.List renaming range→Jk,getD_eq_getElem?_getD→ja,length_cons→jK,getD_cons_succ→jM,getD_cons_zero→jW,length_map→jH
open _root_.Nat renaming le_trans→j8,le_refl→jB
open Go.Op renaming bytesLess→Jn
open Go.Proofs.Tryz renaming prog→jd
namespace Go.Proofs.YtijnkhcfondehaaGreatDoor
open Go.RowKit Go.Shelf Go.Proofs Go.Sort
def cmpS (x y:List UInt8):Int:=if Jn x y=true then -1 else if x=y then 0 else 1
theorem fzm (n:Nat) (p:Nat→Bool):(Jk (n+1)).find? p=if p 0=true then some 0 else ((Jk n).find? fun i=>p (i+1)).map (· + 1):=by
 rw [List.range_succ_eq_map,List.find?_cons]
 cases h:p 0
 ·simp only [List.find?_map,Function.comp_def,Bool.false_eq_true,if_false]
 ·simp
theorem gkb (x:List UInt8) (i:Nat):(⟨x.toArray⟩:ByteArray)[i]! = x.getD i 0:=by
 by_cases h:i < x.length
 ·rw [getElem!_pos _ _ (by simpa [ByteArray.size] using h)]
  simp [ja,h,ByteArray.getElem_eq_getElem_data]
 ·rw [getElem!_neg _ _ (by simpa [ByteArray.size] using h)]
  simp [ja,Nat.le_of_not_lt h]
  rfl
def cmpL (x y:List UInt8):Int :=
 match (Jk (min x.length y.length)).find? fun i=>x.getD i 0 != y.getD i 0 with
 | some i=>if x.getD i 0 < y.getD i 0 then -1 else 1
 | none=>if x.length < y.length then -1 else if x.length > y.length then 1 else 0
theorem cmpL_eq:∀ (x y:List UInt8),cmpL x y=cmpS x y
 | [],[]=>by decide
 | [],y :: ys=>by simp [cmpL,cmpS,Jn]
 | x :: xs,[]=>by simp [cmpL,cmpS,Jn]
 | x :: xs,y :: ys=>by
  have ih:=cmpL_eq xs ys
  have hl:min (x :: xs).length (y :: ys).length=min xs.length ys.length+1:=by simp only [jK];omega
  unfold cmpL at ih ⊢
  rw [hl,fzm]
  by_cases hxy:x=y
  ·subst hxy
   have e1:((x :: xs).getD 0 0 != (x :: ys).getD 0 0)=false:=by simp
   rw [e1]
   simp only [Bool.false_eq_true,if_false,jM,jK]
   have e2:cmpS (x :: xs) (x :: ys)=cmpS xs ys:=by
    unfold cmpS
    have:Jn (x :: xs) (x :: ys)=Jn xs ys:=by simp [Jn]
    rw [this];simp
   rw [e2,← ih]
   cases (Jk (min xs.length ys.length)).find? fun i=>xs.getD i 0 != ys.getD i 0 with
   | some i=>simp
   | none=>simp
  ·have e1:((x :: xs).getD 0 0 != (y :: ys).getD 0 0)=true:=by simpa using hxy
   rw [e1]
   simp only [if_true,jW]
   have e3:(x == y)=false:=by simpa using hxy
   by_cases hlt:x < y
   ·simp [cmpS,Jn,hlt]
   ·have:¬ (x :: xs=y :: ys):=fun h=>hxy (List.cons.inj h).1
    simp [cmpS,Jn,hlt,hxy]
theorem cmp_eq (x y:List UInt8):Extern.BytealgCompare.cmp ⟨x.toArray⟩ ⟨y.toArray⟩=cmpS x y:=by
 rw [← cmpL_eq]
 unfold Extern.BytealgCompare.cmp cmpL
 have hs:∀ l:List UInt8,(⟨l.toArray⟩:ByteArray).size=l.length:=fun l=>rfl
 simp only [hs,gkb]
 rfl
theorem gzq (x y:List UInt8) (W:World):(callFunc 180 #[.string ⟨x.toArray⟩,.string ⟨y.toArray⟩]).run jd W = .ok (.value (.int .i64 (cmpS x y))) W:=by
 rw [run_callFunc_extern Tryz.func180 (by kernel_rfl) (by kernel_rfl) (by kernel_rfl) (e:=Extern.BytealgCompare.compare) (by kernel_rfl)]
 rw [← cmp_eq]
 rfl
set_option maxHeartbeats 1000000 in
theorem fwh (x y:List UInt8) (W:World):Calls jd 144 #[.string ⟨x.toArray⟩,.string ⟨y.toArray⟩] W fun e w'=>e = .returned (.int .i64 (cmpS x y))∧w'=W:=by
 go_enter Tryz.func144,Tryz.ntmps144
 go_wp2
 rw [gzq]
 rw [Oper.upon_value]
 go_wp2
 go_ret
 exact ⟨rfl,rfl⟩
set_option maxHeartbeats 1000000 in
theorem fyl (x y:List UInt8) (W:World):Calls jd 94 #[.string ⟨x.toArray⟩,.string ⟨y.toArray⟩] W fun e w'=>e = .returned (.int .i64 (cmpS x y))∧w'=W:=by
 go_enter Tryz.func94,Tryz.ntmps94
 go_wp2_with (go_at_call 144;refine (fwh x y _).mono ?_;rintro e w' ⟨rfl,rfl⟩)
 go_ret
 exact ⟨rfl,rfl⟩
theorem fwm (x y:List UInt8):cmpS x y = -1∨cmpS x y=0∨cmpS x y=1:=by
 unfold cmpS;split
 ·exact .inl rfl
 ·split
  ·exact .inr (.inl rfl)
  ·exact .inr (.inr rfl)
def strings_Compare (n:Nat) (a b:List UInt8):Option Int:=some (cmpS a b)
open Go.AE in
def az6 (n:Nat):Go.AE.Fn:=mkFn (A:=List UInt8×List UInt8) (R:=Int) 94 [(false,[.str]),(false,[.str])] false (fun xs=>((cg (xs.getD 0 []) 0).toStr,(cg (xs.getD 1 []) 0).toStr)) (fun a=>[[.str a.1],[.str a.2]]) (fun a=>strings_Compare n a.1 a.2) (fun r=>[.c (.int .i64) (.int r)]) (fun r=>[])
open Go.AE in
theorem dz9 (n:Nat):aj1 jd (az6 n):=by
 refine aj1.of (fun args w=>Tryz.call94 args w) (fun _ cs=>⟨rfl,by simp [az6,mkFn]⟩) ?_
 intro w al vs cs hal hvl hcl harg hpre
 obtain ⟨hc,hs⟩:=hpre
 obtain ⟨⟨s,c⟩,hd⟩:∃ a:List UInt8×List UInt8,a=((cg (cs.getD 0 []) 0).toStr,(cg (cs.getD 1 []) 0).toStr):=⟨_,rfl⟩
 have hc':cs=[[.str s],[.str c]]:=by
  have:cs=[[.str (cg (cs.getD 0 []) 0).toStr],[.str (cg (cs.getD 1 []) 0).toStr]]:=hc
  rw [this,← (Prod.mk.inj hd).1,← (Prod.mk.inj hd).2]
 subst hc'
 have hres:((az6 n).sem [[.str s],[.str c]]).res=[.c (.int .i64) (.int (cmpS s c))]:=rfl
 have hrows:((az6 n).sem [[.str s],[.str c]]).rows=[]:=rfl
 match vs,hvl with
 | [v0,v1],_ =>
  have a0:=harg 0 (show 0 < 2 by decide)
  have a1:=harg 1 (show 1 < 2 by decide)
  obtain ⟨_,_,a0⟩:=a0
  obtain ⟨_,_,a1⟩:=a1
  have a0':RepC jd w al .str v0 (.str s):=a0
  have a1':RepC jd w al .str v1 (.str c):=a1
  cases a0' with
  | str _ h0 =>
  cases a1' with
  | str _ h1 =>
  refine Calls.mono (fyl s c w) ?_
  rintro e w' ⟨rfl,rfl⟩
  refine ⟨_,rfl,Go.RowKit.Below.refl _ _,by rw [hrows];simp,fun _=>.dead,fun j=>rfl,fun i j b h=>by simp [aj5] at h,?_⟩
  rw [hres]
  refine ARel.c _ _ _ (RepC.int .i64 (.int (cmpS s c)) ?_)
  have:=fwm s c
  show InR .i64 (cmpS s c)
  unfold InR
  have e1:IntKind.min .i64 = -9223372036854775808:=by decide
  have e2:IntKind.max .i64=9223372036854775807:=by decide
  omega
open Go.AE in
def akr (n:Nat) (s c:List UInt8):Option (List UInt8):=gd (c.length < 4294967281∧(c.all fun b=>decide (b.toNat < 128))=true) (some (Go.Lib.trimS s c))
open Go.AE in
def azv (n:Nat):Go.AE.Fn:=mkFn (A:=List UInt8×List UInt8) (R:=List UInt8) 54 [(false,[.str]),(false,[.str])] false (fun xs=>((cg (xs.getD 0 []) 0).toStr,(cg (xs.getD 1 []) 0).toStr)) (fun a=>[[.str a.1],[.str a.2]]) (fun a=>akr n a.1 a.2) (fun r=>[.c .str (.str r)]) (fun r=>[])
theorem bzy {α:Type} (p:α→Bool):∀ l:List α,(l.dropWhile p).length≤l.length
 | []=>by simp
 | x :: l=>by
  simp only [List.dropWhile_cons,jK]
  split
  ·have:=bzy p l;omega
  ·simp
theorem fy2 (s c:List UInt8):(Go.Lib.trimS s c).length≤s.length:=by
 unfold Go.Lib.trimS Go.Lib.trimLeftS Go.Lib.trimRightS
 refine j8 (bzy _ _) ?_
 rw [List.length_reverse]
 refine j8 (bzy _ _) ?_
 simp
open Go.AE in
theorem cy6 (n:Nat):aj1 jd (azv n):=by
 refine aj1.of (fun args w=>Tryz.call54 args w) (fun _ cs=>⟨rfl,by simp [azv,mkFn]⟩) ?_
 intro w al vs cs hal hvl hcl harg hpre
 obtain ⟨hc,hs⟩:=hpre
 obtain ⟨⟨s,c⟩,hd⟩:∃ a:List UInt8×List UInt8,a=((cg (cs.getD 0 []) 0).toStr,(cg (cs.getD 1 []) 0).toStr):=⟨_,rfl⟩
 have hc':cs=[[.str s],[.str c]]:=by
  have:cs=[[.str (cg (cs.getD 0 []) 0).toStr],[.str (cg (cs.getD 1 []) 0).toStr]]:=hc
  rw [this,← (Prod.mk.inj hd).1,← (Prod.mk.inj hd).2]
 subst hc'
 have hs':(akr n s c).isSome=true:=hs
 obtain ⟨r,hr⟩:=Option.isSome_iff_exists.1 hs'
 have hres:((azv n).sem [[.str s],[.str c]]).res=[.c .str (.str r)]:=by
  show ([.c .str (.str ((akr n s c).getD default))]:List A)=_
  rw [hr];rfl
 have hrows:((azv n).sem [[.str s],[.str c]]).rows=[]:=rfl
 obtain ⟨⟨hlen,hall⟩,hr2⟩:=aj3 hr
 simp only [Option.some.injEq] at hr2
 match vs,hvl with
 | [v0,v1],_ =>
  have a0:=harg 0 (show 0 < 2 by decide)
  have a1:=harg 1 (show 1 < 2 by decide)
  obtain ⟨_,_,a0⟩:=a0
  obtain ⟨_,_,a1⟩:=a1
  have a0':RepC jd w al .str v0 (.str s):=a0
  have a1':RepC jd w al .str v1 (.str c):=a1
  cases a0' with
  | str _ h0 =>
  cases a1' with
  | str _ h1 =>
  have hcon:=Any.strings_Trim_laid gkd (by kernel_rfl) ⟨s.toArray⟩ ⟨c.toArray⟩ w h0 (by simpa [ByteArray.size] using hlen) (fun j b hj=>by
   have hm:b∈c:=List.mem_of_getElem? (by simpa using hj)
   have:=List.all_eq_true.1 hall b hm
   simpa using this)
  change Calls jd 54 _ _ _ at hcon
  refine Calls.mono hcon ?_
  rintro e w' ⟨rfl,hbel⟩
  refine ⟨_,rfl,hbel,by rw [hrows];simp,fun _=>.dead,fun j=>rfl,fun i j b h=>by simp [aj5] at h,?_⟩
  rw [hres]
  refine ARel.c _ _ _ ?_
  have e1:(⟨(Go.Lib.trimS s c).toArray⟩:ByteArray)=⟨r.toArray⟩:=by rw [hr2]
  show RepC _ _ _ .str (.string ⟨(Go.Lib.trimS s c).toArray⟩) (.str r)
  rw [e1]
  exact RepC.str (.str r) (by
   have:=fy2 s c
   have h0':s.length≤9223372036854775807:=h0
   simp only [C.toStr_str];rw [← hr2];omega)
set_option maxHeartbeats 1000000 in
theorem fqt (a b c d:Int) (W:World):Calls jd 165 #[.agg #[.int .i64 a,.int .i64 b],.agg #[.int .i64 c,.int .i64 d]] W fun e w'=>e = .returned (.int .i64 (Lib.compareInt a c))∧∃ q os',w'=grow (W.drewN q) os':=by
 have hcon:=fun W'=>AnyG.cmp_Compare_int gzk a c W'
 change ∀ W',Calls jd 166 _ _ _ at hcon
 generalize Lib.compareInt a c=r at hcon ⊢
 go_enter Tryz.func165,Tryz.ntmps165
 go_wp2_with (go_at_call 166;refine (hcon _).mono ?_;rintro e w' ⟨rfl,rfl⟩)
 go_ret
 exact ⟨rfl,0,_,by rw [alloc_eq_grow,alloc_eq_grow,grow_grow];rfl⟩
theorem ewo (a c:Int):Lib.compareInt a c=if a < c then -1 else if c < a then 1 else 0:=by
 unfold Lib.compareInt
 split
 ·rfl
 ·split <;> simp_all
theorem gzt (a b c d r:Int) (hr:r=if a < c then -1 else if c < a then 1 else 0):Go.AE.fjs jd 165 [.int .i64,.int .i64] [.int a,.int b] [.int c,.int d] r:=by
 intro W al us vs h1 h2
 obtain ⟨us',e1,l1,_,r1⟩:=h1
 obtain ⟨vs',e2,l2,_,r2⟩:=h2
 have u0:=r1 0 (by simp)
 have u1:=r1 1 (by simp)
 have v0:=r2 0 (by simp)
 have v1:=r2 1 (by simp)
 rw [e1,e2]
 match us',l1,vs',l2 with
 | [x0,x1],_,[y0,y1],_ =>
  simp only [jW,jM,Go.AE.cg_zero,Go.AE.cg_succ] at u0 u1 v0 v1
  cases u0;cases u1;cases v0;cases v1
  have h:=fqt a b c d W
  rw [ewo,← hr] at h
  exact h
theorem hi9t:(jd.info? 9).map (fun i=>(i.zero,i.size,i.bytes))=some (some (.string ByteArray.empty),1,16):=by kernel_rfl
theorem ejc (c:UInt8):∀ s:List UInt8,Lib.index s [c]=Lib.indexByte s c
 | []=>by simp [Lib.index,Lib.indexByte]
 | b :: l=>by
  rw [Lib.index,Lib.indexByte,ejc c l]
  have:([c].isPrefixOf (b :: l))=(b == c):=by
   simp [List.isPrefixOf,Bool.beq_comm]
  rw [this]
set_option maxHeartbeats 2000000 in
theorem fkz (s:List UInt8) (c:UInt8) (w:World) (hs:s.length < 4294967281) :
  Calls jd 53 #[.string ⟨s.toArray⟩,.string ⟨#[c]⟩] w fun e w' =>
   e = .returned (.slice (some ⟨w.heap.size,0,none⟩) (Lib.split s [c]).length (Lib.split s [c]).length)∧w'=w.alloc (.cells ((Lib.split s [c]).map fun x=>Value.string ⟨x.toArray⟩).toArray 9):=by
 have hsz:(⟨s.toArray⟩:ByteArray).size=s.length:=by simp [ByteArray.size]
 have hcB:Lib.countB ⟨s.toArray⟩ ⟨#[c]⟩=Lib.count s [c]:=rfl
 have hle:=Lib.countB_le ⟨#[c]⟩ (jB 1) (⟨s.toArray⟩:ByteArray).size ⟨s.toArray⟩ (jB _)
 have hlen:=Lib.splitB_all ⟨#[c]⟩ (jB 1) 0 _ ⟨s.toArray⟩ rfl
 have key:=Any.strings_genSplit_core (ρ:=cks) { gwf with } hi9t ⟨s.toArray⟩ ⟨#[c]⟩ 0 (-1) (Lib.countB ⟨s.toArray⟩ ⟨#[c]⟩+1) w (by rw [hsz];exact hs) (jB 1) (Nat.zero_le _)
  (fun x cs hx=>(Any.strings_Index_one (ρ:=cks) { gwf with } x c _).mono fun e w' h=>⟨h.1.trans (by
   show _=Ending.returned (.int .i64 (Lib.index x.data.toList [c]))
   rw [ejc]),h.2⟩)
  ((Any.strings_Count_one (ρ:=cks) { gwf with } ⟨s.toArray⟩ c w).mono fun e w' h=>⟨h.1.trans (by
   show _=Ending.returned (Value.int .i64 ((Lib.count s [c]:Nat):Int))
   rw [Lib.count_one];rfl),h.2⟩)
  (by decide) (by decide) (by rw [if_pos (by decide)];omega)
 rw [Nat.add_sub_cancel,hlen] at key
 have e2:Lib.cellsOf (Lib.splitB ⟨#[c]⟩ 0 (Lib.countB ⟨s.toArray⟩ ⟨#[c]⟩) ⟨s.toArray⟩) (Lib.countB ⟨s.toArray⟩ ⟨#[c]⟩+1)=((Lib.splitB ⟨#[c]⟩ 0 (Lib.countB ⟨s.toArray⟩ ⟨#[c]⟩) ⟨s.toArray⟩).map Value.string).toArray:=by rw [← hlen];exact Lib.cellsOf_full _
 rw [e2] at key
 have e3:=Lib.splitB_data ⟨#[c]⟩ 0 (Lib.countB ⟨s.toArray⟩ ⟨#[c]⟩) ⟨s.toArray⟩
 have e4:(Lib.split s [c]).length=Lib.countB ⟨s.toArray⟩ ⟨#[c]⟩+1:=by
  have:(Lib.split s [c])=List.map (·.data.toList) (Lib.splitB ⟨#[c]⟩ 0 (Lib.countB ⟨s.toArray⟩ ⟨#[c]⟩) ⟨s.toArray⟩):=e3.symm
  rw [this,jH,hlen]
 have e5:(Lib.split s [c]).map (fun x=>Value.string ⟨x.toArray⟩)=(Lib.splitB ⟨#[c]⟩ 0 (Lib.countB ⟨s.toArray⟩ ⟨#[c]⟩) ⟨s.toArray⟩).map Value.string:=by
  have:(Lib.split s [c])=List.map (·.data.toList) (Lib.splitB ⟨#[c]⟩ 0 (Lib.countB ⟨s.toArray⟩ ⟨#[c]⟩) ⟨s.toArray⟩):=e3.symm
  rw [this,List.map_map]
  exact List.map_congr_left fun x _=>rfl
 rw [e5,e4]
 generalize Lib.countB ⟨s.toArray⟩ ⟨#[c]⟩=k at *
 generalize ((Lib.splitB ⟨#[c]⟩ 0 k ⟨s.toArray⟩).map Value.string).toArray=A at *
 change Calls jd 106 _ _ _ at key
 clear e5 e4 e3 e2 hlen hle hcB
 go_enter Tryz.func53,Tryz.ntmps53
 go_wp2_with (go_at_call 106;refine key.mono ?_;rintro e w' ⟨rfl,rfl⟩)
 go_ret
 exact ⟨rfl,rfl⟩
theorem eju (sep:List UInt8):∀ (k:Nat) (s:List UInt8),(Lib.splitK sep 0 k s).length≤k+1∧∀ x∈Lib.splitK sep 0 k s,x.length≤s.length
 | 0,s=>by simp [Lib.splitK]
 | k+1,s=>by
  unfold Lib.splitK
  split
  ·simp
  ·obtain ⟨h1,h2⟩:=eju sep k (s.drop ((Lib.index s sep).toNat+sep.length))
   refine ⟨by simp only [jK];omega,fun x hx=>?_⟩
   rcases List.mem_cons.1 hx with rfl | hx
   ·rw [List.length_take];omega
   ·have:=h2 x hx
    rw [List.length_drop] at this;omega
theorem fzk (s:List UInt8) (c:UInt8):Lib.count s [c]≤s.length:=by rw [Lib.count_one];exact List.count_le_length
open Go.AE in
theorem cy2 (w:World) (o:Obj):(w.alloc o).heap[w.heap.size]? = some o:=Array.getElem?_push_size
open Go.AE in
theorem fky (w:World) (B al:Nat→Prop) (r:List (List UInt8)) (k1:r.length≤4294967282) (k2:∀ x∈r,x.length≤4294967281) (hB:B w.heap.size) :
  ajo jd (w.alloc (.cells (r.map fun x=>Value.string ⟨x.toArray⟩).toArray 9)) B al (.row w.heap.size r.length 9 [.str] r.length) 9 (List.map djr r):=by
 refine ⟨⟨_,ty9,?_,.inr ⟨w.heap.size,r.length,_,9,?_,hB,cy2 _ _,?_,?_,?_,?_,?_⟩⟩⟩
 ·rw [jH];show (r.length:Int) * ((16:Nat):Int)≤_;omega
 ·rw [jH]
 ·rw [jH];exact jB _
 ·unfold maxLen;omega
 ·show (List.toArray _).size=_
  rw [List.size_toArray,jH];exact (Nat.mul_one _).symm
 ·intro i hi
  rw [jH] at hi
  rw [aqx _ _ _ hi];rfl
 ·intro i hi j hj
  rw [jH] at hi
  have hj0:j=0:=Nat.lt_one_iff.1 hj
  subst hj0
  rw [aqx _ _ _ hi]
  have e1:((List.map (fun x=>Value.string ⟨x.toArray⟩) r).toArray.getD (i * 1+0) undef)=Value.string ⟨(gt r i).toArray⟩:=by
   simp [Array.getD_eq_getD_getElem?,hi,gt,ja]
  show RepC _ _ _ .str (Array.getD _ (i * 1+0) undef) (.str (gt r i))
  rw [e1]
  refine RepC.str (.str (gt r i)) ?_
  have:=k2 (gt r i) (by simp [gt,ja,hi])
  simp only [C.toStr_str];omega
open Go.AE in
def strings_Split (n:Nat) (s c:List UInt8):Option (List (List UInt8)):=gd (s.length < 4294967281∧c.length=1) (some (Lib.split s c))
open Go.AE in
def ayq (n:Nat):Go.AE.Fn:=mkFn (A:=List UInt8×List UInt8) (R:=List (List UInt8)) 53 [(false,[.str]),(false,[.str])] false (fun xs=>((cg (xs.getD 0 []) 0).toStr,(cg (xs.getD 1 []) 0).toStr)) (fun a=>[[.str a.1],[.str a.2]]) (fun a=>strings_Split n a.1 a.2) (fun r=>[.own 0 [.str] 0 r.length]) (fun r=>[.row 9 (List.map djr r)])
open Go.AE in
theorem dyw (n:Nat):aj1 jd (ayq n):=by
 refine aj1.of (fun args w=>Tryz.call53 args w) (fun _ cs=>⟨rfl,m1 ⟨9,_,_,rfl,ty9,rfl⟩ m0⟩) ?_
 intro w al vs cs hal hvl hcl harg hpre
 obtain ⟨hc,hs⟩:=hpre
 obtain ⟨⟨s,c⟩,hd⟩:∃ a:List UInt8×List UInt8,a=((cg (cs.getD 0 []) 0).toStr,(cg (cs.getD 1 []) 0).toStr):=⟨_,rfl⟩
 have hc':cs=[[.str s],[.str c]]:=by
  have:cs=[[.str (cg (cs.getD 0 []) 0).toStr],[.str (cg (cs.getD 1 []) 0).toStr]]:=hc
  rw [this,← (Prod.mk.inj hd).1,← (Prod.mk.inj hd).2]
 subst hc'
 have hs':(strings_Split n s c).isSome=true:=hs
 obtain ⟨r,hr⟩:=Option.isSome_iff_exists.1 hs'
 have hres:((ayq n).sem [[.str s],[.str c]]).res=[.own 0 [.str] 0 r.length]:=by
  show ([.own 0 [.str] 0 ((strings_Split n s c).getD default).length]:List A)=_
  rw [hr];rfl
 have hrows:((ayq n).sem [[.str s],[.str c]]).rows=[.row 9 (List.map djr r)]:=by
  show ([.row 9 (List.map djr ((strings_Split n s c).getD default))]:List Blk)=_
  rw [hr];rfl
 obtain ⟨⟨hlen,hone⟩,hr2⟩:=aj3 hr
 simp only [Option.some.injEq] at hr2
 obtain ⟨c0,rfl⟩:∃ c0,c=[c0]:=by
  match c,hone with
  | [c0],_=>exact ⟨c0,rfl⟩
 match vs,hvl with
 | [v0,v1],_ =>
  have a0:=harg 0 (show 0 < 2 by decide)
  have a1:=harg 1 (show 1 < 2 by decide)
  obtain ⟨_,_,a0⟩:=a0
  obtain ⟨_,_,a1⟩:=a1
  have a0':RepC jd w al .str v0 (.str s):=a0
  have a1':RepC jd w al .str v1 (.str [c0]):=a1
  cases a0' with
  | str _ h0 =>
  cases a1' with
  | str _ h1 =>
  have hcon:=fkz s c0 w hlen
  rw [hr2] at hcon
  have hk:=eju [c0] (Lib.count s [c0]) s
  have hle:=fzk s c0
  have hk1:r.length≤s.length+1:=by rw [← hr2];exact j8 hk.1 (by omega)
  have hk2:∀ x∈r,x.length≤s.length:=by rw [← hr2];exact hk.2
  refine Calls.mono hcon ?_
  rintro e w' ⟨rfl,rfl⟩
  refine ⟨_,rfl,(Go.RowKit.Below.refl _ _).alloc (jB _) _,by rw [hrows];simp [gq0],fun j=>if j=0 then .row w.heap.size r.length 9 [.str] r.length else .dead,?_,?_,?_⟩
  ·intro j
   rw [hrows]
   by_cases hj:j=0
   ·subst hj
    exact fky w _ _ r (by omega) (fun x hx=>j8 (hk2 x hx) (by omega)) (.inl (jB _))
   ·have:ajh [.row 9 (List.map djr r)] j = .dead:=by
     cases j with
     | zero=>exact absurd rfl hj
     | succ j=>rfl
    rw [this]
    show (if j=0 then _ else RefI.dead)=RefI.dead
    rw [if_neg hj]
  ·intro i j b hi hj
   by_cases h1:i=0 <;> by_cases h2:j=0 <;> simp [h1,h2,aj5] at hi hj ⊢
  ·rw [hres]
   exact ARel.own0 0 [.str] r.length w.heap.size r.length r.length 9 rfl (jB _)
end Go.Proofs.YtijnkhcfondehaaGreatDoor
/-
 ch. 21 (door): the comparator of labels on raw cells.
-/
namespace Go.Proofs.YtijnkhcfondehaaGreatDoor
open Go.RowKit Go.Shelf Go.Proofs Go.Sort
end Go.Proofs.YtijnkhcfondehaaGreatDoor
