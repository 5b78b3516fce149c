/- Text. -/
import Derived.Test.YtijnkhcfondehaaGreatDoorAE21
import Derived.Test.YtijnkhcfondehaaGreatDoorF
set_option linter.unusedSimpArgs false
set_option linter.unusedVariables false
set_option maxRecDepth 100000
open _root_.Bool renaming not_true→jT,true_and→Jy,eq_iff_iff→JY,not_eq_true→Jt,and_eq_true→jf,false_eq_true→jn
open _root_.Int renaming toNat_natCast→ju
open _root_.List renaming range→Jc,mem_flatMap→j9,all_eq_true→jx,nil_append→Jd,nodup_append→JM,mem_append→jm,mem_cons_self→Jf,all_cons→Jq,append_assoc→jQ,getElem_mem→jw,length_append→jg,length_take→jk,take_append_of_le_length→jU,take_of_length_le→jJ,length_cons→jq,pairwise_cons→J5,cons_append→JK,length_nil→jS,take_length→J4
open _root_.Nat renaming le_refl→jA
open _root_.Option renaming bind_some→je,isSome_iff_exists→Ja
open _root_.Option.some renaming injEq→jc
namespace Go.Proofs.YtijnkhcfondehaaGreatDoor
open Go.AE
def N0:Nat:=4194304
theorem wid {n:Int} (h:-4611686018427387904≤n∧n≤4611686018427387904):IntKind.wrap .i64 n=n:=gqh (by omega) (by omega)
theorem awh {α:Type} (b:Bool) (x y:α):(bif b then x else y)=if b=true then x else y:=by cases b <;> rfl
theorem dzh (p q:Bool):(if p=true then q else false)=(p && q):=by cases p <;> simp
theorem cw3 (p q:Bool):(if p=true then true else q)=(p || q):=by cases p <;> simp
def val (x:aj0):Bool:=decide (0≤x.At∧1≤x.Len∧x.At < 512∧x.Len≤512 - x.At)
theorem aq0 (x:aj0):val x=true↔0≤x.At∧1≤x.Len∧x.At < 512∧x.Len≤512 - x.At:=by simp [val]
theorem gyy (x:aj0):(if (if (if (decide (x.At ≥ 0))=true then (decide (x.Len ≥ 1)) else false)=true then (decide (x.At < 512)) else false)=true then (decide (x.Len≤(IntKind.wrap .i64 (512 - x.At)))) else false)=val x:=by
 by_cases hA:0≤x.At∧x.At < 512
 ·rw [wid (by omega)];by_cases h2:1≤x.Len <;> by_cases h4:x.Len≤512 - x.At <;> simp [val,hA.1,hA.2,h2,h4]
 ·by_cases h1:0≤x.At <;> by_cases h3:x.At < 512
  ·exact absurd ⟨h1,h3⟩ hA
  all_goals simp [val,h1,h3]
theorem fwm (n:Nat) (x:aj0):bjq n x=some (val x):=by simp only [bjq,gyy]
def chk (m:Int):Int→List aj0→Bool
 | _,[]=>true
 | e,x :: l=>val x && decide (e < x.At) && decide (x.At+x.Len≤m) && chk m (x.At+x.Len) l
theorem fqx (n:Nat) (l:List aj0) (m:Int) (hn:l.length < n) (hl:l.length≤2147483648):bwg n l m=some (chk m (-1) l):=by
 have h:=cw9 (σ:=Int) (body:=fun (x:Int×Int)=>ak5 n m l (l.length:Int) x.1 x.2) l (fun k e=>(e,(k:Int)))
  (fun e x=>if val x && decide (e < x.At) && decide (x.At+x.Len≤m) then .inl (x.At+x.Len) else .inr (.inl false)) (fun _=>.inr ()) (fun _ _=>True) (s:=-1) trivial
  (fun k hk e _=>by
   have h1:decide ((k:Int) < (l.length:Int))=true:=by simp;omega
   have h2:(0:Int)≤(k:Int)∧(k:Int) < (l.length:Int):=by omega
   simp only [ak5,h1,awh,if_true,aja _ h2,fwm,je,ju,aqk hk,cw3];by_cases hv:val l[k]=true
   ·have hv':=(aq0 _).1 hv;simp only [hv,jT,Bool.false_or,Jy];rw [wid (by omega),wid (by omega)]
    have e1:(decide (l[k].At≤e) || decide (l[k].At+l[k].Len > m)) = !(decide (e < l[k].At) && decide (l[k].At+l[k].Len≤m)):=by
     rw [JY,Bool.or_eq_true,Bool.not_eq_true',Bool.and_eq_false_iff];simp only [decide_eq_true_eq,decide_eq_false_iff_not];omega
    rw [e1];cases (decide (e < l[k].At) && decide (l[k].At+l[k].Len≤m)) <;> simp
   ·simp [hv])
  (fun _ _ _ _ _ _=>trivial) (fun e _=>by simp [ak5,awh]) hn
 have e:∀ (l:List aj0) (e:Int),runL (fun e x=>if val x && decide (e < x.At) && decide (x.At+x.Len≤m) then .inl (x.At+x.Len) else (.inr (.inl false):Int ⊕ (Bool ⊕ Unit))) (fun _=>.inr ()) l e=if chk m e l then .inr () else .inl false:=by
  intro l
  induction l with
  | nil=>intro e;simp [runL,chk]
  | cons x l ih =>
   intro e;simp only [runL,chk];by_cases h:(val x && decide (e < x.At) && decide (x.At+x.Len≤m))=true
   ·simp only [h,if_true,Jy,ih]
   ·rw [Jt] at h;simp [h]
 rw [e] at h;simp only [bwg];have h':ajo (fun (x:Int×Int)=>ak5 n m l (l.length:Int) x.1 x.2) n (-1,0)=some (if chk m (-1) l then .inr () else .inl false):=h;rw [h'];cases chk m (-1) l <;> rfl
def trk (x:aj0):List Int:=(Jc x.Len.toNat).map fun (j:Nat)=>x.At+(j:Int)
def trks (l:List aj0):List Int:=l.flatMap trk
def cqk:List Int→List Int→Option (List Int)
 | s,[]=>some s
 | s,k :: t=>if k∈s then none else cqk (s ++ [k]) t
def trkF:List Int→List aj0→Option (List Int)
 | s,[]=>some s
 | s,x :: l=>if val x then (cqk s (trk x)).bind fun s'=>trkF s' l else none
theorem cya:∀ {t s s':List Int},cqk s t=some s'→s'=s ++ t
 | [],s,s',h=>by simp only [cqk,jc] at h;simp [h]
 | k :: t,s,s',h=>by
  simp only [cqk] at h
  split at h
  ·cases h
  ·rw [cya h];simp
theorem bqj (x:aj0):(trk x).length=x.Len.toNat:=by simp [trk]
theorem azu {x:aj0} {k:Int}:k∈trk x↔x.At≤k∧k < x.At+x.Len:=by
 simp only [trk,List.mem_map,List.mem_range];constructor
 ·rintro ⟨j,hj,rfl⟩;omega
 ·rintro ⟨h1,h2⟩;exact ⟨(k - x.At).toNat,by omega,by omega⟩
theorem dj3:∀ {l:List aj0} {s s':List Int},trkF s l=some s'→s'=s ++ trks l∧l.all val=true
 | [],s,s',h=>by simp only [trkF,jc] at h;simp [h,trks]
 | x :: l,s,s',h=>by
  simp only [trkF] at h
  split at h
  ·rename_i hv;obtain ⟨s2,h1,h2⟩:=bind_some h;obtain ⟨h3,h4⟩:=dj3 h2;rw [cya h1] at h3;exact ⟨by rw [h3];simp [trks],by simp [hv,h4]⟩
  ·cases h
theorem byt {l:List aj0} (h:l.all val=true):∀ k∈trks l,0≤k∧k < 512:=by
 intro k hk;obtain ⟨x,hx,hk⟩:=j9.1 hk;have hv:=(aq0 x).1 (jx.1 h x hx)
 have:=azu.1 hk
 omega
def trkO (l:List aj0):List Int:=(trkF [] l).getD []
theorem fkd (l:List aj0):∀ k∈trkO l,0≤k∧k < 512:=by
 unfold trkO;cases h:trkF [] l with
 | none=>simp
 | some s =>
  obtain ⟨h1,h2⟩:=dj3 h;simp only [Jd] at h1;subst h1;simpa using byt h2
theorem dw6:∀ {t s s':List Int},cqk s t=some s'→s.Nodup→s'.Nodup
 | [],s,s',h,hs=>by simp only [cqk,jc] at h;subst h;exact hs
 | k :: t,s,s',h,hs=>by
  simp only [cqk] at h
  split at h
  ·cases h
  ·rename_i hk;refine dw6 h (JM.2 ⟨hs,by simp,?_⟩);rintro a ha b hb rfl;simp only [List.mem_singleton] at hb;subst hb;exact hk ha
theorem dq7:∀ {l:List aj0} {s s':List Int},trkF s l=some s'→s.Nodup→s'.Nodup
 | [],s,s',h,hs=>by simp only [trkF,jc] at h;subst h;exact hs
 | x :: l,s,s',h,hs=>by
  simp only [trkF] at h
  split at h
  ·obtain ⟨s2,h1,h2⟩:=bind_some h;exact dq7 h2 (dw6 h1 hs)
  ·cases h
theorem few:∀ {m:Nat} {s:List Int},s.Nodup→(∀ k∈s,0≤k∧k < (m:Int))→s.length≤m
 | 0,s,hn,hr=>by
  cases s with
  | nil=>simp
  | cons k t=>have:=hr k (by simp);omega
 | m+1,s,hn,hr=>by
  have h:=few (m:=m) (s:=s.erase (m:Int)) (hn.erase _) (fun k hk=>by
   have h1:=(List.Nodup.mem_erase_iff hn).1 hk
   have:=hr k h1.2
   have:=h1.1
   omega)
  rw [List.length_erase] at h
  split at h <;> omega
theorem gkv (l:List aj0):(trkO l).length≤512:=by
 refine few ?_ (fkd l);unfold trkO;cases h:trkF [] l with
 | none=>simp
 | some s=>simpa using dq7 h List.nodup_nil
def addT (out:List aj0) (k:Int):List aj0 :=
 if 0 < out.length∧(gt out (out.length - 1)).At+(gt out (out.length - 1)).Len=k then out.set (out.length - 1) ⟨(gt out (out.length - 1)).At,(gt out (out.length - 1)).Len+1⟩ else out ++ [⟨k,1⟩]
def nrm (p:List Bool):List aj0:=(Jc 512).foldl (fun out (k:Nat)=>if gt p k then addT out (k:Int) else out) []
def nf:Int→List aj0→Prop
 | _,[]=>True
 | e,x :: l=>val x=true∧e < x.At∧nf (x.At+x.Len) l
theorem aqx (x:aj0) (l:List aj0):trks (x :: l)=trk x ++ trks l:=by simp [trks]
theorem ij0:∀ {l:List aj0} {e:Int},nf e l→∀ k∈trks l,e < k
 | [],_,_,k,hk=>by simp [trks] at hk
 | x :: l,e,h,k,hk=>by
  obtain ⟨h1,h2,h3⟩:=h;have h1':=(aq0 _).1 h1;rw [aqx,jm] at hk;rcases hk with hk | hk
  ·have:=azu.1 hk;omega
  ·have:=ij0 h3 k hk;omega
theorem gqv (x:aj0):(trk x).Pairwise (· < ·):=by
 unfold trk;refine List.pairwise_map.2 (List.Pairwise.imp ?_ List.pairwise_lt_range);intro a b h;omega
theorem fyv:∀ {l:List aj0} {e:Int},nf e l→(trks l).Pairwise (· < ·)
 | [],_,_=>by simp [trks]
 | x :: l,e,h=>by
  obtain ⟨h1,h2,h3⟩:=h;rw [aqx,List.pairwise_append];refine ⟨gqv x,fyv h3,fun a ha b hb=>?_⟩
  have:=azu.1 ha
  have:=ij0 h3 b hb
  omega
theorem fqr:∀ {l:List aj0} {e:Int},nf e l→l.all val=true
 | [],_,_=>rfl
 | x :: l,e,h=>by simp [h.1,fqr h.2.2]
theorem dk5:∀ {t s:List Int},(s ++ t).Nodup→cqk s t=some (s ++ t)
 | [],s,_=>by simp [cqk]
 | k :: t,s,h=>by
  have hk:k ∉ s:=fun hk=>(JM.1 h).2.2 k hk k Jf rfl;simp only [cqk,hk,if_false];rw [dk5 (by simpa using h)];simp
theorem cy8:∀ {l:List aj0} {s:List Int},l.all val=true→(s ++ trks l).Nodup→trkF s l=some (s ++ trks l)
 | [],s,_,_=>by simp [trkF,trks]
 | x :: l,s,hv,h=>by
  simp only [Jq,jf] at hv;rw [aqx,← jQ] at h;simp only [trkF,hv.1,if_true];rw [dk5 (JM.1 h).1,je,cy8 hv.2 h,aqx,jQ]
theorem gzp (m:Int):∀ (l:List aj0) (e:Int),chk m e l=true↔nf e l∧∀ k∈trks l,k < m
 | [],e=>by simp [chk,nf,trks]
 | x :: l,e=>by
  simp only [chk,jf,decide_eq_true_eq,gzp m l,nf,aqx,jm];constructor
  ·rintro ⟨⟨⟨h1,h2⟩,h3⟩,h4,h5⟩;refine ⟨⟨h1,h2,h4⟩,?_⟩;rintro k (hk | hk)
   ·have:=azu.1 hk;omega
   ·exact h5 k hk
  ·rintro ⟨⟨h1,h2,h4⟩,h5⟩;have h1':=(aq0 _).1 h1;refine ⟨⟨⟨h1,h2⟩,?_⟩,h4,fun k hk=>h5 k (.inr hk)⟩
   have:=h5 (x.At+x.Len - 1) (.inl (azu.2 (by omega)))
   omega
def isF (r:List aj0) (w:Int) (k:Nat):Prop:=k < r.length∧w≤(gt r k).Len∧∀ j,j < k→(gt r j).Len < w
def isL (r:List aj0) (k:Nat):Prop:=k < r.length∧(∀ j,j < r.length→(gt r j).Len≤(gt r k).Len)∧∀ j,j < k→(gt r j).Len < (gt r k).Len
def allS (r:List aj0) (w:Int):Prop:=∀ j,j < r.length→(gt r j).Len < w
def cut (r:List aj0) (k:Nat) (w:Int):List aj0:=if (gt r k).Len=w then r.eraseIdx k else r.set k ⟨(gt r k).At+w,(gt r k).Len - w⟩
def good (r:List aj0):Prop:=∀ x∈r,val x=true
theorem fqe {r:List aj0} (h:good r) {k:Nat} (hk:k < r.length):0≤(gt r k).At∧1≤(gt r k).Len∧(gt r k).At < 512∧(gt r k).Len≤512 - (gt r k).At:=by
 rw [aqk hk];exact (aq0 _).1 (h _ (jw hk))
theorem fq6 {row:List aj0} {len k:Nat} (h:k < len) (hl:len≤row.length):gt (row.take len) k=gt row k:=by
 rw [aqk (by simp;omega),aqk (by omega)];simp
theorem eyg (n:Nat) (row:List aj0) (len k:Nat) (hk:k < len) (hl:len≤row.length):∃ row',aqs n row len (k:Int) ((k:Int)+1)=some (len - 1,row')∧row'.length=row.length∧row'.take (len - 1)=(row.take len).eraseIdx k:=by
 have e1:((k:Int) == (k:Int)+1)=false:=by simp;omega
 have hp:(List.take (Int.toNat ((len:Int) - ((k:Int)+1))) (List.drop (Int.toNat ((k:Int)+1)) row)).length=len - (k+1):=by
  have a1:Int.toNat ((len:Int) - ((k:Int)+1))=len - (k+1):=by omega
  have a2:Int.toNat ((k:Int)+1)=k+1:=by omega
  rw [a1,a2];simp;omega
 have a0:Int.toNat ((k:Int) - 0)=k:=by omega
 have a3:k+(len - (k+1))=len - 1:=by omega
 have a4:Int.toNat (((len:Nat):Int) - ((len - 1:Nat):Int))=1:=by omega
 have a1:Int.toNat ((len:Int) - ((k:Int)+1))=len - (k+1):=by omega
 have a2:Int.toNat ((k:Int)+1)=k+1:=by omega
 refine ⟨bk8 (bk8 row k (List.take (len - (k+1)) (List.drop (k+1) row))) (len - 1) (awi 1 (⟨0,0⟩:aj0)),?_,by rw [byr,byr],?_⟩
 ·simp only [aqs,hp,a0,a3,e1,awh,jn,if_false,a4,a1,a2];rw [a1,a2] at hp;simp only [hp,a3,a4];rw [aja _ (by omega),aja _ (by omega),aja _ (by omega)]
 ·have hp':(List.take (len - (k+1)) (List.drop (k+1) row)).length=len - (k+1):=by have h:=hp;rw [a1,a2] at h;exact h
  have h1:bk8 row k (List.take (len - (k+1)) (List.drop (k+1) row))=row.take k ++ List.take (len - (k+1)) (List.drop (k+1) row) ++ row.drop (k+(len - (k+1))):=by
   rw [bzx (by rw [hp'];omega),hp']
  have h2:(row.take k ++ List.take (len - (k+1)) (List.drop (k+1) row)).length=len - 1:=by rw [jg,hp',jk];omega
  rw [bzx (by rw [byr,bzs];omega),jQ,jU (by rw [jk,byr];omega),List.take_take,Nat.min_self,h1,jU (by rw [h2];exact jA _),jJ (by rw [h2];exact jA _)];rw [List.eraseIdx_eq_take_drop_succ,List.take_take,List.drop_take,Nat.min_eq_left (by omega)]
theorem hj3 (n:Nat) (w most:Int) (got row:List aj0) (v:Int) (len:Nat) (hv:v=(len:Int)) (h0:0 < len) (hl:len≤row.length) (hn:len < n) (hw:1≤w) (hb:len≤1073741824) (hgot:got.length+1≤2147483648) (hg:good (row.take len)) :
  (∃ k,isF (row.take len) w k∧ajo (fun (x:Nat×Int×Int)=>azq n w most got row v x.1 x.2.1 x.2.2) n (len,0,0)=some (.inl (got ++ [⟨(gt (row.take len) k).At,w⟩],cut (row.take len) k w,0))) ∨
  (∃ k,allS (row.take len) w∧isL (row.take len) k∧ajo (fun (x:Nat×Int×Int)=>azq n w most got row v x.1 x.2.1 x.2.2) n (len,0,0)=some (.inr (len,(k:Int)))):=by
 subst hv;have hr:(row.take len).length=len:=by simp;omega
 obtain ⟨y,h1,h2⟩:=dkl (body:=fun (x:Nat×Int×Int)=>azq n w most got row (len:Int) x.1 x.2.1 x.2.2)
  (fun x=>∃ lg i:Nat,x=(len,(lg:Int),(i:Int))∧i≤len∧lg < len∧(∀ j,j < i→(gt (row.take len) j).Len < w)∧(∀ j,j < i→(gt (row.take len) j).Len≤(gt (row.take len) lg).Len)∧(∀ j,j < lg→(gt (row.take len) j).Len < (gt (row.take len) lg).Len))
  (fun x=>len - x.2.2.toNat)
  (fun y=>(∃ k,isF (row.take len) w k∧y = .inl (got ++ [⟨(gt (row.take len) k).At,w⟩],cut (row.take len) k w,0))∨(∃ k,allS (row.take len) w∧isL (row.take len) k∧y = .inr (len,(k:Int)))) (by
   rintro x ⟨lg,i,rfl,hi,hlg,i1,i2,i3⟩;by_cases hil:i < len
   ·have c1:decide ((i:Int) < (len:Int))=true:=by simp;omega
    have c2:(0≤(i:Int)∧(i:Int) < (len:Int))∧i < row.length:=by omega
    have hgi:=fqe hg (k:=i) (by rw [hr];exact hil);have e1:=fq6 hil hl;have e2:=fq6 hlg hl;simp only [azq,c1,awh,if_true,ju,aja _ c2,← e1,← e2];by_cases b1:(gt (row.take len) i).Len > w
    ·refine .inr ⟨_,?_,.inl ⟨i,⟨by rw [hr];exact hil,by omega,i1⟩,rfl⟩⟩;rw [decide_eq_true b1];simp only [if_true,aja _ hgot];rw [wid (by omega),wid (by omega),List.take_set,cut,if_neg (by omega)]
    ·rw [decide_eq_false b1];simp only [jn,if_false];by_cases b2:(gt (row.take len) i).Len=w
     ·refine .inr ⟨_,?_,.inl ⟨i,⟨by rw [hr];exact hil,by omega,i1⟩,rfl⟩⟩;have c3:((gt (row.take len) i).Len == w)=true:=by simp [b2]
      rw [c3];simp only [if_true,aja _ hgot];rw [wid (by omega)];obtain ⟨row',d1,d2,d3⟩:=eyg n row len i hil hl;rw [d1];simp only [je,d3,cut,b2,if_true]
      have:(⟨(gt (row.take len) i).At,w⟩:aj0)=gt (row.take len) i:=by rw [← b2]
      rw [this]
     ·have c3:((gt (row.take len) i).Len == w)=false:=by simp [b2]
      have c4:(0≤(lg:Int)∧(lg:Int) < (len:Int))∧lg < row.length:=by omega
      rw [c3];simp only [jn,if_false,aja _ c4,ayv];rw [wid (by omega)];by_cases b3:(gt (row.take len) i).Len > (gt (row.take len) lg).Len
      ·rw [decide_eq_true b3];refine .inl ⟨_,rfl,⟨i,i+1,rfl,hil,hil,fun j hj=>?_,fun j hj=>?_,fun j hj=>?_⟩,by dsimp only;omega⟩
       ·by_cases e:j=i
        ·subst e;omega
        ·exact i1 j (by omega)
       ·by_cases e:j=i
        ·subst e;omega
        ·have:=i2 j (by omega);omega
       ·have:=i2 j hj;omega
      ·rw [decide_eq_false b3];refine .inl ⟨_,rfl,⟨lg,i+1,rfl,hil,hlg,fun j hj=>?_,fun j hj=>?_,i3⟩,by dsimp only;omega⟩
       ·by_cases e:j=i
        ·subst e;omega
        ·exact i1 j (by omega)
       ·by_cases e:j=i
        ·subst e;omega
        ·exact i2 j (by omega)
   ·have:i=len:=by omega
    subst this
    refine .inr ⟨.inr (i,(lg:Int)),by simp [azq,awh],.inr ⟨lg,fun j hj=>i1 j (by rw [hr] at hj;exact hj),⟨by rw [hr];exact hlg,fun j hj=>i2 j (by rw [hr] at hj;exact hj),i3⟩,rfl⟩⟩)
  n (len,0,0) ⟨0,0,rfl,by omega,h0,fun j hj=>by omega,fun j hj=>by omega,fun j hj=>by omega⟩ (by simpa using hn)
 rcases h2 with ⟨k,h3,rfl⟩ | ⟨k,h3,h4,rfl⟩
 ·exact .inl ⟨k,h3,h1⟩
 ·exact .inr ⟨k,h3,h4,h1⟩
theorem ez2 (n:Nat) (l:List aj0) (hl:l.length≤2147483648):az1 n l=some l:=by
 refine hwz fun b hb=>?_;cases b with
 | true=>rw [hb rfl];rfl
 | false=>simp [aja _ hl]
def cmpA (x y:aj0):Int:=if x.At < y.At then -1 else if y.At < x.At then 1 else 0
theorem gz5 (x y:aj0):cmpA x y < 0↔x.At < y.At:=by
 unfold cmpA
 split
 ·simp [*]
 ·split <;> simp [*] <;> omega
theorem hk6 (n:Nat) (x y:aj0):azz n x y=some (cmpA x y):=by
 simp only [azz,bwx,bw0,je,bne_self_eq_false,awh,jn,if_false,cmpA,decide_eq_true_eq,gt_iff_lt]
 split
 ·rfl
 ·split <;> rfl
theorem swoA:Go.Sort.SWO (Go.Proofs.ltOf cmpA):=by
 have h:∀ x y,Go.Proofs.ltOf cmpA x y=decide (x.At < y.At):=fun x y=>by
  unfold Go.Proofs.ltOf;exact decide_eq_decide.2 (gz5 x y)
 refine ⟨fun x=>?_,fun x y z=>?_,fun x y z=>?_⟩
 ·rw [h];simp
 ·rw [h,h,h];simp only [decide_eq_true_eq];omega
 ·rw [h,h,h];simp only [decide_eq_false_iff_not];omega
theorem ezf (n:Nat) (l:List aj0) (hl:l.length≤2147483648):∃ r,aym n l=some r∧r.Perm l∧r.Pairwise fun x y=>x.At≤y.At:=by
 obtain ⟨r,h1,h2,h3⟩:=fwk (f:=fun x y=>azz n x y) (c:=cmpA) (l:=l) (fun x _ y _=>hk6 n x y) swoA;refine ⟨r,?_,h2,h3.imp fun {x y} h=>?_⟩
 ·simp only [aym,ez2 n l hl,je,azp,h1];rw [jJ (by rw [h2.length_eq];exact jA _)]
 ·rw [gz5] at h;omega
def apart (x y:aj0):Prop:=x.At+x.Len≤y.At
def adj (r:List aj0):Prop:=∀ j,0 < j→j < r.length→(gt r (j - 1)).At+(gt r (j - 1)).Len≤(gt r j).At
theorem hwa {r:List aj0} (hv:r.all val=true):adj r↔r.Pairwise apart:=by
 rw [List.pairwise_iff_getElem];constructor
 ·intro h i j hi hj hij
  have key:∀ d,i+1+d < r.length→(gt r i).At+(gt r i).Len≤(gt r (i+1+d)).At:=by
   intro d
   induction d with
   | zero=>intro hd;simpa using h (i+1) (by omega) hd
   | succ d ih =>
    intro hd;have h1:=ih (by omega);have h2:=h (i+1+(d+1)) (by omega) hd;have e:i+1+(d+1) - 1=i+1+d:=by omega
    rw [e] at h2
    have h3:val (gt r (i+1+d))=true:=by
     rw [aqk (by omega)];exact jx.1 hv _ (jw _)
    have h3':=(aq0 _).1 h3;omega
  have:=key (j - i - 1) (by omega)
  have e:i+1+(j - i - 1)=j:=by omega
  rw [e,aqk hi,aqk hj] at this;exact this
 ·intro h j h0 hj
  have:=h (j - 1) j (by omega) hj (by omega)
  rw [aqk (by omega),aqk hj];exact this
theorem dk1 (x:aj0):(trk x).Nodup:=(gqv x).imp fun h=>by omega
theorem fye {r:List aj0}:(trks r).Nodup↔r.Pairwise fun a b=>∀ x∈trk a,∀ y∈trk b,x≠y:=by
 unfold trks List.Nodup;rw [List.pairwise_flatMap];exact ⟨fun h=>h.2,fun h=>⟨fun a _=>dk1 a,h⟩⟩
theorem dy6 {r:List aj0} (hv:r.all val=true) (hs:r.Pairwise fun x y=>x.At≤y.At):(trks r).Nodup↔r.Pairwise apart:=by
 rw [fye];constructor
 ·intro h;refine List.Pairwise.imp_of_mem ?_ (hs.and h);rintro a b ha hb ⟨h1,h2⟩;have va:=(aq0 _).1 (jx.1 hv a ha);have vb:=(aq0 _).1 (jx.1 hv b hb);unfold apart;rcases Int.lt_or_le b.At (a.At+a.Len) with h3 | h3
  ·exact absurd rfl (h2 b.At (azu.2 (by omega)) b.At (azu.2 (by omega)))
  ·exact h3
 ·intro h;refine h.imp fun {a b} hab x hx y hy=>?_
  have:=azu.1 hx
  have:=azu.1 hy
  unfold apart at hab;omega
theorem ajx (l:List aj0):(trkF [] l).isSome=true↔l.all val=true∧(trks l).Nodup:=by
 constructor
 ·intro h;obtain ⟨s,hs⟩:=Ja.1 h;obtain ⟨h1,h2⟩:=dj3 hs;have h3:=dq7 hs List.nodup_nil;rw [h1] at h3;exact ⟨h2,by simpa using h3⟩
 ·rintro ⟨h1,h2⟩;rw [cy8 h1 (by simpa using h2)];rfl
theorem dkc {l:List aj0} (h:(trkF [] l).isSome=true):trkO l=trks l:=by
 obtain ⟨s,hs⟩:=Ja.1 h;have h1:=(dj3 hs).1;simp [trkO,hs,h1]
theorem gqo {l:List aj0} (h:(trkF [] l).isSome=false):trkO l=[]:=by
 have:trkF [] l=none:=by simpa using h
 simp [trkO,this]
theorem bql:∀ {l:List aj0},l.all val=true→l.length≤(trks l).length
 | [],_=>by simp
 | x :: l,h=>by
  simp only [Jq,jf] at h
  have:=bql h.2
  have:=(aq0 _).1 h.1
  rw [aqx,jg,bqj,jq];omega
theorem bzl {r l:List aj0} (h:r.Perm l):(trks r).Perm (trks l):=h.flatMap_right trk
theorem fqt {r l:List aj0} (h:r.Perm l):r.all val=l.all val:=by
 rw [JY,jx,jx];exact ⟨fun H x hx=>H x (h.mem_iff.2 hx),fun H x hx=>H x (h.mem_iff.1 hx)⟩
theorem fyg (n:Nat) (r:List aj0) (hv:r.all val=true) (hn:r.length+1 < n) (hl:r.length≤1073741824):∃ y,ajo (fun (x:Int)=>ak3 n r x) n 1=some y∧((y = .inl false∧¬ adj r)∨(y = .inr ()∧adj r)):=by
 refine dkl (body:=fun (x:Int)=>ak3 n r x) (fun x=>∃ k:Nat,x=(k:Int)∧1≤k∧(k≤r.length∨k=1)∧∀ j,0 < j→j < k→j < r.length→(gt r (j - 1)).At+(gt r (j - 1)).Len≤(gt r j).At) (fun x=>r.length - x.toNat)
  _ ?_ n 1 ⟨1,rfl,jA _,.inr rfl,fun j h0 h1=>by omega⟩ (by omega)
 rintro x ⟨k,rfl,hk1,hk,hj⟩;by_cases hkl:k < r.length
 ·have c1:decide ((k:Int) < (r.length:Int))=true:=by simp;omega
  have e1:IntKind.wrap .i64 ((k:Int) - 1)=((k - 1:Nat):Int):=by rw [wid (by omega)];omega
  have c2:(0≤(k:Int)∧(k:Int) < (r.length:Int))∧(0≤((k - 1:Nat):Int)∧((k - 1:Nat):Int) < (r.length:Int))∧(0≤((k - 1:Nat):Int)∧((k - 1:Nat):Int) < (r.length:Int)):=by omega
  have v1:val (gt r (k - 1))=true:=by
   rw [aqk (by omega)];exact jx.1 hv _ (jw _)
  have v1':=(aq0 _).1 v1;simp only [ak3,c1,awh,if_true,e1,aja _ c2,ju];rw [wid (n:=(gt r (k - 1)).At+(gt r (k - 1)).Len) (by omega)];by_cases b:(gt r k).At < (gt r (k - 1)).At+(gt r (k - 1)).Len
  ·refine .inr ⟨.inl false,by simp [b],.inl ⟨rfl,fun h=>?_⟩⟩
   have:=h k (by omega) hkl
   omega
  ·refine .inl ⟨((k+1:Nat):Int),by rw [wid (by omega)];simp [b],⟨k+1,rfl,by omega,.inl hkl,fun j h0 h1 h2=>?_⟩,by omega⟩;by_cases e:j=k
   ·subst e;omega
   ·exact hj j h0 (by omega) h2
 ·have c1:decide ((k:Int) < (r.length:Int))=false:=by simp;omega
  refine .inr ⟨.inr (),by simp only [ak3,c1,awh,jn,if_false],.inr ⟨rfl,fun j h0 h1=>hj j h0 (by omega) h1⟩⟩
theorem cwi (n:Nat) (hn:N0≤n) (l:List aj0) (hl:l.length≤1073741824):awf n l=some (trkF [] l).isSome:=by
 by_cases h512:512 < l.length
 ·have c1:decide ((l.length:Int) > 512)=true:=by simp;omega
  have:(trkF [] l).isSome=false:=by
   rw [← Jt,ajx];rintro ⟨h1,h2⟩
   have:=bql h1
   have:=few (m:=512) h2 (byt h1)
   omega
  simp only [awf,c1,awh,if_true,this]
 ·have c1:decide ((l.length:Int) > 512)=false:=by simp;omega
  have h:=bkm (n:=n) (body:=fun (x:Int)=>aya n l (l.length:Int) x) l (fun x=>!val x) (.inl false) (.inr ())
   (fun k hk=>by
    have h1:decide ((k:Int) < ((l.length:Nat):Int))=true:=by simp;omega
    have h2:0≤(k:Int)∧(k:Int) < (l.length:Int):=by omega
    simp only [aya,h1,awh,if_true,ju,aja _ h2,aqk hk,fwm,je];rw [wid (by omega)]
    cases val l[k] <;> simp)
   (by simp [aya,awh]) (by unfold N0 at hn;omega)
  simp only [awf,c1,awh,jn,if_false];rw [h];by_cases hv:l.all val=true
  ·have ha:(l.any fun x=>!val x)=false:=by
    rw [← Jt,List.any_eq_true];rintro ⟨x,hx,hx2⟩
    have:=jx.1 hv x hx
    simp [this] at hx2
   obtain ⟨r,r1,r2,r3⟩:=ezf n l (by omega);have hrl:=r2.length_eq;have hrv:r.all val=true:=by rw [fqt r2];exact hv
   obtain ⟨y,y1,y2⟩:=fyg n r hrv (by unfold N0 at hn;omega) (by omega);simp only [ha,jn,if_false,je,bjx,r1,y1]
   have e1:adj r↔(trks l).Nodup:=by
    rw [hwa hrv,← dy6 hrv r3];exact (bzl r2).nodup_iff
   rcases y2 with ⟨rfl,hy⟩ | ⟨rfl,hy⟩
   ·have:(trkF [] l).isSome=false:=by
     rw [← Jt,ajx];rintro ⟨_,h2⟩;exact hy (e1.2 h2)
    simp [this]
   ·have:(trkF [] l).isSome=true:=(ajx l).2 ⟨hv,e1.1 hy⟩
    simp [this,bq0]
  ·have ha:(l.any fun x=>!val x)=true:=by
    rw [List.any_eq_true];rw [Jt,List.all_eq_false] at hv;obtain ⟨x,hx,hx2⟩:=hv;exact ⟨x,hx,by simpa using hx2⟩
   have:(trkF [] l).isSome=false:=by
    rw [← Jt,ajx];rintro ⟨h1,_⟩;exact hv h1
   simp [ha,this]
theorem fz4 (n:Nat) (hn:N0≤n) (l:List aj0) (hl:l.length≤1073741824):bjp n l=some (((trkO l).length:Nat):Int):=by
 simp only [bjp,cwi n hn l hl,je];by_cases hs:(trkF [] l).isSome=true
 ·obtain ⟨hv,hnd⟩:=(ajx l).1 hs;have h1:=bql hv;have h2:=few (m:=512) hnd (byt hv)
  have h:=cw9 (n:=n) (σ:=Int) (body:=fun (x:Int×Int)=>ak2 n l (l.length:Int) x.1 x.2) l (fun k s=>(s,(k:Int))) (fun s x=>.inl (s+x.Len)) (fun s=>s) (fun k s=>0≤s∧s≤512 * (k:Int)) (s:=0) (by simp)
   (fun k hk s hs=>by
    have c1:decide ((k:Int) < (l.length:Int))=true:=by simp;omega
    have c2:0≤(k:Int)∧(k:Int) < (l.length:Int):=by omega
    have v:=(aq0 _).1 (jx.1 hv _ (jw hk));simp only [ak2,c1,awh,if_true,aja _ c2,ju,aqk hk]
    rw [wid (by omega),wid (by omega)];simp)
   (fun k hk s hs s' hf=>by
    have v:=(aq0 _).1 (jx.1 hv _ (jw hk));simp only [Sum.inl.injEq] at hf
    omega)
   (fun s _=>by simp [ak2,awh]) (by unfold N0 at hn;omega)
  have e:∀ (l:List aj0) (s:Int),l.all val=true→runL (fun s x=>(.inl (s+x.Len):Int ⊕ Int)) (fun s=>s) l s=s+(((trks l).length:Nat):Int):=by
   intro l
   induction l with
   | nil=>intro s _;simp [runL,trks]
   | cons x l ih =>
    intro s hv;simp only [Jq,jf] at hv;have v:=(aq0 _).1 hv.1;simp only [runL,ih _ hv.2,aqx,jg,bqj];omega
  rw [e l 0 hv] at h;have h':ajo (fun (x:Int×Int)=>ak2 n l (l.length:Int) x.1 x.2) n (0,0)=some (((trks l).length:Nat):Int):=by simpa using h
  simp only [hs,jT,awh,jn,if_false,h',je,bqb,dkc hs]
 ·rw [Jt] at hs;simp [hs,gqo hs]
def mn (a b:Int):Int:=if a < b then a else b
def fr (m:Int):Int→List aj0→List aj0
 | a,[]=>if a < m then [⟨a,m - a⟩] else []
 | a,x :: l=>(if a < mn m x.At then [⟨a,mn m x.At - a⟩] else []) ++ fr m (x.At+x.Len) l
theorem ij2 {m:Int} (hm:m≤512):∀ {r:List aj0} {e a:Int},e < a→0≤a→r.all val=true→r.Pairwise apart→(∀ x∈r,a≤x.At)→nf e (fr m a r)
 | [],e,a,he,ha,_,_,_=>by
  unfold fr
  split
  ·exact ⟨(aq0 _).2 (by dsimp only;omega),he,trivial⟩
  ·trivial
 | x :: l,e,a,he,ha,hv,hp,hx=>by
  simp only [Jq,jf] at hv;obtain ⟨hp1,hp2⟩:=J5.1 hp;have v:=(aq0 _).1 hv.1;have hax:=hx x Jf;have key:∀ e',e' < x.At+x.Len→nf e' (fr m (x.At+x.Len) l):=fun e' he'=>ij2 hm he' (by omega) hv.2 hp2 (fun y hy=>hp1 y hy);unfold fr;by_cases c:a < mn m x.At
  ·have h1:mn m x.At≤m∧mn m x.At≤x.At:=by unfold mn;split <;> omega
   simp only [c,if_true,List.singleton_append,JK,Jd];refine ⟨(aq0 _).2 (by dsimp only;omega),he,key _ (by dsimp only;omega)⟩
  ·simp only [c,if_false,Jd];exact key _ (by omega)
theorem hql {m:Int}:∀ {r:List aj0} {a:Int},r.all val=true→r.Pairwise apart→(∀ x∈r,a≤x.At)→∀ k,k∈trks (fr m a r)↔a≤k∧k < m∧k ∉ trks r
 | [],a,_,_,_,k=>by
  unfold fr
  split
  ·simp only [aqx,jm,azu];simp only [trks,List.flatMap_nil,List.not_mem_nil,or_false,not_false_eq_true,and_true];constructor <;> intro h <;> omega
  ·simp only [trks,List.flatMap_nil,List.not_mem_nil,false_iff,not_false_eq_true,and_true];omega
 | x :: l,a,hv,hp,hx,k=>by
  simp only [Jq,jf] at hv;obtain ⟨hp1,hp2⟩:=J5.1 hp;have v:=(aq0 _).1 hv.1;have hax:=hx x Jf;have ih:=hql (m:=m) (a:=x.At+x.Len) hv.2 hp2 (fun y hy=>hp1 y hy) k
  have hlow:k∈trks l→x.At+x.Len≤k:=by
   intro hk;obtain ⟨y,hy,hk⟩:=j9.1 hk
   have:=hp1 y hy
   have:=azu.1 hk
   unfold apart at *;omega
  have hmn:(k < mn m x.At)↔(k < m∧k < x.At):=by unfold mn;split <;> omega
  have hrhs:k ∉ trks (x :: l)↔¬ (x.At≤k∧k < x.At+x.Len)∧k ∉ trks l:=by
   rw [aqx,jm,azu];exact not_or
  rw [hrhs];unfold fr
  have hl:k∈trks ((if a < mn m x.At then [⟨a,mn m x.At - a⟩] else []) ++ fr m (x.At+x.Len) l)↔(a≤k∧k < mn m x.At)∨k∈trks (fr m (x.At+x.Len) l):=by
   by_cases c:a < mn m x.At
   ·simp only [c,if_true,List.singleton_append,JK,Jd,aqx,jm,azu];constructor
    ·rintro (h | h)
     ·exact .inl (by omega)
     ·exact .inr h
    ·rintro (h | h)
     ·exact .inl (by omega)
     ·exact .inr h
   ·simp only [c,if_false,Jd];constructor
    ·exact .inr
    ·rintro (h | h)
     ·exact absurd (show a < mn m x.At by omega) c
     ·exact h
  rw [hl,ih,hmn];by_cases hk:k∈trks l
  ·have h7:=hlow hk;constructor
   ·rintro (⟨_,_,h⟩ | ⟨_,_,h⟩)
    ·omega
    ·exact absurd hk h
   ·rintro ⟨_,_,_,h⟩;exact absurd hk h
  ·simp only [hk,not_false_eq_true,and_true];omega
theorem gqz (n:Nat) (m:Int) (hm:0≤m∧m≤512) (r:List aj0) (hv:r.all val=true) (hn:r.length < n) (hl:r.length≤1073741824) :
  ((ajo (fun (x:(List aj0)×Int×Int)=>azv n m r (r.length:Int) x.1 x.2.1 x.2.2) n ([],0,0)).bind fun y=>akj n m y.1 y.2)=some (fr m 0 r):=by
 have h:=cw9 (n:=n) (σ:=List aj0×Int) (body:=fun (x:(List aj0)×Int×Int)=>azv n m r (r.length:Int) x.1 x.2.1 x.2.2) r (fun k s=>(s.1,s.2,(k:Int)))
  (fun s x=>.inl (s.1 ++ (if s.2 < mn m x.At then [⟨s.2,mn m x.At - s.2⟩] else []),x.At+x.Len)) (fun s=>s) (fun k s=>s.1.length≤k∧0≤s.2∧s.2≤1024) (s:=([],0)) (by simp)
  (fun k hk s hs=>by
   have c1:decide ((k:Int) < (r.length:Int))=true:=by simp;omega
   have c2:0≤(k:Int)∧(k:Int) < (r.length:Int):=by omega
   have c3:s.1.length+1≤2147483648:=by omega
   have v:=(aq0 _).1 (jx.1 hv _ (jw hk));have hmn:0≤mn m r[k].At∧mn m r[k].At≤512:=by unfold mn;split <;> omega
   have e1:(if m < r[k].At then m else r[k].At)=mn m r[k].At:=rfl;simp only [azv,bj0,bw5,c1,awh,if_true,aja _ c2,ju,aqk hk,e1,aja _ c3];rw [wid (n:=r[k].At+r[k].Len) (by omega),wid (n:=(k:Int)+1) (by omega),wid (n:=mn m r[k].At - s.2) (by omega)];by_cases c:s.2 < mn m r[k].At
   ·simp [c]
   ·simp [c])
  (fun k hk s hs s' hf=>by
   have v:=(aq0 _).1 (jx.1 hv _ (jw hk));simp only [Sum.inl.injEq] at hf;subst hf;refine ⟨?_,by dsimp only;omega,by dsimp only;omega⟩;dsimp only
   split
   ·rw [jg];simp only [jq,jS];omega
   ·rw [jg];simp only [jS];omega)
  (fun s _=>by simp [azv,awh]) hn
 have e:∀ (l:List aj0) (s:List aj0×Int),l.all val=true→0≤s.2→s.2≤1024→s.1.length+l.length≤1073741824 →
   ∃ y,runL (fun s x=>(.inl (s.1 ++ (if s.2 < mn m x.At then [⟨s.2,mn m x.At - s.2⟩] else []),x.At+x.Len):(List aj0×Int) ⊕ (List aj0×Int))) (fun s=>s) l s=y∧akj n m y.1 y.2=some (s.1 ++ fr m s.2 l):=by
  intro l
  induction l with
  | nil =>
   intro s _ h0 h1 h2;refine ⟨s,rfl,?_⟩;simp only [jS] at h2;have c3:s.1.length+1≤2147483648:=by omega
   simp only [akj,ayr,awh,aja _ c3,decide_eq_true_eq,gt_iff_lt,fr];rw [wid (by omega)]
   split <;> simp
  | cons x l ih =>
   intro s hv h0 h1 h2;simp only [Jq,jf] at hv;have v:=(aq0 _).1 hv.1;simp only [jq] at h2
   obtain ⟨y,y1,y2⟩:=ih (s.1 ++ (if s.2 < mn m x.At then [⟨s.2,mn m x.At - s.2⟩] else []),x.At+x.Len) hv.2 (by dsimp only;omega) (by dsimp only;omega) (by
    dsimp only
    split
    ·rw [jg];simp only [jq,jS];omega
    ·rw [jg];simp only [jS];omega)
   refine ⟨y,by simp only [runL];exact y1,?_⟩;rw [y2];simp only [fr,jQ]
 obtain ⟨y,y1,y2⟩:=e r ([],0) hv (by simp) (by simp) (by simpa using hl);rw [y1] at h;have h':ajo (fun (x:(List aj0)×Int×Int)=>azv n m r (r.length:Int) x.1 x.2.1 x.2.2) n ([],0,0)=some y:=h;rw [h',je,y2];simp
theorem akd (a b:List aj0):trks (a ++ b)=trks a ++ trks b:=by simp [trks]
theorem cwx (x:aj0):trks [x]=trk x:=by simp [trks]
theorem hwv {e e':Int} (h:e'≤e):∀ {l:List aj0},nf e l→nf e' l
 | [],_=>trivial
 | x :: l,⟨h1,h2,h3⟩=>⟨h1,by omega,h3⟩
theorem ewj:∀ {l:List aj0} {e:Int} (k:Nat),nf e l→nf e (l.eraseIdx k)
 | [],_,_,_=>by simp [nf]
 | x :: l,e,0,⟨h1,h2,h3⟩=>by
  have v:=(aq0 _).1 h1;exact hwv (by omega) h3
 | x :: l,e,k+1,⟨h1,h2,h3⟩=>⟨h1,h2,ewj k h3⟩
theorem hqf:∀ {l:List aj0} {e:Int} {k:Nat} {w:Int},nf e l→k < l.length→1≤w→w < (gt l k).Len→nf e (l.set k ⟨(gt l k).At+w,(gt l k).Len - w⟩)
 | [],_,_,_,_,h,_,_=>by simp at h
 | x :: l,e,0,w,⟨h1,h2,h3⟩,_,hw,hw2=>by
  have v:=(aq0 _).1 h1;simp only [gt_zero] at hw2;refine ⟨(aq0 _).2 (by simp only [gt_zero];omega),by simp only [gt_zero];omega,?_⟩;have e1:x.At+w+(x.Len - w)=x.At+x.Len:=by omega
  simp only [gt_zero,e1];exact h3
 | x :: l,e,k+1,w,⟨h1,h2,h3⟩,hk,hw,hw2=>by
  simp only [gt_succ] at hw2;simp only [gt_succ,List.set_cons_succ];exact ⟨h1,h2,hqf h3 (by simpa using hk) hw hw2⟩
theorem ek1 (a n w:Int) (h1:0≤w) (h2:w≤n):trk ⟨a,n⟩=trk ⟨a,w⟩ ++ trk ⟨a+w,n - w⟩:=by
 unfold trk;have e:n.toNat=w.toNat+(n - w).toNat:=by omega
 rw [e,List.range_add,List.map_append,List.map_map];congr 1;refine List.map_congr_left fun j _=>?_;simp only [Function.comp];omega
theorem djy:∀ {r:List aj0} {k:Nat},k < r.length→(trk (gt r k) ++ trks (r.eraseIdx k)).Perm (trks r)
 | [],k,h=>by simp at h
 | x :: r,0,_=>by simp [aqx]
 | x :: r,k+1,h=>by
  simp only [gt_succ,List.eraseIdx_cons_succ,aqx];refine List.Perm.trans ?_ (List.Perm.append_left (trk x) (djy (by simpa using h)));rw [← jQ,← jQ];exact List.Perm.append_right _ List.perm_append_comm
theorem fqy:∀ {r:List aj0} {k:Nat} {w:Int},k < r.length→0≤w→w≤(gt r k).Len→(trk ⟨(gt r k).At,w⟩ ++ trks (r.set k ⟨(gt r k).At+w,(gt r k).Len - w⟩)).Perm (trks r)
 | [],k,_,h,_,_=>by simp at h
 | x :: r,0,w,_,h1,h2=>by
  simp only [gt_zero] at h2;simp only [gt_zero,List.set_cons_zero,aqx];rw [← jQ,← ek1 x.At x.Len w h1 h2]
 | x :: r,k+1,w,h,h1,h2=>by
  simp only [gt_succ] at h2;simp only [gt_succ,List.set_cons_succ,aqx];refine List.Perm.trans ?_ (List.Perm.append_left (trk x) (fqy (by simpa using h) h1 h2));rw [← jQ,← jQ];exact List.Perm.append_right _ List.perm_append_comm
theorem hzq {e:Int} {l:List aj0} (h:nf e l):good l:=fun x hx=>jx.1 (fqr h) x hx
inductive Sel:Nat→List aj0→Int→Prop
 | zero (r:List aj0):Sel 0 r 0
 | nil (c:Nat):Sel c [] 0
 | step (c:Nat) (r:List aj0) (k:Nat) (s:Int) (h:isL r k) (hs:Sel c (r.eraseIdx k) s):Sel (c+1) r ((gt r k).Len+s)
theorem fwv (N:Nat) (most:Int):∀ (m1 len:Nat) (w:Int) (got row:List aj0),len < m1→len≤row.length→len < N→1≤w→w≤9223372036854775807→got.length+len≤1073741823→nf (-1) (row.take len)→got.all val=true →
  ∃ y,ajo (fun (x:Int×(List aj0)×(List aj0)×Nat)=>awy N most x.1 x.2.1 x.2.2.1 x.2.2.2) m1 (w,got,row,len)=some y ∧
   (∀ v,y = .inl v→v.2.2=0∧nf (-1) v.2.1∧v.1.all val=true∧(trks v.1 ++ trks v.2.1).Perm (trks got ++ trks (row.take len))∧(((trks v.1).length:Nat):Int)=(((trks got).length:Nat):Int)+w∧((v.1.length:Nat):Int)≤most) ∧
   (y = .inr ()→∃ s,Sel (most - (got.length:Int)).toNat (row.take len) s∧s < w)
 | 0,len,_,_,_,h,_,_,_,_,_,_,_=>by omega
 | m1+1,len,w,got,row,h1,hl,hN,hw,hw2,hgl,hnf,hgv=>by
  have hg:=hzq hnf;have hr:(row.take len).length=len:=by simp;omega
  by_cases c:((got.length:Nat):Int) < most∧0 < len
  ·have c1:(if (decide (((got.length:Nat):Int) < most))=true then (decide (((len:Nat):Int) > 0)) else false)=true:=by simp [c.1];omega
   rcases hj3 N w most got row ((len:Nat):Int) len rfl c.2 hl hN hw (by omega) (by omega) hg with ⟨k,hk,hA⟩ | ⟨k,hk1,hk2,hA⟩
   ·have hA':awy N most w got row len=some (.inr (.inl (got ++ [⟨(gt (row.take len) k).At,w⟩],cut (row.take len) k w,0))):=by
     simp only [awy,c1,awh,if_true,hA];rfl
    rw [ajw hA'];have hkl:=hk.1;have hgk:=fqe hg hkl;have hwk:=hk.2.1;refine ⟨_,rfl,fun v hv=>?_,fun hv=>by cases hv⟩;cases hv
    have hvw:val ⟨(gt (row.take len) k).At,w⟩=true:=(aq0 _).2 (by dsimp only;omega);have hlw:(trk ⟨(gt (row.take len) k).At,w⟩).length=w.toNat:=bqj _;refine ⟨rfl,?_,by rw [List.all_append,hgv];simp [hvw],?_,?_,?_⟩
    ·dsimp only;unfold cut
     split
     ·exact ewj k hnf
     ·exact hqf hnf hkl hw (by omega)
    ·dsimp only;rw [akd,cwx,jQ];refine List.Perm.append_left _ ?_;unfold cut
     split
     ·rename_i e;have h:=djy hkl;have e2:(⟨(gt (row.take len) k).At,w⟩:aj0)=gt (row.take len) k:=by rw [← e]
      rw [e2];exact h
     ·exact fqy hkl (by omega) hwk
    ·dsimp only;rw [akd,cwx,jg,hlw];omega
    ·dsimp only;rw [jg];simp only [jq,jS];omega
   ·have hkl:k < (row.take len).length:=hk2.1;have hkl':k < len:=by omega
    have hgk:=fqe hg hkl;have hwk:=hk1 k hkl;obtain ⟨row',e1,e2,e3⟩:=eyg N row len k hkl' hl;have e4:=fq6 hkl' hl
    have hA':awy N most w got row len=some (.inl (w - (gt (row.take len) k).Len,got ++ [gt (row.take len) k],row',len - 1)):=by
     have d1:(0≤(k:Int)∧(k:Int) < (len:Int))∧k < row.length∧got.length+1≤2147483648:=by omega
     have d2:(0≤(k:Int)∧(k:Int) < (len:Int))∧k < row.length:=by omega
     simp only [awy,c1,awh,if_true,hA,je,bw6,ju,aja _ d1,aja _ d2];rw [wid (by omega),e1,← e4,gqh (by omega) (by omega)];rfl
    have hgl':(got ++ [gt (row.take len) k]).length=got.length+1:=by simp
    have hvk:val (gt (row.take len) k)=true:=(aq0 _).2 hgk;rw [aq5 hA'];obtain ⟨y,q1,q2,q3⟩:=fwv N most m1 (len - 1) (w - (gt (row.take len) k).Len) (got ++ [gt (row.take len) k]) row' (by omega) (by omega) (by omega) (by omega) (by omega) (by rw [hgl'];omega) (by rw [e3];exact ewj k hnf) (by rw [List.all_append,hgv];simp [hvk]);refine ⟨y,q1,fun v hv=>?_,fun hv=>?_⟩
    ·obtain ⟨b1,b2,b3,b4,b5,b6⟩:=q2 v hv;refine ⟨b1,b2,b3,?_,?_,b6⟩
     ·refine b4.trans ?_;rw [e3,akd,cwx,jQ];exact List.Perm.append_left _ (djy hkl)
     ·rw [b5,akd,cwx,jg,bqj];omega
    ·obtain ⟨s,s1,s2⟩:=q3 hv;rw [e3,hgl'] at s1;have e5:(most - (got.length:Int)).toNat=(most - ((got.length+1:Nat):Int)).toNat+1:=by omega
     refine ⟨_,by rw [e5];exact Sel.step _ _ k s hk2 s1,by omega⟩
  ·have c1:(if (decide (((got.length:Nat):Int) < most))=true then (decide (((len:Nat):Int) > 0)) else false)=false:=by
    rw [← Jt];intro h
    split at h
    ·rename_i h3;simp at h h3;omega
    ·cases h
   refine ⟨.inr (),ajw ?_,fun v hv=>by (cases hv),fun _=>⟨0,?_,by omega⟩⟩
   ·simp only [awy,c1,awh,jn,if_false]
   ·by_cases c2:0 < len
    ·have:(most - (got.length:Int)).toNat=0:=by omega
     rw [this];exact Sel.zero _
    ·have:row.take len=[]:=List.eq_nil_of_length_eq_zero (by omega)
     rw [this];exact Sel.nil _
theorem gkp (n:Nat) (hn:N0≤n) (l:List aj0) (w most:Int) (hl:l.length≤2097152) (hw2:w≤9223372036854775807) :
  (az3 n l w most=some ([],[],1)∧¬ ((chk 512 (-1) l=true∧1≤w)∧1≤most)) ∨
  (chk 512 (-1) l=true∧∃ v,az3 n l w most=some v∧v.2.2=0∧nf (-1) v.2.1∧v.1.all val=true∧(trks v.1 ++ trks v.2.1).Perm (trks l)∧(((trks v.1).length:Nat):Int)=w∧((v.1.length:Nat):Int)≤most) ∨
  (chk 512 (-1) l=true∧az3 n l w most=some ([],[],200)∧∃ s,Sel most.toNat l s∧s < w):=by
 have hln:l.length < n:=by unfold N0 at hn;omega
 simp only [az3,fqx n l 512 hln (by omega),je];by_cases c:(chk 512 (-1) l=true∧1≤w)∧1≤most
 ·have c1:(if (if (!(chk 512 (-1) l))=true then true else (decide (w < 1)))=true then true else (decide (most < 1)))=false:=by
   have h1:¬ w < 1:=by omega
   have h2:¬ most < 1:=by omega
   simp [c.1.1,h1,h2]
  have hnf:=((gzp 512 l (-1)).1 c.1.1).1;obtain ⟨y,h1,h2,h3⟩:=fwv n most n l.length w [] l hln (jA _) hln c.1.2 hw2 (by simp;omega) (by rw [J4];exact hnf) rfl;rw [J4] at h2 h3;simp only [c1,awh,jn,if_false,ez2 n l (by omega),je];rw [h1];cases y with
  | inl v =>
   obtain ⟨b1,b2,b3,b4,b5,b6⟩:=h2 v rfl;refine .inr (.inl ⟨c.1.1,v,rfl,b1,b2,b3,by simpa [trks] using b4,by simpa [trks] using b5,b6⟩)
  | inr v =>
   obtain ⟨s,s1,s2⟩:=h3 rfl;exact .inr (.inr ⟨c.1.1,rfl,s,by simpa using s1,s2⟩)
 ·have c1:(if (if (!(chk 512 (-1) l))=true then true else (decide (w < 1)))=true then true else (decide (most < 1)))=true:=by
   by_cases h0:chk 512 (-1) l=true
   ·by_cases h1:w < 1
    ·simp [h0,h1]
    ·have h2:most < 1:=by
      by_cases h2:most < 1
      ·exact h2
      ·exact absurd ⟨⟨h0,by omega⟩,by omega⟩ c
     simp [h2]
   ·simp [h0]
  simp only [c1,awh,if_true];exact .inl ⟨trivial,c⟩
def tk (w:Int) (x:aj0):Int:=if x.Len < w then x.Len else w
def kpA:Int→List aj0→List aj0
 | _,[]=>[]
 | w,x :: l=>(if 0 < tk w x then [⟨x.At,tk w x⟩] else []) ++ kpA (w - tk w x) l
def kpB:Int→List aj0→List aj0
 | _,[]=>[]
 | w,x :: l=>(if tk w x < x.Len then [⟨x.At+tk w x,x.Len - tk w x⟩] else []) ++ kpB (w - tk w x) l
theorem gzm (n:Nat) (l:List aj0) (hv:l.all val=true) (w:Int) (hw:0≤w∧w≤9223372036854775807) (hn:l.length < n) (hl:l.length≤1073741824) :
  ajo (fun (x:Int×(List aj0)×(List aj0)×Int)=>akn n l (l.length:Int) x.1 x.2.1 x.2.2.1 x.2.2.2) n (w,[],[],0)=some (kpA w l,kpB w l):=by
 have h:=cw9 (n:=n) (σ:=Int×List aj0×List aj0) (body:=fun (x:Int×(List aj0)×(List aj0)×Int)=>akn n l (l.length:Int) x.1 x.2.1 x.2.2.1 x.2.2.2) l (fun k s=>(s.1,s.2.1,s.2.2,(k:Int)))
  (fun s x=>.inl (s.1 - tk s.1 x,s.2.1 ++ (if 0 < tk s.1 x then [⟨x.At,tk s.1 x⟩] else []),s.2.2 ++ (if tk s.1 x < x.Len then [⟨x.At+tk s.1 x,x.Len - tk s.1 x⟩] else []))) (fun s=>(s.2.1,s.2.2)) (fun k s=>0≤s.1∧s.1≤9223372036854775807∧s.2.1.length≤k∧s.2.2.length≤k) (s:=(w,[],[])) (by simp [hw])
  (fun k hk s hs=>by
   have c1:decide ((k:Int) < (l.length:Int))=true:=by simp;omega
   have c2:0≤(k:Int)∧(k:Int) < (l.length:Int):=by omega
   have v:=(aq0 _).1 (jx.1 hv _ (jw hk));have e1:(if l[k].Len < s.1 then l[k].Len else s.1)=tk s.1 l[k]:=rfl;have ht:0≤tk s.1 l[k]∧tk s.1 l[k]≤l[k].Len∧tk s.1 l[k]≤s.1:=by unfold tk;split <;> omega
   have c3:s.2.1.length+1≤2147483648:=by omega
   have c4:s.2.2.length+1≤2147483648:=by omega
   simp only [akn,bj5,bj6,bqz,c1,awh,if_true,aja _ c2,ju,aqk hk,e1,aja _ c3,aja _ c4,decide_eq_true_eq,gt_iff_lt];rw [gqh (n:=s.1 - tk s.1 l[k]) (by omega) (by omega),wid (n:=(k:Int)+1) (by omega),wid (n:=l[k].At+tk s.1 l[k]) (by omega),wid (n:=l[k].Len - tk s.1 l[k]) (by omega)]
   by_cases h1:0 < tk s.1 l[k] <;> by_cases h2:tk s.1 l[k] < l[k].Len <;> simp [h1,h2])
  (fun k hk s hs s' hf=>by
   have v:=(aq0 _).1 (jx.1 hv _ (jw hk));have ht:0≤tk s.1 l[k]∧tk s.1 l[k]≤l[k].Len∧tk s.1 l[k]≤s.1:=by unfold tk;split <;> omega
   simp only [Sum.inl.injEq] at hf;subst hf;dsimp only;refine ⟨by omega,by omega,?_,?_⟩
   ·rw [jg];split <;> simp <;> omega
   ·rw [jg];split <;> simp <;> omega)
  (fun s _=>by simp [akn,awh]) hn
 have e:∀ (l:List aj0) (s:Int×List aj0×List aj0),runL (fun (s:Int×List aj0×List aj0) (x:aj0)=>(.inl (s.1 - tk s.1 x,s.2.1 ++ (if 0 < tk s.1 x then [⟨x.At,tk s.1 x⟩] else []),s.2.2 ++ (if tk s.1 x < x.Len then [⟨x.At+tk s.1 x,x.Len - tk s.1 x⟩] else [])):(Int×List aj0×List aj0) ⊕ (List aj0×List aj0))) (fun s=>(s.2.1,s.2.2)) l s=(s.2.1 ++ kpA s.1 l,s.2.2 ++ kpB s.1 l):=by
  intro l
  induction l with
  | nil=>intro s;simp [runL,kpA,kpB]
  | cons x l ih=>intro s;simp only [runL,ih,kpA,kpB,jQ]
 rw [e] at h;simpa using h
def mx (w:Int):Int:=if 0 > w then 0 else w
def t0 (w:Int) (x:aj0):Int:=if (if x.Len < w then x.Len else w) > 0 then (if x.Len < w then x.Len else w) else 0
theorem hqr:∀ (l:List aj0) (w:Int),(kpA w l).length≤l.length∧(kpB w l).length≤l.length
 | [],w=>by simp [kpA,kpB]
 | x :: l,w=>by
  obtain ⟨h1,h2⟩:=hqr l (w - tk w x);simp only [kpA,kpB,jg,jq];constructor <;> (split <;> simp <;> omega)
end Go.Proofs.YtijnkhcfondehaaGreatDoor
