/- Text. -/
import Derived.Test.YtijnkhcfondehaaGreatDoorAE21
import Derived.Test.YtijnkhcfondehaaGreatDoorF
set_option linter.unusedSimpArgs false
set_option linter.unusedVariables false
set_option maxRecDepth 100000
open _root_.Bool renaming not_true→jQ,true_and→Ja,not_eq_true'→j3,not_eq_true→JH,false_eq_true→jl,and_eq_true→je
open _root_.Int renaming toNat_natCast→jr
open Go.IntKind renaming wrap→jc
open _root_.List renaming range→Jb,getElem_map→JF,getElem_range→JP,ext_getElem→JG,length_set→Ji,mem_append→jm,length_append→ji,mem_flatMap→JO,all_eq_true→jD,getElem_mem→jG,nil_append→Jr,length_nil→j5,mem_cons_self→Jy,mem_cons→jN,all_cons→Ju,append_assoc→j7,length_cons→jC,map_congr_left→jR
open _root_.Option renaming bind_some→jf,isSome_iff_exists→j9
open _root_.Option.some renaming injEq→jb
namespace Go.Proofs.YtijnkhcfondehaaGreatDoor
open Go.AE
def N0:Nat:=4194304
theorem wid {n:Int} (h:-4611686018427387904≤n∧n≤4611686018427387904):jc .i64 n=n:=hqm (by omega) (by omega)
theorem aqa {α:Type} (b:Bool) (x y:α):(bif b then x else y)=if b=true then x else y:=by cases b <;> rfl
theorem dyz (p q:Bool):(if p=true then q else false)=(p && q):=by cases p <;> simp
theorem dkq (p q:Bool):(if p=true then true else q)=(p || q):=by cases p <;> simp
def val (x:aj0):Bool:=decide (0≤x.At∧1≤x.Len∧x.At < 512∧x.Len≤512 - x.At)
theorem aqn (x:aj0):val x=true↔0≤x.At∧1≤x.Len∧x.At < 512∧x.Len≤512 - x.At:=by simp [val]
theorem fqt (x:aj0):(if (if (if (decide (x.At ≥ 0))=true then (decide (x.Len ≥ 1)) else false)=true then (decide (x.At < 512)) else false)=true then (decide (x.Len≤(jc .i64 (512 - x.At)))) else false)=val x:=by
 by_cases hA:0≤x.At∧x.At < 512
 ·rw [wid (by omega)]
  by_cases h2:1≤x.Len <;> by_cases h4:x.Len≤512 - x.At <;> simp [val,hA.1,hA.2,h2,h4]
 ·by_cases h1:0≤x.At <;> by_cases h3:x.At < 512
  ·exact absurd ⟨h1,h3⟩ hA
  all_goals simp [val,h1,h3]
theorem fql (n:Nat) (x:aj0):ayw n x=some (val x):=by simp only [ayw,fqt]
theorem hqw (n:Nat) (x:aj0):cqo n x=some (val x):=by simp only [cqo,fqt]
def chk (m:Int):Int→List aj0→Bool
 | _,[]=>true
 | e,x :: l=>val x && decide (e < x.At) && decide (x.At+x.Len≤m) && chk m (x.At+x.Len) l
theorem hw7 (n:Nat) (l:List aj0) (m:Int) (hn:l.length < n) (hl:l.length≤2147483648):bqq n l m=some (chk m (-1) l):=by
 have h:=ay3 (σ:=Int) (body:=fun (x:Int×Int)=>az7 n m l (l.length:Int) x.1 x.2) l (fun k e=>(e,(k:Int)))
  (fun e x=>if val x && decide (e < x.At) && decide (x.At+x.Len≤m) then .inl (x.At+x.Len) else .inr (.inl false)) (fun _=>.inr ()) (fun _ _=>True) (s:=-1) trivial
  (fun k hk e _=>by
   have h1:decide ((k:Int) < (l.length:Int))=true:=by simp;omega
   have h2:(0:Int)≤(k:Int)∧(k:Int) < (l.length:Int):=by omega
   simp only [az7,h1,aqa,if_true,ajb _ h2,fql,jf,jr,azh hk,dkq]
   by_cases hv:val l[k]=true
   ·have hv':=(aqn _).1 hv
    simp only [hv,jQ,Bool.false_or,Ja]
    rw [wid (by omega),wid (by omega)]
    have e1:(decide (l[k].At≤e) || decide (l[k].At+l[k].Len > m)) = !(decide (e < l[k].At) && decide (l[k].At+l[k].Len≤m)):=by
     rw [Bool.eq_iff_iff,Bool.or_eq_true,j3,Bool.and_eq_false_iff]
     simp only [decide_eq_true_eq,decide_eq_false_iff_not]
     omega
    rw [e1]
    cases (decide (e < l[k].At) && decide (l[k].At+l[k].Len≤m)) <;> simp
   ·simp [hv])
  (fun _ _ _ _ _ _=>trivial) (fun e _=>by simp [az7,aqa]) hn
 have e:∀ (l:List aj0) (e:Int),runL (fun e x=>if val x && decide (e < x.At) && decide (x.At+x.Len≤m) then .inl (x.At+x.Len) else (.inr (.inl false):Int ⊕ (Bool ⊕ Unit))) (fun _=>.inr ()) l e=if chk m e l then .inr () else .inl false:=by
  intro l
  induction l with
  | nil=>intro e;simp [runL,chk]
  | cons x l ih =>
   intro e
   simp only [runL,chk]
   by_cases h:(val x && decide (e < x.At) && decide (x.At+x.Len≤m))=true
   ·simp only [h,if_true,Ja,ih]
   ·rw [JH] at h
    simp [h]
 rw [e] at h
 simp only [bqq]
 have h':aji (fun (x:Int×Int)=>az7 n m l (l.length:Int) x.1 x.2) n (-1,0)=some (if chk m (-1) l then .inr () else .inl false):=h
 rw [h']
 cases chk m (-1) l <;> rfl
def trk (x:aj0):List Int:=(Jb x.Len.toNat).map fun (j:Nat)=>x.At+(j:Int)
def trks (l:List aj0):List Int:=l.flatMap trk
def bj7:List Int→List Int→Option (List Int)
 | s,[]=>some s
 | s,k :: t=>if k∈s then none else bj7 (s ++ [k]) t
def trkF:List Int→List aj0→Option (List Int)
 | s,[]=>some s
 | s,x :: l=>if val x then (bj7 s (trk x)).bind fun s'=>trkF s' l else none
def mark (s:List Int):List Bool:=(Jb 512).map fun (k:Nat)=>decide ((k:Int)∈s)
theorem by4 (s:List Int):(mark s).length=512:=by simp [mark]
theorem ew8 (s:List Int) {k:Int} (h:0≤k∧k < 512):gt (mark s) k.toNat=decide (k∈s):=by
 have h1:k.toNat < 512:=by omega
 rw [azh (by rw [by4];exact h1)]
 simp only [mark,JF,JP]
 have:((k.toNat:Nat):Int)=k:=by omega
 rw [this]
theorem fqo (s:List Int) {k:Int} (h:0≤k∧k < 512):List.set (mark s) k.toNat true=mark (s ++ [k]):=by
 refine JG (by simp [mark]) fun i h1 h2=>?_
 simp only [Ji,by4] at h1
 rw [List.getElem_set]
 simp only [mark,JF,JP,jm,List.mem_singleton]
 by_cases e:k.toNat=i
 ·have:(i:Int)=k:=by omega
  simp [e,this]
 ·have:¬ (i:Int)=k:=by omega
  simp [e,this]
theorem ew5:aqo 512 false=mark []:=by
 have e:mark []=List.replicate 512 false:=by
  unfold mark
  rw [List.eq_replicate_iff]
  refine ⟨by simp,fun b hb=>?_⟩
  obtain ⟨k,_,rfl⟩:=List.mem_map.1 hb
  simp
 rw [e];rfl
theorem by7:∀ {t s s':List Int},bj7 s t=some s'→s'=s ++ t
 | [],s,s',h=>by simp only [bj7,jb] at h;simp [h]
 | k :: t,s,s',h=>by
  simp only [bj7] at h
  split at h
  ·cases h
  ·rw [by7 h];simp
theorem bwj (x:aj0):(trk x).length=x.Len.toNat:=by simp [trk]
theorem ayh {x:aj0} {k:Int}:k∈trk x↔x.At≤k∧k < x.At+x.Len:=by
 simp only [trk,List.mem_map,List.mem_range]
 constructor
 ·rintro ⟨j,hj,rfl⟩;omega
 ·rintro ⟨h1,h2⟩;exact ⟨(k - x.At).toNat,by omega,by omega⟩
theorem gyv {x:aj0} {k:Nat} (h:k < (trk x).length):(trk x)[k]=x.At+(k:Int):=by simp [trk]
theorem fy8 (n:Nat) (l:List aj0) (i:Nat) (hi:i < l.length) (hv:val l[i]=true) (s:List Int) (hs:s.length≤1073741824) (hn:512 < n) :
  aji (fun (x:(List Bool)×(List Int)×Int)=>awr n l (i:Int) x.1 x.2.1 x.2.2) n (mark s,s,l[i].At)=some (match bj7 s (trk l[i]) with | some s'=>.inr (mark s',s') | none=>.inl ([],false)):=by
 have hv':=(aqn _).1 hv
 have h:=ay3 (n:=n) (σ:=List Int) (body:=fun (x:(List Bool)×(List Int)×Int)=>awr n l (i:Int) x.1 x.2.1 x.2.2) (trk l[i]) (fun k s=>(mark s,s,l[i].At+(k:Int)))
  (fun s k=>if k∈s then .inr (.inl ([],false)) else .inl (s ++ [k])) (fun s=>.inr (mark s,s)) (fun k s'=>s'.length≤s.length+k) (s:=s) (by omega)
  (fun k hk s2 hs2=>by
   revert hs2
   generalize hs0:s.length=sl
   rw [hs0] at hs
   clear hs0
   revert s2
   intro s hs2
   have hk':=hk
   rw [bwj] at hk'
   have h1:(0≤(i:Int)∧(i:Int) < (l.length:Int))∧(0≤(i:Int)∧(i:Int) < (l.length:Int)):=by omega
   have h2:decide (l[i].At+(k:Int) < jc .i64 (l[i].At+l[i].Len))=true:=by rw [wid (by omega)];simp;omega
   have h3:0≤l[i].At+(k:Int)∧l[i].At+(k:Int) < 512:=by omega
   have h4:(0≤l[i].At+(k:Int)∧l[i].At+(k:Int) < 512∧(mark s).length=512)∧(l[i].At+(k:Int)).toNat < (mark s).length:=by rw [by4];omega
   simp only [awr,ajb _ h1,jr,azh hi,h2,aqa,if_true,ajb _ h4,ew8 s h3,gyv hk,decide_eq_true_eq]
   by_cases hm:l[i].At+(k:Int)∈s
   ·simp [hm]
   ·have h5:s.length+1≤2147483648:=by omega
    simp only [hm,if_false,ajb _ h5,fqo s h3]
    rw [wid (by omega)]
    have e5:l[i].At+(k:Int)+1=l[i].At+((k+1:Nat):Int):=by omega
    rw [e5])
  (fun k hk s hs s' hf=>by
   split at hf
   ·cases hf
   ·simp only [Sum.inl.injEq] at hf;subst hf;simp;omega)
  (fun s hs=>by
   have h1:(0≤(i:Int)∧(i:Int) < (l.length:Int))∧(0≤(i:Int)∧(i:Int) < (l.length:Int)):=by omega
   have h2:decide (l[i].At+(((trk l[i]).length:Nat):Int) < jc .i64 (l[i].At+l[i].Len))=false:=by
    have e:=bwj l[i]
    rw [wid (by omega)]
    simp only [decide_eq_false_iff_not]
    omega
   simp only [awr,ajb _ h1,jr,azh hi,h2,aqa,jl,if_false]) (by rw [bwj];omega)
 have e:∀ (t s:List Int),runL (fun s k=>if k∈s then (.inr (.inl ([],false)):List Int ⊕ ((List Int×Bool) ⊕ (List Bool×List Int))) else .inl (s ++ [k])) (fun s=>.inr (mark s,s)) t s=match bj7 s t with | some s'=>.inr (mark s',s') | none=>.inl ([],false):=by
  intro t
  induction t with
  | nil=>intro s;simp [runL,bj7]
  | cons k t ih =>
   intro s
   simp only [runL,bj7]
   by_cases hm:k∈s
   ·simp [hm]
   ·simp only [hm,if_false,ih]
 rw [e] at h
 simpa using h
theorem fkr (n:Nat) (l:List aj0) (hn:l.length < n) (hn2:512 < n) (hl:l.length≤2097152):azd n l=some (match trkF [] l with | some s=>(s,true) | none=>([],false)):=by
 have h:=ay3 (σ:=List Int) (body:=fun (x:(List Bool)×(List Int)×Int)=>az4 n l x.1 x.2.1 x.2.2) l (fun k s=>(mark s,s,(k:Int)))
  (fun s x=>if val x then (match bj7 s (trk x) with | some s'=>.inl s' | none=>.inr (.inl ([],false))) else .inr (.inl ([],false))) (fun s=>.inr s) (fun k s=>s.length≤512 * k) (s:=[]) (by simp)
  (fun k hk s hs=>by
   have h1:decide ((k:Int) < (l.length:Int))=true:=by simp;omega
   have h2:0≤(k:Int)∧(k:Int) < (l.length:Int):=by omega
   simp only [az4,h1,aqa,if_true,ajb _ h2,hqw,jf,jr,azh hk]
   by_cases hv:val l[k]=true
   ·simp only [hv,jQ,jl,if_false,if_true]
    rw [fy8 n l k hk hv s (by omega) hn2]
    simp only [jf]
    cases bj7 s (trk l[k]) with
    | none=>rfl
    | some s' =>
     simp only [bj6]
     rw [wid (by omega)];simp
   ·simp [hv])
  (fun k hk s hs s' hf=>by
   split at hf
   ·rename_i hv
    have hv':=(aqn _).1 hv
    split at hf
    ·rename_i s2 h2
     simp only [Sum.inl.injEq] at hf;subst hf
     rw [by7 h2,ji,bwj];omega
    ·cases hf
   ·cases hf)
  (fun s hs=>by simp [az4,aqa]) hn
 have e:∀ (l:List aj0) (s:List Int),runL (fun s x=>if val x then (match bj7 s (trk x) with | some s'=>.inl s' | none=>(.inr (.inl ([],false)):List Int ⊕ ((List Int×Bool) ⊕ List Int))) else .inr (.inl ([],false))) (fun s=>.inr s) l s=match trkF s l with | some s'=>.inr s' | none=>.inl ([],false):=by
  intro l
  induction l with
  | nil=>intro s;simp [runL,trkF]
  | cons x l ih =>
   intro s
   simp only [runL,trkF]
   by_cases hv:val x=true
   ·simp only [hv,if_true]
    cases bj7 s (trk x) with
    | none=>rfl
    | some s'=>simp only [jf,ih]
   ·simp [hv]
 rw [e] at h
 have h':aji (fun (x:(List Bool)×(List Int)×Int)=>az4 n l x.1 x.2.1 x.2.2) n (mark [],[],0)=_:=h
 simp only [azd,ew5,h',jf]
 cases trkF [] l <;> rfl
theorem dj5:∀ {l:List aj0} {s s':List Int},trkF s l=some s'→s'=s ++ trks l∧l.all val=true
 | [],s,s',h=>by simp only [trkF,jb] at h;simp [h,trks]
 | x :: l,s,s',h=>by
  simp only [trkF] at h
  split at h
  ·rename_i hv
   obtain ⟨s2,h1,h2⟩:=bind_some h
   obtain ⟨h3,h4⟩:=dj5 h2
   rw [by7 h1] at h3
   exact ⟨by rw [h3];simp [trks],by simp [hv,h4]⟩
  ·cases h
theorem akk {l:List aj0} (h:l.all val=true):∀ k∈trks l,0≤k∧k < 512:=by
 intro k hk
 obtain ⟨x,hx,hk⟩:=JO.1 hk
 have hv:=(aqn x).1 (jD.1 h x hx)
 have:=ayh.1 hk
 omega
theorem gzy (n:Nat) (v2:List Bool) (t:List Int) (ht:∀ k∈t,0≤k∧k < 512) (hn:t.length < n) (hl:t.length≤2147483648):aji (fun (x:(List Bool)×Int)=>ayp n v2 t x.1 x.2) n (mark [],0)=some (mark t):=by
 have h:=ay3 (n:=n) (σ:=List Int) (body:=fun (x:(List Bool)×Int)=>ayp n v2 t x.1 x.2) t (fun k s=>(mark s,(k:Int))) (fun s k=>.inl (s ++ [k])) (fun s=>mark s) (fun _ _=>True) (s:=[]) trivial
  (fun k hk s _=>by
   have h1:decide ((k:Int) < ((t.length:Nat):Int))=true:=by simp;omega
   have hr:=ht t[k] (jG hk)
   have h2:(0≤(k:Int)∧(k:Int) < (t.length:Int))∧(Int.toNat (k:Int)) < t.length∧(0≤t[k]∧t[k] < 512∧(mark s).length=512)∧(Int.toNat t[k]) < (mark s).length:=by rw [by4];simp;omega
   simp only [ayp,h1,aqa,if_true,jr,azh hk]
   rw [jr] at h2
   rw [ajb _ h2,fqo s hr,wid (by omega)]
   simp)
  (fun _ _ _ _ _ _=>trivial) (fun s _=>by simp [ayp,aqa]) hn
 have e:∀ (t s:List Int),runL (fun s k=>(.inl (s ++ [k]):List Int ⊕ List Bool)) (fun s=>mark s) t s=mark (s ++ t):=by
  intro t
  induction t with
  | nil=>intro s;simp [runL]
  | cons k t ih=>intro s;simp [runL,ih]
 rw [e] at h
 simpa using h
def trkO (l:List aj0):List Int:=(trkF [] l).getD []
theorem ejb (l:List aj0):∀ k∈trkO l,0≤k∧k < 512:=by
 unfold trkO
 cases h:trkF [] l with
 | none=>simp
 | some s =>
  obtain ⟨h1,h2⟩:=dj5 h
  simp only [Jr] at h1
  subst h1
  simpa using akk h2
theorem dw4:∀ {t s s':List Int},bj7 s t=some s'→s.Nodup→s'.Nodup
 | [],s,s',h,hs=>by simp only [bj7,jb] at h;subst h;exact hs
 | k :: t,s,s',h,hs=>by
  simp only [bj7] at h
  split at h
  ·cases h
  ·rename_i hk
   refine dw4 h (List.nodup_append.2 ⟨hs,by simp,?_⟩)
   rintro a ha b hb rfl
   simp only [List.mem_singleton] at hb;subst hb
   exact hk ha
theorem dq7:∀ {l:List aj0} {s s':List Int},trkF s l=some s'→s.Nodup→s'.Nodup
 | [],s,s',h,hs=>by simp only [trkF,jb] at h;subst h;exact hs
 | x :: l,s,s',h,hs=>by
  simp only [trkF] at h
  split at h
  ·obtain ⟨s2,h1,h2⟩:=bind_some h
   exact dq7 h2 (dw4 h1 hs)
  ·cases h
theorem few:∀ {m:Nat} {s:List Int},s.Nodup→(∀ k∈s,0≤k∧k < (m:Int))→s.length≤m
 | 0,s,hn,hr=>by
  cases s with
  | nil=>simp
  | cons k t=>have:=hr k (by simp);omega
 | m+1,s,hn,hr=>by
  have h:=few (m:=m) (s:=s.erase (m:Int)) (hn.erase _) (fun k hk=>by
   have h1:=(List.Nodup.mem_erase_iff hn).1 hk
   have:=hr k h1.2
   have:=h1.1
   omega)
  rw [List.length_erase] at h
  split at h <;> omega
theorem gwx (l:List aj0):(trkO l).length≤512:=by
 refine few ?_ (ejb l)
 unfold trkO
 cases h:trkF [] l with
 | none=>simp
 | some s=>simpa using dq7 h List.nodup_nil
theorem djm (n:Nat) (l:List aj0) (hn:N0≤n) (hl:l.length≤2097152):azd n l=some (trkO l,(trkF [] l).isSome):=by
 rw [fkr n l (by unfold N0 at hn;omega) (by unfold N0 at hn;omega) hl]
 unfold trkO
 cases trkF [] l <;> rfl
theorem gqf (n:Nat) (l:List aj0) (hn:N0≤n) (hl:l.length≤2097152):cqz n l=some (mark (trkO l)):=by
 have h2:=gwx l
 have h1:=gzy n (aqo 512 false) (trkO l) (ejb l) (by unfold N0 at hn;omega) (by omega)
 simp only [cqz,djm n l hn hl,jf]
 rw [ew5] at h1 ⊢
 simp only [h1,jf,bzp]
 have e:(mark (trkO l)).length=512:=by4 _
 have e2:(mark []).length=512:=by4 _
 rw [ajb _ ⟨e,e2⟩,ajb _ e]
def addT (out:List aj0) (k:Int):List aj0 :=
 if 0 < out.length∧(gt out (out.length - 1)).At+(gt out (out.length - 1)).Len=k then out.set (out.length - 1) ⟨(gt out (out.length - 1)).At,(gt out (out.length - 1)).Len+1⟩ else out ++ [⟨k,1⟩]
def nrm (p:List Bool):List aj0:=(Jb 512).foldl (fun out (k:Nat)=>if gt p k then addT out (k:Int) else out) []
theorem gwv (out:List aj0) (k:Int):(addT out k).length≤out.length+1:=by unfold addT;split <;> simp
theorem gjh {out:List aj0} (h:0 < out.length):gt out (out.length - 1)∈out:=by
 rw [azh (by omega)];exact jG _
theorem gqn (n:Nat) (p:List Bool) (hp:p.length=512) (hn:512 < n):bqn n p=some (nrm p):=by
 have h:=ay3 (n:=n) (σ:=List aj0) (body:=fun (x:(List aj0)×Int)=>awz n p x.1 x.2) (Jb 512) (fun k s=>(s,(k:Int)))
  (fun out (k:Nat)=>.inl (if gt p k then addT out (k:Int) else out)) (fun out=>out) (fun k s=>s.length≤k∧∀ y∈s,0≤y.At∧0≤y.Len∧y.At+y.Len≤512) (s:=[]) (by simp)
  (fun k hk s hs=>by
   obtain ⟨hs1,hs2⟩:=hs
   simp only [List.length_range] at hk
   have h1:decide ((k:Int) < 512)=true:=by simp;omega
   have h2:(0≤(k:Int)∧(k:Int) < 512∧p.length=512)∧k < p.length:=by omega
   simp only [awz,aws,h1,aqa,if_true,jr,ajb _ h2,JP]
   by_cases hg:gt p k=true
   ·simp only [hg,jQ,jl,if_false,if_true]
    by_cases h0:0 < s.length
    ·have hm:=hs2 _ (gjh h0)
     have e1:jc .i64 (((s.length:Nat):Int) - 1)=((s.length - 1:Nat):Int):=by rw [wid (by omega)];omega
     have e0:decide (((s.length:Nat):Int) > 0)=true:=by simp;omega
     simp only [e1,e0,jr,if_true]
     have h3:0≤((s.length - 1:Nat):Int)∧((s.length - 1:Nat):Int) < (s.length:Int):=by omega
     have h4:s.length - 1 < s.length:=by omega
     rw [ajb _ ⟨fun _=>h3,fun _=>h4,fun _=>h3,fun _=>h4⟩]
     rw [wid (n:=(gt s (s.length - 1)).At+(gt s (s.length - 1)).Len) (by omega)]
     simp only [beq_iff_eq,addT,h0,true_and]
     by_cases h5:(gt s (s.length - 1)).At+(gt s (s.length - 1)).Len=(k:Int)
     ·simp only [h5,if_true,ajb _ (show ((0≤((s.length - 1:Nat):Int)∧((s.length - 1:Nat):Int) < (s.length:Int))∧s.length - 1 < s.length∧(0≤((s.length - 1:Nat):Int)∧((s.length - 1:Nat):Int) < (s.length:Int))∧s.length - 1 < s.length) from ⟨h3,h4,h3,h4⟩)]
      rw [wid (by omega),wid (by omega)];simp
     ·simp only [h5,if_false,ajb _ (show s.length+1≤2147483648 by omega)]
      rw [wid (by omega)];simp
    ·have e:s=[]:=List.eq_nil_of_length_eq_zero (by omega)
     subst e
     rw [ajb _ (by simp)]
     simp only [j5]
     rw [if_neg (by simp),ajb _ (by simp),wid (by omega)]
     simp [addT]
   ·simp only [hg,Bool.not_false,if_true,if_false,jl]
    rw [wid (by omega)];simp)
  (fun k hk s hs s' hf=>by
   obtain ⟨hs1,hs2⟩:=hs
   simp only [List.length_range] at hk
   simp only [Sum.inl.injEq,JP] at hf
   subst hf
   split
   ·refine ⟨by have:=gwv s (k:Int);omega,?_⟩
    unfold addT
    split
    ·rename_i h
     obtain ⟨h0,h5⟩:=h
     have hm:=hs2 _ (gjh h0)
     intro y hy
     rcases List.mem_or_eq_of_mem_set hy with hy | rfl
     ·exact hs2 y hy
     ·dsimp only;omega
    ·intro y hy
     rcases jm.1 hy with hy | hy
     ·exact hs2 y hy
     ·simp only [List.mem_singleton] at hy;subst hy;dsimp only;omega
   ·exact ⟨by omega,hs2⟩)
  (fun s _=>by simp [awz,aqa]) (by simpa using hn)
 have e:∀ (t:List Nat) (s:List aj0),runL (fun out (k:Nat)=>(.inl (if gt p k then addT out (k:Int) else out):List aj0 ⊕ List aj0)) (fun out=>out) t s=t.foldl (fun out (k:Nat)=>if gt p k then addT out (k:Int) else out) s:=by
  intro t
  induction t with
  | nil=>intro s;simp [runL]
  | cons k t ih=>intro s;simp [runL,ih]
 rw [e] at h
 have h':aji (fun (x:(List aj0)×Int)=>awz n p x.1 x.2) n ([],0)=some (nrm p):=h
 simp only [bqn,h',jf,bj4]
def nf:Int→List aj0→Prop
 | _,[]=>True
 | e,x :: l=>val x=true∧e < x.At∧nf (x.At+x.Len) l
theorem fwv {α:Type} (l:List α):l=[]∨∃ i z,l=i ++ [z]:=by
 rcases List.eq_nil_or_concat l with h | ⟨i,z,h⟩
 ·exact .inl h
 ·exact .inr ⟨i,z,by simpa using h⟩
theorem gkb (k:Int):addT [] k=[⟨k,1⟩]:=by simp [addT]
theorem fj2 {α:Type} [Inhabited α] (i:List α) (z:α):gt (i ++ [z]) ((i ++ [z]).length - 1)=z:=by
 rw [azh (by simp)];simp
theorem ekg (i:List aj0) (z:aj0) (k:Int):addT (i ++ [z]) k=if z.At+z.Len=k then i ++ [⟨z.At,z.Len+1⟩] else i ++ [z] ++ [⟨k,1⟩]:=by
 unfold addT
 rw [fj2]
 have h:0 < (i ++ [z]).length:=by simp
 simp only [h,true_and]
 split
 ·simp [List.set_append]
 ·rfl
theorem fks:∀ {a b:List Nat},a.Pairwise (· < ·)→b.Pairwise (· < ·)→(∀ k,k∈a↔k∈b)→a=b
 | [],[],_,_,_=>rfl
 | [],y :: b,_,_,h=>absurd ((h y).2 Jy) (by simp)
 | x :: a,[],_,_,h=>absurd ((h x).1 Jy) (by simp)
 | x :: a,y :: b,ha,hb,h=>by
  obtain ⟨ha1,ha2⟩:=List.pairwise_cons.1 ha
  obtain ⟨hb1,hb2⟩:=List.pairwise_cons.1 hb
  have e:x=y:=by
   rcases jN.1 ((h x).1 Jy) with e | e
   ·exact e
   ·rcases jN.1 ((h y).2 Jy) with e' | e'
    ·exact e'.symm
    ·have:=ha1 _ e';have:=hb1 _ e;omega
  subst e
  rw [fks ha2 hb2 (fun k=>?_)]
  constructor
  ·intro hk
   have h1:=ha1 _ hk
   rcases jN.1 ((h k).1 (List.mem_cons_of_mem _ hk)) with e | e
   ·omega
   ·exact e
  ·intro hk
   have h1:=hb1 _ hk
   rcases jN.1 ((h k).2 (List.mem_cons_of_mem _ hk)) with e | e
   ·omega
   ·exact e
theorem azp (x:aj0) (l:List aj0):trks (x :: l)=trk x ++ trks l:=by simp [trks]
theorem hqf:∀ {l:List aj0} {e:Int},nf e l→∀ k∈trks l,e < k
 | [],_,_,k,hk=>by simp [trks] at hk
 | x :: l,e,h,k,hk=>by
  obtain ⟨h1,h2,h3⟩:=h
  have h1':=(aqn _).1 h1
  rw [azp,jm] at hk
  rcases hk with hk | hk
  ·have:=ayh.1 hk;omega
  ·have:=hqf h3 k hk;omega
theorem gj6 (x:aj0):(trk x).Pairwise (· < ·):=by
 unfold trk
 refine List.pairwise_map.2 (List.Pairwise.imp ?_ List.pairwise_lt_range)
 intro a b h;omega
theorem fjv:∀ {l:List aj0} {e:Int},nf e l→(trks l).Pairwise (· < ·)
 | [],_,_=>by simp [trks]
 | x :: l,e,h=>by
  obtain ⟨h1,h2,h3⟩:=h
  rw [azp,List.pairwise_append]
  refine ⟨gj6 x,fjv h3,fun a ha b hb=>?_⟩
  have:=ayh.1 ha
  have:=hqf h3 b hb
  omega
theorem dqa:∀ {l:List aj0} {e:Int},nf e l→l.all val=true
 | [],_,_=>rfl
 | x :: l,e,h=>by simp [h.1,dqa h.2.2]
theorem dk3:∀ {t s:List Int},(s ++ t).Nodup→bj7 s t=some (s ++ t)
 | [],s,_=>by simp [bj7]
 | k :: t,s,h=>by
  have hk:k ∉ s:=fun hk=>(List.nodup_append.1 h).2.2 k hk k Jy rfl
  simp only [bj7,hk,if_false]
  rw [dk3 (by simpa using h)];simp
theorem cy2:∀ {l:List aj0} {s:List Int},l.all val=true→(s ++ trks l).Nodup→trkF s l=some (s ++ trks l)
 | [],s,_,_=>by simp [trkF,trks]
 | x :: l,s,hv,h=>by
  simp only [Ju,je] at hv
  rw [azp,← j7] at h
  simp only [trkF,hv.1,if_true]
  rw [dk3 (List.nodup_append.1 h).1,jf,cy2 hv.2 h,azp,j7]
theorem hwa {l:List aj0} {e:Int} (h:nf e l):trkF [] l=some (trks l):=by
 have:=cy2 (s:=[]) (dqa h) (by
  rw [Jr]
  exact List.Pairwise.imp (fun h=>by omega) (fjv h))
 simpa using this
theorem dzt (x:aj0) (out:List aj0) (ho:∀ i z,out=i ++ [z]→z.At+z.Len≠x.At):∀ m:Nat,((Jb m).map fun (j:Nat)=>x.At+(j:Int)).foldl addT out=if m=0 then out else out ++ [⟨x.At,(m:Int)⟩]
 | 0=>by simp
 | m+1=>by
  rw [List.range_succ,List.map_append,List.foldl_append,dzt x out ho m]
  simp only [List.map_cons,List.map_nil,List.foldl_cons,List.foldl_nil]
  by_cases hm:m=0
  ·subst hm
   simp only [if_true]
   rcases fwv out with rfl | ⟨i,z,rfl⟩
   ·rw [gkb];simp
   ·rw [ekg]
    have:=ho i z rfl
    rw [if_neg (by simpa using this)]
    simp
  ·simp only [hm,if_false]
   rw [ekg];simp
theorem gye {x:aj0} {out:List aj0} (hx:1≤x.Len) (ho:∀ i z,out=i ++ [z]→z.At+z.Len≠x.At):(trk x).foldl addT out=out ++ [x]:=by
 unfold trk
 rw [dzt x out ho,if_neg (by omega)]
 have:((x.Len.toNat:Nat):Int)=x.Len:=by omega
 rw [this]
theorem fjs:∀ {l:List aj0} {e:Int} {out:List aj0},nf e l→(∀ i z,out=i ++ [z]→z.At+z.Len≤e)→(trks l).foldl addT out=out ++ l
 | [],_,_,_,_=>by simp [trks]
 | x :: l,e,out,h,ho=>by
  obtain ⟨h1,h2,h3⟩:=h
  have h1':=(aqn _).1 h1
  rw [azp,List.foldl_append,gye h1'.2.1 (fun i z hz=>by have:=ho i z hz;omega),fjs h3 (fun i z hz=>?_)]
  ·simp
  ·have:=List.append_inj' hz rfl
   have e2:x=z:=by simpa using this.2
   subst e2;omega
theorem hqn {l:List aj0} (h:nf (-1) l):nrm (mark (trks l))=l:=by
 have e1:(Jb 512).filter (fun k=>gt (mark (trks l)) k)=(trks l).map Int.toNat:=by
  refine fks (List.Pairwise.filter _ List.pairwise_lt_range) ?_ fun k=>?_
  ·refine List.pairwise_map.2 (List.Pairwise.imp_of_mem ?_ (fjv h))
   intro a b ha hb hab
   have:=akk (dqa h) a ha
   have:=akk (dqa h) b hb
   omega
  ·rw [List.mem_filter,List.mem_range,List.mem_map]
   constructor
   ·rintro ⟨h1,h2⟩
    have h3:=ew8 (trks l) (k:=(k:Int)) (by omega)
    rw [jr] at h3
    rw [h3] at h2
    exact ⟨(k:Int),by simpa using h2,by simp⟩
   ·rintro ⟨a,ha,rfl⟩
    have h1:=akk (dqa h) a ha
    refine ⟨by omega,?_⟩
    rw [ew8 _ h1];simpa using ha
 have e2:nrm (mark (trks l))=((trks l).map Int.toNat).foldl (fun out (k:Nat)=>addT out (k:Int)) []:=by
  rw [← e1,List.foldl_filter];rfl
 have e3:((trks l).map Int.toNat).foldl (fun out (k:Nat)=>addT out (k:Int)) []=(trks l).foldl addT []:=by
  rw [List.foldl_map]
  have:∀ (t:List Int) (out:List aj0),(∀ k∈t,0≤k)→t.foldl (fun out (k:Int)=>addT out ((k.toNat:Nat):Int)) out=t.foldl addT out:=by
   intro t
   induction t with
   | nil=>intro out _;rfl
   | cons k t ih =>
    intro out ht
    have h0:=ht k Jy
    have e:((k.toNat:Nat):Int)=k:=by omega
    simp only [List.foldl_cons,e]
    exact ih _ (fun k hk=>ht k (List.mem_cons_of_mem _ hk))
  exact this _ _ (fun k hk=>(akk (dqa h) k hk).1)
 rw [e2,e3,fjs h (fun i z hz=>by simp at hz)]
 simp
theorem ext_eq {x y:aj0}:x=y↔x.At=y.At∧x.Len=y.Len:=by
 cases x;cases y;simp
theorem gyu (n:Nat) (a b:List aj0) (hn:a.length < n) (hl:a.length≤2147483648):bwo n a b=some (decide (a=b)):=by
 simp only [bwo]
 by_cases he:a.length=b.length
 ·have e0:((a.length:Int) != (b.length:Int))=false:=by simp [he]
  rw [e0]
  simp only [aqa,jl,if_false]
  obtain ⟨y,h1,h2⟩:=dkm (body:=fun (x:Int)=>bjd n a b x) (fun x=>∃ k:Nat,x=(k:Int)∧k≤a.length∧∀ j,j < k→gt a j=gt b j) (fun x=>(a.length:Int).toNat - x.toNat)
   (fun y=>(y = .inl false∧a≠b)∨(y = .inr ()∧a=b)) (by
    rintro x ⟨k,rfl,hk,hj⟩
    by_cases hkl:k < a.length
    ·have h1:decide ((k:Int) < (a.length:Int))=true:=by simp;omega
     have h2:(0≤(k:Int)∧(k:Int) < (a.length:Int))∧(0≤(k:Int)∧(k:Int) < (b.length:Int)):=by omega
     simp only [bjd,h1,aqa,if_true,ajb _ h2,jr]
     by_cases hx:gt a k=gt b k
     ·refine .inl ⟨((k+1:Nat):Int),?_,⟨k+1,rfl,hkl,fun j hj'=>?_⟩,by omega⟩
      ·rw [wid (by omega)];simp [hx]
      ·by_cases e:j=k
       ·rw [e];exact hx
       ·exact hj j (by omega)
     ·refine .inr ⟨.inl false,?_,.inl ⟨rfl,fun e=>hx (by rw [e])⟩⟩
      have hx':¬ ((gt a k).At=(gt b k).At∧(gt a k).Len=(gt b k).Len):=fun e=>hx (ext_eq.2 e)
      have:(!((gt a k).At == (gt b k).At && (gt a k).Len == (gt b k).Len))=true:=by
       rw [j3,← JH,je]
       simpa using hx'
      simp only [this,if_true]
    ·have:k=a.length:=by omega
     subst this
     refine .inr ⟨.inr (),by simp [bjd,aqa],.inr ⟨rfl,JG he fun i h1 h2=>?_⟩⟩
     have:=hj i h1
     rwa [azh h1,azh h2] at this) n 0 ⟨0,rfl,by omega,fun j hj=>by omega⟩ (by simpa using hn)
  rw [h1]
  rcases h2 with ⟨rfl,h⟩ | ⟨rfl,h⟩ <;> simp [bwe,h]
 ·have e0:((a.length:Int) != (b.length:Int))=true:=by simp;omega
  rw [e0]
  have:a≠b:=fun e=>he (by rw [e])
  simp [this]
def isL (r:List aj0) (k:Nat):Prop:=k < r.length∧(∀ j,j < r.length→(gt r j).Len≤(gt r k).Len)∧∀ j,j < k→(gt r j).Len < (gt r k).Len
def cut (r:List aj0) (k:Nat) (w:Int):List aj0:=if (gt r k).Len=w then r.eraseIdx k else r.set k ⟨(gt r k).At+w,(gt r k).Len - w⟩
theorem gkd (n:Nat) (l:List aj0) (hl:l.length≤2147483648):aqy n l=some l:=by
 refine gyr fun b hb=>?_
 cases b with
 | true=>rw [hb rfl];rfl
 | false=>simp [ajb _ hl]
def cmpA (x y:aj0):Int:=if x.At < y.At then -1 else if y.At < x.At then 1 else 0
theorem gqe (x y:aj0):cmpA x y < 0↔x.At < y.At:=by
 unfold cmpA
 split
 ·simp [*]
 ·split <;> simp [*] <;> omega
theorem hjd (n:Nat) (x y:aj0):awv n x y=some (cmpA x y):=by
 simp only [awv,bw3,bqb,jf,bne_self_eq_false,aqa,jl,if_false,cmpA,decide_eq_true_eq,gt_iff_lt]
 split
 ·rfl
 ·split <;> rfl
theorem swoA:Go.Sort.SWO (Go.Proofs.ltOf cmpA):=by
 have h:∀ x y,Go.Proofs.ltOf cmpA x y=decide (x.At < y.At):=fun x y=>by
  unfold Go.Proofs.ltOf
  exact decide_eq_decide.2 (gqe x y)
 refine ⟨fun x=>?_,fun x y z=>?_,fun x y z=>?_⟩
 ·rw [h];simp
 ·rw [h,h,h];simp only [decide_eq_true_eq];omega
 ·rw [h,h,h];simp only [decide_eq_false_iff_not];omega
theorem ez2 (n:Nat) (l:List aj0) (hl:l.length≤2147483648):∃ r,akn n l=some r∧r.Perm l∧r.Pairwise fun x y=>x.At≤y.At:=by
 obtain ⟨r,h1,h2,h3⟩:=gzb (f:=fun x y=>awv n x y) (c:=cmpA) (l:=l) (fun x _ y _=>hjd n x y) swoA
 refine ⟨r,?_,h2,h3.imp fun {x y} h=>?_⟩
 ·simp only [akn,gkd n l hl,jf,awl,h1]
  rw [List.take_of_length_le (by rw [h2.length_eq];exact Nat.le_refl _)]
 ·rw [gqe] at h;omega
def apart (x y:aj0):Prop:=x.At+x.Len≤y.At
def adj (r:List aj0):Prop:=∀ j,0 < j→j < r.length→(gt r (j - 1)).At+(gt r (j - 1)).Len≤(gt r j).At
theorem gya {r:List aj0} (hv:r.all val=true):adj r↔r.Pairwise apart:=by
 rw [List.pairwise_iff_getElem]
 constructor
 ·intro h i j hi hj hij
  have key:∀ d,i+1+d < r.length→(gt r i).At+(gt r i).Len≤(gt r (i+1+d)).At:=by
   intro d
   induction d with
   | zero=>intro hd;simpa using h (i+1) (by omega) hd
   | succ d ih =>
    intro hd
    have h1:=ih (by omega)
    have h2:=h (i+1+(d+1)) (by omega) hd
    have e:i+1+(d+1) - 1=i+1+d:=by omega
    rw [e] at h2
    have h3:val (gt r (i+1+d))=true:=by
     rw [azh (by omega)];exact jD.1 hv _ (jG _)
    have h3':=(aqn _).1 h3
    omega
  have:=key (j - i - 1) (by omega)
  have e:i+1+(j - i - 1)=j:=by omega
  rw [e,azh hi,azh hj] at this
  exact this
 ·intro h j h0 hj
  have:=h (j - 1) j (by omega) hj (by omega)
  rw [azh (by omega),azh hj]
  exact this
theorem ezo (x:aj0):(trk x).Nodup:=(gj6 x).imp fun h=>by omega
theorem fk6 {r:List aj0}:(trks r).Nodup↔r.Pairwise fun a b=>∀ x∈trk a,∀ y∈trk b,x≠y:=by
 unfold trks List.Nodup
 rw [List.pairwise_flatMap]
 exact ⟨fun h=>h.2,fun h=>⟨fun a _=>ezo a,h⟩⟩
theorem dkz {r:List aj0} (hv:r.all val=true) (hs:r.Pairwise fun x y=>x.At≤y.At):(trks r).Nodup↔r.Pairwise apart:=by
 rw [fk6]
 constructor
 ·intro h
  refine List.Pairwise.imp_of_mem ?_ (hs.and h)
  rintro a b ha hb ⟨h1,h2⟩
  have va:=(aqn _).1 (jD.1 hv a ha)
  have vb:=(aqn _).1 (jD.1 hv b hb)
  unfold apart
  rcases Int.lt_or_le b.At (a.At+a.Len) with h3 | h3
  ·exact absurd rfl (h2 b.At (ayh.2 (by omega)) b.At (ayh.2 (by omega)))
  ·exact h3
 ·intro h
  refine h.imp fun {a b} hab x hx y hy=>?_
  have:=ayh.1 hx
  have:=ayh.1 hy
  unfold apart at hab
  omega
theorem aw2 (l:List aj0):(trkF [] l).isSome=true↔l.all val=true∧(trks l).Nodup:=by
 constructor
 ·intro h
  obtain ⟨s,hs⟩:=j9.1 h
  obtain ⟨h1,h2⟩:=dj5 hs
  have h3:=dq7 hs List.nodup_nil
  rw [h1] at h3
  exact ⟨h2,by simpa using h3⟩
 ·rintro ⟨h1,h2⟩
  rw [cy2 h1 (by simpa using h2)];rfl
theorem eqw {l:List aj0} (h:(trkF [] l).isSome=true):trkO l=trks l:=by
 obtain ⟨s,hs⟩:=j9.1 h
 have h1:=(dj5 hs).1
 simp [trkO,hs,h1]
theorem gj0 {l:List aj0} (h:(trkF [] l).isSome=false):trkO l=[]:=by
 have:trkF [] l=none:=by simpa using h
 simp [trkO,this]
theorem bwr:∀ {l:List aj0},l.all val=true→l.length≤(trks l).length
 | [],_=>by simp
 | x :: l,h=>by
  simp only [Ju,je] at h
  have:=bwr h.2
  have:=(aqn _).1 h.1
  rw [azp,ji,bwj,jC]
  omega
theorem cjx {r l:List aj0} (h:r.Perm l):(trks r).Perm (trks l):=h.flatMap_right trk
theorem eq6 {r l:List aj0} (h:r.Perm l):r.all val=l.all val:=by
 rw [Bool.eq_iff_iff,jD,jD]
 exact ⟨fun H x hx=>H x (h.mem_iff.2 hx),fun H x hx=>H x (h.mem_iff.1 hx)⟩
theorem fk7 (n:Nat) (r:List aj0) (hv:r.all val=true) (hn:r.length+1 < n) (hl:r.length≤1073741824):∃ y,aji (fun (x:Int)=>az3 n r x) n 1=some y∧((y = .inl false∧¬ adj r)∨(y = .inr ()∧adj r)):=by
 refine dkm (body:=fun (x:Int)=>az3 n r x) (fun x=>∃ k:Nat,x=(k:Int)∧1≤k∧(k≤r.length∨k=1)∧∀ j,0 < j→j < k→j < r.length→(gt r (j - 1)).At+(gt r (j - 1)).Len≤(gt r j).At) (fun x=>r.length - x.toNat)
  _ ?_ n 1 ⟨1,rfl,Nat.le_refl _,.inr rfl,fun j h0 h1=>by omega⟩ (by omega)
 rintro x ⟨k,rfl,hk1,hk,hj⟩
 by_cases hkl:k < r.length
 ·have c1:decide ((k:Int) < (r.length:Int))=true:=by simp;omega
  have e1:jc .i64 ((k:Int) - 1)=((k - 1:Nat):Int):=by rw [wid (by omega)];omega
  have c2:(0≤(k:Int)∧(k:Int) < (r.length:Int))∧(0≤((k - 1:Nat):Int)∧((k - 1:Nat):Int) < (r.length:Int))∧(0≤((k - 1:Nat):Int)∧((k - 1:Nat):Int) < (r.length:Int)):=by omega
  have v1:val (gt r (k - 1))=true:=by
   rw [azh (by omega)];exact jD.1 hv _ (jG _)
  have v1':=(aqn _).1 v1
  simp only [az3,c1,aqa,if_true,e1,ajb _ c2,jr]
  rw [wid (n:=(gt r (k - 1)).At+(gt r (k - 1)).Len) (by omega)]
  by_cases b:(gt r k).At < (gt r (k - 1)).At+(gt r (k - 1)).Len
  ·refine .inr ⟨.inl false,by simp [b],.inl ⟨rfl,fun h=>?_⟩⟩
   have:=h k (by omega) hkl
   omega
  ·refine .inl ⟨((k+1:Nat):Int),by rw [wid (by omega)];simp [b],⟨k+1,rfl,by omega,.inl hkl,fun j h0 h1 h2=>?_⟩,by omega⟩
   by_cases e:j=k
   ·subst e;omega
   ·exact hj j h0 (by omega) h2
 ·have c1:decide ((k:Int) < (r.length:Int))=false:=by simp;omega
  refine .inr ⟨.inr (),by simp only [az3,c1,aqa,jl,if_false],.inr ⟨rfl,fun j h0 h1=>hj j h0 (by omega) h1⟩⟩
theorem dwu (n:Nat) (hn:N0≤n) (l:List aj0) (hl:l.length≤1073741824):aqk n l=some (trkF [] l).isSome:=by
 by_cases h512:512 < l.length
 ·have c1:decide ((l.length:Int) > 512)=true:=by simp;omega
  have:(trkF [] l).isSome=false:=by
   rw [← JH,aw2]
   rintro ⟨h1,h2⟩
   have:=bwr h1
   have:=few (m:=512) h2 (akk h1)
   omega
  simp only [aqk,c1,aqa,if_true,this]
 ·have c1:decide ((l.length:Int) > 512)=false:=by simp;omega
  have h:=bqg (n:=n) (body:=fun (x:Int)=>akb n l (l.length:Int) x) l (fun x=>!val x) (.inl false) (.inr ())
   (fun k hk=>by
    have h1:decide ((k:Int) < ((l.length:Nat):Int))=true:=by simp;omega
    have h2:0≤(k:Int)∧(k:Int) < (l.length:Int):=by omega
    simp only [akb,h1,aqa,if_true,jr,ajb _ h2,azh hk,fql,jf]
    rw [wid (by omega)]
    cases val l[k] <;> simp)
   (by simp [akb,aqa]) (by unfold N0 at hn;omega)
  simp only [aqk,c1,aqa,jl,if_false]
  rw [h]
  by_cases hv:l.all val=true
  ·have ha:(l.any fun x=>!val x)=false:=by
    rw [← JH,List.any_eq_true]
    rintro ⟨x,hx,hx2⟩
    have:=jD.1 hv x hx
    simp [this] at hx2
   obtain ⟨r,r1,r2,r3⟩:=ez2 n l (by omega)
   have hrl:=r2.length_eq
   have hrv:r.all val=true:=by rw [eq6 r2];exact hv
   obtain ⟨y,y1,y2⟩:=fk7 n r hrv (by unfold N0 at hn;omega) (by omega)
   simp only [ha,jl,if_false,jf,bj3,r1,y1]
   have e1:adj r↔(trks l).Nodup:=by
    rw [gya hrv,← dkz hrv r3];exact (cjx r2).nodup_iff
   rcases y2 with ⟨rfl,hy⟩ | ⟨rfl,hy⟩
   ·have:(trkF [] l).isSome=false:=by
     rw [← JH,aw2]
     rintro ⟨_,h2⟩
     exact hy (e1.2 h2)
    simp [this]
   ·have:(trkF [] l).isSome=true:=(aw2 l).2 ⟨hv,e1.1 hy⟩
    simp [this,bj8]
  ·have ha:(l.any fun x=>!val x)=true:=by
    rw [List.any_eq_true]
    rw [JH,List.all_eq_false] at hv
    obtain ⟨x,hx,hx2⟩:=hv
    exact ⟨x,hx,by simpa using hx2⟩
   have:(trkF [] l).isSome=false:=by
    rw [← JH,aw2]
    rintro ⟨h1,_⟩
    exact hv h1
   simp [ha,this]
theorem cq9 (n:Nat) (hn:N0≤n) (l:List aj0) (hl:l.length≤2097152):awm n l=some (trkF [] l).isSome:=by
 simp only [awm,djm n l hn hl,jf]
theorem gk1 (n:Nat) (hn:N0≤n) (l:List aj0) (hl:l.length≤1073741824):ayt n l=some (((trkO l).length:Nat):Int):=by
 simp only [ayt,dwu n hn l hl,jf]
 by_cases hs:(trkF [] l).isSome=true
 ·obtain ⟨hv,hnd⟩:=(aw2 l).1 hs
  have h1:=bwr hv
  have h2:=few (m:=512) hnd (akk hv)
  have h:=ay3 (n:=n) (σ:=Int) (body:=fun (x:Int×Int)=>az2 n l (l.length:Int) x.1 x.2) l (fun k s=>(s,(k:Int))) (fun s x=>.inl (s+x.Len)) (fun s=>s) (fun k s=>0≤s∧s≤512 * (k:Int)) (s:=0) (by simp)
   (fun k hk s hs=>by
    have c1:decide ((k:Int) < (l.length:Int))=true:=by simp;omega
    have c2:0≤(k:Int)∧(k:Int) < (l.length:Int):=by omega
    have v:=(aqn _).1 (jD.1 hv _ (jG hk))
    simp only [az2,c1,aqa,if_true,ajb _ c2,jr,azh hk]
    rw [wid (by omega),wid (by omega)];simp)
   (fun k hk s hs s' hf=>by
    have v:=(aqn _).1 (jD.1 hv _ (jG hk))
    simp only [Sum.inl.injEq] at hf
    omega)
   (fun s _=>by simp [az2,aqa]) (by unfold N0 at hn;omega)
  have e:∀ (l:List aj0) (s:Int),l.all val=true→runL (fun s x=>(.inl (s+x.Len):Int ⊕ Int)) (fun s=>s) l s=s+(((trks l).length:Nat):Int):=by
   intro l
   induction l with
   | nil=>intro s _;simp [runL,trks]
   | cons x l ih =>
    intro s hv
    simp only [Ju,je] at hv
    have v:=(aqn _).1 hv.1
    simp only [runL,ih _ hv.2,azp,ji,bwj]
    omega
  rw [e l 0 hv] at h
  have h':aji (fun (x:Int×Int)=>az2 n l (l.length:Int) x.1 x.2) n (0,0)=some (((trks l).length:Nat):Int):=by simpa using h
  simp only [hs,jQ,aqa,jl,if_false,h',jf,bjp,eqw hs]
 ·rw [JH] at hs
  simp [hs,gj0 hs]
theorem fyb (n:Nat) (hn:N0≤n) (l:List aj0) (hl:l.length≤2097152):ayj n l=some (((trkO l).length:Nat):Int):=by
 simp only [ayj,djm n l hn hl,jf]
def mn (a b:Int):Int:=if a < b then a else b
def fr (m:Int):Int→List aj0→List aj0
 | a,[]=>if a < m then [⟨a,m - a⟩] else []
 | a,x :: l=>(if a < mn m x.At then [⟨a,mn m x.At - a⟩] else []) ++ fr m (x.At+x.Len) l
theorem hqh {m:Int} (hm:m≤512):∀ {r:List aj0} {e a:Int},e < a→0≤a→r.all val=true→r.Pairwise apart→(∀ x∈r,a≤x.At)→nf e (fr m a r)
 | [],e,a,he,ha,_,_,_=>by
  unfold fr
  split
  ·exact ⟨(aqn _).2 (by dsimp only;omega),he,trivial⟩
  ·trivial
 | x :: l,e,a,he,ha,hv,hp,hx=>by
  simp only [Ju,je] at hv
  obtain ⟨hp1,hp2⟩:=List.pairwise_cons.1 hp
  have v:=(aqn _).1 hv.1
  have hax:=hx x Jy
  have key:∀ e',e' < x.At+x.Len→nf e' (fr m (x.At+x.Len) l):=fun e' he'=>hqh hm he' (by omega) hv.2 hp2 (fun y hy=>hp1 y hy)
  unfold fr
  by_cases c:a < mn m x.At
  ·have h1:mn m x.At≤m∧mn m x.At≤x.At:=by unfold mn;split <;> omega
   simp only [c,if_true,List.singleton_append,List.cons_append,Jr]
   refine ⟨(aqn _).2 (by dsimp only;omega),he,key _ (by dsimp only;omega)⟩
  ·simp only [c,if_false,Jr]
   exact key _ (by omega)
theorem gkx {m:Int}:∀ {r:List aj0} {a:Int},r.all val=true→r.Pairwise apart→(∀ x∈r,a≤x.At)→∀ k,k∈trks (fr m a r)↔a≤k∧k < m∧k ∉ trks r
 | [],a,_,_,_,k=>by
  unfold fr
  split
  ·simp only [azp,jm,ayh]
   simp only [trks,List.flatMap_nil,List.not_mem_nil,or_false,not_false_eq_true,and_true]
   constructor <;> intro h <;> omega
  ·simp only [trks,List.flatMap_nil,List.not_mem_nil,false_iff,not_false_eq_true,and_true]
   omega
 | x :: l,a,hv,hp,hx,k=>by
  simp only [Ju,je] at hv
  obtain ⟨hp1,hp2⟩:=List.pairwise_cons.1 hp
  have v:=(aqn _).1 hv.1
  have hax:=hx x Jy
  have ih:=gkx (m:=m) (a:=x.At+x.Len) hv.2 hp2 (fun y hy=>hp1 y hy) k
  have hlow:k∈trks l→x.At+x.Len≤k:=by
   intro hk
   obtain ⟨y,hy,hk⟩:=JO.1 hk
   have:=hp1 y hy
   have:=ayh.1 hk
   unfold apart at *
   omega
  have hmn:(k < mn m x.At)↔(k < m∧k < x.At):=by unfold mn;split <;> omega
  have hrhs:k ∉ trks (x :: l)↔¬ (x.At≤k∧k < x.At+x.Len)∧k ∉ trks l:=by
   rw [azp,jm,ayh];exact not_or
  rw [hrhs]
  unfold fr
  have hl:k∈trks ((if a < mn m x.At then [⟨a,mn m x.At - a⟩] else []) ++ fr m (x.At+x.Len) l)↔(a≤k∧k < mn m x.At)∨k∈trks (fr m (x.At+x.Len) l):=by
   by_cases c:a < mn m x.At
   ·simp only [c,if_true,List.singleton_append,List.cons_append,Jr,azp,jm,ayh]
    constructor
    ·rintro (h | h)
     ·exact .inl (by omega)
     ·exact .inr h
    ·rintro (h | h)
     ·exact .inl (by omega)
     ·exact .inr h
   ·simp only [c,if_false,Jr]
    constructor
    ·exact .inr
    ·rintro (h | h)
     ·exact absurd (show a < mn m x.At by omega) c
     ·exact h
  rw [hl,ih,hmn]
  by_cases hk:k∈trks l
  ·have h7:=hlow hk
   constructor
   ·rintro (⟨_,_,h⟩ | ⟨_,_,h⟩)
    ·omega
    ·exact absurd hk h
   ·rintro ⟨_,_,_,h⟩
    exact absurd hk h
  ·simp only [hk,not_false_eq_true,and_true]
   omega
theorem gjb (n:Nat) (m:Int) (hm:0≤m∧m≤512) (r:List aj0) (hv:r.all val=true) (hn:r.length < n) (hl:r.length≤1073741824) :
  ((aji (fun (x:(List aj0)×Int×Int)=>awp n m r (r.length:Int) x.1 x.2.1 x.2.2) n ([],0,0)).bind fun y=>azs n m y.1 y.2)=some (fr m 0 r):=by
 have h:=ay3 (n:=n) (σ:=List aj0×Int) (body:=fun (x:(List aj0)×Int×Int)=>awp n m r (r.length:Int) x.1 x.2.1 x.2.2) r (fun k s=>(s.1,s.2,(k:Int)))
  (fun s x=>.inl (s.1 ++ (if s.2 < mn m x.At then [⟨s.2,mn m x.At - s.2⟩] else []),x.At+x.Len)) (fun s=>s) (fun k s=>s.1.length≤k∧0≤s.2∧s.2≤1024) (s:=([],0)) (by simp)
  (fun k hk s hs=>by
   have c1:decide ((k:Int) < (r.length:Int))=true:=by simp;omega
   have c2:0≤(k:Int)∧(k:Int) < (r.length:Int):=by omega
   have c3:s.1.length+1≤2147483648:=by omega
   have v:=(aqn _).1 (jD.1 hv _ (jG hk))
   have hmn:0≤mn m r[k].At∧mn m r[k].At≤512:=by unfold mn;split <;> omega
   have e1:(if m < r[k].At then m else r[k].At)=mn m r[k].At:=rfl
   simp only [awp,akx,bqe,c1,aqa,if_true,ajb _ c2,jr,azh hk,e1,ajb _ c3]
   rw [wid (n:=r[k].At+r[k].Len) (by omega),wid (n:=(k:Int)+1) (by omega),wid (n:=mn m r[k].At - s.2) (by omega)]
   by_cases c:s.2 < mn m r[k].At
   ·simp [c]
   ·simp [c])
  (fun k hk s hs s' hf=>by
   have v:=(aqn _).1 (jD.1 hv _ (jG hk))
   simp only [Sum.inl.injEq] at hf
   subst hf
   refine ⟨?_,by dsimp only;omega,by dsimp only;omega⟩
   dsimp only
   split
   ·rw [ji];simp only [jC,j5];omega
   ·rw [ji];simp only [j5];omega)
  (fun s _=>by simp [awp,aqa]) hn
 have e:∀ (l:List aj0) (s:List aj0×Int),l.all val=true→0≤s.2→s.2≤1024→s.1.length+l.length≤1073741824 →
   ∃ y,runL (fun s x=>(.inl (s.1 ++ (if s.2 < mn m x.At then [⟨s.2,mn m x.At - s.2⟩] else []),x.At+x.Len):(List aj0×Int) ⊕ (List aj0×Int))) (fun s=>s) l s=y∧azs n m y.1 y.2=some (s.1 ++ fr m s.2 l):=by
  intro l
  induction l with
  | nil =>
   intro s _ h0 h1 h2
   refine ⟨s,rfl,?_⟩
   simp only [j5] at h2
   have c3:s.1.length+1≤2147483648:=by omega
   simp only [azs,akq,aqa,ajb _ c3,decide_eq_true_eq,gt_iff_lt,fr]
   rw [wid (by omega)]
   split <;> simp
  | cons x l ih =>
   intro s hv h0 h1 h2
   simp only [Ju,je] at hv
   have v:=(aqn _).1 hv.1
   simp only [jC] at h2
   obtain ⟨y,y1,y2⟩:=ih (s.1 ++ (if s.2 < mn m x.At then [⟨s.2,mn m x.At - s.2⟩] else []),x.At+x.Len) hv.2 (by dsimp only;omega) (by dsimp only;omega) (by
    dsimp only
    split
    ·rw [ji];simp only [jC,j5];omega
    ·rw [ji];simp only [j5];omega)
   refine ⟨y,by simp only [runL];exact y1,?_⟩
   rw [y2]
   simp only [fr,j7]
 obtain ⟨y,y1,y2⟩:=e r ([],0) hv (by simp) (by simp) (by simpa using hl)
 rw [y1] at h
 have h':aji (fun (x:(List aj0)×Int×Int)=>awp n m r (r.length:Int) x.1 x.2.1 x.2.2) n ([],0,0)=some y:=h
 rw [h',jf,y2];simp
def outB (t:List Int) (k:Nat):List Bool:=(Jb 512).map fun (i:Nat)=>decide (i < k∧(i:Int) ∉ t)
theorem dz3 (t:List Int) (k:Nat):(outB t k).length=512:=by simp [outB]
theorem fyu (t:List Int):outB t 0=mark []:=by
 unfold outB mark
 refine jR fun i _=>?_
 simp
theorem gk9 (t:List Int) {k:Nat} (hk:k < 512):(outB t k).set k (!decide ((k:Int)∈t))=outB t (k+1):=by
 refine JG (by simp [outB]) fun i h1 h2=>?_
 simp only [Ji,dz3] at h1
 rw [List.getElem_set]
 simp only [outB,JF,JP]
 by_cases e:k=i
 ·subst e
  simp
 ·simp only [e,if_false]
  have:(i < k+1)↔(i < k):=by omega
  simp only [this]
theorem fwf (n:Nat) (M:Nat) (hM:M≤512) (t:List Int) (hn:512 < n):aji (fun (x:(List Bool)×Int)=>akj n (M:Int) (mark t) x.1 x.2) n (mark [],0)=some (outB t M):=by
 have h:=ay3 (n:=n) (σ:=Unit) (body:=fun (x:(List Bool)×Int)=>akj n (M:Int) (mark t) x.1 x.2) (Jb M) (fun k _=>(outB t k,(k:Int))) (fun _ _=>.inl ()) (fun _=>outB t M) (fun _ _=>True) (s:=()) trivial
  (fun k hk s _=>by
   simp only [List.length_range] at hk
   have c1:decide ((k:Int) < (M:Int))=true:=by simp;omega
   have c2:(0≤(k:Int)∧(k:Int) < 512∧(mark t).length=512)∧k < (mark t).length∧(0≤(k:Int)∧(k:Int) < 512∧(outB t k).length=512)∧k < (outB t k).length:=by rw [by4,dz3];omega
   have e1:=ew8 t (k:=(k:Int)) (by omega)
   rw [jr] at e1
   simp only [akj,c1,aqa,if_true,jr,ajb _ c2,e1,gk9 t (show k < 512 by omega)]
   rw [wid (by omega)];simp)
  (fun _ _ _ _ _ _=>trivial) (fun s _=>by simp [akj,aqa]) (by simp;omega)
 have e:∀ l:List Nat,runL (fun (_:Unit) (_:Nat)=>(.inl ():Unit ⊕ List Bool)) (fun _=>outB t M) l ()=outB t M:=by
  intro l
  induction l with
  | nil=>rfl
  | cons a l ih=>simp only [runL,ih]
 rw [e,fyu] at h
 exact h
theorem gyn (n:Nat) (hn:N0≤n) (l:List aj0) (m:Int) (hl:l.length≤2097152):∃ R,bz6 n l m=some R∧ayv n l m=some R∧R.length≤512:=by
 simp only [bz6,ayv,dwu n hn l (by omega),cq9 n hn l hl,jf]
 by_cases c:(trkF [] l).isSome=true∧0≤m∧m≤512
 ·have c1:(if (if (!(trkF [] l).isSome)=true then true else (decide (m < 0)))=true then true else (decide (m > 512)))=false:=by
   have h1:¬ m < 0:=by omega
   have h2:¬ m > 512:=by omega
   simp [c.1,h1,h2]
  obtain ⟨hv,hnd⟩:=(aw2 l).1 c.1
  obtain ⟨r,r1,r2,r3⟩:=ez2 n l (by omega)
  have hrl:=r2.length_eq
  have hrv:r.all val=true:=by rw [eq6 r2];exact hv
  have hap:r.Pairwise apart:=(dkz hrv r3).1 ((cjx r2).nodup_iff.2 hnd)
  have hle:=bwr hv
  have hfw:=few (m:=512) hnd (akk hv)
  obtain ⟨M,rfl⟩:∃ M:Nat,m=(M:Int):=⟨m.toNat,by omega⟩
  have hlo:∀ x∈r,0≤x.At:=fun x hx=>((aqn _).1 (jD.1 hrv x hx)).1
  have hnf:nf (-1) (fr (M:Int) 0 r):=hqh c.2.2 (by omega) (by omega) hrv hap hlo
  have hF:=gjb n (M:Int) c.2 r hrv (by unfold N0 at hn;omega) (by omega)
  simp only [c1,aqa,jl,if_false,r1,jf,gqf n l hn hl,eqw c.1]
  rw [ajb _ trivial,ew5,fwf n M (by omega) _ (by unfold N0 at hn;omega),hF]
  have e1:outB (trks l) M=mark (trks (fr (M:Int) 0 r)):=by
   unfold outB mark
   refine jR fun i hi=>?_
   have h1:=gkx (m:=(M:Int)) hrv hap hlo (i:Int)
   rw [decide_eq_decide,h1,(cjx r2).mem_iff]
   simp
  refine ⟨_,rfl,?_,?_⟩
  ·simp only [jf,bwh]
   rw [ajb _ (dz3 _ _),gqn n _ (dz3 _ _) (by unfold N0 at hn;omega),e1,hqn hnf]
   rfl
  ·have h1:=bwr (dqa hnf)
   have h2:=few (m:=512) ((fjv hnf).imp fun h=>by omega) (akk (dqa hnf))
   omega
 ·have c1:(if (if (!(trkF [] l).isSome)=true then true else (decide (m < 0)))=true then true else (decide (m > 512)))=true:=by
   by_cases h0:(trkF [] l).isSome=true
   ·by_cases h1:m < 0
    ·simp [h0,h1]
    ·have h2:m > 512:=by
      rcases Int.lt_or_le 512 m with h | h
      ·exact h
      ·exact absurd ⟨h0,by omega,h⟩ c
     simp [h2]
   ·simp [h0]
  simp only [c1,aqa,if_true]
  exact ⟨[],rfl,rfl,by simp⟩
inductive Sel:Nat→List aj0→Int→Prop
 | zero (r:List aj0):Sel 0 r 0
 | nil (c:Nat):Sel c [] 0
 | step (c:Nat) (r:List aj0) (k:Nat) (s:Int) (h:isL r k) (hs:Sel c (r.eraseIdx k) s):Sel (c+1) r ((gt r k).Len+s)
def mx (w:Int):Int:=if 0 > w then 0 else w
def t0 (w:Int) (x:aj0):Int:=if (if x.Len < w then x.Len else w) > 0 then (if x.Len < w then x.Len else w) else 0
end Go.Proofs.YtijnkhcfondehaaGreatDoor
