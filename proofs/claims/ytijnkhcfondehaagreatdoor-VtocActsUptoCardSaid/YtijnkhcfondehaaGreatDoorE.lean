/- Text. -/
import Derived.Test.YtijnkhcfondehaaGreatDoorAE21
import Derived.Test.YtijnkhcfondehaaGreatDoorF
set_option linter.unusedSimpArgs false
set_option linter.unusedVariables false
set_option maxRecDepth 100000
open _root_.Bool renaming not_true→jK,true_and→Jk,eq_iff_iff→JP,not_eq_true'→j9,not_eq_true→Ja,false_eq_true→jj,not_false→jS,and_eq_true→jf
open _root_.Int renaming toNat_natCast→jn
open Go.IntKind renaming wrap→jd
open _root_.List renaming range→Jl,getElem_map→JJ,getElem_range→JR,length_set→jU,mem_append→jo,mem_singleton→Jp,length_append→ji,mem_flatMap→JQ,all_eq_true→jE,getElem_mem→jw,nil_append→Jt,eq_nil_of_length_eq_zero→jJ,length_nil→jW,cons_append→JS,mem_cons_self→j8,pairwise_cons→JD,mem_cons→jO,mem_cons_of_mem→Jv,all_cons→JL,append_assoc→jQ,length_take→jl,take_append_of_le_length→Jg,take_of_length_le→jV,length_cons→jz,take_length→JB,map_congr_left→jX
open _root_.Nat renaming le_refl→jA
open _root_.Option renaming bind_some→jc,isSome_iff_exists→jZ
open _root_.Option.some renaming injEq→jb
namespace Go.Proofs.YtijnkhcfondehaaGreatDoor
open Go.AE
def N0:Nat:=4194304
theorem wid {n:Int} (h:-4611686018427387904≤n∧n≤4611686018427387904):jd .i64 n=n:=ezb (by omega) (by omega)
theorem ajj {α:Type} (b:Bool) (x y:α):(bif b then x else y)=if b=true then x else y:=by cases b <;> rfl
theorem dyu (p q:Bool):(if p=true then q else false)=(p && q):=by cases p <;> simp
theorem dw6 (p q:Bool):(if p=true then true else q)=(p || q):=by cases p <;> simp
def val (x:aj0):Bool:=decide (0≤x.At∧1≤x.Len∧x.At < 512∧x.Len≤512 - x.At)
theorem ajv (x:aj0):val x=true↔0≤x.At∧1≤x.Len∧x.At < 512∧x.Len≤512 - x.At:=by simp [val]
theorem fy6 (x:aj0):(if (if (if (decide (x.At ≥ 0))=true then (decide (x.Len ≥ 1)) else false)=true then (decide (x.At < 512)) else false)=true then (decide (x.Len≤(jd .i64 (512 - x.At)))) else false)=val x:=by
 by_cases hA:0≤x.At∧x.At < 512
 ·rw [wid (by omega)]
  by_cases h2:1≤x.Len <;> by_cases h4:x.Len≤512 - x.At <;> simp [val,hA.1,hA.2,h2,h4]
 ·by_cases h1:0≤x.At <;> by_cases h3:x.At < 512
  ·exact absurd ⟨h1,h3⟩ hA
  all_goals simp [val,h1,h3]
theorem fkx (n:Nat) (x:aj0):bq5 n x=some (val x):=by simp only [bq5,fy6]
theorem hkz (n:Nat) (x:aj0):czp n x=some (val x):=by simp only [czp,fy6]
def chk (m:Int):Int→List aj0→Bool
 | _,[]=>true
 | e,x :: l=>val x && decide (e < x.At) && decide (x.At+x.Len≤m) && chk m (x.At+x.Len) l
theorem fk5 (n:Nat) (l:List aj0) (m:Int) (hn:l.length < n) (hl:l.length≤2147483648):bzi n l m=some (chk m (-1) l):=by
 have h:=azy (σ:=Int) (body:=fun (x:Int×Int)=>azx n m l (l.length:Int) x.1 x.2) l (fun k e=>(e,(k:Int)))
  (fun e x=>if val x && decide (e < x.At) && decide (x.At+x.Len≤m) then .inl (x.At+x.Len) else .inr (.inl false)) (fun _=>.inr ()) (fun _ _=>True) (s:=-1) trivial
  (fun k hk e _=>by
   have h1:decide ((k:Int) < (l.length:Int))=true:=by simp;omega
   have h2:(0:Int)≤(k:Int)∧(k:Int) < (l.length:Int):=by omega
   simp only [azx,h1,ajj,if_true,aj9 _ h2,fkx,jc,jn,aqf hk,dw6]
   by_cases hv:val l[k]=true
   ·have hv':=(ajv _).1 hv
    simp only [hv,jK,Bool.false_or,Jk]
    rw [wid (by omega),wid (by omega)]
    have e1:(decide (l[k].At≤e) || decide (l[k].At+l[k].Len > m)) = !(decide (e < l[k].At) && decide (l[k].At+l[k].Len≤m)):=by
     rw [JP,Bool.or_eq_true,j9,Bool.and_eq_false_iff]
     simp only [decide_eq_true_eq,decide_eq_false_iff_not]
     omega
    rw [e1]
    cases (decide (e < l[k].At) && decide (l[k].At+l[k].Len≤m)) <;> simp
   ·simp [hv])
  (fun _ _ _ _ _ _=>trivial) (fun e _=>by simp [azx,ajj]) hn
 have e:∀ (l:List aj0) (e:Int),runL (fun e x=>if val x && decide (e < x.At) && decide (x.At+x.Len≤m) then .inl (x.At+x.Len) else (.inr (.inl false):Int ⊕ (Bool ⊕ Unit))) (fun _=>.inr ()) l e=if chk m e l then .inr () else .inl false:=by
  intro l
  induction l with
  | nil=>intro e;simp [runL,chk]
  | cons x l ih =>
   intro e
   simp only [runL,chk]
   by_cases h:(val x && decide (e < x.At) && decide (x.At+x.Len≤m))=true
   ·simp only [h,if_true,Jk,ih]
   ·rw [Ja] at h
    simp [h]
 rw [e] at h
 simp only [bzi]
 have h':ajk (fun (x:Int×Int)=>azx n m l (l.length:Int) x.1 x.2) n (-1,0)=some (if chk m (-1) l then .inr () else .inl false):=h
 rw [h']
 cases chk m (-1) l <;> rfl
def trk (x:aj0):List Int:=(Jl x.Len.toNat).map fun (j:Nat)=>x.At+(j:Int)
def trks (l:List aj0):List Int:=l.flatMap trk
def bqj:List Int→List Int→Option (List Int)
 | s,[]=>some s
 | s,k :: t=>if k∈s then none else bqj (s ++ [k]) t
def trkF:List Int→List aj0→Option (List Int)
 | s,[]=>some s
 | s,x :: l=>if val x then (bqj s (trk x)).bind fun s'=>trkF s' l else none
def mark (s:List Int):List Bool:=(Jl 512).map fun (k:Nat)=>decide ((k:Int)∈s)
theorem byh (s:List Int):(mark s).length=512:=by simp [mark]
theorem ey2 (s:List Int) {k:Int} (h:0≤k∧k < 512):gt (mark s) k.toNat=decide (k∈s):=by
 have h1:k.toNat < 512:=by omega
 rw [aqf (by rw [byh];exact h1)]
 simp only [mark,JJ,JR]
 have:((k.toNat:Nat):Int)=k:=by omega
 rw [this]
theorem fy2 (s:List Int) {k:Int} (h:0≤k∧k < 512):List.set (mark s) k.toNat true=mark (s ++ [k]):=by
 refine List.ext_getElem (by simp [mark]) fun i h1 h2=>?_
 simp only [jU,byh] at h1
 rw [List.getElem_set]
 simp only [mark,JJ,JR,jo,Jp]
 by_cases e:k.toNat=i
 ·have:(i:Int)=k:=by omega
  simp [e,this]
 ·have:¬ (i:Int)=k:=by omega
  simp [e,this]
theorem eky:azv 512 false=mark []:=by
 have e:mark []=List.replicate 512 false:=by
  unfold mark
  rw [List.eq_replicate_iff]
  refine ⟨by simp,fun b hb=>?_⟩
  obtain ⟨k,_,rfl⟩:=List.mem_map.1 hb
  simp
 rw [e];rfl
theorem cqa:∀ {t s s':List Int},bqj s t=some s'→s'=s ++ t
 | [],s,s',h=>by simp only [bqj,jb] at h;simp [h]
 | k :: t,s,s',h=>by
  simp only [bqj] at h
  split at h
  ·cases h
  ·rw [cqa h];simp
theorem bjr (x:aj0):(trk x).length=x.Len.toNat:=by simp [trk]
theorem ay2 {x:aj0} {k:Int}:k∈trk x↔x.At≤k∧k < x.At+x.Len:=by
 simp only [trk,List.mem_map,List.mem_range]
 constructor
 ·rintro ⟨j,hj,rfl⟩;omega
 ·rintro ⟨h1,h2⟩;exact ⟨(k - x.At).toNat,by omega,by omega⟩
theorem hwo {x:aj0} {k:Nat} (h:k < (trk x).length):(trk x)[k]=x.At+(k:Int):=by simp [trk]
theorem gwh (n:Nat) (l:List aj0) (i:Nat) (hi:i < l.length) (hv:val l[i]=true) (s:List Int) (hs:s.length≤1073741824) (hn:512 < n) :
  ajk (fun (x:(List Bool)×(List Int)×Int)=>azk n l (i:Int) x.1 x.2.1 x.2.2) n (mark s,s,l[i].At)=some (match bqj s (trk l[i]) with | some s'=>.inr (mark s',s') | none=>.inl ([],false)):=by
 have hv':=(ajv _).1 hv
 have h:=azy (n:=n) (σ:=List Int) (body:=fun (x:(List Bool)×(List Int)×Int)=>azk n l (i:Int) x.1 x.2.1 x.2.2) (trk l[i]) (fun k s=>(mark s,s,l[i].At+(k:Int)))
  (fun s k=>if k∈s then .inr (.inl ([],false)) else .inl (s ++ [k])) (fun s=>.inr (mark s,s)) (fun k s'=>s'.length≤s.length+k) (s:=s) (by omega)
  (fun k hk s2 hs2=>by
   revert hs2
   generalize hs0:s.length=sl
   rw [hs0] at hs
   clear hs0
   revert s2
   intro s hs2
   have hk':=hk
   rw [bjr] at hk'
   have h1:(0≤(i:Int)∧(i:Int) < (l.length:Int))∧(0≤(i:Int)∧(i:Int) < (l.length:Int)):=by omega
   have h2:decide (l[i].At+(k:Int) < jd .i64 (l[i].At+l[i].Len))=true:=by rw [wid (by omega)];simp;omega
   have h3:0≤l[i].At+(k:Int)∧l[i].At+(k:Int) < 512:=by omega
   have h4:(0≤l[i].At+(k:Int)∧l[i].At+(k:Int) < 512∧(mark s).length=512)∧(l[i].At+(k:Int)).toNat < (mark s).length:=by rw [byh];omega
   simp only [azk,aj9 _ h1,jn,aqf hi,h2,ajj,if_true,aj9 _ h4,ey2 s h3,hwo hk,decide_eq_true_eq]
   by_cases hm:l[i].At+(k:Int)∈s
   ·simp [hm]
   ·have h5:s.length+1≤2147483648:=by omega
    simp only [hm,if_false,aj9 _ h5,fy2 s h3]
    rw [wid (by omega)]
    have e5:l[i].At+(k:Int)+1=l[i].At+((k+1:Nat):Int):=by omega
    rw [e5])
  (fun k hk s hs s' hf=>by
   split at hf
   ·cases hf
   ·simp only [Sum.inl.injEq] at hf;subst hf;simp;omega)
  (fun s hs=>by
   have h1:(0≤(i:Int)∧(i:Int) < (l.length:Int))∧(0≤(i:Int)∧(i:Int) < (l.length:Int)):=by omega
   have h2:decide (l[i].At+(((trk l[i]).length:Nat):Int) < jd .i64 (l[i].At+l[i].Len))=false:=by
    have e:=bjr l[i]
    rw [wid (by omega)]
    simp only [decide_eq_false_iff_not]
    omega
   simp only [azk,aj9 _ h1,jn,aqf hi,h2,ajj,jj,if_false]) (by rw [bjr];omega)
 have e:∀ (t s:List Int),runL (fun s k=>if k∈s then (.inr (.inl ([],false)):List Int ⊕ ((List Int×Bool) ⊕ (List Bool×List Int))) else .inl (s ++ [k])) (fun s=>.inr (mark s,s)) t s=match bqj s t with | some s'=>.inr (mark s',s') | none=>.inl ([],false):=by
  intro t
  induction t with
  | nil=>intro s;simp [runL,bqj]
  | cons k t ih =>
   intro s
   simp only [runL,bqj]
   by_cases hm:k∈s
   ·simp [hm]
   ·simp only [hm,if_false,ih]
 rw [e] at h
 simpa using h
theorem gw2 (n:Nat) (l:List aj0) (hn:l.length < n) (hn2:512 < n) (hl:l.length≤2097152):az8 n l=some (match trkF [] l with | some s=>(s,true) | none=>([],false)):=by
 have h:=azy (σ:=List Int) (body:=fun (x:(List Bool)×(List Int)×Int)=>azu n l x.1 x.2.1 x.2.2) l (fun k s=>(mark s,s,(k:Int)))
  (fun s x=>if val x then (match bqj s (trk x) with | some s'=>.inl s' | none=>.inr (.inl ([],false))) else .inr (.inl ([],false))) (fun s=>.inr s) (fun k s=>s.length≤512 * k) (s:=[]) (by simp)
  (fun k hk s hs=>by
   have h1:decide ((k:Int) < (l.length:Int))=true:=by simp;omega
   have h2:0≤(k:Int)∧(k:Int) < (l.length:Int):=by omega
   simp only [azu,h1,ajj,if_true,aj9 _ h2,hkz,jc,jn,aqf hk]
   by_cases hv:val l[k]=true
   ·simp only [hv,jK,jj,if_false,if_true]
    rw [gwh n l k hk hv s (by omega) hn2]
    simp only [jc]
    cases bqj s (trk l[k]) with
    | none=>rfl
    | some s' =>
     simp only [bqi]
     rw [wid (by omega)];simp
   ·simp [hv])
  (fun k hk s hs s' hf=>by
   split at hf
   ·rename_i hv
    have hv':=(ajv _).1 hv
    split at hf
    ·rename_i s2 h2
     simp only [Sum.inl.injEq] at hf;subst hf
     rw [cqa h2,ji,bjr];omega
    ·cases hf
   ·cases hf)
  (fun s hs=>by simp [azu,ajj]) hn
 have e:∀ (l:List aj0) (s:List Int),runL (fun s x=>if val x then (match bqj s (trk x) with | some s'=>.inl s' | none=>(.inr (.inl ([],false)):List Int ⊕ ((List Int×Bool) ⊕ List Int))) else .inr (.inl ([],false))) (fun s=>.inr s) l s=match trkF s l with | some s'=>.inr s' | none=>.inl ([],false):=by
  intro l
  induction l with
  | nil=>intro s;simp [runL,trkF]
  | cons x l ih =>
   intro s
   simp only [runL,trkF]
   by_cases hv:val x=true
   ·simp only [hv,if_true]
    cases bqj s (trk x) with
    | none=>rfl
    | some s'=>simp only [jc,ih]
   ·simp [hv]
 rw [e] at h
 have h':ajk (fun (x:(List Bool)×(List Int)×Int)=>azu n l x.1 x.2.1 x.2.2) n (mark [],[],0)=_:=h
 simp only [az8,eky,h',jc]
 cases trkF [] l <;> rfl
theorem czn:∀ {l:List aj0} {s s':List Int},trkF s l=some s'→s'=s ++ trks l∧l.all val=true
 | [],s,s',h=>by simp only [trkF,jb] at h;simp [h,trks]
 | x :: l,s,s',h=>by
  simp only [trkF] at h
  split at h
  ·rename_i hv
   obtain ⟨s2,h1,h2⟩:=bind_some h
   obtain ⟨h3,h4⟩:=czn h2
   rw [cqa h1] at h3
   exact ⟨by rw [h3];simp [trks],by simp [hv,h4]⟩
  ·cases h
theorem ayq {l:List aj0} (h:l.all val=true):∀ k∈trks l,0≤k∧k < 512:=by
 intro k hk
 obtain ⟨x,hx,hk⟩:=JQ.1 hk
 have hv:=(ajv x).1 (jE.1 h x hx)
 have:=ay2.1 hk
 omega
theorem hjp (n:Nat) (v2:List Bool) (t:List Int) (ht:∀ k∈t,0≤k∧k < 512) (hn:t.length < n) (hl:t.length≤2147483648):ajk (fun (x:(List Bool)×Int)=>bjv n v2 t x.1 x.2) n (mark [],0)=some (mark t):=by
 have h:=azy (n:=n) (σ:=List Int) (body:=fun (x:(List Bool)×Int)=>bjv n v2 t x.1 x.2) t (fun k s=>(mark s,(k:Int))) (fun s k=>.inl (s ++ [k])) (fun s=>mark s) (fun _ _=>True) (s:=[]) trivial
  (fun k hk s _=>by
   have h1:decide ((k:Int) < ((t.length:Nat):Int))=true:=by simp;omega
   have hr:=ht t[k] (jw hk)
   have h2:(0≤(k:Int)∧(k:Int) < (t.length:Int))∧(Int.toNat (k:Int)) < t.length∧(0≤t[k]∧t[k] < 512∧(mark s).length=512)∧(Int.toNat t[k]) < (mark s).length:=by rw [byh];simp;omega
   simp only [bjv,h1,ajj,if_true,jn,aqf hk]
   rw [jn] at h2
   rw [aj9 _ h2,fy2 s hr,wid (by omega)]
   simp)
  (fun _ _ _ _ _ _=>trivial) (fun s _=>by simp [bjv,ajj]) hn
 have e:∀ (t s:List Int),runL (fun s k=>(.inl (s ++ [k]):List Int ⊕ List Bool)) (fun s=>mark s) t s=mark (s ++ t):=by
  intro t
  induction t with
  | nil=>intro s;simp [runL]
  | cons k t ih=>intro s;simp [runL,ih]
 rw [e] at h
 simpa using h
def trkO (l:List aj0):List Int:=(trkF [] l).getD []
theorem ez5 (l:List aj0):∀ k∈trkO l,0≤k∧k < 512:=by
 unfold trkO
 cases h:trkF [] l with
 | none=>simp
 | some s =>
  obtain ⟨h1,h2⟩:=czn h
  simp only [Jt] at h1
  subst h1
  simpa using ayq h2
theorem dkl:∀ {t s s':List Int},bqj s t=some s'→s.Nodup→s'.Nodup
 | [],s,s',h,hs=>by simp only [bqj,jb] at h;subst h;exact hs
 | k :: t,s,s',h,hs=>by
  simp only [bqj] at h
  split at h
  ·cases h
  ·rename_i hk
   refine dkl h (List.nodup_append.2 ⟨hs,by simp,?_⟩)
   rintro a ha b hb rfl
   simp only [Jp] at hb;subst hb
   exact hk ha
theorem dzj:∀ {l:List aj0} {s s':List Int},trkF s l=some s'→s.Nodup→s'.Nodup
 | [],s,s',h,hs=>by simp only [trkF,jb] at h;subst h;exact hs
 | x :: l,s,s',h,hs=>by
  simp only [trkF] at h
  split at h
  ·obtain ⟨s2,h1,h2⟩:=bind_some h
   exact dzj h2 (dkl h1 hs)
  ·cases h
theorem few:∀ {m:Nat} {s:List Int},s.Nodup→(∀ k∈s,0≤k∧k < (m:Int))→s.length≤m
 | 0,s,hn,hr=>by
  cases s with
  | nil=>simp
  | cons k t=>have:=hr k (by simp);omega
 | m+1,s,hn,hr=>by
  have h:=few (m:=m) (s:=s.erase (m:Int)) (hn.erase _) (fun k hk=>by
   have h1:=(List.Nodup.mem_erase_iff hn).1 hk
   have:=hr k h1.2
   have:=h1.1
   omega)
  rw [List.length_erase] at h
  split at h <;> omega
theorem ekh (l:List aj0):(trkO l).length≤512:=by
 refine few ?_ (ez5 l)
 unfold trkO
 cases h:trkF [] l with
 | none=>simp
 | some s=>simpa using dzj h List.nodup_nil
theorem ck4 (n:Nat) (l:List aj0) (hn:N0≤n) (hl:l.length≤2097152):az8 n l=some (trkO l,(trkF [] l).isSome):=by
 rw [gw2 n l (by unfold N0 at hn;omega) (by unfold N0 at hn;omega) hl]
 unfold trkO
 cases trkF [] l <;> rfl
theorem fyf (n:Nat) (l:List aj0) (hn:N0≤n) (hl:l.length≤2097152):cjz n l=some (mark (trkO l)):=by
 have h2:=ekh l
 have h1:=hjp n (azv 512 false) (trkO l) (ez5 l) (by unfold N0 at hn;omega) (by omega)
 simp only [cjz,ck4 n l hn hl,jc]
 rw [eky] at h1 ⊢
 simp only [h1,jc,byt]
 have e:(mark (trkO l)).length=512:=byh _
 have e2:(mark []).length=512:=byh _
 rw [aj9 _ ⟨e,e2⟩,aj9 _ e]
def addT (out:List aj0) (k:Int):List aj0 :=
 if 0 < out.length∧(gt out (out.length - 1)).At+(gt out (out.length - 1)).Len=k then out.set (out.length - 1) ⟨(gt out (out.length - 1)).At,(gt out (out.length - 1)).Len+1⟩ else out ++ [⟨k,1⟩]
def nrm (p:List Bool):List aj0:=(Jl 512).foldl (fun out (k:Nat)=>if gt p k then addT out (k:Int) else out) []
theorem gym (out:List aj0) (k:Int):(addT out k).length≤out.length+1:=by unfold addT;split <;> simp
theorem gzl {out:List aj0} (h:0 < out.length):gt out (out.length - 1)∈out:=by
 rw [aqf (by omega)];exact jw _
theorem fw0 (n:Nat) (p:List Bool) (hp:p.length=512) (hn:512 < n):bjt n p=some (nrm p):=by
 have h:=azy (n:=n) (σ:=List aj0) (body:=fun (x:(List aj0)×Int)=>azq n p x.1 x.2) (Jl 512) (fun k s=>(s,(k:Int)))
  (fun out (k:Nat)=>.inl (if gt p k then addT out (k:Int) else out)) (fun out=>out) (fun k s=>s.length≤k∧∀ y∈s,0≤y.At∧0≤y.Len∧y.At+y.Len≤512) (s:=[]) (by simp)
  (fun k hk s hs=>by
   obtain ⟨hs1,hs2⟩:=hs
   simp only [List.length_range] at hk
   have h1:decide ((k:Int) < 512)=true:=by simp;omega
   have h2:(0≤(k:Int)∧(k:Int) < 512∧p.length=512)∧k < p.length:=by omega
   simp only [azq,azm,h1,ajj,if_true,jn,aj9 _ h2,JR]
   by_cases hg:gt p k=true
   ·simp only [hg,jK,jj,if_false,if_true]
    by_cases h0:0 < s.length
    ·have hm:=hs2 _ (gzl h0)
     have e1:jd .i64 (((s.length:Nat):Int) - 1)=((s.length - 1:Nat):Int):=by rw [wid (by omega)];omega
     have e0:decide (((s.length:Nat):Int) > 0)=true:=by simp;omega
     simp only [e1,e0,jn,if_true]
     have h3:0≤((s.length - 1:Nat):Int)∧((s.length - 1:Nat):Int) < (s.length:Int):=by omega
     have h4:s.length - 1 < s.length:=by omega
     rw [aj9 _ ⟨fun _=>h3,fun _=>h4,fun _=>h3,fun _=>h4⟩]
     rw [wid (n:=(gt s (s.length - 1)).At+(gt s (s.length - 1)).Len) (by omega)]
     simp only [beq_iff_eq,addT,h0,true_and]
     by_cases h5:(gt s (s.length - 1)).At+(gt s (s.length - 1)).Len=(k:Int)
     ·simp only [h5,if_true,aj9 _ (show ((0≤((s.length - 1:Nat):Int)∧((s.length - 1:Nat):Int) < (s.length:Int))∧s.length - 1 < s.length∧(0≤((s.length - 1:Nat):Int)∧((s.length - 1:Nat):Int) < (s.length:Int))∧s.length - 1 < s.length) from ⟨h3,h4,h3,h4⟩)]
      rw [wid (by omega),wid (by omega)];simp
     ·simp only [h5,if_false,aj9 _ (show s.length+1≤2147483648 by omega)]
      rw [wid (by omega)];simp
    ·have e:s=[]:=jJ (by omega)
     subst e
     rw [aj9 _ (by simp)]
     simp only [jW]
     rw [if_neg (by simp),aj9 _ (by simp),wid (by omega)]
     simp [addT]
   ·simp only [hg,jS,if_true,if_false,jj]
    rw [wid (by omega)];simp)
  (fun k hk s hs s' hf=>by
   obtain ⟨hs1,hs2⟩:=hs
   simp only [List.length_range] at hk
   simp only [Sum.inl.injEq,JR] at hf
   subst hf
   split
   ·refine ⟨by have:=gym s (k:Int);omega,?_⟩
    unfold addT
    split
    ·rename_i h
     obtain ⟨h0,h5⟩:=h
     have hm:=hs2 _ (gzl h0)
     intro y hy
     rcases List.mem_or_eq_of_mem_set hy with hy | rfl
     ·exact hs2 y hy
     ·dsimp only;omega
    ·intro y hy
     rcases jo.1 hy with hy | hy
     ·exact hs2 y hy
     ·simp only [Jp] at hy;subst hy;dsimp only;omega
   ·exact ⟨by omega,hs2⟩)
  (fun s _=>by simp [azq,ajj]) (by simpa using hn)
 have e:∀ (t:List Nat) (s:List aj0),runL (fun out (k:Nat)=>(.inl (if gt p k then addT out (k:Int) else out):List aj0 ⊕ List aj0)) (fun out=>out) t s=t.foldl (fun out (k:Nat)=>if gt p k then addT out (k:Int) else out) s:=by
  intro t
  induction t with
  | nil=>intro s;simp [runL]
  | cons k t ih=>intro s;simp [runL,ih]
 rw [e] at h
 have h':ajk (fun (x:(List aj0)×Int)=>azq n p x.1 x.2) n ([],0)=some (nrm p):=h
 simp only [bjt,h',jc,bqg]
def nf:Int→List aj0→Prop
 | _,[]=>True
 | e,x :: l=>val x=true∧e < x.At∧nf (x.At+x.Len) l
def eqz:Int→List aj0→Int
 | e,[]=>e
 | _,x :: l=>eqz (x.At+x.Len) l
theorem eko {x:aj0}:∀ {l:List aj0} {e:Int},nf e (l ++ [x])↔nf e l∧val x=true∧eqz e l < x.At
 | [],e=>by simp [nf,eqz]
 | y :: l,e=>by simp only [JS,nf,eqz,eko];simp only [and_assoc]
theorem cq1 {x:aj0}:∀ {l:List aj0} {e:Int},eqz e (l ++ [x])=x.At+x.Len
 | [],e=>rfl
 | y :: l,e=>by simp only [JS,eqz,cq1]
theorem eww {α:Type} (l:List α):l=[]∨∃ i z,l=i ++ [z]:=by
 rcases List.eq_nil_or_concat l with h | ⟨i,z,h⟩
 ·exact .inl h
 ·exact .inr ⟨i,z,by simpa using h⟩
theorem fyl (k:Int):addT [] k=[⟨k,1⟩]:=by simp [addT]
theorem fza {α:Type} [Inhabited α] (i:List α) (z:α):gt (i ++ [z]) ((i ++ [z]).length - 1)=z:=by
 rw [aqf (by simp)];simp
theorem eq6 (i:List aj0) (z:aj0) (k:Int):addT (i ++ [z]) k=if z.At+z.Len=k then i ++ [⟨z.At,z.Len+1⟩] else i ++ [z] ++ [⟨k,1⟩]:=by
 unfold addT
 rw [fza]
 have h:0 < (i ++ [z]).length:=by simp
 simp only [h,true_and]
 split
 ·simp [List.set_append]
 ·rfl
theorem hwq {e k:Int} {out:List aj0} (h:nf e out) (hl:eqz e out≤k) (he:e < k) (hk:0≤k∧k < 512):nf e (addT out k)∧eqz e (addT out k)=k+1:=by
 rcases eww out with rfl | ⟨i,z,rfl⟩
 ·rw [fyl];refine ⟨⟨(ajv _).2 ?_,he,trivial⟩,rfl⟩;dsimp only;omega
 ·rw [eq6]
  rw [cq1] at hl
  obtain ⟨h1,h2,h3⟩:=eko.1 h
  have h2':=(ajv _).1 h2
  split
  ·refine ⟨eko.2 ⟨h1,(ajv _).2 ?_,h3⟩,by rw [cq1];dsimp only;omega⟩
   dsimp only;omega
  ·refine ⟨eko.2 ⟨h,(ajv _).2 ?_,?_⟩,by rw [cq1]⟩
   ·dsimp only;omega
   ·rw [cq1];dsimp only;omega
theorem ez1 (p:List Bool):∀ m:Nat,m≤512→nf (-1) ((Jl m).foldl (fun out (k:Nat)=>if gt p k then addT out (k:Int) else out) [])∧eqz (-1) ((Jl m).foldl (fun out (k:Nat)=>if gt p k then addT out (k:Int) else out) [])≤(m:Int)
 | 0,_=>by simp [nf,eqz]
 | m+1,h=>by
  obtain ⟨h1,h2⟩:=ez1 p m (by omega)
  rw [List.range_succ,List.foldl_append]
  simp only [List.foldl_cons,List.foldl_nil]
  split
  ·obtain ⟨h3,h4⟩:=hwq h1 h2 (by omega) (by omega)
   exact ⟨h3,by rw [h4];omega⟩
  ·exact ⟨h1,by omega⟩
theorem hzy (p:List Bool):nf (-1) (nrm p):=(ez1 p 512 (jA _)).1
theorem gw3:∀ {a b:List Nat},a.Pairwise (· < ·)→b.Pairwise (· < ·)→(∀ k,k∈a↔k∈b)→a=b
 | [],[],_,_,_=>rfl
 | [],y :: b,_,_,h=>absurd ((h y).2 j8) (by simp)
 | x :: a,[],_,_,h=>absurd ((h x).1 j8) (by simp)
 | x :: a,y :: b,ha,hb,h=>by
  obtain ⟨ha1,ha2⟩:=JD.1 ha
  obtain ⟨hb1,hb2⟩:=JD.1 hb
  have e:x=y:=by
   rcases jO.1 ((h x).1 j8) with e | e
   ·exact e
   ·rcases jO.1 ((h y).2 j8) with e' | e'
    ·exact e'.symm
    ·have:=ha1 _ e';have:=hb1 _ e;omega
  subst e
  rw [gw3 ha2 hb2 (fun k=>?_)]
  constructor
  ·intro hk
   have h1:=ha1 _ hk
   rcases jO.1 ((h k).1 (Jv _ hk)) with e | e
   ·omega
   ·exact e
  ·intro hk
   have h1:=hb1 _ hk
   rcases jO.1 ((h k).2 (Jv _ hk)) with e | e
   ·omega
   ·exact e
theorem awg (x:aj0) (l:List aj0):trks (x :: l)=trk x ++ trks l:=by simp [trks]
theorem hka:∀ {l:List aj0} {e:Int},nf e l→∀ k∈trks l,e < k
 | [],_,_,k,hk=>by simp [trks] at hk
 | x :: l,e,h,k,hk=>by
  obtain ⟨h1,h2,h3⟩:=h
  have h1':=(ajv _).1 h1
  rw [awg,jo] at hk
  rcases hk with hk | hk
  ·have:=ay2.1 hk;omega
  ·have:=hka h3 k hk;omega
theorem gzc (x:aj0):(trk x).Pairwise (· < ·):=by
 unfold trk
 refine List.pairwise_map.2 (List.Pairwise.imp ?_ List.pairwise_lt_range)
 intro a b h;omega
theorem fk2:∀ {l:List aj0} {e:Int},nf e l→(trks l).Pairwise (· < ·)
 | [],_,_=>by simp [trks]
 | x :: l,e,h=>by
  obtain ⟨h1,h2,h3⟩:=h
  rw [awg,List.pairwise_append]
  refine ⟨gzc x,fk2 h3,fun a ha b hb=>?_⟩
  have:=ay2.1 ha
  have:=hka h3 b hb
  omega
theorem ckp:∀ {l:List aj0} {e:Int},nf e l→l.all val=true
 | [],_,_=>rfl
 | x :: l,e,h=>by simp [h.1,ckp h.2.2]
theorem ejg:∀ {t s:List Int},(s ++ t).Nodup→bqj s t=some (s ++ t)
 | [],s,_=>by simp [bqj]
 | k :: t,s,h=>by
  have hk:k ∉ s:=fun hk=>(List.nodup_append.1 h).2.2 k hk k j8 rfl
  simp only [bqj,hk,if_false]
  rw [ejg (by simpa using h)];simp
theorem ej3:∀ {l:List aj0} {s:List Int},l.all val=true→(s ++ trks l).Nodup→trkF s l=some (s ++ trks l)
 | [],s,_,_=>by simp [trkF,trks]
 | x :: l,s,hv,h=>by
  simp only [JL,jf] at hv
  rw [awg,← jQ] at h
  simp only [trkF,hv.1,if_true]
  rw [ejg (List.nodup_append.1 h).1,jc,ej3 hv.2 h,awg,jQ]
theorem hw0 {l:List aj0} {e:Int} (h:nf e l):trkF [] l=some (trks l):=by
 have:=ej3 (s:=[]) (ckp h) (by
  rw [Jt]
  exact List.Pairwise.imp (fun h=>by omega) (fk2 h))
 simpa using this
theorem ej7 (x:aj0) (out:List aj0) (ho:∀ i z,out=i ++ [z]→z.At+z.Len≠x.At):∀ m:Nat,((Jl m).map fun (j:Nat)=>x.At+(j:Int)).foldl addT out=if m=0 then out else out ++ [⟨x.At,(m:Int)⟩]
 | 0=>by simp
 | m+1=>by
  rw [List.range_succ,List.map_append,List.foldl_append,ej7 x out ho m]
  simp only [List.map_cons,List.map_nil,List.foldl_cons,List.foldl_nil]
  by_cases hm:m=0
  ·subst hm
   simp only [if_true]
   rcases eww out with rfl | ⟨i,z,rfl⟩
   ·rw [fyl];simp
   ·rw [eq6]
    have:=ho i z rfl
    rw [if_neg (by simpa using this)]
    simp
  ·simp only [hm,if_false]
   rw [eq6];simp
theorem hw5 {x:aj0} {out:List aj0} (hx:1≤x.Len) (ho:∀ i z,out=i ++ [z]→z.At+z.Len≠x.At):(trk x).foldl addT out=out ++ [x]:=by
 unfold trk
 rw [ej7 x out ho,if_neg (by omega)]
 have:((x.Len.toNat:Nat):Int)=x.Len:=by omega
 rw [this]
theorem fk0:∀ {l:List aj0} {e:Int} {out:List aj0},nf e l→(∀ i z,out=i ++ [z]→z.At+z.Len≤e)→(trks l).foldl addT out=out ++ l
 | [],_,_,_,_=>by simp [trks]
 | x :: l,e,out,h,ho=>by
  obtain ⟨h1,h2,h3⟩:=h
  have h1':=(ajv _).1 h1
  rw [awg,List.foldl_append,hw5 h1'.2.1 (fun i z hz=>by have:=ho i z hz;omega),fk0 h3 (fun i z hz=>?_)]
  ·simp
  ·have:=List.append_inj' hz rfl
   have e2:x=z:=by simpa using this.2
   subst e2;omega
theorem hqg {l:List aj0} (h:nf (-1) l):nrm (mark (trks l))=l:=by
 have e1:(Jl 512).filter (fun k=>gt (mark (trks l)) k)=(trks l).map Int.toNat:=by
  refine gw3 (List.Pairwise.filter _ List.pairwise_lt_range) ?_ fun k=>?_
  ·refine List.pairwise_map.2 (List.Pairwise.imp_of_mem ?_ (fk2 h))
   intro a b ha hb hab
   have:=ayq (ckp h) a ha
   have:=ayq (ckp h) b hb
   omega
  ·rw [List.mem_filter,List.mem_range,List.mem_map]
   constructor
   ·rintro ⟨h1,h2⟩
    have h3:=ey2 (trks l) (k:=(k:Int)) (by omega)
    rw [jn] at h3
    rw [h3] at h2
    exact ⟨(k:Int),by simpa using h2,by simp⟩
   ·rintro ⟨a,ha,rfl⟩
    have h1:=ayq (ckp h) a ha
    refine ⟨by omega,?_⟩
    rw [ey2 _ h1];simpa using ha
 have e2:nrm (mark (trks l))=((trks l).map Int.toNat).foldl (fun out (k:Nat)=>addT out (k:Int)) []:=by
  rw [← e1,List.foldl_filter];rfl
 have e3:((trks l).map Int.toNat).foldl (fun out (k:Nat)=>addT out (k:Int)) []=(trks l).foldl addT []:=by
  rw [List.foldl_map]
  have:∀ (t:List Int) (out:List aj0),(∀ k∈t,0≤k)→t.foldl (fun out (k:Int)=>addT out ((k.toNat:Nat):Int)) out=t.foldl addT out:=by
   intro t
   induction t with
   | nil=>intro out _;rfl
   | cons k t ih =>
    intro out ht
    have h0:=ht k j8
    have e:((k.toNat:Nat):Int)=k:=by omega
    simp only [List.foldl_cons,e]
    exact ih _ (fun k hk=>ht k (Jv _ hk))
  exact this _ _ (fun k hk=>(ayq (ckp h) k hk).1)
 rw [e2,e3,fk0 h (fun i z hz=>by simp at hz)]
 simp
theorem ext_eq {x y:aj0}:x=y↔x.At=y.At∧x.Len=y.Len:=by
 cases x;cases y;simp
theorem hwn (n:Nat) (a b:List aj0) (hn:a.length < n) (hl:a.length≤2147483648):cjp n a b=some (decide (a=b)):=by
 simp only [cjp]
 by_cases he:a.length=b.length
 ·have e0:((a.length:Int) != (b.length:Int))=false:=by simp [he]
  rw [e0]
  simp only [ajj,jj,if_false]
  obtain ⟨y,h1,h2⟩:=czi (body:=fun (x:Int)=>bqq n a b x) (fun x=>∃ k:Nat,x=(k:Int)∧k≤a.length∧∀ j,j < k→gt a j=gt b j) (fun x=>(a.length:Int).toNat - x.toNat)
   (fun y=>(y = .inl false∧a≠b)∨(y = .inr ()∧a=b)) (by
    rintro x ⟨k,rfl,hk,hj⟩
    by_cases hkl:k < a.length
    ·have h1:decide ((k:Int) < (a.length:Int))=true:=by simp;omega
     have h2:(0≤(k:Int)∧(k:Int) < (a.length:Int))∧(0≤(k:Int)∧(k:Int) < (b.length:Int)):=by omega
     simp only [bqq,h1,ajj,if_true,aj9 _ h2,jn]
     by_cases hx:gt a k=gt b k
     ·refine .inl ⟨((k+1:Nat):Int),?_,⟨k+1,rfl,hkl,fun j hj'=>?_⟩,by omega⟩
      ·rw [wid (by omega)];simp [hx]
      ·by_cases e:j=k
       ·rw [e];exact hx
       ·exact hj j (by omega)
     ·refine .inr ⟨.inl false,?_,.inl ⟨rfl,fun e=>hx (by rw [e])⟩⟩
      have hx':¬ ((gt a k).At=(gt b k).At∧(gt a k).Len=(gt b k).Len):=fun e=>hx (ext_eq.2 e)
      have:(!((gt a k).At == (gt b k).At && (gt a k).Len == (gt b k).Len))=true:=by
       rw [j9,← Ja,jf]
       simpa using hx'
      simp only [this,if_true]
    ·have:k=a.length:=by omega
     subst this
     refine .inr ⟨.inr (),by simp [bqq,ajj],.inr ⟨rfl,List.ext_getElem he fun i h1 h2=>?_⟩⟩
     have:=hj i h1
     rwa [aqf h1,aqf h2] at this) n 0 ⟨0,rfl,by omega,fun j hj=>by omega⟩ (by simpa using hn)
  rw [h1]
  rcases h2 with ⟨rfl,h⟩ | ⟨rfl,h⟩ <;> simp [bk9,h]
 ·have e0:((a.length:Int) != (b.length:Int))=true:=by simp;omega
  rw [e0]
  have:a≠b:=fun e=>he (by rw [e])
  simp [this]
theorem djg (m:Int):∀ (l:List aj0) (e:Int),chk m e l=true↔nf e l∧∀ k∈trks l,k < m
 | [],e=>by simp [chk,nf,trks]
 | x :: l,e=>by
  simp only [chk,jf,decide_eq_true_eq,djg m l,nf,awg,jo]
  constructor
  ·rintro ⟨⟨⟨h1,h2⟩,h3⟩,h4,h5⟩
   refine ⟨⟨h1,h2,h4⟩,?_⟩
   rintro k (hk | hk)
   ·have:=ay2.1 hk;omega
   ·exact h5 k hk
  ·rintro ⟨⟨h1,h2,h4⟩,h5⟩
   have h1':=(ajv _).1 h1
   refine ⟨⟨⟨h1,h2⟩,?_⟩,h4,fun k hk=>h5 k (.inr hk)⟩
   have:=h5 (x.At+x.Len - 1) (.inl (ay2.2 (by omega)))
   omega
theorem gze (n:Nat) (hn:N0≤n) (l:List aj0) (m:Int) (hl:l.length≤2097152):bky n l m=some (chk m (-1) l):=by
 have h512:512 < n:=by unfold N0 at hn;omega
 have hln:l.length < n:=by unfold N0 at hn;omega
 simp only [bky,ck4 n l hn hl,fyf n l hn hl,fw0 n _ (byh _) h512,jc,hwn n l _ hln (by omega)]
 by_cases hs:(trkF [] l).isSome=true
 ·obtain ⟨s,hs'⟩:=jZ.1 hs
  have hO:trkO l=s:=by simp [trkO,hs']
  obtain ⟨h3,h4⟩:=czn hs'
  simp only [Jt] at h3
  subst h3
  simp only [hs,jK,jS,ajj,jj,if_false,hO]
  rw [aj9 _ trivial,aj9 _ trivial]
  by_cases he:l=nrm (mark (trks l))
  ·have hnf:nf (-1) l:=by rw [he];exact hzy _
   have hfew:=ekh l
   rw [hO] at hfew
   rw [decide_eq_true he]
   simp only [jK,jj,if_false]
   have h:=bqy (n:=n) (body:=fun (x:Int)=>bja n m (trks l) x) (trks l) (fun k=>decide (m≤k)) (.inl false) (.inr ())
    (fun k hk=>by
     have h1:decide ((k:Int) < (((trks l).length:Nat):Int))=true:=by simp;omega
     have h2:(0≤(k:Int)∧(k:Int) < ((trks l).length:Int))∧k < (trks l).length:=by omega
     simp only [bja,h1,ajj,if_true,jn,aj9 _ h2,aqf hk]
     rw [wid (by omega)]
     simp only [ge_iff_le,decide_eq_true_eq]
     split <;> simp)
    (by simp [bja,ajj]) (by omega)
   rw [h]
   by_cases ha:(trks l).any (fun k=>decide (m≤k))=true
   ·have:chk m (-1) l=false:=by
     rw [← Ja]
     intro hc
     obtain ⟨k,hk,hm⟩:=List.any_eq_true.1 ha
     have:=((djg m l (-1)).1 hc).2 k hk
     simp at hm;omega
    simp [ha,this]
   ·have:chk m (-1) l=true:=by
     refine (djg m l (-1)).2 ⟨hnf,fun k hk=>?_⟩
     rw [List.any_eq_true] at ha
     have:¬ m≤k:=fun hm=>ha ⟨k,hk,by simpa using hm⟩
     omega
    simp [ha,this,bwy]
  ·have:chk m (-1) l=false:=by
    rw [← Ja]
    intro hc
    exact he (hqg ((djg m l (-1)).1 hc).1).symm
   simp [he,this]
 ·have:chk m (-1) l=false:=by
   rw [← Ja]
   intro hc
   exact hs (by rw [hw0 ((djg m l (-1)).1 hc).1];rfl)
  rw [Ja] at hs
  simp [hs,this]
def isF (r:List aj0) (w:Int) (k:Nat):Prop:=k < r.length∧w≤(gt r k).Len∧∀ j,j < k→(gt r j).Len < w
def isL (r:List aj0) (k:Nat):Prop:=k < r.length∧(∀ j,j < r.length→(gt r j).Len≤(gt r k).Len)∧∀ j,j < k→(gt r j).Len < (gt r k).Len
def allS (r:List aj0) (w:Int):Prop:=∀ j,j < r.length→(gt r j).Len < w
theorem gye {r:List aj0} {w:Int} {j k:Nat} (h1:isF r w j) (h2:isF r w k):j=k:=by
 rcases Nat.lt_trichotomy j k with h | h | h
 ·have:=h2.2.2 j h;have:=h1.2.1;omega
 ·exact h
 ·have:=h1.2.2 k h;have:=h2.2.1;omega
theorem hjh {r:List aj0} {j k:Nat} (h1:isL r j) (h2:isL r k):j=k:=by
 rcases Nat.lt_trichotomy j k with h | h | h
 ·have:=h2.2.2 j h;have:=h1.2.1 k h2.1;omega
 ·exact h
 ·have:=h1.2.2 k h;have:=h2.2.1 j h1.1;omega
def cut (r:List aj0) (k:Nat) (w:Int):List aj0:=if (gt r k).Len=w then r.eraseIdx k else r.set k ⟨(gt r k).At+w,(gt r k).Len - w⟩
def good (r:List aj0):Prop:=∀ x∈r,val x=true
theorem eqb {r:List aj0} (h:good r) {k:Nat} (hk:k < r.length):0≤(gt r k).At∧1≤(gt r k).Len∧(gt r k).At < 512∧(gt r k).Len≤512 - (gt r k).At:=by
 rw [aqf hk];exact (ajv _).1 (h _ (jw hk))
theorem gjl {r:List aj0} (h:good r) (k:Nat):good (r.eraseIdx k):=fun x hx=>h x (List.mem_of_mem_eraseIdx hx)
theorem ey5 {row:List aj0} {len k:Nat} (h:k < len) (hl:len≤row.length):gt (row.take len) k=gt row k:=by
 rw [aqf (by simp;omega),aqf (by omega)];simp
theorem eqi (n:Nat) (row:List aj0) (len k:Nat) (hk:k < len) (hl:len≤row.length):∃ row',aqq n row len (k:Int) ((k:Int)+1)=some (len - 1,row')∧row'.length=row.length∧row'.take (len - 1)=(row.take len).eraseIdx k:=by
 have e1:((k:Int) == (k:Int)+1)=false:=by simp;omega
 have hp:(List.take (Int.toNat ((len:Int) - ((k:Int)+1))) (List.drop (Int.toNat ((k:Int)+1)) row)).length=len - (k+1):=by
  have a1:Int.toNat ((len:Int) - ((k:Int)+1))=len - (k+1):=by omega
  have a2:Int.toNat ((k:Int)+1)=k+1:=by omega
  rw [a1,a2];simp;omega
 have a0:Int.toNat ((k:Int) - 0)=k:=by omega
 have a3:k+(len - (k+1))=len - 1:=by omega
 have a4:Int.toNat (((len:Nat):Int) - ((len - 1:Nat):Int))=1:=by omega
 have a1:Int.toNat ((len:Int) - ((k:Int)+1))=len - (k+1):=by omega
 have a2:Int.toNat ((k:Int)+1)=k+1:=by omega
 refine ⟨byd (byd row k (List.take (len - (k+1)) (List.drop (k+1) row))) (len - 1) (azv 1 (⟨0,0⟩:aj0)),?_,by rw [cjr,cjr],?_⟩
 ·simp only [aqq,hp,a0,a3,e1,ajj,jj,if_false,a4,a1,a2]
  rw [a1,a2] at hp
  simp only [hp,a3,a4]
  rw [aj9 _ (by omega),aj9 _ (by omega),aj9 _ (by omega)]
 ·have hp':(List.take (len - (k+1)) (List.drop (k+1) row)).length=len - (k+1):=by have h:=hp;rw [a1,a2] at h;exact h
  have h1:byd row k (List.take (len - (k+1)) (List.drop (k+1) row))=row.take k ++ List.take (len - (k+1)) (List.drop (k+1) row) ++ row.drop (k+(len - (k+1))):=by
   rw [by3 (by rw [hp'];omega),hp']
  have h2:(row.take k ++ List.take (len - (k+1)) (List.drop (k+1) row)).length=len - 1:=by rw [ji,hp',jl];omega
  rw [by3 (by rw [cjr,cjj];omega),jQ,Jg (by rw [jl,cjr];omega),List.take_take,Nat.min_self,h1,Jg (by rw [h2];exact jA _),jV (by rw [h2];exact jA _)]
  rw [List.eraseIdx_eq_take_drop_succ,List.take_take,List.drop_take,Nat.min_eq_left (by omega)]
theorem fy8 (n:Nat) (w most:Int) (got row:List aj0) (v:Int) (len:Nat) (hv:v=(len:Int)) (h0:0 < len) (hl:len≤row.length) (hn:len < n) (hw:1≤w) (hb:len≤1073741824) (hgot:got.length+1≤2147483648) (hg:good (row.take len)) :
  (∃ k,isF (row.take len) w k∧ajk (fun (x:Nat×Int×Int)=>aze n w most got row v x.1 x.2.1 x.2.2) n (len,0,0)=some (.inl (got ++ [⟨(gt (row.take len) k).At,w⟩],cut (row.take len) k w,0))) ∨
  (∃ k,allS (row.take len) w∧isL (row.take len) k∧ajk (fun (x:Nat×Int×Int)=>aze n w most got row v x.1 x.2.1 x.2.2) n (len,0,0)=some (.inr (len,(k:Int)))):=by
 subst hv
 have hr:(row.take len).length=len:=by simp;omega
 obtain ⟨y,h1,h2⟩:=czi (body:=fun (x:Nat×Int×Int)=>aze n w most got row (len:Int) x.1 x.2.1 x.2.2)
  (fun x=>∃ lg i:Nat,x=(len,(lg:Int),(i:Int))∧i≤len∧lg < len∧(∀ j,j < i→(gt (row.take len) j).Len < w)∧(∀ j,j < i→(gt (row.take len) j).Len≤(gt (row.take len) lg).Len)∧(∀ j,j < lg→(gt (row.take len) j).Len < (gt (row.take len) lg).Len))
  (fun x=>len - x.2.2.toNat)
  (fun y=>(∃ k,isF (row.take len) w k∧y = .inl (got ++ [⟨(gt (row.take len) k).At,w⟩],cut (row.take len) k w,0))∨(∃ k,allS (row.take len) w∧isL (row.take len) k∧y = .inr (len,(k:Int)))) (by
   rintro x ⟨lg,i,rfl,hi,hlg,i1,i2,i3⟩
   by_cases hil:i < len
   ·have c1:decide ((i:Int) < (len:Int))=true:=by simp;omega
    have c2:(0≤(i:Int)∧(i:Int) < (len:Int))∧i < row.length:=by omega
    have hgi:=eqb hg (k:=i) (by rw [hr];exact hil)
    have e1:=ey5 hil hl
    have e2:=ey5 hlg hl
    simp only [aze,c1,ajj,if_true,jn,aj9 _ c2,← e1,← e2]
    by_cases b1:(gt (row.take len) i).Len > w
    ·refine .inr ⟨_,?_,.inl ⟨i,⟨by rw [hr];exact hil,by omega,i1⟩,rfl⟩⟩
     rw [decide_eq_true b1]
     simp only [if_true,aj9 _ hgot]
     rw [wid (by omega),wid (by omega),List.take_set,cut,if_neg (by omega)]
    ·rw [decide_eq_false b1]
     simp only [jj,if_false]
     by_cases b2:(gt (row.take len) i).Len=w
     ·refine .inr ⟨_,?_,.inl ⟨i,⟨by rw [hr];exact hil,by omega,i1⟩,rfl⟩⟩
      have c3:((gt (row.take len) i).Len == w)=true:=by simp [b2]
      rw [c3]
      simp only [if_true,aj9 _ hgot]
      rw [wid (by omega)]
      obtain ⟨row',d1,d2,d3⟩:=eqi n row len i hil hl
      rw [d1]
      simp only [jc,d3,cut,b2,if_true]
      have:(⟨(gt (row.take len) i).At,w⟩:aj0)=gt (row.take len) i:=by rw [← b2]
      rw [this]
     ·have c3:((gt (row.take len) i).Len == w)=false:=by simp [b2]
      have c4:(0≤(lg:Int)∧(lg:Int) < (len:Int))∧lg < row.length:=by omega
      rw [c3]
      simp only [jj,if_false,aj9 _ c4,bj1]
      rw [wid (by omega)]
      by_cases b3:(gt (row.take len) i).Len > (gt (row.take len) lg).Len
      ·rw [decide_eq_true b3]
       refine .inl ⟨_,rfl,⟨i,i+1,rfl,hil,hil,fun j hj=>?_,fun j hj=>?_,fun j hj=>?_⟩,by dsimp only;omega⟩
       ·by_cases e:j=i
        ·subst e;omega
        ·exact i1 j (by omega)
       ·by_cases e:j=i
        ·subst e;omega
        ·have:=i2 j (by omega);omega
       ·have:=i2 j hj;omega
      ·rw [decide_eq_false b3]
       refine .inl ⟨_,rfl,⟨lg,i+1,rfl,hil,hlg,fun j hj=>?_,fun j hj=>?_,i3⟩,by dsimp only;omega⟩
       ·by_cases e:j=i
        ·subst e;omega
        ·exact i1 j (by omega)
       ·by_cases e:j=i
        ·subst e;omega
        ·exact i2 j (by omega)
   ·have:i=len:=by omega
    subst this
    refine .inr ⟨.inr (i,(lg:Int)),by simp [aze,ajj],.inr ⟨lg,fun j hj=>i1 j (by rw [hr] at hj;exact hj),⟨by rw [hr];exact hlg,fun j hj=>i2 j (by rw [hr] at hj;exact hj),i3⟩,rfl⟩⟩)
  n (len,0,0) ⟨0,0,rfl,by omega,h0,fun j hj=>by omega,fun j hj=>by omega,fun j hj=>by omega⟩ (by simpa using hn)
 rcases h2 with ⟨k,h3,rfl⟩ | ⟨k,h3,h4,rfl⟩
 ·exact .inl ⟨k,h3,h1⟩
 ·exact .inr ⟨k,h3,h4,h1⟩
theorem hjn (n:Nat) (w pieces:Int) (got r:List aj0) (h0:0 < r.length) (hn:r.length < n) (hb:r.length≤1073741824) :
  ∃ f g:Int,ajk (fun (x:Int×Int×Int)=>ayl n w pieces r got x.1 x.2.1 x.2.2) n ((-1),0,(r.length:Int) - 1)=some (f,g) ∧
   ((∃ k:Nat,f=(k:Int)∧isF r w k)∨(f = -1∧∃ k:Nat,g=(k:Int)∧allS r w∧isL r k)):=by
 obtain ⟨y,h1,h2⟩:=czi (body:=fun (x:Int×Int×Int)=>ayl n w pieces r got x.1 x.2.1 x.2.2)
  (fun x=>∃ (d g:Nat) (f:Int),x=(f,(g:Int),(d:Int) - 1)∧d≤r.length∧g < r.length∧((f = -1∧∀ j,d≤j→j < r.length→(gt r j).Len < w)∨(∃ k:Nat,f=(k:Int)∧d≤k∧k < r.length∧w≤(gt r k).Len∧∀ j,d≤j→j < k→(gt r j).Len < w)) ∧
   (∀ j,d≤j→j < r.length→(gt r j).Len≤(gt r g).Len)∧(∀ j,d≤j→j < g→(gt r j).Len < (gt r g).Len))
  (fun x=>(x.2.2+1).toNat)
  (fun y=>(∃ k:Nat,y.1=(k:Int)∧isF r w k)∨(y.1 = -1∧∃ k:Nat,y.2=(k:Int)∧allS r w∧isL r k)) (by
   rintro x ⟨d,g,f,rfl,hd,hg,hf,i2,i3⟩
   cases d with
   | zero =>
    refine .inr ⟨(f,(g:Int)),by simp [ayl,ajj],?_⟩
    rcases hf with ⟨rfl,hf⟩ | ⟨k,rfl,h1,h2,h3,h4⟩
    ·exact .inr ⟨rfl,g,rfl,fun j hj=>hf j (by omega) hj,hg,fun j hj=>i2 j (by omega) hj,fun j hj=>i3 j (by omega) hj⟩
    ·exact .inl ⟨k,rfl,h2,h3,fun j hj=>h4 j (by omega) hj⟩
   | succ d =>
    have ed:((d+1:Nat):Int) - 1=(d:Int):=by omega
    have c1:decide ((d:Int) ≥ 0)=true:=by simp
    have c2:(0≤(d:Int)∧(d:Int) < (r.length:Int))∧d < r.length:=by omega
    have c3:(0≤(d:Int)∧(d:Int) < (r.length:Int))∧d < r.length∧(0≤(g:Int)∧(g:Int) < (r.length:Int))∧g < r.length:=by omega
    simp only [ayl,bqe,bqu,ed,c1,ajj,if_true,jn,aj9 _ c2,aj9 _ c3]
    rw [wid (by omega)]
    have key:∀ f':Int,((f' = -1∧∀ j,d≤j→j < r.length→(gt r j).Len < w)∨(∃ k:Nat,f'=(k:Int)∧d≤k∧k < r.length∧w≤(gt r k).Len∧∀ j,d≤j→j < k→(gt r j).Len < w)) →
      (∃ x',(if decide ((gt r d).Len ≥ (gt r g).Len)=true then some (.inl (f',(d:Int),(d:Int) - 1)) else some (.inl (f',(g:Int),(d:Int) - 1)):Option ((Int×Int×Int) ⊕ (Int×Int)))=some (.inl x')∧(∃ (d g:Nat) (f:Int),x'=(f,(g:Int),(d:Int) - 1)∧d≤r.length∧g < r.length∧((f = -1∧∀ j,d≤j→j < r.length→(gt r j).Len < w)∨(∃ k:Nat,f=(k:Int)∧d≤k∧k < r.length∧w≤(gt r k).Len∧∀ j,d≤j→j < k→(gt r j).Len < w)) ∧
   (∀ j,d≤j→j < r.length→(gt r j).Len≤(gt r g).Len)∧(∀ j,d≤j→j < g→(gt r j).Len < (gt r g).Len))∧(x'.2.2+1).toNat < ((d:Int)+1).toNat):=by
     intro f' hf'
     by_cases b:(gt r d).Len ≥ (gt r g).Len
     ·rw [decide_eq_true b]
      refine ⟨_,rfl,⟨d,d,f',rfl,by omega,by omega,hf',fun j h1 h2=>?_,fun j h1 h2=>by omega⟩,by dsimp only;omega⟩
      by_cases e:j=d
      ·subst e;omega
      ·have:=i2 j (by omega) h2;omega
     ·rw [decide_eq_false b]
      refine ⟨_,rfl,⟨d,g,f',rfl,by omega,by omega,hf',fun j h1 h2=>?_,fun j h1 h2=>?_⟩,by dsimp only;omega⟩
      ·by_cases e:j=d
       ·subst e;omega
       ·exact i2 j (by omega) h2
      ·by_cases e:j=d
       ·subst e;omega
       ·exact i3 j (by omega) h2
    by_cases b:(gt r d).Len ≥ w
    ·rw [decide_eq_true b]
     simp only [if_true]
     exact .inl (key (d:Int) (.inr ⟨d,rfl,by omega,by omega,b,fun j h1 h2=>by omega⟩))
    ·rw [decide_eq_false b]
     simp only [jj,if_false]
     refine .inl (key f ?_)
     rcases hf with ⟨rfl,hf⟩ | ⟨k,rfl,h1,h2,h3,h4⟩
     ·refine .inl ⟨rfl,fun j h1 h2=>?_⟩
      by_cases e:j=d
      ·subst e;omega
      ·exact hf j (by omega) h2
     ·refine .inr ⟨k,rfl,by omega,h2,h3,fun j h5 h6=>?_⟩
      by_cases e:j=d
      ·subst e;omega
      ·exact h4 j (by omega) h6)
  n ((-1),0,(r.length:Int) - 1) ⟨r.length,0,-1,rfl,jA _,h0,.inl ⟨rfl,fun j h1 h2=>by omega⟩,fun j h1 h2=>by omega,fun j h1 h2=>by omega⟩ (by simpa using hn)
 exact ⟨y.1,y.2,h1,h2⟩
theorem drop_eq (n:Nat) (l:List aj0) (hn:l.length < n) (hb:l.length≤1073741824):bjy n l=some (l.filter fun x=>decide (0 < x.Len)):=by
 have h:=azy (n:=n) (σ:=List aj0) (body:=fun (x:(List aj0)×Int)=>ayh n l x.1 x.2) l (fun k s=>(s,(k:Int)))
  (fun s x=>.inl (if 0 < x.Len then s ++ [x] else s)) (fun s=>s) (fun k s=>s.length≤k) (s:=[]) (by simp)
  (fun k hk s hs=>by
   have h1:decide ((k:Int) < (l.length:Int))=true:=by simp;omega
   have h2:0≤(k:Int)∧(k:Int) < (l.length:Int):=by omega
   have h3:(0≤(k:Int)∧(k:Int) < (l.length:Int))∧s.length+1≤2147483648:=by omega
   simp only [ayh,bw2,h1,ajj,if_true,aj9 _ h2,aj9 _ h3,jn,aqf hk]
   rw [wid (by omega)]
   simp only [gt_iff_lt,decide_eq_true_eq]
   split <;> simp)
  (fun k hk s hs s' hf=>by
   simp only [Sum.inl.injEq] at hf;subst hf
   split
   ·rw [ji];simp only [jz,jW];omega
   ·omega)
  (fun s hs=>by simp [ayh,ajj]) hn
 have e:∀ (l s:List aj0),runL (fun s x=>(.inl (if 0 < x.Len then s ++ [x] else s):List aj0 ⊕ List aj0)) (fun s=>s) l s=s ++ l.filter fun x=>decide (0 < x.Len):=by
  intro l
  induction l with
  | nil=>intro s;simp [runL]
  | cons x l ih =>
   intro s
   simp only [runL,ih,List.filter_cons]
   by_cases hx:0 < x.Len <;> simp [hx]
 rw [e] at h
 have h':ajk (fun (x:(List aj0)×Int)=>ayh n l x.1 x.2) n ([],0)=some (l.filter fun x=>decide (0 < x.Len)):=by simpa using h
 simp only [bjy,h',jc,bkb]
theorem dzb:∀ {r:List aj0} {k:Nat} {y:aj0},good r→k < r.length→(r.set k y).filter (fun x=>decide (0 < x.Len))=if 0 < y.Len then r.set k y else r.eraseIdx k
 | [],k,y,_,hk=>by simp at hk
 | x :: r,0,y,hg,_=>by
  have:r.filter (fun x=>decide (0 < x.Len))=r:=List.filter_eq_self.2 fun z hz=>by
   have:=(ajv z).1 (hg z (Jv _ hz));simp;omega
  simp only [List.set_cons_zero,List.filter_cons,this,List.eraseIdx_cons_zero,decide_eq_true_eq]
 | x :: r,k+1,y,hg,hk=>by
  have hx:0 < x.Len:=by have:=(ajv x).1 (hg x j8);omega
  have ih:=dzb (r:=r) (k:=k) (y:=y) (fun z hz=>hg z (Jv _ hz)) (by simpa using hk)
  simp only [List.set_cons_succ,List.filter_cons,hx,decide_true,if_true,ih,List.eraseIdx_cons_succ]
  split <;> rfl
theorem fjn {r:List aj0} {k:Nat} (h:k < r.length):(r.eraseIdx k).length=r.length - 1:=by rw [List.length_eraseIdx,if_pos h]
theorem fjk (N:Nat) (most:Int):∀ (m1 m2 len:Nat) (w:Int) (got row:List aj0),len < m1→len < m2→len≤row.length→len < N→1≤w→w≤9223372036854775807→got.length+len≤1073741823→good (row.take len) →
  ∃ y,ajk (fun (x:Int×(List aj0)×(List aj0)×Nat)=>aq2 N most x.1 x.2.1 x.2.2.1 x.2.2.2) m1 (w,got,row,len)=some y∧ajk (fun (x:Int×(List aj0)×(List aj0))=>ak7 N most x.1 x.2.1 x.2.2) m2 (w,row.take len,got)=some y∧∀ v,y = .inl v→v.1.length≤got.length+len∧v.2.1.length≤len
 | 0,_,len,_,_,_,h,_,_,_,_,_,_,_=>by omega
 | _+1,0,len,_,_,_,_,h,_,_,_,_,_,_=>by omega
 | m1+1,m2+1,len,w,got,row,h1,h2,hl,hN,hw,hw2,hgl,hg=>by
  have hr:(row.take len).length=len:=by simp;omega
  by_cases c:((got.length:Nat):Int) < most∧0 < len
  ·have c1:(if (decide (((got.length:Nat):Int) < most))=true then (decide (((len:Nat):Int) > 0)) else false)=true:=by simp [c.1];omega
   obtain ⟨f,g,hs1,hs2⟩:=hjn N w most got (row.take len) (by rw [hr];exact c.2) (by rw [hr];exact hN) (by rw [hr];omega)
   rw [hr] at hs1
   have hB:ak7 N most w (row.take len) got=ayf N w most (row.take len) got f g:=by
    simp only [ak7,hr,c1,ajj,if_true]
    rw [wid (by omega),hs1];rfl
   rcases fy8 N w most got row ((len:Nat):Int) len rfl c.2 hl hN hw (by omega) (by omega) hg with ⟨k,hk,hA⟩ | ⟨k,hk1,hk2,hA⟩
   ·-- it fits
    have hA':aq2 N most w got row len=some (.inr (.inl (got ++ [⟨(gt (row.take len) k).At,w⟩],cut (row.take len) k w,0))):=by
     simp only [aq2,c1,ajj,if_true,hA];rfl
    rw [ajn hA']
    refine ⟨_,rfl,?_,fun v hv=>?_⟩
    rotate_left
    ·cases hv
     refine ⟨by rw [ji];simp only [jz,jW];omega,?_⟩
     simp only [cut]
     split
     ·rw [fjn hk.1];omega
     ·rw [jU];omega
    rcases hs2 with ⟨k',rfl,hk'⟩ | ⟨rfl,k',rfl,hk',_⟩
    ·have:=gye hk hk'
     subst this
     have hkl:k < (row.take len).length:=hk.1
     have hgk:=eqb hg hkl
     have hwk:=hk.2.1
     have d1:decide ((k:Int) ≥ 0)=true:=by simp
     have d2:(0≤(k:Int)∧(k:Int) < ((row.take len).length:Int))∧k < (row.take len).length∧got.length+1≤2147483648:=by omega
     have d3:(0≤(k:Int)∧(k:Int) < ((row.take len).length:Int))∧k < (row.take len).length∧(0≤(k:Int)∧(k:Int) < ((row.take len).length:Int))∧k < (row.take len).length∧(0≤(k:Int)∧(k:Int) < ((row.take len).length:Int))∧k < (row.take len).length:=by omega
     refine ajn ?_
     rw [hB]
     simp only [ayf,d1,ajj,if_true,jn,aj9 _ d2,aj9 _ d3]
     rw [wid (by omega),wid (by omega),drop_eq N _ (by rw [jU];omega) (by rw [jU];omega),dzb hg hkl]
     simp only [jc,cut]
     by_cases e:(gt (row.take len) k).Len=w
     ·rw [if_pos e,if_neg (by omega)]
     ·rw [if_neg e,if_pos (by omega)]
    ·have:=hk' k hk.1
     have:=hk.2.1
     omega
   ·-- it does not: the longest
    rcases hs2 with ⟨k',rfl,hk'⟩ | ⟨rfl,k',rfl,_,hk'⟩
    ·have:=hk1 k' hk'.1
     have:=hk'.2.1
     omega
    ·have:=hjh hk2 hk'
     subst this
     have hkl:k < (row.take len).length:=hk2.1
     have hkl':k < len:=by omega
     have hgk:=eqb hg hkl
     have hwk:=hk1 k hkl
     obtain ⟨row',e1,e2,e3⟩:=eqi N row len k hkl' hl
     have e4:=ey5 hkl' hl
     have hA':aq2 N most w got row len=some (.inl (w - (gt (row.take len) k).Len,got ++ [gt (row.take len) k],row',len - 1)):=by
      have d1:(0≤(k:Int)∧(k:Int) < (len:Int))∧k < row.length∧got.length+1≤2147483648:=by omega
      have d2:(0≤(k:Int)∧(k:Int) < (len:Int))∧k < row.length:=by omega
      simp only [aq2,c1,ajj,if_true,hA,jc,bj3,jn,aj9 _ d1,aj9 _ d2]
      rw [wid (by omega),e1,← e4,ezb (by omega) (by omega)]
      rfl
     have hB':ak7 N most w (row.take len) got=some (.inl (w - (gt (row.take len) k).Len,row'.take (len - 1),got ++ [gt (row.take len) k])):=by
      have d1:decide ((-1:Int) ≥ 0)=false:=by decide
      have d2:(0≤(k:Int)∧(k:Int) < ((row.take len).length:Int))∧k < (row.take len).length∧got.length+1≤2147483648:=by omega
      have d3:(0≤(k:Int)∧(k:Int) < ((row.take len).length:Int))∧k < (row.take len).length:=by omega
      rw [hB]
      simp only [ayf,d1,ajj,jj,if_false,jn,aj9 _ d2,aj9 _ d3]
      rw [drop_eq N _ (by rw [jU];omega) (by rw [jU];omega),dzb hg hkl,ezb (by omega) (by omega),e3]
      simp
     rw [aju hA',aju hB']
     have hgl':(got ++ [gt (row.take len) k]).length=got.length+1:=by simp
     obtain ⟨y,q1,q2,q3⟩:=fjk N most m1 m2 (len - 1) (w - (gt (row.take len) k).Len) (got ++ [gt (row.take len) k]) row' (by omega) (by omega) (by omega) (by omega) (by omega) (by omega) (by rw [hgl'];omega) (by rw [e3];exact gjl hg k)
     refine ⟨y,q1,q2,fun v hv=>?_⟩
     have:=q3 v hv
     omega
  ·have c1:(if (decide (((got.length:Nat):Int) < most))=true then (decide (((len:Nat):Int) > 0)) else false)=false:=by
    rw [← Ja]
    intro h
    split at h
    ·rename_i h3
     simp at h h3
     omega
    ·cases h
   refine ⟨.inr (),ajn ?_,ajn ?_,fun v hv=>by cases hv⟩
   ·simp only [aq2,c1,ajj,jj,if_false]
   ·simp only [ak7,hr,c1,ajj,jj,if_false]
theorem dyq (n:Nat) (l:List aj0) (hl:l.length≤2147483648):awl n l=some l:=by
 refine hwi fun b hb=>?_
 cases b with
 | true=>rw [hb rfl];rfl
 | false=>simp [aj9 _ hl]
theorem gyy {m e:Int} {l:List aj0} (h:chk m e l=true):good l:=fun x hx=>jE.1 (ckp ((djg m l e).1 h).1) x hx
theorem hqz (n:Nat) (hn:N0≤n) (l:List aj0) (w most:Int) (hl:l.length≤2097152) (hw2:w≤9223372036854775807):∃ r,awo n l w most=some r∧bwl n l w most=some r∧r.1.length≤2097152∧r.2.1.length≤2097152:=by
 have hln:l.length < n:=by unfold N0 at hn;omega
 simp only [awo,bwl,fk5 n l 512 hln (by omega),gze n hn l 512 hl,jc]
 by_cases c:(chk 512 (-1) l=true∧1≤w)∧1≤most
 ·have c1:(if (if (!(chk 512 (-1) l))=true then true else (decide (w < 1)))=true then true else (decide (most < 1)))=false:=by
   have h1:¬ w < 1:=by omega
   have h2:¬ most < 1:=by omega
   simp [c.1.1,h1,h2]
  obtain ⟨y,h1,h2,h3⟩:=fjk n most n n l.length w [] l hln hln (jA _) hln c.1.2 hw2 (by simp;omega) (by rw [JB];exact gyy c.1.1)
  rw [JB] at h2
  simp only [c1,ajj,jj,if_false,dyq n l (by omega),jc,aj9 _ (show l.length≤2147483648 by omega)]
  rw [h1,h2]
  cases y with
  | inl v =>
   have:=h3 v rfl
   simp only [jW] at this
   exact ⟨_,rfl,rfl,by dsimp only;omega,by dsimp only;omega⟩
  | inr v=>exact ⟨_,rfl,rfl,by simp,by simp⟩
 ·have c1:(if (if (!(chk 512 (-1) l))=true then true else (decide (w < 1)))=true then true else (decide (most < 1)))=true:=by
   by_cases h0:chk 512 (-1) l=true
   ·by_cases h1:w < 1
    ·simp [h0,h1]
    ·have h2:most < 1:=by
      by_cases h2:most < 1
      ·exact h2
      ·exact absurd ⟨⟨h0,by omega⟩,by omega⟩ c
     simp [h2]
   ·simp [h0]
  simp only [c1,ajj,if_true]
  exact ⟨_,rfl,rfl,by simp,by simp⟩
def cmpA (x y:aj0):Int:=if x.At < y.At then -1 else if y.At < x.At then 1 else 0
theorem gkf (x y:aj0):cmpA x y < 0↔x.At < y.At:=by
 unfold cmpA
 split
 ·simp [*]
 ·split <;> simp [*] <;> omega
theorem hz9 (n:Nat) (x y:aj0):azn n x y=some (cmpA x y):=by
 simp only [azn,bzw,bz0,jc,bne_self_eq_false,ajj,jj,if_false,cmpA,decide_eq_true_eq,gt_iff_lt]
 split
 ·rfl
 ·split <;> rfl
theorem swoA:Go.Sort.SWO (Go.Proofs.ltOf cmpA):=by
 have h:∀ x y,Go.Proofs.ltOf cmpA x y=decide (x.At < y.At):=fun x y=>by
  unfold Go.Proofs.ltOf
  exact decide_eq_decide.2 (gkf x y)
 refine ⟨fun x=>?_,fun x y z=>?_,fun x y z=>?_⟩
 ·rw [h];simp
 ·rw [h,h,h];simp only [decide_eq_true_eq];omega
 ·rw [h,h,h];simp only [decide_eq_false_iff_not];omega
theorem fj0 (n:Nat) (l:List aj0) (hl:l.length≤2147483648):∃ r,ayu n l=some r∧r.Perm l∧r.Pairwise fun x y=>x.At≤y.At:=by
 obtain ⟨r,h1,h2,h3⟩:=fkv (f:=fun x y=>azn n x y) (c:=cmpA) (l:=l) (fun x _ y _=>hz9 n x y) swoA
 refine ⟨r,?_,h2,h3.imp fun {x y} h=>?_⟩
 ·simp only [ayu,dyq n l hl,jc,azd,h1]
  rw [jV (by rw [h2.length_eq];exact jA _)]
 ·rw [gkf] at h;omega
def apart (x y:aj0):Prop:=x.At+x.Len≤y.At
def adj (r:List aj0):Prop:=∀ j,0 < j→j < r.length→(gt r (j - 1)).At+(gt r (j - 1)).Len≤(gt r j).At
theorem hqx {r:List aj0} (hv:r.all val=true):adj r↔r.Pairwise apart:=by
 rw [List.pairwise_iff_getElem]
 constructor
 ·intro h i j hi hj hij
  have key:∀ d,i+1+d < r.length→(gt r i).At+(gt r i).Len≤(gt r (i+1+d)).At:=by
   intro d
   induction d with
   | zero=>intro hd;simpa using h (i+1) (by omega) hd
   | succ d ih =>
    intro hd
    have h1:=ih (by omega)
    have h2:=h (i+1+(d+1)) (by omega) hd
    have e:i+1+(d+1) - 1=i+1+d:=by omega
    rw [e] at h2
    have h3:val (gt r (i+1+d))=true:=by
     rw [aqf (by omega)];exact jE.1 hv _ (jw _)
    have h3':=(ajv _).1 h3
    omega
  have:=key (j - i - 1) (by omega)
  have e:i+1+(j - i - 1)=j:=by omega
  rw [e,aqf hi,aqf hj] at this
  exact this
 ·intro h j h0 hj
  have:=h (j - 1) j (by omega) hj (by omega)
  rw [aqf (by omega),aqf hj]
  exact this
theorem fjo (x:aj0):(trk x).Nodup:=(gzc x).imp fun h=>by omega
theorem gqg {r:List aj0}:(trks r).Nodup↔r.Pairwise fun a b=>∀ x∈trk a,∀ y∈trk b,x≠y:=by
 unfold trks List.Nodup
 rw [List.pairwise_flatMap]
 exact ⟨fun h=>h.2,fun h=>⟨fun a _=>fjo a,h⟩⟩
theorem eqk {r:List aj0} (hv:r.all val=true) (hs:r.Pairwise fun x y=>x.At≤y.At):(trks r).Nodup↔r.Pairwise apart:=by
 rw [gqg]
 constructor
 ·intro h
  refine List.Pairwise.imp_of_mem ?_ (hs.and h)
  rintro a b ha hb ⟨h1,h2⟩
  have va:=(ajv _).1 (jE.1 hv a ha)
  have vb:=(ajv _).1 (jE.1 hv b hb)
  unfold apart
  rcases Int.lt_or_le b.At (a.At+a.Len) with h3 | h3
  ·exact absurd rfl (h2 b.At (ay2.2 (by omega)) b.At (ay2.2 (by omega)))
  ·exact h3
 ·intro h
  refine h.imp fun {a b} hab x hx y hy=>?_
  have:=ay2.1 hx
  have:=ay2.1 hy
  unfold apart at hab
  omega
theorem awr (l:List aj0):(trkF [] l).isSome=true↔l.all val=true∧(trks l).Nodup:=by
 constructor
 ·intro h
  obtain ⟨s,hs⟩:=jZ.1 h
  obtain ⟨h1,h2⟩:=czn hs
  have h3:=dzj hs List.nodup_nil
  rw [h1] at h3
  exact ⟨h2,by simpa using h3⟩
 ·rintro ⟨h1,h2⟩
  rw [ej3 h1 (by simpa using h2)];rfl
theorem ekn {l:List aj0} (h:(trkF [] l).isSome=true):trkO l=trks l:=by
 obtain ⟨s,hs⟩:=jZ.1 h
 have h1:=(czn hs).1
 simp [trkO,hs,h1]
theorem gz6 {l:List aj0} (h:(trkF [] l).isSome=false):trkO l=[]:=by
 have:trkF [] l=none:=by simpa using h
 simp [trkO,this]
theorem bkq:∀ {l:List aj0},l.all val=true→l.length≤(trks l).length
 | [],_=>by simp
 | x :: l,h=>by
  simp only [JL,jf] at h
  have:=bkq h.2
  have:=(ajv _).1 h.1
  rw [awg,ji,bjr,jz]
  omega
theorem cz4 {r l:List aj0} (h:r.Perm l):(trks r).Perm (trks l):=h.flatMap_right trk
theorem ek4 {r l:List aj0} (h:r.Perm l):r.all val=l.all val:=by
 rw [JP,jE,jE]
 exact ⟨fun H x hx=>H x (h.mem_iff.2 hx),fun H x hx=>H x (h.mem_iff.1 hx)⟩
theorem gqh (n:Nat) (r:List aj0) (hv:r.all val=true) (hn:r.length+1 < n) (hl:r.length≤1073741824):∃ y,ajk (fun (x:Int)=>azt n r x) n 1=some y∧((y = .inl false∧¬ adj r)∨(y = .inr ()∧adj r)):=by
 refine czi (body:=fun (x:Int)=>azt n r x) (fun x=>∃ k:Nat,x=(k:Int)∧1≤k∧(k≤r.length∨k=1)∧∀ j,0 < j→j < k→j < r.length→(gt r (j - 1)).At+(gt r (j - 1)).Len≤(gt r j).At) (fun x=>r.length - x.toNat)
  _ ?_ n 1 ⟨1,rfl,jA _,.inr rfl,fun j h0 h1=>by omega⟩ (by omega)
 rintro x ⟨k,rfl,hk1,hk,hj⟩
 by_cases hkl:k < r.length
 ·have c1:decide ((k:Int) < (r.length:Int))=true:=by simp;omega
  have e1:jd .i64 ((k:Int) - 1)=((k - 1:Nat):Int):=by rw [wid (by omega)];omega
  have c2:(0≤(k:Int)∧(k:Int) < (r.length:Int))∧(0≤((k - 1:Nat):Int)∧((k - 1:Nat):Int) < (r.length:Int))∧(0≤((k - 1:Nat):Int)∧((k - 1:Nat):Int) < (r.length:Int)):=by omega
  have v1:val (gt r (k - 1))=true:=by
   rw [aqf (by omega)];exact jE.1 hv _ (jw _)
  have v1':=(ajv _).1 v1
  simp only [azt,c1,ajj,if_true,e1,aj9 _ c2,jn]
  rw [wid (n:=(gt r (k - 1)).At+(gt r (k - 1)).Len) (by omega)]
  by_cases b:(gt r k).At < (gt r (k - 1)).At+(gt r (k - 1)).Len
  ·refine .inr ⟨.inl false,by simp [b],.inl ⟨rfl,fun h=>?_⟩⟩
   have:=h k (by omega) hkl
   omega
  ·refine .inl ⟨((k+1:Nat):Int),by rw [wid (by omega)];simp [b],⟨k+1,rfl,by omega,.inl hkl,fun j h0 h1 h2=>?_⟩,by omega⟩
   by_cases e:j=k
   ·subst e;omega
   ·exact hj j h0 (by omega) h2
 ·have c1:decide ((k:Int) < (r.length:Int))=false:=by simp;omega
  refine .inr ⟨.inr (),by simp only [azt,c1,ajj,jj,if_false],.inr ⟨rfl,fun j h0 h1=>hj j h0 (by omega) h1⟩⟩
theorem djp (n:Nat) (hn:N0≤n) (l:List aj0) (hl:l.length≤1073741824):aw3 n l=some (trkF [] l).isSome:=by
 by_cases h512:512 < l.length
 ·have c1:decide ((l.length:Int) > 512)=true:=by simp;omega
  have:(trkF [] l).isSome=false:=by
   rw [← Ja,awr]
   rintro ⟨h1,h2⟩
   have:=bkq h1
   have:=few (m:=512) h2 (ayq h1)
   omega
  simp only [aw3,c1,ajj,if_true,this]
 ·have c1:decide ((l.length:Int) > 512)=false:=by simp;omega
  have h:=bqy (n:=n) (body:=fun (x:Int)=>ay8 n l (l.length:Int) x) l (fun x=>!val x) (.inl false) (.inr ())
   (fun k hk=>by
    have h1:decide ((k:Int) < ((l.length:Nat):Int))=true:=by simp;omega
    have h2:0≤(k:Int)∧(k:Int) < (l.length:Int):=by omega
    simp only [ay8,h1,ajj,if_true,jn,aj9 _ h2,aqf hk,fkx,jc]
    rw [wid (by omega)]
    cases val l[k] <;> simp)
   (by simp [ay8,ajj]) (by unfold N0 at hn;omega)
  simp only [aw3,c1,ajj,jj,if_false]
  rw [h]
  by_cases hv:l.all val=true
  ·have ha:(l.any fun x=>!val x)=false:=by
    rw [← Ja,List.any_eq_true]
    rintro ⟨x,hx,hx2⟩
    have:=jE.1 hv x hx
    simp [this] at hx2
   obtain ⟨r,r1,r2,r3⟩:=fj0 n l (by omega)
   have hrl:=r2.length_eq
   have hrv:r.all val=true:=by rw [ek4 r2];exact hv
   obtain ⟨y,y1,y2⟩:=gqh n r hrv (by unfold N0 at hn;omega) (by omega)
   simp only [ha,jj,if_false,jc,bqf,r1,y1]
   have e1:adj r↔(trks l).Nodup:=by
    rw [hqx hrv,← eqk hrv r3];exact (cz4 r2).nodup_iff
   rcases y2 with ⟨rfl,hy⟩ | ⟨rfl,hy⟩
   ·have:(trkF [] l).isSome=false:=by
     rw [← Ja,awr]
     rintro ⟨_,h2⟩
     exact hy (e1.2 h2)
    simp [this]
   ·have:(trkF [] l).isSome=true:=(awr l).2 ⟨hv,e1.1 hy⟩
    simp [this,bqk]
  ·have ha:(l.any fun x=>!val x)=true:=by
    rw [List.any_eq_true]
    rw [Ja,List.all_eq_false] at hv
    obtain ⟨x,hx,hx2⟩:=hv
    exact ⟨x,hx,by simpa using hx2⟩
   have:(trkF [] l).isSome=false:=by
    rw [← Ja,awr]
    rintro ⟨h1,_⟩
    exact hv h1
   simp [ha,this]
theorem cjm (n:Nat) (hn:N0≤n) (l:List aj0) (hl:l.length≤2097152):awq n l=some (trkF [] l).isSome:=by
 simp only [awq,ck4 n l hn hl,jc]
theorem fyg (n:Nat) (hn:N0≤n) (l:List aj0) (hl:l.length≤1073741824):bq3 n l=some (((trkO l).length:Nat):Int):=by
 simp only [bq3,djp n hn l hl,jc]
 by_cases hs:(trkF [] l).isSome=true
 ·obtain ⟨hv,hnd⟩:=(awr l).1 hs
  have h1:=bkq hv
  have h2:=few (m:=512) hnd (ayq hv)
  have h:=azy (n:=n) (σ:=Int) (body:=fun (x:Int×Int)=>azs n l (l.length:Int) x.1 x.2) l (fun k s=>(s,(k:Int))) (fun s x=>.inl (s+x.Len)) (fun s=>s) (fun k s=>0≤s∧s≤512 * (k:Int)) (s:=0) (by simp)
   (fun k hk s hs=>by
    have c1:decide ((k:Int) < (l.length:Int))=true:=by simp;omega
    have c2:0≤(k:Int)∧(k:Int) < (l.length:Int):=by omega
    have v:=(ajv _).1 (jE.1 hv _ (jw hk))
    simp only [azs,c1,ajj,if_true,aj9 _ c2,jn,aqf hk]
    rw [wid (by omega),wid (by omega)];simp)
   (fun k hk s hs s' hf=>by
    have v:=(ajv _).1 (jE.1 hv _ (jw hk))
    simp only [Sum.inl.injEq] at hf
    omega)
   (fun s _=>by simp [azs,ajj]) (by unfold N0 at hn;omega)
  have e:∀ (l:List aj0) (s:Int),l.all val=true→runL (fun s x=>(.inl (s+x.Len):Int ⊕ Int)) (fun s=>s) l s=s+(((trks l).length:Nat):Int):=by
   intro l
   induction l with
   | nil=>intro s _;simp [runL,trks]
   | cons x l ih =>
    intro s hv
    simp only [JL,jf] at hv
    have v:=(ajv _).1 hv.1
    simp only [runL,ih _ hv.2,awg,ji,bjr]
    omega
  rw [e l 0 hv] at h
  have h':ajk (fun (x:Int×Int)=>azs n l (l.length:Int) x.1 x.2) n (0,0)=some (((trks l).length:Nat):Int):=by simpa using h
  simp only [hs,jK,ajj,jj,if_false,h',jc,bw6,ekn hs]
 ·rw [Ja] at hs
  simp [hs,gz6 hs]
theorem fjs (n:Nat) (hn:N0≤n) (l:List aj0) (hl:l.length≤2097152):ay9 n l=some (((trkO l).length:Nat):Int):=by
 simp only [ay9,ck4 n l hn hl,jc]
def mn (a b:Int):Int:=if a < b then a else b
def fr (m:Int):Int→List aj0→List aj0
 | a,[]=>if a < m then [⟨a,m - a⟩] else []
 | a,x :: l=>(if a < mn m x.At then [⟨a,mn m x.At - a⟩] else []) ++ fr m (x.At+x.Len) l
theorem hkc {m:Int} (hm:m≤512):∀ {r:List aj0} {e a:Int},e < a→0≤a→r.all val=true→r.Pairwise apart→(∀ x∈r,a≤x.At)→nf e (fr m a r)
 | [],e,a,he,ha,_,_,_=>by
  unfold fr
  split
  ·exact ⟨(ajv _).2 (by dsimp only;omega),he,trivial⟩
  ·trivial
 | x :: l,e,a,he,ha,hv,hp,hx=>by
  simp only [JL,jf] at hv
  obtain ⟨hp1,hp2⟩:=JD.1 hp
  have v:=(ajv _).1 hv.1
  have hax:=hx x j8
  have key:∀ e',e' < x.At+x.Len→nf e' (fr m (x.At+x.Len) l):=fun e' he'=>hkc hm he' (by omega) hv.2 hp2 (fun y hy=>hp1 y hy)
  unfold fr
  by_cases c:a < mn m x.At
  ·have h1:mn m x.At≤m∧mn m x.At≤x.At:=by unfold mn;split <;> omega
   simp only [c,if_true,List.singleton_append,JS,Jt]
   refine ⟨(ajv _).2 (by dsimp only;omega),he,key _ (by dsimp only;omega)⟩
  ·simp only [c,if_false,Jt]
   exact key _ (by omega)
theorem hqi {m:Int}:∀ {r:List aj0} {a:Int},r.all val=true→r.Pairwise apart→(∀ x∈r,a≤x.At)→∀ k,k∈trks (fr m a r)↔a≤k∧k < m∧k ∉ trks r
 | [],a,_,_,_,k=>by
  unfold fr
  split
  ·simp only [awg,jo,ay2]
   simp only [trks,List.flatMap_nil,List.not_mem_nil,or_false,not_false_eq_true,and_true]
   constructor <;> intro h <;> omega
  ·simp only [trks,List.flatMap_nil,List.not_mem_nil,false_iff,not_false_eq_true,and_true]
   omega
 | x :: l,a,hv,hp,hx,k=>by
  simp only [JL,jf] at hv
  obtain ⟨hp1,hp2⟩:=JD.1 hp
  have v:=(ajv _).1 hv.1
  have hax:=hx x j8
  have ih:=hqi (m:=m) (a:=x.At+x.Len) hv.2 hp2 (fun y hy=>hp1 y hy) k
  have hlow:k∈trks l→x.At+x.Len≤k:=by
   intro hk
   obtain ⟨y,hy,hk⟩:=JQ.1 hk
   have:=hp1 y hy
   have:=ay2.1 hk
   unfold apart at *
   omega
  have hmn:(k < mn m x.At)↔(k < m∧k < x.At):=by unfold mn;split <;> omega
  have hrhs:k ∉ trks (x :: l)↔¬ (x.At≤k∧k < x.At+x.Len)∧k ∉ trks l:=by
   rw [awg,jo,ay2];exact not_or
  rw [hrhs]
  unfold fr
  have hl:k∈trks ((if a < mn m x.At then [⟨a,mn m x.At - a⟩] else []) ++ fr m (x.At+x.Len) l)↔(a≤k∧k < mn m x.At)∨k∈trks (fr m (x.At+x.Len) l):=by
   by_cases c:a < mn m x.At
   ·simp only [c,if_true,List.singleton_append,JS,Jt,awg,jo,ay2]
    constructor
    ·rintro (h | h)
     ·exact .inl (by omega)
     ·exact .inr h
    ·rintro (h | h)
     ·exact .inl (by omega)
     ·exact .inr h
   ·simp only [c,if_false,Jt]
    constructor
    ·exact .inr
    ·rintro (h | h)
     ·exact absurd (show a < mn m x.At by omega) c
     ·exact h
  rw [hl,ih,hmn]
  by_cases hk:k∈trks l
  ·have h7:=hlow hk
   constructor
   ·rintro (⟨_,_,h⟩ | ⟨_,_,h⟩)
    ·omega
    ·exact absurd hk h
   ·rintro ⟨_,_,_,h⟩
    exact absurd hk h
  ·simp only [hk,not_false_eq_true,and_true]
   omega
theorem gzg (n:Nat) (m:Int) (hm:0≤m∧m≤512) (r:List aj0) (hv:r.all val=true) (hn:r.length < n) (hl:r.length≤1073741824) :
  ((ajk (fun (x:(List aj0)×Int×Int)=>azi n m r (r.length:Int) x.1 x.2.1 x.2.2) n ([],0,0)).bind fun y=>akg n m y.1 y.2)=some (fr m 0 r):=by
 have h:=azy (n:=n) (σ:=List aj0×Int) (body:=fun (x:(List aj0)×Int×Int)=>azi n m r (r.length:Int) x.1 x.2.1 x.2.2) r (fun k s=>(s.1,s.2,(k:Int)))
  (fun s x=>.inl (s.1 ++ (if s.2 < mn m x.At then [⟨s.2,mn m x.At - s.2⟩] else []),x.At+x.Len)) (fun s=>s) (fun k s=>s.1.length≤k∧0≤s.2∧s.2≤1024) (s:=([],0)) (by simp)
  (fun k hk s hs=>by
   have c1:decide ((k:Int) < (r.length:Int))=true:=by simp;omega
   have c2:0≤(k:Int)∧(k:Int) < (r.length:Int):=by omega
   have c3:s.1.length+1≤2147483648:=by omega
   have v:=(ajv _).1 (jE.1 hv _ (jw hk))
   have hmn:0≤mn m r[k].At∧mn m r[k].At≤512:=by unfold mn;split <;> omega
   have e1:(if m < r[k].At then m else r[k].At)=mn m r[k].At:=rfl
   simp only [azi,bj4,bz2,c1,ajj,if_true,aj9 _ c2,jn,aqf hk,e1,aj9 _ c3]
   rw [wid (n:=r[k].At+r[k].Len) (by omega),wid (n:=(k:Int)+1) (by omega),wid (n:=mn m r[k].At - s.2) (by omega)]
   by_cases c:s.2 < mn m r[k].At
   ·simp [c]
   ·simp [c])
  (fun k hk s hs s' hf=>by
   have v:=(ajv _).1 (jE.1 hv _ (jw hk))
   simp only [Sum.inl.injEq] at hf
   subst hf
   refine ⟨?_,by dsimp only;omega,by dsimp only;omega⟩
   dsimp only
   split
   ·rw [ji];simp only [jz,jW];omega
   ·rw [ji];simp only [jW];omega)
  (fun s _=>by simp [azi,ajj]) hn
 have e:∀ (l:List aj0) (s:List aj0×Int),l.all val=true→0≤s.2→s.2≤1024→s.1.length+l.length≤1073741824 →
   ∃ y,runL (fun s x=>(.inl (s.1 ++ (if s.2 < mn m x.At then [⟨s.2,mn m x.At - s.2⟩] else []),x.At+x.Len):(List aj0×Int) ⊕ (List aj0×Int))) (fun s=>s) l s=y∧akg n m y.1 y.2=some (s.1 ++ fr m s.2 l):=by
  intro l
  induction l with
  | nil =>
   intro s _ h0 h1 h2
   refine ⟨s,rfl,?_⟩
   simp only [jW] at h2
   have c3:s.1.length+1≤2147483648:=by omega
   simp only [akg,ayx,ajj,aj9 _ c3,decide_eq_true_eq,gt_iff_lt,fr]
   rw [wid (by omega)]
   split <;> simp
  | cons x l ih =>
   intro s hv h0 h1 h2
   simp only [JL,jf] at hv
   have v:=(ajv _).1 hv.1
   simp only [jz] at h2
   obtain ⟨y,y1,y2⟩:=ih (s.1 ++ (if s.2 < mn m x.At then [⟨s.2,mn m x.At - s.2⟩] else []),x.At+x.Len) hv.2 (by dsimp only;omega) (by dsimp only;omega) (by
    dsimp only
    split
    ·rw [ji];simp only [jz,jW];omega
    ·rw [ji];simp only [jW];omega)
   refine ⟨y,by simp only [runL];exact y1,?_⟩
   rw [y2]
   simp only [fr,jQ]
 obtain ⟨y,y1,y2⟩:=e r ([],0) hv (by simp) (by simp) (by simpa using hl)
 rw [y1] at h
 have h':ajk (fun (x:(List aj0)×Int×Int)=>azi n m r (r.length:Int) x.1 x.2.1 x.2.2) n ([],0,0)=some y:=h
 rw [h',jc,y2];simp
def outB (t:List Int) (k:Nat):List Bool:=(Jl 512).map fun (i:Nat)=>decide (i < k∧(i:Int) ∉ t)
theorem dyl (t:List Int) (k:Nat):(outB t k).length=512:=by simp [outB]
theorem gz0 (t:List Int):outB t 0=mark []:=by
 unfold outB mark
 refine jX fun i _=>?_
 simp
theorem hjx (t:List Int) {k:Nat} (hk:k < 512):(outB t k).set k (!decide ((k:Int)∈t))=outB t (k+1):=by
 refine List.ext_getElem (by simp [outB]) fun i h1 h2=>?_
 simp only [jU,dyl] at h1
 rw [List.getElem_set]
 simp only [outB,JJ,JR]
 by_cases e:k=i
 ·subst e
  simp
 ·simp only [e,if_false]
  have:(i < k+1)↔(i < k):=by omega
  simp only [this]
theorem fyv (n:Nat) (M:Nat) (hM:M≤512) (t:List Int) (hn:512 < n):ajk (fun (x:(List Bool)×Int)=>ayo n (M:Int) (mark t) x.1 x.2) n (mark [],0)=some (outB t M):=by
 have h:=azy (n:=n) (σ:=Unit) (body:=fun (x:(List Bool)×Int)=>ayo n (M:Int) (mark t) x.1 x.2) (Jl M) (fun k _=>(outB t k,(k:Int))) (fun _ _=>.inl ()) (fun _=>outB t M) (fun _ _=>True) (s:=()) trivial
  (fun k hk s _=>by
   simp only [List.length_range] at hk
   have c1:decide ((k:Int) < (M:Int))=true:=by simp;omega
   have c2:(0≤(k:Int)∧(k:Int) < 512∧(mark t).length=512)∧k < (mark t).length∧(0≤(k:Int)∧(k:Int) < 512∧(outB t k).length=512)∧k < (outB t k).length:=by rw [byh,dyl];omega
   have e1:=ey2 t (k:=(k:Int)) (by omega)
   rw [jn] at e1
   simp only [ayo,c1,ajj,if_true,jn,aj9 _ c2,e1,hjx t (show k < 512 by omega)]
   rw [wid (by omega)];simp)
  (fun _ _ _ _ _ _=>trivial) (fun s _=>by simp [ayo,ajj]) (by simp;omega)
 have e:∀ l:List Nat,runL (fun (_:Unit) (_:Nat)=>(.inl ():Unit ⊕ List Bool)) (fun _=>outB t M) l ()=outB t M:=by
  intro l
  induction l with
  | nil=>rfl
  | cons a l ih=>simp only [runL,ih]
 rw [e,gz0] at h
 exact h
theorem hwf (n:Nat) (hn:N0≤n) (l:List aj0) (m:Int) (hl:l.length≤2097152):∃ R,by6 n l m=some R∧bq4 n l m=some R∧R.length≤512:=by
 simp only [by6,bq4,djp n hn l (by omega),cjm n hn l hl,jc]
 by_cases c:(trkF [] l).isSome=true∧0≤m∧m≤512
 ·have c1:(if (if (!(trkF [] l).isSome)=true then true else (decide (m < 0)))=true then true else (decide (m > 512)))=false:=by
   have h1:¬ m < 0:=by omega
   have h2:¬ m > 512:=by omega
   simp [c.1,h1,h2]
  obtain ⟨hv,hnd⟩:=(awr l).1 c.1
  obtain ⟨r,r1,r2,r3⟩:=fj0 n l (by omega)
  have hrl:=r2.length_eq
  have hrv:r.all val=true:=by rw [ek4 r2];exact hv
  have hap:r.Pairwise apart:=(eqk hrv r3).1 ((cz4 r2).nodup_iff.2 hnd)
  have hle:=bkq hv
  have hfw:=few (m:=512) hnd (ayq hv)
  obtain ⟨M,rfl⟩:∃ M:Nat,m=(M:Int):=⟨m.toNat,by omega⟩
  have hlo:∀ x∈r,0≤x.At:=fun x hx=>((ajv _).1 (jE.1 hrv x hx)).1
  have hnf:nf (-1) (fr (M:Int) 0 r):=hkc c.2.2 (by omega) (by omega) hrv hap hlo
  have hF:=gzg n (M:Int) c.2 r hrv (by unfold N0 at hn;omega) (by omega)
  simp only [c1,ajj,jj,if_false,r1,jc,fyf n l hn hl,ekn c.1]
  rw [aj9 _ trivial,eky,fyv n M (by omega) _ (by unfold N0 at hn;omega),hF]
  have e1:outB (trks l) M=mark (trks (fr (M:Int) 0 r)):=by
   unfold outB mark
   refine jX fun i hi=>?_
   have h1:=hqi (m:=(M:Int)) hrv hap hlo (i:Int)
   rw [decide_eq_decide,h1,(cz4 r2).mem_iff]
   simp
  refine ⟨_,rfl,?_,?_⟩
  ·simp only [jc,bkd]
   rw [aj9 _ (dyl _ _),fw0 n _ (dyl _ _) (by unfold N0 at hn;omega),e1,hqg hnf]
   rfl
  ·have h1:=bkq (ckp hnf)
   have h2:=few (m:=512) ((fk2 hnf).imp fun h=>by omega) (ayq (ckp hnf))
   omega
 ·have c1:(if (if (!(trkF [] l).isSome)=true then true else (decide (m < 0)))=true then true else (decide (m > 512)))=true:=by
   by_cases h0:(trkF [] l).isSome=true
   ·by_cases h1:m < 0
    ·simp [h0,h1]
    ·have h2:m > 512:=by
      rcases Int.lt_or_le 512 m with h | h
      ·exact h
      ·exact absurd ⟨h0,by omega,h⟩ c
     simp [h2]
   ·simp [h0]
  simp only [c1,ajj,if_true]
  exact ⟨[],rfl,rfl,by simp⟩
theorem dyp (a b:List aj0):trks (a ++ b)=trks a ++ trks b:=by simp [trks]
theorem dym (x:aj0):trks [x]=trk x:=by simp [trks]
theorem hwe {e e':Int} (h:e'≤e):∀ {l:List aj0},nf e l→nf e' l
 | [],_=>trivial
 | x :: l,⟨h1,h2,h3⟩=>⟨h1,by omega,h3⟩
theorem ekx:∀ {l:List aj0} {e:Int} (k:Nat),nf e l→nf e (l.eraseIdx k)
 | [],_,_,_=>by simp [nf]
 | x :: l,e,0,⟨h1,h2,h3⟩=>by
  have v:=(ajv _).1 h1
  exact hwe (by omega) h3
 | x :: l,e,k+1,⟨h1,h2,h3⟩=>⟨h1,h2,ekx k h3⟩
theorem hqc:∀ {l:List aj0} {e:Int} {k:Nat} {w:Int},nf e l→k < l.length→1≤w→w < (gt l k).Len→nf e (l.set k ⟨(gt l k).At+w,(gt l k).Len - w⟩)
 | [],_,_,_,_,h,_,_=>by simp at h
 | x :: l,e,0,w,⟨h1,h2,h3⟩,_,hw,hw2=>by
  have v:=(ajv _).1 h1
  simp only [gt_zero] at hw2
  refine ⟨(ajv _).2 (by simp only [gt_zero];omega),by simp only [gt_zero];omega,?_⟩
  have e1:x.At+w+(x.Len - w)=x.At+x.Len:=by omega
  simp only [gt_zero,e1];exact h3
 | x :: l,e,k+1,w,⟨h1,h2,h3⟩,hk,hw,hw2=>by
  simp only [gt_succ] at hw2
  simp only [gt_succ,List.set_cons_succ]
  exact ⟨h1,h2,hqc h3 (by simpa using hk) hw hw2⟩
theorem gwi (a n w:Int) (h1:0≤w) (h2:w≤n):trk ⟨a,n⟩=trk ⟨a,w⟩ ++ trk ⟨a+w,n - w⟩:=by
 unfold trk
 have e:n.toNat=w.toNat+(n - w).toNat:=by omega
 rw [e,List.range_add,List.map_append,List.map_map]
 congr 1
 refine jX fun j _=>?_
 simp only [Function.comp]
 omega
theorem dzc:∀ {r:List aj0} {k:Nat},k < r.length→(trk (gt r k) ++ trks (r.eraseIdx k)).Perm (trks r)
 | [],k,h=>by simp at h
 | x :: r,0,_=>by simp [awg]
 | x :: r,k+1,h=>by
  simp only [gt_succ,List.eraseIdx_cons_succ,awg]
  refine List.Perm.trans ?_ (List.Perm.append_left (trk x) (dzc (by simpa using h)))
  rw [← jQ,← jQ]
  exact List.Perm.append_right _ List.perm_append_comm
theorem fk6:∀ {r:List aj0} {k:Nat} {w:Int},k < r.length→0≤w→w≤(gt r k).Len→(trk ⟨(gt r k).At,w⟩ ++ trks (r.set k ⟨(gt r k).At+w,(gt r k).Len - w⟩)).Perm (trks r)
 | [],k,_,h,_,_=>by simp at h
 | x :: r,0,w,_,h1,h2=>by
  simp only [gt_zero] at h2
  simp only [gt_zero,List.set_cons_zero,awg]
  rw [← jQ,← gwi x.At x.Len w h1 h2]
 | x :: r,k+1,w,h,h1,h2=>by
  simp only [gt_succ] at h2
  simp only [gt_succ,List.set_cons_succ,awg]
  refine List.Perm.trans ?_ (List.Perm.append_left (trk x) (fk6 (by simpa using h) h1 h2))
  rw [← jQ,← jQ]
  exact List.Perm.append_right _ List.perm_append_comm
theorem hz0 {e:Int} {l:List aj0} (h:nf e l):good l:=fun x hx=>jE.1 (ckp h) x hx
inductive Sel:Nat→List aj0→Int→Prop
 | zero (r:List aj0):Sel 0 r 0
 | nil (c:Nat):Sel c [] 0
 | step (c:Nat) (r:List aj0) (k:Nat) (s:Int) (h:isL r k) (hs:Sel c (r.eraseIdx k) s):Sel (c+1) r ((gt r k).Len+s)
theorem fy7 (N:Nat) (most:Int):∀ (m1 len:Nat) (w:Int) (got row:List aj0),len < m1→len≤row.length→len < N→1≤w→w≤9223372036854775807→got.length+len≤1073741823→nf (-1) (row.take len)→got.all val=true →
  ∃ y,ajk (fun (x:Int×(List aj0)×(List aj0)×Nat)=>aq2 N most x.1 x.2.1 x.2.2.1 x.2.2.2) m1 (w,got,row,len)=some y ∧
   (∀ v,y = .inl v→v.2.2=0∧nf (-1) v.2.1∧v.1.all val=true∧(trks v.1 ++ trks v.2.1).Perm (trks got ++ trks (row.take len))∧(((trks v.1).length:Nat):Int)=(((trks got).length:Nat):Int)+w∧((v.1.length:Nat):Int)≤most) ∧
   (y = .inr ()→∃ s,Sel (most - (got.length:Int)).toNat (row.take len) s∧s < w)
 | 0,len,_,_,_,h,_,_,_,_,_,_,_=>by omega
 | m1+1,len,w,got,row,h1,hl,hN,hw,hw2,hgl,hnf,hgv=>by
  have hg:=hz0 hnf
  have hr:(row.take len).length=len:=by simp;omega
  by_cases c:((got.length:Nat):Int) < most∧0 < len
  ·have c1:(if (decide (((got.length:Nat):Int) < most))=true then (decide (((len:Nat):Int) > 0)) else false)=true:=by simp [c.1];omega
   rcases fy8 N w most got row ((len:Nat):Int) len rfl c.2 hl hN hw (by omega) (by omega) hg with ⟨k,hk,hA⟩ | ⟨k,hk1,hk2,hA⟩
   ·have hA':aq2 N most w got row len=some (.inr (.inl (got ++ [⟨(gt (row.take len) k).At,w⟩],cut (row.take len) k w,0))):=by
     simp only [aq2,c1,ajj,if_true,hA];rfl
    rw [ajn hA']
    have hkl:=hk.1
    have hgk:=eqb hg hkl
    have hwk:=hk.2.1
    refine ⟨_,rfl,fun v hv=>?_,fun hv=>by cases hv⟩
    cases hv
    have hvw:val ⟨(gt (row.take len) k).At,w⟩=true:=(ajv _).2 (by dsimp only;omega)
    have hlw:(trk ⟨(gt (row.take len) k).At,w⟩).length=w.toNat:=bjr _
    refine ⟨rfl,?_,by rw [List.all_append,hgv];simp [hvw],?_,?_,?_⟩
    ·dsimp only
     unfold cut
     split
     ·exact ekx k hnf
     ·exact hqc hnf hkl hw (by omega)
    ·dsimp only
     rw [dyp,dym,jQ]
     refine List.Perm.append_left _ ?_
     unfold cut
     split
     ·rename_i e
      have h:=dzc hkl
      have e2:(⟨(gt (row.take len) k).At,w⟩:aj0)=gt (row.take len) k:=by rw [← e]
      rw [e2];exact h
     ·exact fk6 hkl (by omega) hwk
    ·dsimp only
     rw [dyp,dym,ji,hlw];omega
    ·dsimp only
     rw [ji];simp only [jz,jW];omega
   ·have hkl:k < (row.take len).length:=hk2.1
    have hkl':k < len:=by omega
    have hgk:=eqb hg hkl
    have hwk:=hk1 k hkl
    obtain ⟨row',e1,e2,e3⟩:=eqi N row len k hkl' hl
    have e4:=ey5 hkl' hl
    have hA':aq2 N most w got row len=some (.inl (w - (gt (row.take len) k).Len,got ++ [gt (row.take len) k],row',len - 1)):=by
     have d1:(0≤(k:Int)∧(k:Int) < (len:Int))∧k < row.length∧got.length+1≤2147483648:=by omega
     have d2:(0≤(k:Int)∧(k:Int) < (len:Int))∧k < row.length:=by omega
     simp only [aq2,c1,ajj,if_true,hA,jc,bj3,jn,aj9 _ d1,aj9 _ d2]
     rw [wid (by omega),e1,← e4,ezb (by omega) (by omega)]
     rfl
    have hgl':(got ++ [gt (row.take len) k]).length=got.length+1:=by simp
    have hvk:val (gt (row.take len) k)=true:=(ajv _).2 hgk
    rw [aju hA']
    obtain ⟨y,q1,q2,q3⟩:=fy7 N most m1 (len - 1) (w - (gt (row.take len) k).Len) (got ++ [gt (row.take len) k]) row' (by omega) (by omega) (by omega) (by omega) (by omega) (by rw [hgl'];omega) (by rw [e3];exact ekx k hnf) (by rw [List.all_append,hgv];simp [hvk])
    refine ⟨y,q1,fun v hv=>?_,fun hv=>?_⟩
    ·obtain ⟨b1,b2,b3,b4,b5,b6⟩:=q2 v hv
     refine ⟨b1,b2,b3,?_,?_,b6⟩
     ·refine b4.trans ?_
      rw [e3,dyp,dym,jQ]
      exact List.Perm.append_left _ (dzc hkl)
     ·rw [b5,dyp,dym,ji,bjr];omega
    ·obtain ⟨s,s1,s2⟩:=q3 hv
     rw [e3,hgl'] at s1
     have e5:(most - (got.length:Int)).toNat=(most - ((got.length+1:Nat):Int)).toNat+1:=by omega
     refine ⟨_,by rw [e5];exact Sel.step _ _ k s hk2 s1,by omega⟩
  ·have c1:(if (decide (((got.length:Nat):Int) < most))=true then (decide (((len:Nat):Int) > 0)) else false)=false:=by
    rw [← Ja]
    intro h
    split at h
    ·rename_i h3
     simp at h h3
     omega
    ·cases h
   refine ⟨.inr (),ajn ?_,fun v hv=>by (cases hv),fun _=>⟨0,?_,by omega⟩⟩
   ·simp only [aq2,c1,ajj,jj,if_false]
   ·by_cases c2:0 < len
    ·have:(most - (got.length:Int)).toNat=0:=by omega
     rw [this];exact Sel.zero _
    ·have:row.take len=[]:=jJ (by omega)
     rw [this];exact Sel.nil _
theorem gyi (n:Nat) (hn:N0≤n) (l:List aj0) (w most:Int) (hl:l.length≤2097152) (hw2:w≤9223372036854775807) :
  (awo n l w most=some ([],[],1)∧¬ ((chk 512 (-1) l=true∧1≤w)∧1≤most)) ∨
  (chk 512 (-1) l=true∧∃ v,awo n l w most=some v∧v.2.2=0∧nf (-1) v.2.1∧v.1.all val=true∧(trks v.1 ++ trks v.2.1).Perm (trks l)∧(((trks v.1).length:Nat):Int)=w∧((v.1.length:Nat):Int)≤most) ∨
  (chk 512 (-1) l=true∧awo n l w most=some ([],[],200)∧∃ s,Sel most.toNat l s∧s < w):=by
 have hln:l.length < n:=by unfold N0 at hn;omega
 simp only [awo,fk5 n l 512 hln (by omega),jc]
 by_cases c:(chk 512 (-1) l=true∧1≤w)∧1≤most
 ·have c1:(if (if (!(chk 512 (-1) l))=true then true else (decide (w < 1)))=true then true else (decide (most < 1)))=false:=by
   have h1:¬ w < 1:=by omega
   have h2:¬ most < 1:=by omega
   simp [c.1.1,h1,h2]
  have hnf:=((djg 512 l (-1)).1 c.1.1).1
  obtain ⟨y,h1,h2,h3⟩:=fy7 n most n l.length w [] l hln (jA _) hln c.1.2 hw2 (by simp;omega) (by rw [JB];exact hnf) rfl
  rw [JB] at h2 h3
  simp only [c1,ajj,jj,if_false,dyq n l (by omega),jc]
  rw [h1]
  cases y with
  | inl v =>
   obtain ⟨b1,b2,b3,b4,b5,b6⟩:=h2 v rfl
   refine .inr (.inl ⟨c.1.1,v,rfl,b1,b2,b3,by simpa [trks] using b4,by simpa [trks] using b5,b6⟩)
  | inr v =>
   obtain ⟨s,s1,s2⟩:=h3 rfl
   exact .inr (.inr ⟨c.1.1,rfl,s,by simpa using s1,s2⟩)
 ·have c1:(if (if (!(chk 512 (-1) l))=true then true else (decide (w < 1)))=true then true else (decide (most < 1)))=true:=by
   by_cases h0:chk 512 (-1) l=true
   ·by_cases h1:w < 1
    ·simp [h0,h1]
    ·have h2:most < 1:=by
      by_cases h2:most < 1
      ·exact h2
      ·exact absurd ⟨⟨h0,by omega⟩,by omega⟩ c
     simp [h2]
   ·simp [h0]
  simp only [c1,ajj,if_true]
  exact .inl ⟨trivial,c⟩
def tk (w:Int) (x:aj0):Int:=if x.Len < w then x.Len else w
def kpA:Int→List aj0→List aj0
 | _,[]=>[]
 | w,x :: l=>(if 0 < tk w x then [⟨x.At,tk w x⟩] else []) ++ kpA (w - tk w x) l
def kpB:Int→List aj0→List aj0
 | _,[]=>[]
 | w,x :: l=>(if tk w x < x.Len then [⟨x.At+tk w x,x.Len - tk w x⟩] else []) ++ kpB (w - tk w x) l
theorem gkp (n:Nat) (l:List aj0) (hv:l.all val=true) (w:Int) (hw:0≤w∧w≤9223372036854775807) (hn:l.length < n) (hl:l.length≤1073741824) :
  ajk (fun (x:Int×(List aj0)×(List aj0)×Int)=>akk n l (l.length:Int) x.1 x.2.1 x.2.2.1 x.2.2.2) n (w,[],[],0)=some (kpA w l,kpB w l):=by
 have h:=azy (n:=n) (σ:=Int×List aj0×List aj0) (body:=fun (x:Int×(List aj0)×(List aj0)×Int)=>akk n l (l.length:Int) x.1 x.2.1 x.2.2.1 x.2.2.2) l (fun k s=>(s.1,s.2.1,s.2.2,(k:Int)))
  (fun s x=>.inl (s.1 - tk s.1 x,s.2.1 ++ (if 0 < tk s.1 x then [⟨x.At,tk s.1 x⟩] else []),s.2.2 ++ (if tk s.1 x < x.Len then [⟨x.At+tk s.1 x,x.Len - tk s.1 x⟩] else []))) (fun s=>(s.2.1,s.2.2)) (fun k s=>0≤s.1∧s.1≤9223372036854775807∧s.2.1.length≤k∧s.2.2.length≤k) (s:=(w,[],[])) (by simp [hw])
  (fun k hk s hs=>by
   have c1:decide ((k:Int) < (l.length:Int))=true:=by simp;omega
   have c2:0≤(k:Int)∧(k:Int) < (l.length:Int):=by omega
   have v:=(ajv _).1 (jE.1 hv _ (jw hk))
   have e1:(if l[k].Len < s.1 then l[k].Len else s.1)=tk s.1 l[k]:=rfl
   have ht:0≤tk s.1 l[k]∧tk s.1 l[k]≤l[k].Len∧tk s.1 l[k]≤s.1:=by unfold tk;split <;> omega
   have c3:s.2.1.length+1≤2147483648:=by omega
   have c4:s.2.2.length+1≤2147483648:=by omega
   simp only [akk,bj8,bjb,bwx,c1,ajj,if_true,aj9 _ c2,jn,aqf hk,e1,aj9 _ c3,aj9 _ c4,decide_eq_true_eq,gt_iff_lt]
   rw [ezb (n:=s.1 - tk s.1 l[k]) (by omega) (by omega),wid (n:=(k:Int)+1) (by omega),wid (n:=l[k].At+tk s.1 l[k]) (by omega),wid (n:=l[k].Len - tk s.1 l[k]) (by omega)]
   by_cases h1:0 < tk s.1 l[k] <;> by_cases h2:tk s.1 l[k] < l[k].Len <;> simp [h1,h2])
  (fun k hk s hs s' hf=>by
   have v:=(ajv _).1 (jE.1 hv _ (jw hk))
   have ht:0≤tk s.1 l[k]∧tk s.1 l[k]≤l[k].Len∧tk s.1 l[k]≤s.1:=by unfold tk;split <;> omega
   simp only [Sum.inl.injEq] at hf
   subst hf
   dsimp only
   refine ⟨by omega,by omega,?_,?_⟩
   ·rw [ji];split <;> simp <;> omega
   ·rw [ji];split <;> simp <;> omega)
  (fun s _=>by simp [akk,ajj]) hn
 have e:∀ (l:List aj0) (s:Int×List aj0×List aj0),runL (fun (s:Int×List aj0×List aj0) (x:aj0)=>(.inl (s.1 - tk s.1 x,s.2.1 ++ (if 0 < tk s.1 x then [⟨x.At,tk s.1 x⟩] else []),s.2.2 ++ (if tk s.1 x < x.Len then [⟨x.At+tk s.1 x,x.Len - tk s.1 x⟩] else [])):(Int×List aj0×List aj0) ⊕ (List aj0×List aj0))) (fun s=>(s.2.1,s.2.2)) l s=(s.2.1 ++ kpA s.1 l,s.2.2 ++ kpB s.1 l):=by
  intro l
  induction l with
  | nil=>intro s;simp [runL,kpA,kpB]
  | cons x l ih=>intro s;simp only [runL,ih,kpA,kpB,jQ]
 rw [e] at h
 simpa using h
def mx (w:Int):Int:=if 0 > w then 0 else w
def t0 (w:Int) (x:aj0):Int:=if (if x.Len < w then x.Len else w) > 0 then (if x.Len < w then x.Len else w) else 0
theorem hze {w:Int} {x:aj0} (hx:1≤x.Len):t0 w x=tk (mx w) x:=by
 unfold t0 tk mx
 by_cases h1:x.Len < w <;> by_cases h2:0 > w <;> simp [h1,h2] <;> (try (split <;> omega)) <;> omega
theorem gqm (n:Nat) (l:List aj0) (hv:l.all val=true) (w:Int) (hw:-9223372036854775808≤w∧w≤9223372036854775807) (hn:l.length < n) (hl:l.length≤1073741824) :
  ∃ y,ajk (fun (x:Int×(List aj0)×(List aj0)×Int)=>ayr n l x.1 x.2.1 x.2.2.1 x.2.2.2) n (w,[],[],0)=some y∧y.1.filter (fun x=>decide (0 < x.Len))=kpA (mx w) l∧y.2.filter (fun x=>decide (0 < x.Len))=kpB (mx w) l∧y.1.length≤l.length∧y.2.length≤l.length:=by
 have h:=azy (n:=n) (σ:=Int×List aj0×List aj0) (body:=fun (x:Int×(List aj0)×(List aj0)×Int)=>ayr n l x.1 x.2.1 x.2.2.1 x.2.2.2) l (fun k s=>(s.1,s.2.1,s.2.2,(k:Int)))
  (fun s x=>.inl ((if s.1 > 0 then s.1 else 0) - t0 s.1 x,s.2.1 ++ [⟨x.At,t0 s.1 x⟩],s.2.2 ++ [⟨x.At+t0 s.1 x,x.Len - t0 s.1 x⟩])) (fun s=>(s.2.1,s.2.2)) (fun k s=>-9223372036854775808≤s.1∧s.1≤9223372036854775807∧s.2.1.length≤k∧s.2.2.length≤k) (s:=(w,[],[])) (by simp [hw])
  (fun k hk s hs=>by
   have c1:decide ((k:Int) < (l.length:Int))=true:=by simp;omega
   have c2:0≤(k:Int)∧(k:Int) < (l.length:Int):=by omega
   have v:=(ajv _).1 (jE.1 hv _ (jw hk))
   have e1:(if (if l[k].Len < s.1 then l[k].Len else s.1) > 0 then (if l[k].Len < s.1 then l[k].Len else s.1) else 0)=t0 s.1 l[k]:=rfl
   have ht:0≤t0 s.1 l[k]∧t0 s.1 l[k]≤l[k].Len:=by
    rw [hze v.2.1];unfold tk mx;split <;> split <;> omega
   have hs1:0≤(if s.1 > 0 then s.1 else 0)∧(if s.1 > 0 then s.1 else 0)≤9223372036854775807:=by split <;> omega
   have c3:(0≤(k:Int)∧(k:Int) < (l.length:Int))∧s.2.1.length+1≤2147483648:=by omega
   have c4:(0≤(k:Int)∧(k:Int) < (l.length:Int))∧(0≤(k:Int)∧(k:Int) < (l.length:Int))∧s.2.2.length+1≤2147483648:=by omega
   simp only [ayr,c1,ajj,if_true,aj9 _ c2,jn,aqf hk,e1,aj9 _ c3,aj9 _ c4]
   rw [ezb (n:=(if s.1 > 0 then s.1 else 0) - t0 s.1 l[k]) (by omega) (by omega),wid (n:=(k:Int)+1) (by omega),wid (n:=l[k].At+t0 s.1 l[k]) (by omega),wid (n:=l[k].Len - t0 s.1 l[k]) (by omega)]
   simp)
  (fun k hk s hs s' hf=>by
   have v:=(ajv _).1 (jE.1 hv _ (jw hk))
   have ht:0≤t0 s.1 l[k]∧t0 s.1 l[k]≤l[k].Len:=by
    rw [hze v.2.1];unfold tk mx;split <;> split <;> omega
   have hs1:0≤(if s.1 > 0 then s.1 else 0)∧(if s.1 > 0 then s.1 else 0)≤9223372036854775807:=by split <;> omega
   simp only [Sum.inl.injEq] at hf
   subst hf
   dsimp only
   refine ⟨by omega,by omega,?_,?_⟩ <;> (rw [ji];simp only [jz,jW];omega))
  (fun s _=>by simp [ayr,ajj]) hn
 have e:∀ (l:List aj0) (s:Int×List aj0×List aj0),l.all val=true→∃ y,runL (fun (s:Int×List aj0×List aj0) (x:aj0)=>(.inl ((if s.1 > 0 then s.1 else 0) - t0 s.1 x,s.2.1 ++ [⟨x.At,t0 s.1 x⟩],s.2.2 ++ [⟨x.At+t0 s.1 x,x.Len - t0 s.1 x⟩]):(Int×List aj0×List aj0) ⊕ (List aj0×List aj0))) (fun s=>(s.2.1,s.2.2)) l s=y ∧
   y.1.filter (fun x=>decide (0 < x.Len))=s.2.1.filter (fun x=>decide (0 < x.Len)) ++ kpA (mx s.1) l∧y.2.filter (fun x=>decide (0 < x.Len))=s.2.2.filter (fun x=>decide (0 < x.Len)) ++ kpB (mx s.1) l∧y.1.length=s.2.1.length+l.length∧y.2.length=s.2.2.length+l.length:=by
  intro l
  induction l with
  | nil=>intro s _;exact ⟨_,rfl,by simp [runL,kpA],by simp [runL,kpB],by simp [runL],by simp [runL]⟩
  | cons x l ih =>
   intro s hv
   simp only [JL,jf] at hv
   have v:=(ajv _).1 hv.1
   have et:=hze (w:=s.1) (x:=x) v.2.1
   obtain ⟨y,y1,y2,y3,y4,y5⟩:=ih ((if s.1 > 0 then s.1 else 0) - t0 s.1 x,s.2.1 ++ [⟨x.At,t0 s.1 x⟩],s.2.2 ++ [⟨x.At+t0 s.1 x,x.Len - t0 s.1 x⟩]) hv.2
   have ht:0≤tk (mx s.1) x∧tk (mx s.1) x≤mx s.1:=by unfold tk mx;split <;> split <;> omega
   have em:mx ((if s.1 > 0 then s.1 else 0) - t0 s.1 x)=mx s.1 - tk (mx s.1) x:=by
    rw [et]
    have e1:(if s.1 > 0 then s.1 else 0)=mx s.1:=by unfold mx;split <;> split <;> omega
    rw [e1]
    have hq:0≤mx s.1 - tk (mx s.1) x:=by omega
    generalize mx s.1 - tk (mx s.1) x=q at hq
    unfold mx
    split
    ·omega
    ·rfl
   have em2:=em
   rw [et] at em2
   simp only [gt_iff_lt] at em2
   refine ⟨y,by simp only [runL];exact y1,?_,?_,?_,?_⟩
   ·rw [y2]
    simp only [em,List.filter_append,jQ,kpA,et]
    congr 1
    by_cases h:0 < tk (mx s.1) x <;> simp [h,em2]
   ·rw [y3]
    simp only [em,List.filter_append,jQ,kpB,et]
    congr 1
    have:(0 < x.Len - tk (mx s.1) x)↔(tk (mx s.1) x < x.Len):=by omega
    by_cases h:tk (mx s.1) x < x.Len <;> simp [h,this,em2]
   ·rw [y4,ji];simp only [jz,jW];omega
   ·rw [y5,ji];simp only [jz,jW];omega
 obtain ⟨y,y1,y2,y3,y4,y5⟩:=e l (w,[],[]) hv
 rw [y1] at h
 exact ⟨y,h,by simpa using y2,by simpa using y3,by simp at y4;omega,by simp at y5;omega⟩
theorem hqn:∀ (l:List aj0) (w:Int),(kpA w l).length≤l.length∧(kpB w l).length≤l.length
 | [],w=>by simp [kpA,kpB]
 | x :: l,w=>by
  obtain ⟨h1,h2⟩:=hqn l (w - tk w x)
  simp only [kpA,kpB,ji,jz]
  constructor <;> (split <;> simp <;> omega)
end Go.Proofs.YtijnkhcfondehaaGreatDoor
