/- Text. -/
import Derived.Test.YtijnkhcfondehaaGreatDoorAE21
import Derived.Test.YtijnkhcfondehaaGreatDoorF
set_option linter.unusedSimpArgs false
set_option linter.unusedVariables false
set_option maxRecDepth 100000
open _root_.Bool renaming not_true→jR,true_and→Jg,eq_iff_iff→J7,not_eq_true→JM,false_eq_true→jm,and_eq_true→jf
open _root_.Int renaming toNat_natCast→ju
open Go.IntKind renaming wrap→ja
open _root_.List renaming range→Jc,getElem_map→J0,mem_append→jo,mem_singleton→JS,mem_map→J2,length_append→ji,all_eq_true→jK,all_cons→JV,append_assoc→Jk,getElem_mem→jB
open _root_.Option renaming bind_some→je,isSome_iff_exists→j8
open _root_.Option.some renaming injEq→jc
namespace Go.Proofs.YtijnkhcfondehaaGreatDoor
open Go.AE
def N0:Nat:=4194304
theorem wid {n:Int} (h:-4611686018427387904≤n∧n≤4611686018427387904):ja .i64 n=n:=izh (by omega) (by omega)
theorem ayp {α:Type} (b:Bool) (x y:α):(bif b then x else y)=if b=true then x else y:=by cases b <;> rfl
theorem dqi (p q:Bool):(if p=true then q else false)=(p && q):=by cases p <;> simp
theorem cqx (p q:Bool):(if p=true then true else q)=(p || q):=by cases p <;> simp
def val (x:aj0):Bool:=decide (0≤x.At∧1≤x.Len∧x.At < 512∧x.Len≤512 - x.At)
theorem ay6 (x:aj0):val x=true↔0≤x.At∧1≤x.Len∧x.At < 512∧x.Len≤512 - x.At:=by simp [val]
theorem gjg (x:aj0):(if (if (if (decide (x.At ≥ 0))=true then (decide (x.Len ≥ 1)) else false)=true then (decide (x.At < 512)) else false)=true then (decide (x.Len≤(ja .i64 (512 - x.At)))) else false)=val x:=by
 by_cases hA:0≤x.At∧x.At < 512
 ·rw [wid (by omega)];by_cases h2:1≤x.Len <;> by_cases h4:x.Len≤512 - x.At <;> simp [val,hA.1,hA.2,h2,h4]
 ·by_cases h1:0≤x.At <;> by_cases h3:x.At < 512
  ·exact absurd ⟨h1,h3⟩ hA
  all_goals simp [val,h1,h3]
theorem gj8 (n:Nat) (x:aj0):bjo n x=some (val x):=by simp only [bjo,gjg]
theorem izt (n:Nat) (x:aj0):ck2 n x=some (val x):=by simp only [ck2,gjg]
def chk (m:Int):Int→List aj0→Bool
 | _,[]=>true
 | e,x :: l=>val x && decide (e < x.At) && decide (x.At+x.Len≤m) && chk m (x.At+x.Len) l
theorem ik1 (n:Nat) (l:List aj0) (m:Int) (hn:l.length < n) (hl:l.length≤2147483648):bww n l m=some (chk m (-1) l):=by
 have h:=cjl (σ:=Int) (body:=fun (x:Int×Int)=>azt n m l (l.length:Int) x.1 x.2) l (fun k e=>(e,(k:Int)))
  (fun e x=>if val x && decide (e < x.At) && decide (x.At+x.Len≤m) then .inl (x.At+x.Len) else .inr (.inl false)) (fun _=>.inr ()) (fun _ _=>True) (s:=-1) trivial
  (fun k hk e _=>by
   have h1:decide ((k:Int) < (l.length:Int))=true:=by simp;omega
   have h2:(0:Int)≤(k:Int)∧(k:Int) < (l.length:Int):=by omega
   simp only [azt,h1,ayp,if_true,ajb _ h2,gj8,je,ju,aqy hk,cqx];by_cases hv:val l[k]=true
   ·have hv':=(ay6 _).1 hv;simp only [hv,jR,Bool.false_or,Jg];rw [wid (by omega),wid (by omega)]
    have e1:(decide (l[k].At≤e) || decide (l[k].At+l[k].Len > m)) = !(decide (e < l[k].At) && decide (l[k].At+l[k].Len≤m)):=by
     rw [J7,Bool.or_eq_true,Bool.not_eq_true',Bool.and_eq_false_iff];simp only [decide_eq_true_eq,decide_eq_false_iff_not];omega
    rw [e1];cases (decide (e < l[k].At) && decide (l[k].At+l[k].Len≤m)) <;> simp
   ·simp [hv])
  (fun _ _ _ _ _ _=>trivial) (fun e _=>by simp [azt,ayp]) hn
 have e:∀ (l:List aj0) (e:Int),runL (fun e x=>if val x && decide (e < x.At) && decide (x.At+x.Len≤m) then .inl (x.At+x.Len) else (.inr (.inl false):Int ⊕ (Bool ⊕ Unit))) (fun _=>.inr ()) l e=if chk m e l then .inr () else .inl false:=by
  intro l
  induction l with
  | nil=>intro e;simp [runL,chk]
  | cons x l ih =>
   intro e;simp only [runL,chk];by_cases h:(val x && decide (e < x.At) && decide (x.At+x.Len≤m))=true
   ·simp only [h,if_true,Jg,ih]
   ·rw [JM] at h;simp [h]
 rw [e] at h;simp only [bww];have h':ajg (fun (x:Int×Int)=>azt n m l (l.length:Int) x.1 x.2) n (-1,0)=some (if chk m (-1) l then .inr () else .inl false):=h;rw [h'];cases chk m (-1) l <;> rfl
def trk (x:aj0):List Int:=(Jc x.Len.toNat).map fun (j:Nat)=>x.At+(j:Int)
def trks (l:List aj0):List Int:=l.flatMap trk
def bq1:List Int→List Int→Option (List Int)
 | s,[]=>some s
 | s,k :: t=>if k∈s then none else bq1 (s ++ [k]) t
def trkF:List Int→List aj0→Option (List Int)
 | s,[]=>some s
 | s,x :: l=>if val x then (bq1 s (trk x)).bind fun s'=>trkF s' l else none
def mark (s:List Int):List Bool:=(Jc 512).map fun (k:Nat)=>decide ((k:Int)∈s)
theorem eyi (s:List Int):(mark s).length=512:=by simp [mark]
theorem iqz (s:List Int) {k:Int} (h:0≤k∧k < 512):gt (mark s) k.toNat=decide (k∈s):=by
 have h1:k.toNat < 512:=by omega
 rw [aqy (by rw [eyi];exact h1)];simp only [mark,J0,List.getElem_range]
 have:((k.toNat:Nat):Int)=k:=by omega
 rw [this]
theorem hkm (s:List Int) {k:Int} (h:0≤k∧k < 512):List.set (mark s) k.toNat true=mark (s ++ [k]):=by
 refine List.ext_getElem (by simp [mark]) fun i h1 h2=>?_;simp only [List.length_set,eyi] at h1;rw [List.getElem_set];simp only [mark,J0,List.getElem_range,jo,JS];by_cases e:k.toNat=i
 ·have:(i:Int)=k:=by omega
  simp [e,this]
 ·have:¬ (i:Int)=k:=by omega
  simp [e,this]
theorem hkc:aw0 512 false=mark []:=by
 have e:mark []=List.replicate 512 false:=by
  unfold mark;rw [List.eq_replicate_iff];refine ⟨by simp,fun b hb=>?_⟩;obtain ⟨k,_,rfl⟩:=J2.1 hb;simp
 rw [e];rfl
theorem cjy:∀ {t s s':List Int},bq1 s t=some s'→s'=s ++ t
 | [],s,s',h=>by simp only [bq1,jc] at h;simp [h]
 | k :: t,s,s',h=>by
  simp only [bq1] at h
  split at h
  ·cases h
  ·rw [cjy h];simp
theorem bzx (x:aj0):(trk x).length=x.Len.toNat:=by simp [trk]
theorem bkl {x:aj0} {k:Int}:k∈trk x↔x.At≤k∧k < x.At+x.Len:=by
 simp only [trk,J2,List.mem_range];constructor
 ·rintro ⟨j,hj,rfl⟩;omega
 ·rintro ⟨h1,h2⟩;exact ⟨(k - x.At).toNat,by omega,by omega⟩
theorem iqr {x:aj0} {k:Nat} (h:k < (trk x).length):(trk x)[k]=x.At+(k:Int):=by simp [trk]
theorem gka (n:Nat) (l:List aj0) (i:Nat) (hi:i < l.length) (hv:val l[i]=true) (s:List Int) (hs:s.length≤1073741824) (hn:512 < n) :
  ajg (fun (x:(List Bool)×(List Int)×Int)=>aze n l (i:Int) x.1 x.2.1 x.2.2) n (mark s,s,l[i].At)=some (match bq1 s (trk l[i]) with | some s'=>.inr (mark s',s') | none=>.inl ([],false)):=by
 have hv':=(ay6 _).1 hv
 have h:=cjl (n:=n) (σ:=List Int) (body:=fun (x:(List Bool)×(List Int)×Int)=>aze n l (i:Int) x.1 x.2.1 x.2.2) (trk l[i]) (fun k s=>(mark s,s,l[i].At+(k:Int)))
  (fun s k=>if k∈s then .inr (.inl ([],false)) else .inl (s ++ [k])) (fun s=>.inr (mark s,s)) (fun k s'=>s'.length≤s.length+k) (s:=s) (by omega)
  (fun k hk s2 hs2=>by
   revert hs2;generalize hs0:s.length=sl;rw [hs0] at hs;clear hs0;revert s2;intro s hs2;have hk':=hk;rw [bzx] at hk';have h1:(0≤(i:Int)∧(i:Int) < (l.length:Int))∧(0≤(i:Int)∧(i:Int) < (l.length:Int)):=by omega
   have h2:decide (l[i].At+(k:Int) < ja .i64 (l[i].At+l[i].Len))=true:=by rw [wid (by omega)];simp;omega
   have h3:0≤l[i].At+(k:Int)∧l[i].At+(k:Int) < 512:=by omega
   have h4:(0≤l[i].At+(k:Int)∧l[i].At+(k:Int) < 512∧(mark s).length=512)∧(l[i].At+(k:Int)).toNat < (mark s).length:=by rw [eyi];omega
   simp only [aze,ajb _ h1,ju,aqy hi,h2,ayp,if_true,ajb _ h4,iqz s h3,iqr hk,decide_eq_true_eq];by_cases hm:l[i].At+(k:Int)∈s
   ·simp [hm]
   ·have h5:s.length+1≤2147483648:=by omega
    simp only [hm,if_false,ajb _ h5,hkm s h3];rw [wid (by omega)];have e5:l[i].At+(k:Int)+1=l[i].At+((k+1:Nat):Int):=by omega
    rw [e5])
  (fun k hk s hs s' hf=>by
   split at hf
   ·cases hf
   ·simp only [Sum.inl.injEq] at hf;subst hf;simp;omega)
  (fun s hs=>by
   have h1:(0≤(i:Int)∧(i:Int) < (l.length:Int))∧(0≤(i:Int)∧(i:Int) < (l.length:Int)):=by omega
   have h2:decide (l[i].At+(((trk l[i]).length:Nat):Int) < ja .i64 (l[i].At+l[i].Len))=false:=by
    have e:=bzx l[i];rw [wid (by omega)];simp only [decide_eq_false_iff_not];omega
   simp only [aze,ajb _ h1,ju,aqy hi,h2,ayp,jm,if_false]) (by rw [bzx];omega)
 have e:∀ (t s:List Int),runL (fun s k=>if k∈s then (.inr (.inl ([],false)):List Int ⊕ ((List Int×Bool) ⊕ (List Bool×List Int))) else .inl (s ++ [k])) (fun s=>.inr (mark s,s)) t s=match bq1 s t with | some s'=>.inr (mark s',s') | none=>.inl ([],false):=by
  intro t
  induction t with
  | nil=>intro s;simp [runL,bq1]
  | cons k t ih =>
   intro s;simp only [runL,bq1];by_cases hm:k∈s
   ·simp [hm]
   ·simp only [hm,if_false,ih]
 rw [e] at h;simpa using h
theorem gzs (n:Nat) (l:List aj0) (hn:l.length < n) (hn2:512 < n) (hl:l.length≤2097152):azz n l=some (match trkF [] l with | some s=>(s,true) | none=>([],false)):=by
 have h:=cjl (σ:=List Int) (body:=fun (x:(List Bool)×(List Int)×Int)=>azq n l x.1 x.2.1 x.2.2) l (fun k s=>(mark s,s,(k:Int)))
  (fun s x=>if val x then (match bq1 s (trk x) with | some s'=>.inl s' | none=>.inr (.inl ([],false))) else .inr (.inl ([],false))) (fun s=>.inr s) (fun k s=>s.length≤512 * k) (s:=[]) (by simp)
  (fun k hk s hs=>by
   have h1:decide ((k:Int) < (l.length:Int))=true:=by simp;omega
   have h2:0≤(k:Int)∧(k:Int) < (l.length:Int):=by omega
   simp only [azq,h1,ayp,if_true,ajb _ h2,izt,je,ju,aqy hk];by_cases hv:val l[k]=true
   ·simp only [hv,jR,jm,if_false,if_true];rw [gka n l k hk hv s (by omega) hn2];simp only [je];cases bq1 s (trk l[k]) with
    | none=>rfl
    | some s' =>
     simp only [bq0];rw [wid (by omega)];simp
   ·simp [hv])
  (fun k hk s hs s' hf=>by
   split at hf
   ·rename_i hv;have hv':=(ay6 _).1 hv
    split at hf
    ·rename_i s2 h2;simp only [Sum.inl.injEq] at hf;subst hf;rw [cjy h2,ji,bzx];omega
    ·cases hf
   ·cases hf)
  (fun s hs=>by simp [azq,ayp]) hn
 have e:∀ (l:List aj0) (s:List Int),runL (fun s x=>if val x then (match bq1 s (trk x) with | some s'=>.inl s' | none=>(.inr (.inl ([],false)):List Int ⊕ ((List Int×Bool) ⊕ List Int))) else .inr (.inl ([],false))) (fun s=>.inr s) l s=match trkF s l with | some s'=>.inr s' | none=>.inl ([],false):=by
  intro l
  induction l with
  | nil=>intro s;simp [runL,trkF]
  | cons x l ih =>
   intro s;simp only [runL,trkF];by_cases hv:val x=true
   ·simp only [hv,if_true];cases bq1 s (trk x) with
    | none=>rfl
    | some s'=>simp only [je,ih]
   ·simp [hv]
 rw [e] at h;have h':ajg (fun (x:(List Bool)×(List Int)×Int)=>azq n l x.1 x.2.1 x.2.2) n (mark [],[],0)=_:=h;simp only [azz,hkc,h',je];cases trkF [] l <;> rfl
theorem ewe:∀ {l:List aj0} {s s':List Int},trkF s l=some s'→s'=s ++ trks l∧l.all val=true
 | [],s,s',h=>by simp only [trkF,jc] at h;simp [h,trks]
 | x :: l,s,s',h=>by
  simp only [trkF] at h
  split at h
  ·rename_i hv;obtain ⟨s2,h1,h2⟩:=bind_some h;obtain ⟨h3,h4⟩:=ewe h2;rw [cjy h1] at h3;exact ⟨by rw [h3];simp [trks],by simp [hv,h4]⟩
  ·cases h
theorem eks {l:List aj0} (h:l.all val=true):∀ k∈trks l,0≤k∧k < 512:=by
 intro k hk;obtain ⟨x,hx,hk⟩:=List.mem_flatMap.1 hk;have hv:=(ay6 x).1 (jK.1 h x hx)
 have:=bkl.1 hk
 omega
def trkO (l:List aj0):List Int:=(trkF [] l).getD []
theorem dym:∀ {t s s':List Int},bq1 s t=some s'→s.Nodup→s'.Nodup
 | [],s,s',h,hs=>by simp only [bq1,jc] at h;subst h;exact hs
 | k :: t,s,s',h,hs=>by
  simp only [bq1] at h
  split at h
  ·cases h
  ·rename_i hk;refine dym h (List.nodup_append.2 ⟨hs,by simp,?_⟩);rintro a ha b hb rfl;simp only [JS] at hb;subst hb;exact hk ha
theorem eky:∀ {l:List aj0} {s s':List Int},trkF s l=some s'→s.Nodup→s'.Nodup
 | [],s,s',h,hs=>by simp only [trkF,jc] at h;subst h;exact hs
 | x :: l,s,s',h,hs=>by
  simp only [trkF] at h
  split at h
  ·obtain ⟨s2,h1,h2⟩:=bind_some h;exact eky h2 (dym h1 hs)
  ·cases h
theorem few:∀ {m:Nat} {s:List Int},s.Nodup→(∀ k∈s,0≤k∧k < (m:Int))→s.length≤m
 | 0,s,hn,hr=>by
  cases s with
  | nil=>simp
  | cons k t=>have:=hr k (by simp);omega
 | m+1,s,hn,hr=>by
  have h:=few (m:=m) (s:=s.erase (m:Int)) (hn.erase _) (fun k hk=>by
   have h1:=(List.Nodup.mem_erase_iff hn).1 hk
   have:=hr k h1.2
   have:=h1.1
   omega)
  rw [List.length_erase] at h
  split at h <;> omega
theorem ezt (n:Nat) (l:List aj0) (hn:N0≤n) (hl:l.length≤2097152):azz n l=some (trkO l,(trkF [] l).isSome):=by
 rw [gzs n l (by unfold N0 at hn;omega) (by unfold N0 at hn;omega) hl];unfold trkO;cases trkF [] l <;> rfl
def addT (out:List aj0) (k:Int):List aj0 :=
 if 0 < out.length∧(gt out (out.length - 1)).At+(gt out (out.length - 1)).Len=k then out.set (out.length - 1) ⟨(gt out (out.length - 1)).At,(gt out (out.length - 1)).Len+1⟩ else out ++ [⟨k,1⟩]
def nrm (p:List Bool):List aj0:=(Jc 512).foldl (fun out (k:Nat)=>if gt p k then addT out (k:Int) else out) []
def nf:Int→List aj0→Prop
 | _,[]=>True
 | e,x :: l=>val x=true∧e < x.At∧nf (x.At+x.Len) l
theorem bz4 (x:aj0) (l:List aj0):trks (x :: l)=trk x ++ trks l:=by simp [trks]
theorem izb:∀ {l:List aj0} {e:Int},nf e l→∀ k∈trks l,e < k
 | [],_,_,k,hk=>by simp [trks] at hk
 | x :: l,e,h,k,hk=>by
  obtain ⟨h1,h2,h3⟩:=h;have h1':=(ay6 _).1 h1;rw [bz4,jo] at hk;rcases hk with hk | hk
  ·have:=bkl.1 hk;omega
  ·have:=izb h3 k hk;omega
theorem gyi (x:aj0):(trk x).Pairwise (· < ·):=by
 unfold trk;refine List.pairwise_map.2 (List.Pairwise.imp ?_ List.pairwise_lt_range);intro a b h;omega
theorem ij9:∀ {l:List aj0} {e:Int},nf e l→(trks l).Pairwise (· < ·)
 | [],_,_=>by simp [trks]
 | x :: l,e,h=>by
  obtain ⟨h1,h2,h3⟩:=h;rw [bz4,List.pairwise_append];refine ⟨gyi x,ij9 h3,fun a ha b hb=>?_⟩
  have:=bkl.1 ha
  have:=izb h3 b hb
  omega
theorem ij7:∀ {l:List aj0} {e:Int},nf e l→l.all val=true
 | [],_,_=>rfl
 | x :: l,e,h=>by simp [h.1,ij7 h.2.2]
theorem eqo:∀ {t s:List Int},(s ++ t).Nodup→bq1 s t=some (s ++ t)
 | [],s,_=>by simp [bq1]
 | k :: t,s,h=>by
  have hk:k ∉ s:=fun hk=>(List.nodup_append.1 h).2.2 k hk k List.mem_cons_self rfl;simp only [bq1,hk,if_false];rw [eqo (by simpa using h)];simp
theorem dqy:∀ {l:List aj0} {s:List Int},l.all val=true→(s ++ trks l).Nodup→trkF s l=some (s ++ trks l)
 | [],s,_,_=>by simp [trkF,trks]
 | x :: l,s,hv,h=>by
  simp only [JV,jf] at hv;rw [bz4,← Jk] at h;simp only [trkF,hv.1,if_true];rw [eqo (List.nodup_append.1 h).1,je,dqy hv.2 h,bz4,Jk]
theorem ik7 {l:List aj0} {e:Int} (h:nf e l):trkF [] l=some (trks l):=by
 have:=dqy (s:=[]) (ij7 h) (by
  rw [List.nil_append]
  exact List.Pairwise.imp (fun h=>by omega) (ij9 h))
 simpa using this
def isL (r:List aj0) (k:Nat):Prop:=k < r.length∧(∀ j,j < r.length→(gt r j).Len≤(gt r k).Len)∧∀ j,j < k→(gt r j).Len < (gt r k).Len
def cut (r:List aj0) (k:Nat) (w:Int):List aj0:=if (gt r k).Len=w then r.eraseIdx k else r.set k ⟨(gt r k).At+w,(gt r k).Len - w⟩
theorem hyu (n:Nat) (l:List aj0) (hl:l.length≤2147483648):awd n l=some l:=by
 refine iqo fun b hb=>?_;cases b with
 | true=>rw [hb rfl];rfl
 | false=>simp [ajb _ hl]
def cmpA (x y:aj0):Int:=if x.At < y.At then -1 else if y.At < x.At then 1 else 0
theorem hq5 (x y:aj0):cmpA x y < 0↔x.At < y.At:=by
 unfold cmpA
 split
 ·simp [*]
 ·split <;> simp [*] <;> omega
theorem iwd (n:Nat) (x y:aj0):azi n x y=some (cmpA x y):=by
 simp only [azi,bza,bwe,je,bne_self_eq_false,ayp,jm,if_false,cmpA,decide_eq_true_eq,gt_iff_lt]
 split
 ·rfl
 ·split <;> rfl
theorem swoA:Go.Sort.SWO (Go.Proofs.ltOf cmpA):=by
 have h:∀ x y,Go.Proofs.ltOf cmpA x y=decide (x.At < y.At):=fun x y=>by
  unfold Go.Proofs.ltOf;exact decide_eq_decide.2 (hq5 x y)
 refine ⟨fun x=>?_,fun x y z=>?_,fun x y z=>?_⟩
 ·rw [h];simp
 ·rw [h,h,h];simp only [decide_eq_true_eq];omega
 ·rw [h,h,h];simp only [decide_eq_false_iff_not];omega
theorem gzk (n:Nat) (l:List aj0) (hl:l.length≤2147483648):∃ r,ayl n l=some r∧r.Perm l∧r.Pairwise fun x y=>x.At≤y.At:=by
 obtain ⟨r,h1,h2,h3⟩:=hzp (f:=fun x y=>azi n x y) (c:=cmpA) (l:=l) (fun x _ y _=>iwd n x y) swoA;refine ⟨r,?_,h2,h3.imp fun {x y} h=>?_⟩
 ·simp only [ayl,hyu n l hl,je,az4,h1];rw [List.take_of_length_le (by rw [h2.length_eq];exact Nat.le_refl _)]
 ·rw [hq5] at h;omega
def apart (x y:aj0):Prop:=x.At+x.Len≤y.At
def adj (r:List aj0):Prop:=∀ j,0 < j→j < r.length→(gt r (j - 1)).At+(gt r (j - 1)).Len≤(gt r j).At
theorem iq3 {r:List aj0} (hv:r.all val=true):adj r↔r.Pairwise apart:=by
 rw [List.pairwise_iff_getElem];constructor
 ·intro h i j hi hj hij
  have key:∀ d,i+1+d < r.length→(gt r i).At+(gt r i).Len≤(gt r (i+1+d)).At:=by
   intro d
   induction d with
   | zero=>intro hd;simpa using h (i+1) (by omega) hd
   | succ d ih =>
    intro hd;have h1:=ih (by omega);have h2:=h (i+1+(d+1)) (by omega) hd;have e:i+1+(d+1) - 1=i+1+d:=by omega
    rw [e] at h2
    have h3:val (gt r (i+1+d))=true:=by
     rw [aqy (by omega)];exact jK.1 hv _ (jB _)
    have h3':=(ay6 _).1 h3;omega
  have:=key (j - i - 1) (by omega)
  have e:i+1+(j - i - 1)=j:=by omega
  rw [e,aqy hi,aqy hj] at this;exact this
 ·intro h j h0 hj
  have:=h (j - 1) j (by omega) hj (by omega)
  rw [aqy (by omega),aqy hj];exact this
theorem fqs (x:aj0):(trk x).Nodup:=(gyi x).imp fun h=>by omega
theorem gz1 {r:List aj0}:(trks r).Nodup↔r.Pairwise fun a b=>∀ x∈trk a,∀ y∈trk b,x≠y:=by
 unfold trks List.Nodup;rw [List.pairwise_flatMap];exact ⟨fun h=>h.2,fun h=>⟨fun a _=>fqs a,h⟩⟩
theorem fy3 {r:List aj0} (hv:r.all val=true) (hs:r.Pairwise fun x y=>x.At≤y.At):(trks r).Nodup↔r.Pairwise apart:=by
 rw [gz1];constructor
 ·intro h;refine List.Pairwise.imp_of_mem ?_ (hs.and h);rintro a b ha hb ⟨h1,h2⟩;have va:=(ay6 _).1 (jK.1 hv a ha);have vb:=(ay6 _).1 (jK.1 hv b hb);unfold apart;rcases Int.lt_or_le b.At (a.At+a.Len) with h3 | h3
  ·exact absurd rfl (h2 b.At (bkl.2 (by omega)) b.At (bkl.2 (by omega)))
  ·exact h3
 ·intro h;refine h.imp fun {a b} hab x hx y hy=>?_
  have:=bkl.1 hx
  have:=bkl.1 hy
  unfold apart at hab;omega
theorem akv (l:List aj0):(trkF [] l).isSome=true↔l.all val=true∧(trks l).Nodup:=by
 constructor
 ·intro h;obtain ⟨s,hs⟩:=j8.1 h;obtain ⟨h1,h2⟩:=ewe hs;have h3:=eky hs List.nodup_nil;rw [h1] at h3;exact ⟨h2,by simpa using h3⟩
 ·rintro ⟨h1,h2⟩;rw [dqy h1 (by simpa using h2)];rfl
theorem iqm {l:List aj0} (h:(trkF [] l).isSome=true):trkO l=trks l:=by
 obtain ⟨s,hs⟩:=j8.1 h;have h1:=(ewe hs).1;simp [trkO,hs,h1]
theorem gyb {l:List aj0} (h:(trkF [] l).isSome=false):trkO l=[]:=by
 have:trkF [] l=none:=by simpa using h
 simp [trkO,this]
theorem djq:∀ {l:List aj0},l.all val=true→l.length≤(trks l).length
 | [],_=>by simp
 | x :: l,h=>by
  simp only [JV,jf] at h
  have:=djq h.2
  have:=(ay6 _).1 h.1
  rw [bz4,ji,bzx,List.length_cons];omega
theorem gkb {r l:List aj0} (h:r.Perm l):(trks r).Perm (trks l):=h.flatMap_right trk
theorem hw3 {r l:List aj0} (h:r.Perm l):r.all val=l.all val:=by
 rw [J7,jK,jK];exact ⟨fun H x hx=>H x (h.mem_iff.2 hx),fun H x hx=>H x (h.mem_iff.1 hx)⟩
theorem gz3 (n:Nat) (r:List aj0) (hv:r.all val=true) (hn:r.length+1 < n) (hl:r.length≤1073741824):∃ y,ajg (fun (x:Int)=>azp n r x) n 1=some y∧((y = .inl false∧¬ adj r)∨(y = .inr ()∧adj r)):=by
 refine fwk (body:=fun (x:Int)=>azp n r x) (fun x=>∃ k:Nat,x=(k:Int)∧1≤k∧(k≤r.length∨k=1)∧∀ j,0 < j→j < k→j < r.length→(gt r (j - 1)).At+(gt r (j - 1)).Len≤(gt r j).At) (fun x=>r.length - x.toNat)
  _ ?_ n 1 ⟨1,rfl,Nat.le_refl _,.inr rfl,fun j h0 h1=>by omega⟩ (by omega)
 rintro x ⟨k,rfl,hk1,hk,hj⟩;by_cases hkl:k < r.length
 ·have c1:decide ((k:Int) < (r.length:Int))=true:=by simp;omega
  have e1:ja .i64 ((k:Int) - 1)=((k - 1:Nat):Int):=by rw [wid (by omega)];omega
  have c2:(0≤(k:Int)∧(k:Int) < (r.length:Int))∧(0≤((k - 1:Nat):Int)∧((k - 1:Nat):Int) < (r.length:Int))∧(0≤((k - 1:Nat):Int)∧((k - 1:Nat):Int) < (r.length:Int)):=by omega
  have v1:val (gt r (k - 1))=true:=by
   rw [aqy (by omega)];exact jK.1 hv _ (jB _)
  have v1':=(ay6 _).1 v1;simp only [azp,c1,ayp,if_true,e1,ajb _ c2,ju];rw [wid (n:=(gt r (k - 1)).At+(gt r (k - 1)).Len) (by omega)];by_cases b:(gt r k).At < (gt r (k - 1)).At+(gt r (k - 1)).Len
  ·refine .inr ⟨.inl false,by simp [b],.inl ⟨rfl,fun h=>?_⟩⟩
   have:=h k (by omega) hkl
   omega
  ·refine .inl ⟨((k+1:Nat):Int),by rw [wid (by omega)];simp [b],⟨k+1,rfl,by omega,.inl hkl,fun j h0 h1 h2=>?_⟩,by omega⟩;by_cases e:j=k
   ·subst e;omega
   ·exact hj j h0 (by omega) h2
 ·have c1:decide ((k:Int) < (r.length:Int))=false:=by simp;omega
  refine .inr ⟨.inr (),by simp only [azp,c1,ayp,jm,if_false],.inr ⟨rfl,fun j h0 h1=>hj j h0 (by omega) h1⟩⟩
theorem eyb (n:Nat) (hn:N0≤n) (l:List aj0) (hl:l.length≤1073741824):aq9 n l=some (trkF [] l).isSome:=by
 by_cases h512:512 < l.length
 ·have c1:decide ((l.length:Int) > 512)=true:=by simp;omega
  have:(trkF [] l).isSome=false:=by
   rw [← JM,akv];rintro ⟨h1,h2⟩
   have:=djq h1
   have:=few (m:=512) h2 (eks h1)
   omega
  simp only [aq9,c1,ayp,if_true,this]
 ·have c1:decide ((l.length:Int) > 512)=false:=by simp;omega
  have h:=bqb (n:=n) (body:=fun (x:Int)=>ay5 n l (l.length:Int) x) l (fun x=>!val x) (.inl false) (.inr ())
   (fun k hk=>by
    have h1:decide ((k:Int) < ((l.length:Nat):Int))=true:=by simp;omega
    have h2:0≤(k:Int)∧(k:Int) < (l.length:Int):=by omega
    simp only [ay5,h1,ayp,if_true,ju,ajb _ h2,aqy hk,gj8,je];rw [wid (by omega)]
    cases val l[k] <;> simp)
   (by simp [ay5,ayp]) (by unfold N0 at hn;omega)
  simp only [aq9,c1,ayp,jm,if_false];rw [h];by_cases hv:l.all val=true
  ·have ha:(l.any fun x=>!val x)=false:=by
    rw [← JM,List.any_eq_true];rintro ⟨x,hx,hx2⟩
    have:=jK.1 hv x hx
    simp [this] at hx2
   obtain ⟨r,r1,r2,r3⟩:=gzk n l (by omega);have hrl:=r2.length_eq;have hrv:r.all val=true:=by rw [hw3 r2];exact hv
   obtain ⟨y,y1,y2⟩:=gz3 n r hrv (by unfold N0 at hn;omega) (by omega);simp only [ha,jm,if_false,je,bjx,r1,y1]
   have e1:adj r↔(trks l).Nodup:=by
    rw [iq3 hrv,← fy3 hrv r3];exact (gkb r2).nodup_iff
   rcases y2 with ⟨rfl,hy⟩ | ⟨rfl,hy⟩
   ·have:(trkF [] l).isSome=false:=by
     rw [← JM,akv];rintro ⟨_,h2⟩;exact hy (e1.2 h2)
    simp [this]
   ·have:(trkF [] l).isSome=true:=(akv l).2 ⟨hv,e1.1 hy⟩
    simp [this,bq2]
  ·have ha:(l.any fun x=>!val x)=true:=by
    rw [List.any_eq_true];rw [JM,List.all_eq_false] at hv;obtain ⟨x,hx,hx2⟩:=hv;exact ⟨x,hx,by simpa using hx2⟩
   have:(trkF [] l).isSome=false:=by
    rw [← JM,akv];rintro ⟨h1,_⟩;exact hv h1
   simp [ha,this]
theorem fw8 (n:Nat) (hn:N0≤n) (l:List aj0) (hl:l.length≤2097152):az5 n l=some (trkF [] l).isSome:=by
 simp only [az5,ezt n l hn hl,je]
theorem hyc (n:Nat) (hn:N0≤n) (l:List aj0) (hl:l.length≤1073741824):bjm n l=some (((trkO l).length:Nat):Int):=by
 simp only [bjm,eyb n hn l hl,je];by_cases hs:(trkF [] l).isSome=true
 ·obtain ⟨hv,hnd⟩:=(akv l).1 hs;have h1:=djq hv;have h2:=few (m:=512) hnd (eks hv)
  have h:=cjl (n:=n) (σ:=Int) (body:=fun (x:Int×Int)=>azo n l (l.length:Int) x.1 x.2) l (fun k s=>(s,(k:Int))) (fun s x=>.inl (s+x.Len)) (fun s=>s) (fun k s=>0≤s∧s≤512 * (k:Int)) (s:=0) (by simp)
   (fun k hk s hs=>by
    have c1:decide ((k:Int) < (l.length:Int))=true:=by simp;omega
    have c2:0≤(k:Int)∧(k:Int) < (l.length:Int):=by omega
    have v:=(ay6 _).1 (jK.1 hv _ (jB hk));simp only [azo,c1,ayp,if_true,ajb _ c2,ju,aqy hk]
    rw [wid (by omega),wid (by omega)];simp)
   (fun k hk s hs s' hf=>by
    have v:=(ay6 _).1 (jK.1 hv _ (jB hk));simp only [Sum.inl.injEq] at hf
    omega)
   (fun s _=>by simp [azo,ayp]) (by unfold N0 at hn;omega)
  have e:∀ (l:List aj0) (s:Int),l.all val=true→runL (fun s x=>(.inl (s+x.Len):Int ⊕ Int)) (fun s=>s) l s=s+(((trks l).length:Nat):Int):=by
   intro l
   induction l with
   | nil=>intro s _;simp [runL,trks]
   | cons x l ih =>
    intro s hv;simp only [JV,jf] at hv;have v:=(ay6 _).1 hv.1;simp only [runL,ih _ hv.2,bz4,ji,bzx];omega
  rw [e l 0 hv] at h;have h':ajg (fun (x:Int×Int)=>azo n l (l.length:Int) x.1 x.2) n (0,0)=some (((trks l).length:Nat):Int):=by simpa using h
  simp only [hs,jR,ayp,jm,if_false,h',je,bqj,iqm hs]
 ·rw [JM] at hs;simp [hs,gyb hs]
theorem gkg (n:Nat) (hn:N0≤n) (l:List aj0) (hl:l.length≤2097152):bjd n l=some (((trkO l).length:Nat):Int):=by
 simp only [bjd,ezt n l hn hl,je]
def mn (a b:Int):Int:=if a < b then a else b
def fr (m:Int):Int→List aj0→List aj0
 | a,[]=>if a < m then [⟨a,m - a⟩] else []
 | a,x :: l=>(if a < mn m x.At then [⟨a,mn m x.At - a⟩] else []) ++ fr m (x.At+x.Len) l
inductive Sel:Nat→List aj0→Int→Prop
 | zero (r:List aj0):Sel 0 r 0
 | nil (c:Nat):Sel c [] 0
 | step (c:Nat) (r:List aj0) (k:Nat) (s:Int) (h:isL r k) (hs:Sel c (r.eraseIdx k) s):Sel (c+1) r ((gt r k).Len+s)
def mx (w:Int):Int:=if 0 > w then 0 else w
def t0 (w:Int) (x:aj0):Int:=if (if x.Len < w then x.Len else w) > 0 then (if x.Len < w then x.Len else w) else 0
end Go.Proofs.YtijnkhcfondehaaGreatDoor
