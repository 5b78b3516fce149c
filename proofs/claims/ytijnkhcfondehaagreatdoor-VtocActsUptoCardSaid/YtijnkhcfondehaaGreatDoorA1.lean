/- Text. -/
import Derived.Test.YtijnkhcfondehaaGreatDoorE
import Derived.Test.YtijnkhcfondehaaGreatDoorM
import Derived.Test.YtijnkhcfondehaaGreatDoorFL
set_option linter.unusedSimpArgs false
set_option linter.unusedVariables false
set_option maxHeartbeats 8000000
set_option maxRecDepth 100000
open _root_.Bool renaming false_eq_true→jj,true_and→Jk,not_false→jS,not_true→jK,and_eq_true→jf,or_eq_true→Jz,not_eq_true'→j9,eq_iff_iff→JP,not_eq_true→Ja
open _root_.Int renaming toNat_natCast→jn,lt_irrefl→Jj
open Go.IntKind renaming wrap→jd,bits→JF
open _root_.List renaming all_eq_true→jE,cons_append→JS,length_cons→jz,mem_cons→jO,getElem_mem→jw,getD_cons_zero→j5,getD_eq_getElem?_getD→ja,all_cons→JL,append_nil→Jy,nil_append→Jt,length_drop→jI,length_take→jl,take_add_one→JM,length_append→ji,take_length→JB,append_assoc→jQ,mem_flatMap→JQ,getElem_of_mem→j1,mem_cons_self→j8,pairwise_cons→JD,mem_cons_of_mem→Jv,pairwise_iff_getElem→Jd,getElem?_eq_getElem→Jq,length_set→jU
open _root_.Nat renaming le_refl→jA,le_trans→Jc,lt_or_ge→jD
open Go.Op renaming bytesLess→jG
open _root_.Option renaming bind_some→jc,isSome_some→Jo,getD_some→j7
namespace Go.Proofs.YtijnkhcfondehaaGreatDoor
open Go.AE
theorem dropWhile_nil {p:UInt8→Bool}:∀ {l:List UInt8},l.dropWhile p=[]↔∀ x∈l,p x=true
 | []=>by simp
 | x :: l=>by
  rw [List.dropWhile_cons]
  cases h:p x with
  | true=>simp [dropWhile_nil (l:=l),h]
  | false=>simp [h]
theorem cyq {p:UInt8→Bool}:∀ {l:List UInt8} {x:UInt8} {t:List UInt8},l.dropWhile p=x :: t→p x=false
 | [],x,t,h=>by simp at h
 | y :: l,x,t,h=>by
  rw [List.dropWhile_cons] at h
  cases hy:p y with
  | true=>rw [hy] at h;exact cyq (by simpa using h)
  | false =>
   rw [hy] at h
   simp only [jj,if_false,List.cons.injEq] at h
   rw [← h.1];exact hy
theorem gk9 (l cs:List UInt8):Go.Lib.trimS l cs=[]↔l.all (cs.contains ·)=true:=by
 have hr:Go.Lib.trimRightS l cs=[]↔l.all (cs.contains ·)=true:=by
  unfold Go.Lib.trimRightS
  rw [List.reverse_eq_nil_iff,dropWhile_nil,jE]
  simp
 rw [← hr]
 unfold Go.Lib.trimS Go.Lib.trimLeftS
 rw [dropWhile_nil]
 constructor
 ·intro h
  unfold Go.Lib.trimRightS at h ⊢
  rw [List.reverse_eq_nil_iff]
  cases hd:List.dropWhile (fun x=>cs.contains x) l.reverse with
  | nil=>rfl
  | cons x t =>
   exfalso
   have h1:=h x (by rw [hd];simp)
   have h2:=cyq hd
   rw [h1] at h2;cases h2
 ·intro h x hx
  rw [h] at hx;cases hx
theorem gz8 (l cs:List UInt8):(Go.Lib.trimS l cs != []) = !l.all (cs.contains ·):=by
 have h1:=gk9 l cs
 cases h3:l.all (cs.contains ·) with
 | true=>simpa using h1.2 h3
 | false =>
  have:¬ Go.Lib.trimS l cs=[]:=fun e=>by rw [h1.1 e] at h3;cases h3
  simpa using this
def letB (b:UInt8):Bool:=if (decide (((b.toNat:Nat):Int) ≥ 65))=true then (decide (((b.toNat:Nat):Int)≤90)) else false
def digB (b:UInt8):Bool:=if (decide (((b.toNat:Nat):Int) ≥ 48))=true then (decide (((b.toNat:Nat):Int)≤57)) else false
def othB (b:UInt8):Bool:=if (if (((b.toNat:Nat):Int) == 64)=true then true else (((b.toNat:Nat):Int) == 35))=true then true else (((b.toNat:Nat):Int) == 36)
def chB (b:UInt8):Bool:=letB b || digB b || othB b
def hjv:List UInt8:=[65,66,67,68,69,70,71,72,73,74,75,76,77,78,79,80,81,82,83,84,85,86,87,88,89,90,48,49,50,51,52,53,54,55,56,57,64,35,36]
def gyz:List UInt8:=[65,66,67,68,69,70,71,72,73,74,75,76,77,78,79,80,81,82,83,84,85,86,87,88,89,90,48,49,50,51,52,53,54,55,56,57]
theorem eqr (b:UInt8):hjv.contains b=chB b:=by
 have h:∀ k:Fin 256,hjv.contains (UInt8.ofNat k.val)=chB (UInt8.ofNat k.val):=by decide
 have:=h ⟨b.toNat,b.toNat_lt⟩
 simpa using this
theorem ew6 (b:UInt8):gyz.contains b=(letB b || digB b):=by
 have h:∀ k:Fin 256,gyz.contains (UInt8.ofNat k.val)=(letB (UInt8.ofNat k.val) || digB (UInt8.ofNat k.val)):=by decide
 have:=h ⟨b.toNat,b.toNat_lt⟩
 simpa using this
theorem hku (n:Nat) (l:List UInt8):∃ t,aqz n l hjv=some t∧(t != []) = !l.all chB:=by
 refine ⟨Go.Lib.trimS l hjv,?_,?_⟩
 ·rw [aqz,aj9 _ (by decide)]
 ·rw [gz8];congr 2;funext b;exact eqr b
theorem hzr (n:Nat) (l:List UInt8):∃ t,aqz n l gyz=some t∧(t != []) = !l.all (fun b=>letB b || digB b):=by
 refine ⟨Go.Lib.trimS l gyz,?_,?_⟩
 ·rw [aqz,aj9 _ (by decide)]
 ·rw [gz8];congr 2;funext b;exact ew6 b
def smp (p:List UInt8):Bool:=decide (1≤p.length) && decide (p.length≤8) && (p.all chB && !(match p with | []=>false | b :: _=>digB b))
def parts:List UInt8→List (List UInt8)
 | []=>[[]]
 | b :: l=>if b=46 then [] :: parts l else match parts l with
  | p :: ps=>(b :: p) :: ps
  | []=>[[b]]
theorem ey7:∀ s:List UInt8,parts s≠[]
 | []=>by simp [parts]
 | b :: l=>by
  unfold parts
  split
  ·simp
  ·split <;> simp
theorem dzd:∀ {s:List UInt8},46 ∉ s→parts s=[s]
 | [],_=>rfl
 | b :: l,h=>by
  have hb:b≠46:=fun e=>h (by simp [e])
  have hl:46 ∉ l:=fun e=>h (by simp [e])
  rw [parts,if_neg hb,dzd hl]
theorem fjf:∀ {a:List UInt8} (t:List UInt8),46 ∉ a→parts (a ++ 46 :: t)=a :: parts t
 | [],t,_=>by simp [parts]
 | b :: l,t,h=>by
  have hb:b≠46:=fun e=>h (by simp [e])
  have hl:46 ∉ l:=fun e=>h (by simp [e])
  rw [JS,parts,if_neg hb,fjf t hl]
theorem ewk:∀ {s:List UInt8},46 ∉ s→Go.Lib.indexByte s 46 = -1
 | [],_=>rfl
 | b :: l,h=>by
  have hb:b≠46:=fun e=>h (by simp [e])
  have hl:46 ∉ l:=fun e=>h (by simp [e])
  rw [Go.Lib.indexByte,ewk hl]
  simp [hb]
theorem fw9:∀ {a:List UInt8} (t:List UInt8),46 ∉ a→Go.Lib.indexByte (a ++ 46 :: t) 46=(a.length:Int)
 | [],t,_=>by simp [Go.Lib.indexByte]
 | b :: l,t,h=>by
  have hb:b≠46:=fun e=>h (by simp [e])
  have hl:46 ∉ l:=fun e=>h (by simp [e])
  rw [JS,Go.Lib.indexByte,fw9 t hl]
  have:¬ ((l.length:Int) = -1):=by omega
  simp [hb,this]
theorem hqe:∀ s:List UInt8,46 ∉ s∨∃ a t,s=a ++ 46 :: t∧46 ∉ a
 | []=>.inl (by simp)
 | b :: l=>by
  by_cases hb:b=46
  ·exact .inr ⟨[],l,by simp [hb],by simp⟩
  ·rcases hqe l with h | ⟨a,t,rfl,ha⟩
   ·exact .inl (by simp [h,Ne.symm hb])
   ·exact .inr ⟨b :: a,t,by simp,by simp [ha,Ne.symm hb]⟩
theorem dkq:∀ (k:Nat) (s:List UInt8),s.count 46≤k→Go.Lib.splitK [46] 0 k s=parts s
 | 0,s,h=>by
  have:46 ∉ s:=fun hm=>by have:=List.count_pos_iff.2 hm;omega
  rw [dzd this];rfl
 | k+1,s,h=>by
  rcases hqe s with hn | ⟨a,t,rfl,ha⟩
  ·rw [Go.Lib.splitK,Go.Lib.index_one,ewk hn,dzd hn];rfl
  ·rw [Go.Lib.splitK,Go.Lib.index_one,fw9 t ha,fjf t ha]
   have h1:¬ (((a.length:Nat):Int) = -1):=by omega
   have h2:t.count 46≤k:=by
    rw [List.count_append,List.count_cons_self] at h;omega
   simp only [beq_iff_eq,h1,if_false,jn,Nat.add_zero,List.take_left,List.length_singleton]
   have:(a ++ 46 :: t).drop (a.length+1)=t:=by
    rw [show a ++ 46 :: t=(a ++ [46]) ++ t by simp,show a.length+1=(a ++ [46]).length by simp,List.drop_left]
   rw [this,dkq k t h2]
theorem fze (n:Nat) (s:List UInt8) (h:s.length < 4294967281):strings_Split n s [46]=some (parts s):=by
 rw [strings_Split,aj9 _ ⟨h,rfl⟩]
 unfold Go.Lib.split
 rw [dkq _ _ (by rw [Go.Lib.count_one];exact jA _)]
theorem fqr:∀ s:List UInt8,(parts s).length≤s.length+1
 | []=>by simp [parts]
 | b :: l=>by
  have:=fqr l
  unfold parts
  split
  ·simp only [jz];omega
  ·split
   ·rename_i p ps hp;rw [hp] at this;simp only [jz] at this ⊢;omega
   ·simp
def dj4 (s:List UInt8):Bool:=decide (s.length≤44) && (parts s).all smp
theorem gy6 {s p:List UInt8} (h:p∈parts s):p.length≤s.length:=by
 induction s generalizing p with
 | nil=>simp [parts] at h;subst h;simp
 | cons b l ih =>
  unfold parts at h
  split at h
  ·rcases jO.1 h with rfl | h
   ·simp
   ·have:=ih h;simp only [jz];omega
  ·split at h
   ·rename_i q ps hp
    rcases jO.1 h with rfl | h
    ·have:=ih (p:=q) (by rw [hp];simp);simp only [jz];omega
    ·have:=ih (p:=p) (by rw [hp];simp [h]);simp only [jz];omega
   ·simp at h;subst h;simp
theorem fzh (n:Nat) (s:List UInt8) (hn:N0≤n):by8 n s=some (dj4 s):=by
 have hn0:4194304≤n:=hn
 unfold by8 dj4
 by_cases h44:s.length≤44
 ·have h1:decide ((s.length:Int) > 44)=false:=decide_eq_false (by omega)
  have h2:decide (s.length≤44)=true:=decide_eq_true h44
  rw [h1,cond_false,fze n s (by omega),h2,Jk,jc]
  have hpl:=fqr s
  have key:ajk (fun (x:Int)=>bzd n (parts s) (((parts s).length:Nat):Int) x) n 0=some (if (parts s).any (fun p=>!smp p)=true then .inl false else .inr ()):=by
   refine bqy (parts s) (fun p=>!smp p) _ _ (fun k hk=>?_) ?_ (by omega)
   ·have hlt:((k:Nat):Int) < (((parts s).length:Nat):Int):=by omega
    have h0:(0:Int)≤(k:Int):=by omega
    unfold bzd
    have hpk:=gy6 (jw hk)
    simp only [decide_eq_true hlt,cond_true,jn,aqf hk]
    rw [aj9 _ ⟨⟨h0,hlt⟩,hk⟩]
    generalize (parts s)[k]=p at hpk ⊢
    rw [wid (n:=(k:Int)+1) (by omega)]
    obtain ⟨t,ht1,ht2⟩:=hku n p
    have ht1':aqz n p [65,66,67,68,69,70,71,72,73,74,75,76,77,78,79,80,81,82,83,84,85,86,87,88,89,90,48,49,50,51,52,53,54,55,56,57,64,35,36]=some t:=ht1
    rw [ht1']
    cases p with
    | nil=>simp [smp,gd]
    | cons b q =>
     have e1:decide (((b :: q).length:Int) < 1)=false:=decide_eq_false (by simp only [jz];omega)
     have e0:(0:Int) < ((b :: q).length:Int):=by simp only [jz];omega
     simp only [e1,e0,implies_true,and_self,jj,if_false,j5,jc,ht2]
     rw [aj9 _ trivial]
     have e5:decide (1≤(b :: q).length)=true:=decide_eq_true (by simp only [jz];omega)
     have e6:decide (((b :: q).length:Int) > 8) = !decide ((b :: q).length≤8):=by
      by_cases h:(b :: q).length≤8
      ·rw [decide_eq_true h,decide_eq_false (by omega)];rfl
      ·rw [decide_eq_false h,decide_eq_true (by omega)];rfl
     have e7:(if (decide (((b.toNat:Nat):Int) ≥ 48))=true then (decide (((b.toNat:Nat):Int)≤57)) else false)=digB b:=rfl
     simp only [e6,e7,smp,e5,Jk]
     cases decide ((b :: q).length≤8) <;> cases digB b <;> cases (b :: q).all chB <;> rfl
   ·unfold bzd
    simp only [Jj,decide_false,cond_false]
  rw [key,jc]
  have ha:(parts s).any (fun p=>!smp p) = !(parts s).all smp:=by
   rw [List.all_eq_not_any_not];simp
  rw [ha]
  cases (parts s).all smp <;> rfl
 ·have h1:decide ((s.length:Int) > 44)=true:=decide_eq_true (by omega)
  have h2:decide (s.length≤44)=false:=decide_eq_false h44
  rw [h1,h2];rfl
theorem ezi (n:Nat) (b:UInt8):bzr n (((b.toNat:Nat):Int))=some (letB b):=rfl
theorem eyq (n:Nat) (b:UInt8):bjp n (((b.toNat:Nat):Int))=some (digB b):=rfl
theorem fq9 (n:Nat) (p:List UInt8) (hn:p.length < n) (hp:p.length≤1099511627776):bzt n p=some (smp p):=by
 unfold bzt
 have key:=azy (σ:=Nat) (body:=fun (x:Int)=>azr n p x) p (fun k _=>(k:Int)) (fun s b=>if (!letB b && !othB b && (s == 0 || !digB b))=true then .inr (.inl false) else .inl (s+1)) (fun _=>.inr ()) (fun k s=>s=k) (s:=0) rfl
  (fun k hk s hI=>by
   subst hI
   have hlt:((s:Nat):Int) < (p.length:Int):=by omega
   have h0:(0:Int)≤(s:Int):=by omega
   have hg:p.getD s 0=p[s]:=by simp [ja,hk]
   unfold azr
   simp only [decide_eq_true hlt,cond_true,jn,hg,h0,hlt,and_self,implies_true]
   rw [aj9 _ trivial,aj9 _ trivial]
   generalize p[s]=b
   rw [ezi,jc]
   simp only [eyq,Jo,j7,implies_true,true_and]
   have eo:(if (if (((b.toNat:Nat):Int) == 64)=true then true else (((b.toNat:Nat):Int) == 35))=true then true else (((b.toNat:Nat):Int) == 36))=othB b:=rfl
   have ez:(((s:Nat):Int) == 0)=(s == 0):=by
    by_cases h:s=0
    ·subst h;rfl
    ·have:¬ ((s:Int)=0):=by omega
     rw [beq_eq_false_iff_ne.2 this,beq_eq_false_iff_ne.2 h]
   rw [eo,ez,wid (n:=(s:Int)+1) (by omega)]
   rw [aj9 _ (by intro h;simpa using h)]
   cases letB b <;> cases othB b <;> cases (s == 0) <;> cases digB b <;> rfl)
  (fun k hk s hI s' he=>by
   subst hI
   split at he
   ·cases he
   ·simp only [Sum.inl.injEq] at he;omega)
  (fun s hs=>by
   subst hs
   unfold azr
   simp only [Jj,decide_false,cond_false]) hn
 have key':ajk (fun (x:Int)=>azr n p x) n 0=_:=key
 rw [key',jc]
 have tail:∀ (q:List UInt8) (s:Nat),s≠0→runL (fun (s:Nat) b=>if (!letB b && !othB b && (s == 0 || !digB b))=true then (.inr (.inl false):Nat ⊕ (Bool ⊕ Unit)) else .inl (s+1)) (fun _=>.inr ()) q s=cond (q.all chB) (.inr ()) (.inl false):=by
  intro q
  induction q with
  | nil=>intro s _;rfl
  | cons b q ih =>
   intro s hs
   have hz:(s == 0)=false:=by simpa using hs
   have hih:=ih (s+1) (by omega)
   simp only [runL,hz,Bool.false_or,JL]
   have e:(!letB b && !othB b && !digB b) = !chB b:=by unfold chB;cases letB b <;> cases othB b <;> cases digB b <;> rfl
   rw [e]
   rcases Bool.eq_false_or_eq_true (chB b) with h | h
   ·rw [h];simpa using hih
   ·rw [h];rfl
 cases p with
 | nil=>simp [runL,azo,smp]
 | cons b q =>
  have ht:=tail q 1 (by omega)
  simp only [runL,beq_self_eq_true,Bool.true_or,Bool.and_true]
  have el:decide (1≤(b :: q).length)=true:=decide_eq_true (by simp only [jz];omega)
  have el1:decide (((b :: q).length:Int) ≥ 1)=true:=decide_eq_true (by simp only [jz];omega)
  have el2:decide (((b :: q).length:Int)≤8)=decide ((b :: q).length≤8):=by
   by_cases h:(b :: q).length≤8
   ·rw [decide_eq_true h,decide_eq_true (by omega)]
   ·rw [decide_eq_false h,decide_eq_false (by omega)]
  have ek:azo n (b :: q)=some (decide ((b :: q).length≤8)):=by simp only [azo,el1,el2,if_true]
  have hx:∀ b:UInt8,(letB b || othB b)=true→digB b=false:=by
   intro b
   have h:∀ k:Fin 256,(letB (UInt8.ofNat k.val) || othB (UInt8.ofNat k.val))=true→digB (UInt8.ofNat k.val)=false:=by decide
   have:=h ⟨b.toNat,b.toNat_lt⟩
   simpa using this
  have hxb:=hx b
  simp only [smp,el,Jk,JL]
  cases hl:letB b <;> cases ho:othB b <;> simp only [hl,ho,jS,jK,Bool.and_self,Bool.and_false,Bool.false_and,Bool.or_false,Bool.or_true,Bool.false_or,Bool.true_or,if_true,jj,if_false] at hxb ⊢
  ·unfold chB
   rw [hl,ho]
   cases digB b <;> simp
  all_goals
   have hd:=hxb trivial
   have hc:chB b=true:=by unfold chB;rw [hl,ho];simp
   simp only [Nat.zero_add,ht,ek,hc,hd,Jk,jS,Bool.and_true]
   cases q.all chB <;> simp
end Go.Proofs.YtijnkhcfondehaaGreatDoor
/-
 ch. 21: names by the specification; serials, empty tables.
-/
namespace Go.Proofs.YtijnkhcfondehaaGreatDoor
open Go.AE
def goN:List UInt8→List UInt8→Bool
 | cur,[]=>smp cur
 | cur,b :: r=>if b=46 then smp cur && goN [] r else goN (cur ++ [b]) r
theorem eq1:∀ (r cur:List UInt8),goN cur r=match parts r with | p :: ps=>smp (cur ++ p) && ps.all smp | []=>false
 | [],cur=>by simp [goN,parts]
 | b :: r,cur=>by
  rw [goN,parts]
  by_cases hb:b=46
  ·rw [if_pos hb,if_pos hb,eq1 r []]
   simp only [Jy,Jt]
   cases hp:parts r with
   | nil=>exact absurd hp (ey7 r)
   | cons p ps=>simp
  ·rw [if_neg hb,if_neg hb,eq1 r (cur ++ [b])]
   cases hp:parts r with
   | nil=>exact absurd hp (ey7 r)
   | cons p ps=>simp
theorem hwp (s:List UInt8):goN [] s=(parts s).all smp:=by
 rw [eq1]
 cases hp:parts s with
 | nil=>exact absurd hp (ey7 s)
 | cons p ps=>simp
theorem ek5 (n:Nat) (s:List UInt8) (hn:N0≤n) (hs:s.length≤2097152):∀ (j f i m:Nat),i+j=s.length→f≤i→j+1 < m →
  ajk (fun (x:Int×Int)=>aw2 n s x.1 x.2) m ((f:Int),(i:Int))=some (if goN (List.drop f (List.take i s)) (s.drop i)=true then .inr () else .inl false)
 | 0,f,i,m,hj,hf,hm=>by
  have hn0:4194304≤n:=hn
  have hi:i=s.length:=by omega
  obtain ⟨m,rfl⟩:∃ q,m=q+1+1:=⟨m - 2,by omega⟩
  have h1:decide ((i:Int)≤(s.length:Int))=true:=decide_eq_true (by omega)
  have h2:((i:Int) == (s.length:Int))=true:=by simp;omega
  have hd:s.drop i=[]:=List.drop_eq_nil_of_le (by omega)
  have hb:aw2 n s (f:Int) (i:Int)=some (if smp (List.drop f (List.take i s))=true then .inl (((i+1:Nat):Int),((i+1:Nat):Int)) else .inr (.inl false)):=by
   unfold aw2
   rw [h1,cond_true,h2]
   simp only [jK,jj,false_implies,if_true,cond_true,jn]
   rw [aj9 _ trivial,aj9 _ (by omega),fq9 n _ (by simp only [jI,jl];omega) (by simp only [jI,jl];omega),jc]
   rw [wid (n:=(i:Int)+1) (by omega)]
   simp only [ak6,wid (n:=(i:Int)+1) (by omega)]
   cases smp (List.drop f (List.take i s)) <;> rfl
  rw [hd,goN]
  cases hsm:smp (List.drop f (List.take i s)) with
  | false =>
   rw [hsm] at hb
   rw [ajn (y:=.inl false) (by simpa using hb)];simp
  | true =>
   rw [hsm] at hb
   rw [aju (x':=(((i+1:Nat):Int),((i+1:Nat):Int))) (by simpa using hb)]
   have he:aw2 n s ((i+1:Nat):Int) ((i+1:Nat):Int)=some (.inr (.inr ())):=by
    unfold aw2
    rw [decide_eq_false (by omega),cond_false]
   rw [ajn he];simp
 | j+1,f,i,m,hj,hf,hm=>by
  have hn0:4194304≤n:=hn
  obtain ⟨m,rfl⟩:∃ q,m=q+1:=⟨m - 1,by omega⟩
  have hlt:i < s.length:=by omega
  have h1:decide ((i:Int)≤(s.length:Int))=true:=decide_eq_true (by omega)
  have h2:((i:Int) == (s.length:Int))=false:=by simp;omega
  have hd:s.drop i=s[i] :: s.drop (i+1):=List.drop_eq_getElem_cons hlt
  have hg:s.getD i 0=s[i]:=by simp [ja,hlt]
  have ht:List.take (i+1) s=List.take i s ++ [s[i]]:=by rw [JM];simp [hlt]
  have e46:((((s[i]).toNat:Nat):Int) == 46)=decide (s[i]=46):=by
   generalize s[i]=b
   have h:∀ k:Fin 256,((((UInt8.ofNat k.val).toNat:Nat):Int) == 46)=decide ((UInt8.ofNat k.val)=46):=by decide
   have:=h ⟨b.toNat,b.toNat_lt⟩
   simpa using this
  have hb:aw2 n s (f:Int) (i:Int)=some (if s[i]=46 then (if smp (List.drop f (List.take i s))=true then .inl (((i+1:Nat):Int),((i+1:Nat):Int)) else .inr (.inl false)) else .inl ((f:Int),((i+1:Nat):Int))):=by
   unfold aw2
   rw [h1,cond_true,h2]
   simp only [jS,jj,if_false,jn,hg,e46]
   rw [aj9 _ (fun _=>by omega)]
   by_cases hc:s[i]=46
   ·rw [if_pos hc,decide_eq_true hc,cond_true]
    rw [aj9 _ (by omega),fq9 n _ (by simp only [jI,jl];omega) (by simp only [jI,jl];omega),jc]
    rw [wid (n:=(i:Int)+1) (by omega)]
    simp only [ak6,wid (n:=(i:Int)+1) (by omega)]
    cases smp (List.drop f (List.take i s)) <;> rfl
   ·rw [if_neg hc,decide_eq_false hc,cond_false]
    simp only [ak6,wid (n:=(i:Int)+1) (by omega)]
    rfl
  rw [hd,goN]
  by_cases hc:s[i]=46
  ·rw [if_pos hc] at hb ⊢
   cases hsm:smp (List.drop f (List.take i s)) with
   | false =>
    rw [hsm] at hb
    rw [ajn (y:=.inl false) (by simpa using hb)];simp
   | true =>
    rw [hsm] at hb
    rw [aju (x':=(((i+1:Nat):Int),((i+1:Nat):Int))) (by simpa using hb),ek5 n s hn hs j (i+1) (i+1) m (by omega) (by omega) (by omega)]
    have:List.drop (i+1) (List.take (i+1) s)=[]:=List.drop_eq_nil_of_le (by rw [jl];omega)
    rw [this];simp
  ·rw [if_neg hc] at hb ⊢
   rw [aju (x':=((f:Int),((i+1:Nat):Int))) hb,ek5 n s hn hs j f (i+1) m (by omega) (by omega) (by omega),ht]
   have:List.drop f (List.take i s ++ [s[i]])=List.drop f (List.take i s) ++ [s[i]]:=by
    rw [List.drop_append_of_le_length (by rw [jl];omega)]
   rw [this]
theorem eym (n:Nat) (s:List UInt8) (hn:N0≤n) (hs:s.length≤2097152):bwr n s=some (dj4 s):=by
 have hn0:4194304≤n:=hn
 unfold bwr dj4
 have:=ek5 n s hn hs s.length 0 0 n (by omega) (by omega) (by omega)
 simp only [List.take_zero,List.drop_nil,List.drop_zero,hwp] at this
 have this':ajk (fun (x:Int×Int)=>aw2 n s x.1 x.2) n (0,0)=some (if (parts s).all smp=true then .inr () else .inl false):=this
 rw [this',jc]
 have e:decide ((s.length:Int)≤44)=decide (s.length≤44):=by
  by_cases h:s.length≤44
  ·rw [decide_eq_true h,decide_eq_true (by omega)]
  ·rw [decide_eq_false h,decide_eq_false (by omega)]
 cases (parts s).all smp with
 | true=>simp only [if_true,bk5,e,Bool.and_true]
 | false=>simp
def serB (s:List UInt8):Bool:=decide (1≤s.length) && decide (s.length≤6) && s.all (fun b=>letB b || digB b)
def inB (x lo hi:Int):Bool:=decide (lo≤x) && decide (x≤hi)
theorem gzd (n:Nat) (x lo hi:Int):aqa n x lo hi=some (inB x lo hi):=by
 unfold aqa inB
 by_cases h:lo≤x
 ·simp [h]
 ·simp [h]
theorem fqh (n:Nat) (x lo hi:Int):ajm n x lo hi=some (inB x lo hi):=by
 unfold ajm inB
 by_cases h:lo≤x
 ·have:x ≥ lo:=h
  simp [h,this]
 ·have:¬ (x ≥ lo):=h
  simp [h,this]
theorem gqu (s:List UInt8):inB (s.length:Int) 1 6=(decide (1≤s.length) && decide (s.length≤6)):=by
 unfold inB
 congr 1 <;> (apply decide_eq_decide.2;omega)
theorem gk0 (n:Nat) (s:List UInt8) (hn:s.length < n) (hs:s.length≤2097152):bzp n s=some (serB s):=by
 unfold bzp
 have key:ajk (fun (x:Int)=>ay4 n s x) n 0=some (if s.any (fun b=>!(letB b || digB b))=true then .inl false else .inr ()):=by
  refine bqy s (fun b=>!(letB b || digB b)) _ _ (fun k hk=>?_) ?_ hn
  ·have hlt:((k:Nat):Int) < (s.length:Int):=by omega
   have h0:(0:Int)≤(k:Int):=by omega
   have hg:s.getD k 0=s[k]:=by simp [ja,hk]
   unfold ay4
   simp only [decide_eq_true hlt,cond_true,jn,hg,h0,hlt,and_self,implies_true]
   rw [aj9 _ trivial,ezi,jc,eyq]
   simp only [Jo,j7,implies_true,and_self]
   rw [aj9 _ trivial,wid (n:=(k:Int)+1) (by omega)]
   cases letB s[k] <;> cases digB s[k] <;> rfl
  ·unfold ay4
   simp only [Jj,decide_false,cond_false]
 rw [key,jc]
 have ha:s.any (fun b=>!(letB b || digB b)) = !s.all (fun b=>letB b || digB b):=by rw [List.all_eq_not_any_not];simp
 rw [ha]
 unfold serB
 cases s.all (fun b=>letB b || digB b) with
 | false=>simp
 | true=>simp only [jK,jj,if_false,bw1,fqh,jc,gqu,Bool.and_true]
def fqg (s:List UInt8) (c h z:Int):Bool:=serB s && inB c 1 64 && inB h 1 8 && inB z 1 (jd .i64 (jd .i64 (c * h) - 1))
theorem gzv {s:List UInt8} {c h z:Int} (hh:fqg s c h z=true):1≤z∧z≤511:=by
 simp only [fqg,inB,jf,decide_eq_true_eq] at hh
 obtain ⟨⟨⟨_,h1,h2⟩,h3,h4⟩,h5,h6⟩:=hh
 have e1:1≤c * h:=by
  have:0 < c * h:=Int.mul_pos (by omega) (by omega)
  omega
 have e2:c * h≤512:=by
  have a:c * h≤64 * h:=Int.mul_le_mul_of_nonneg_right h2 (by omega)
  omega
 rw [wid (n:=c * h) (by omega),wid (n:=c * h - 1) (by omega)] at h6
 omega
theorem gy8:cqr N0=some true:=by decide +kernel
end Go.Proofs.YtijnkhcfondehaaGreatDoor
/-
 ch. 21: valid tables, by the program and by the specification.
-/
namespace Go.Proofs.YtijnkhcfondehaaGreatDoor
open Go.AE
def dscB (d:TDcb):Bool:=inB d.Org 1 3 && inB d.Format 1 3 && inB d.Lrecl 0 1024 && inB d.Blksize 0 1024 && inB d.KeyPos 0 1024 && inB d.KeyLen 0 64
theorem fwx (n:Nat) (d:TDcb):aqn n d=some (dscB d):=by
 simp only [aqn,gzd,jc,Jo,j7,implies_true,and_self,dyu]
 rw [aj9 _ trivial];rfl
theorem eyk (n:Nat) (d:TDcb):ajz n d=some (dscB d):=by
 simp only [ajz,fqh,jc,Jo,j7,implies_true,and_self,dyu]
 rw [aj9 _ trivial];rfl
def exts (l:List aj6):List aj0:=l.flatMap (·.Extents)
def capV (v:aj5):Int:=jd .i64 (v.Cyls * v.Heads)
def dqy (v:aj5) (x:aj0):Bool:=decide (jd .i64 (x.At+x.Len) > capV v)
def pLbl (v:aj5) (d:aj6):Bool:=dj4 d.Name && dscB d.Dcb && inB (d.Extents.length:Int) 1 8 && (trkF [] d.Extents).isSome && !d.Extents.any (dqy v) && inB d.Used 0 (((trkO d.Extents).length:Nat):Int)
def rLbl (v:aj5) (d:aj6):Bool:=!d.Extents.any (fun x=>decide (x.At≤v.Size) || dqy v x) && (dj4 d.Name && dscB d.Dcb && inB (d.Extents.length:Int) 1 8 && (trkF [] d.Extents).isSome && inB d.Used 0 (((trkO d.Extents).length:Nat):Int))
theorem aqf {α:Type} [Inhabited α] {l:List α} {k:Nat} (h:k < l.length):gt l k=l[k]:=by simp [gt,ja,h]
theorem hzi (n:Nat) (hn:N0≤n) (v:aj5) (d:aj6) (hd:d.Extents.length≤1048576):ay6 n v d=some (pLbl v d):=by
 have hn0:4194304≤n:=hn
 unfold ay6
 simp only [fzh n _ hn,fwx,gzd,djp n hn d.Extents (by omega),jc,Jo,j7,implies_true,and_self]
 rw [aj9 _ trivial]
 have e1:(if (if (if (!dj4 d.Name)=true then true else !dscB d.Dcb)=true then true else !inB (d.Extents.length:Int) 1 8)=true then true else !(trkF [] d.Extents).isSome) = !(dj4 d.Name && dscB d.Dcb && inB (d.Extents.length:Int) 1 8 && (trkF [] d.Extents).isSome):=by
  simp only [dw6,Bool.not_and]
 rw [e1]
 unfold pLbl
 cases (dj4 d.Name && dscB d.Dcb && inB (d.Extents.length:Int) 1 8 && (trkF [] d.Extents).isSome) with
 | false=>simp
 | true =>
  simp only [jK,cond_false,Jk]
  have key:ajk (fun (x:Int)=>azc n v d (d.Extents.length:Int) x) n 0=some (if d.Extents.any (dqy v)=true then .inl false else .inr ()):=by
   refine bqy d.Extents (dqy v) _ _ (fun k hk=>?_) ?_ (by omega)
   ·have hlt:((k:Nat):Int) < (d.Extents.length:Int):=by omega
    unfold azc
    rw [decide_eq_true hlt,cond_true,aj9 _ ⟨by omega,hlt⟩,jn,aqf hk,wid (n:=(k:Int)+1) (by omega)]
    show (bif dqy v d.Extents[k] then _ else _)=_
    cases dqy v d.Extents[k] <;> rfl
   ·unfold azc
    simp only [Jj,decide_false,cond_false]
  rw [key,jc]
  cases d.Extents.any (dqy v) with
  | true=>simp
  | false=>simp only [jj,if_false,akn,fyg n hn d.Extents (by omega),gzd,jc,jS,Jk]
theorem gyh (n:Nat) (hn:N0≤n) (v:aj5) (d:aj6) (hd:d.Extents.length≤1048576) (hs:d.Name.length≤2097152):bkw n v d=some (rLbl v d):=by
 have hn0:4194304≤n:=hn
 unfold bkw
 have key:ajk (fun (x:Int)=>bj9 n v d x) n 0=some (if d.Extents.any (fun x=>decide (x.At≤v.Size) || dqy v x)=true then .inl false else .inr ()):=by
  refine bqy d.Extents (fun x=>decide (x.At≤v.Size) || dqy v x) _ _ (fun k hk=>?_) ?_ (by omega)
  ·have hlt:((k:Nat):Int) < (d.Extents.length:Int):=by omega
   unfold bj9
   rw [decide_eq_true hlt,cond_true,aj9 _ ⟨by omega,hlt⟩,jn,aqf hk,wid (n:=(k:Int)+1) (by omega),dw6]
   show (bif (decide (d.Extents[k].At≤v.Size) || dqy v d.Extents[k]) then _ else _)=_
   cases (decide (d.Extents[k].At≤v.Size) || dqy v d.Extents[k]) <;> rfl
  ·unfold bj9
   simp only [Jj,decide_false,cond_false]
 rw [key,jc]
 unfold rLbl
 cases d.Extents.any (fun x=>decide (x.At≤v.Size) || dqy v x) with
 | true=>simp
 | false =>
  simp only [jj,if_false,bzb,eym n _ hn hs,eyk,fqh,cjm n hn d.Extents (by omega),fjs n hn d.Extents (by omega),jc,Jo,j7,implies_true,and_self,jS,Jk]
  rw [aj9 _ trivial]
  simp only [dyu]
def ordB (l:List aj6) (k:Nat):Bool:=decide (0 < k) && !jG (gt l (k - 1)).Name (gt l k).Name
def pBad (v:aj5) (k:Nat):Bool:=!pLbl v (gt v.Sets k) || ordB v.Sets k
def rBad (v:aj5) (k:Nat):Bool:=!rLbl v (gt v.Sets k) || ordB v.Sets k
def bj5 (v:aj5):Prop:=v.Sets.length≤70∧v.Serial.length≤100∧∀ d∈v.Sets,d.Name.length≤100∧d.Extents.length≤20
theorem gzj (d:aj6) (l:List aj6):exts (d :: l)=d.Extents ++ exts l:=rfl
theorem gyv (a b:List aj6):exts (a ++ b)=exts a ++ exts b:=by simp [exts]
theorem cq5:∀ {l:List aj6},(∀ d∈l,d.Name.length≤100∧d.Extents.length≤20)→(exts l).length≤20 * l.length
 | [],_=>by simp [exts]
 | d :: l,h=>by
  have h1:=(h d (by simp)).2
  have h2:=cq5 (l:=l) fun x hx=>h x (by simp [hx])
  rw [gzj,ji,jz];omega
theorem ejh {l:List aj6} {k:Nat} (h:k < l.length):exts (l.take (k+1))=exts (l.take k) ++ (gt l k).Extents:=by
 rw [JM,gyv,aqf h]
 simp [h,exts]
theorem ewt (n:Nat) (hn:N0≤n) (v:aj5) (hv:bj5 v) (u0:List aj0) (hu:u0.length≤1):∀ j k m,k+j=v.Sets.length→j < m →
  ajk (fun (x:(List aj0)×Int)=>ak4 n v (v.Sets.length:Int) x.1 x.2) m (u0 ++ exts (v.Sets.take k),(k:Int))=some (if (List.range' k j).any (pBad v)=true then .inl 5 else .inr (u0 ++ exts v.Sets))
 | 0,k,m,hj,hm=>by
  obtain ⟨m,rfl⟩:∃ q,m=q+1:=⟨m - 1,by omega⟩
  have hk:k=v.Sets.length:=by omega
  subst hk
  refine (ajn (y:=.inr (u0 ++ exts v.Sets)) ?_).trans (by simp)
  unfold ak4
  simp only [Jj,decide_false,cond_false,JB]
 | j+1,k,m,hj,hm=>by
  obtain ⟨h1,h2,h3⟩:=hv
  obtain ⟨m,rfl⟩:∃ q,m=q+1:=⟨m - 1,by omega⟩
  have hk:k < v.Sets.length:=by omega
  have hlt:((k:Nat):Int) < (v.Sets.length:Int):=by omega
  have hmem:gt v.Sets k∈v.Sets:=by rw [aqf hk];exact jw hk
  have hx:=(h3 _ hmem).2
  have hb:ak4 n v (v.Sets.length:Int) (u0 ++ exts (v.Sets.take k)) (k:Int)=some (if pBad v k=true then .inr (.inl 5) else .inl (u0 ++ exts (v.Sets.take (k+1)),((k+1:Nat):Int))):=by
   unfold ak4
   have hel:=cq5 (l:=v.Sets.take k) fun d hd=>h3 d (List.mem_of_mem_take hd)
   rw [jl] at hel
   have hap:(u0 ++ exts (v.Sets.take k)).length+(gt v.Sets k).Extents.length≤2147483648:=by rw [ji];omega
   simp only [decide_eq_true hlt,cond_true,jn,hzi n hn v _ (Jc hx (by decide)),jc]
   rw [aj9 _ ⟨by omega,hlt⟩,aj9 _ (by
    intro hc
    simp only [jf,decide_eq_true_eq] at hc
    rw [wid (n:=(k:Int) - 1) (by omega)];omega)]
   have eo:(if decide ((k:Int) > 0)=true then !jG (gt v.Sets (jd .i64 ((k:Int) - 1)).toNat).Name (gt v.Sets k).Name else false)=ordB v.Sets k:=by
    unfold ordB
    rw [dyu]
    by_cases h0:0 < k
    ·have:(k:Int) > 0:=by omega
     have e:(jd .i64 ((k:Int) - 1)).toNat=k - 1:=by rw [wid (by omega)];omega
     rw [e,decide_eq_true this,decide_eq_true h0]
    ·have:¬ ((k:Int) > 0):=by omega
     rw [decide_eq_false this,decide_eq_false h0];rfl
   rw [eo,dw6,aj9 _ hap,wid (n:=(k:Int)+1) (by omega),ejh hk]
   show (bif pBad v k then _ else _)=_
   rw [← jQ]
   cases pBad v k <;> rfl
  rw [List.range'_succ,List.any_cons]
  cases hp:pBad v k with
  | true =>
   rw [hp] at hb
   rw [ajn (y:=.inl 5) (by simpa using hb)];simp
  | false =>
   rw [hp] at hb
   rw [aju (x':=(u0 ++ exts (v.Sets.take (k+1)),((k+1:Nat):Int))) (by simpa using hb),ewt n hn v ⟨h1,h2,h3⟩ u0 hu j (k+1) m (by omega) (by omega),Bool.false_or]
theorem dks (n:Nat) (hn:N0≤n) (v:aj5) (hv:bj5 v):∀ j k m,k+j=v.Sets.length→j < m →
  ajk (fun (x:Int)=>azh n v x) m (k:Int)=some (if (List.range' k j).any (rBad v)=true then .inl false else .inr ())
 | 0,k,m,hj,hm=>by
  obtain ⟨m,rfl⟩:∃ q,m=q+1:=⟨m - 1,by omega⟩
  have hk:k=v.Sets.length:=by omega
  subst hk
  refine (ajn (y:=.inr ()) ?_).trans (by simp)
  unfold azh
  simp only [Jj,decide_false,cond_false]
 | j+1,k,m,hj,hm=>by
  obtain ⟨h1,h2,h3⟩:=hv
  obtain ⟨m,rfl⟩:∃ q,m=q+1:=⟨m - 1,by omega⟩
  have hk:k < v.Sets.length:=by omega
  have hlt:((k:Nat):Int) < (v.Sets.length:Int):=by omega
  have hmem:gt v.Sets k∈v.Sets:=by rw [aqf hk];exact jw hk
  have hx:=h3 _ hmem
  have hb:azh n v (k:Int)=some (if rBad v k=true then .inr (.inl false) else .inl ((k+1:Nat):Int)):=by
   unfold azh
   simp only [decide_eq_true hlt,cond_true,jn,gyh n hn v _ (Jc hx.2 (by decide)) (Jc hx.1 (by decide)),jc]
   rw [aj9 _ ⟨by omega,hlt⟩,aj9 _ (by
    refine ⟨fun hc=>?_,fun _=>⟨by omega,hlt⟩⟩
    simp only [jf,decide_eq_true_eq] at hc
    rw [wid (n:=(k:Int) - 1) (by omega)];omega)]
   have eo:(if decide ((k:Int) > 0)=true then !jG (gt v.Sets (jd .i64 ((k:Int) - 1)).toNat).Name (gt v.Sets k).Name else false)=ordB v.Sets k:=by
    unfold ordB
    rw [dyu]
    by_cases h0:0 < k
    ·have:(k:Int) > 0:=by omega
     have e:(jd .i64 ((k:Int) - 1)).toNat=k - 1:=by rw [wid (by omega)];omega
     rw [e,decide_eq_true this,decide_eq_true h0]
    ·have:¬ ((k:Int) > 0):=by omega
     rw [decide_eq_false this,decide_eq_false h0];rfl
   rw [eo,dw6,wid (n:=(k:Int)+1) (by omega)]
   show (bif rBad v k then _ else _)=_
   cases rBad v k <;> rfl
  rw [List.range'_succ,List.any_cons]
  cases hp:rBad v k with
  | true =>
   rw [hp] at hb
   rw [ajn (y:=.inl false) (by simpa using hb)];simp
  | false =>
   rw [hp] at hb
   rw [aju (x':=((k+1:Nat):Int)) (by simpa using hb),dks n hn v ⟨h1,h2,h3⟩ j (k+1) m (by omega) (by omega),Bool.false_or]
theorem all_eq (n:Nat) (hn:N0≤n) (v:aj5) (hv:bj5 v):cjo n v=some (exts v.Sets):=by
 have hn0:4194304≤n:=hn
 obtain ⟨h1,h2,h3⟩:=hv
 have key:∀ j k m,k+j=v.Sets.length→j < m→ajk (fun (x:(List aj0)×Int)=>bjz n v x.1 x.2) m (exts (v.Sets.take k),(k:Int))=some (exts v.Sets):=by
  intro j
  induction j with
  | zero =>
   intro k m hj hm
   obtain ⟨m,rfl⟩:∃ q,m=q+1:=⟨m - 1,by omega⟩
   have hk:k=v.Sets.length:=by omega
   subst hk
   refine ajn ?_
   unfold bjz
   simp only [Jj,decide_false,cond_false,JB]
  | succ j ih =>
   intro k m hj hm
   obtain ⟨m,rfl⟩:∃ q,m=q+1:=⟨m - 1,by omega⟩
   have hk:k < v.Sets.length:=by omega
   have hlt:((k:Nat):Int) < (v.Sets.length:Int):=by omega
   have hmem:gt v.Sets k∈v.Sets:=by rw [aqf hk];exact jw hk
   have hx:=(h3 _ hmem).2
   have hel:=cq5 (l:=v.Sets.take k) fun d hd=>h3 d (List.mem_of_mem_take hd)
   rw [jl] at hel
   refine (aju (x':=(exts (v.Sets.take (k+1)),((k+1:Nat):Int))) ?_).trans (ih (k+1) m (by omega) (by omega))
   unfold bjz
   simp only [decide_eq_true hlt,cond_true,jn]
   rw [aj9 _ ⟨⟨by omega,hlt⟩,by omega⟩,wid (n:=(k:Int)+1) (by omega),ejh hk]
   rfl
 have:=key v.Sets.length 0 n (by omega) (by omega)
 simp only [List.take_zero] at this
 have this':ajk (fun (x:(List aj0)×Int)=>bjz n v x.1 x.2) n ([],0)=some (exts v.Sets):=this
 simp only [cjo,this',jc,byx]
end Go.Proofs.YtijnkhcfondehaaGreatDoor
/-
 ch. 21: Check is Valid; Free.
-/
namespace Go.Proofs.YtijnkhcfondehaaGreatDoor
open Go.AE
def head (v:aj5):Bool:=fqg v.Serial v.Cyls v.Heads v.Size
def pV (v:aj5):Bool:=head v && !decide ((v.Sets.length:Int) > (if jd .i64 (14 * v.Size) < 64 then jd .i64 (14 * v.Size) else 64)) && !(List.range' 0 v.Sets.length).any (pBad v) && (trkF [] (⟨0,jd .i64 (v.Size+1)⟩ :: exts v.Sets)).isSome
def rV (v:aj5):Bool:=head v && !decide ((v.Sets.length:Int) > 64) && !decide ((v.Sets.length:Int) > jd .i64 (14 * v.Size)) && !(List.range' 0 v.Sets.length).any (rBad v) && (trkF [] (exts v.Sets)).isSome
theorem bkz (n:Nat) (hn:N0≤n) (v:aj5) (hv:bj5 v):az3 n v=some (if pV v=true then 0 else 5):=by
 have hn0:4194304≤n:=hn
 obtain ⟨h1,h2,h3⟩:=hv
 unfold az3
 obtain ⟨t,ht1,ht2⟩:=hzr n v.Serial
 have ht1':aqz n v.Serial [65,66,67,68,69,70,71,72,73,74,75,76,77,78,79,80,81,82,83,84,85,86,87,88,89,90,48,49,50,51,52,53,54,55,56,57]=some t:=ht1
 simp only [gzd,jc,ht1',Jo,j7,implies_true,and_self,ht2,gqu]
 rw [aj9 _ trivial]
 have e1:(if (!(decide (1≤v.Serial.length) && decide (v.Serial.length≤6)))=true then true else !v.Serial.all fun b=>letB b || digB b) = !serB v.Serial:=by
  unfold serB
  cases (decide (1≤v.Serial.length) && decide (v.Serial.length≤6)) <;> simp
 rw [e1]
 unfold pV head
 cases hser:serB v.Serial with
 | false=>simp [fqg,hser]
 | true =>
  simp only [jK,cond_false]
  rw [aj9 _ trivial]
  have e2:(if (if (!inB v.Cyls 1 64)=true then true else !inB v.Heads 1 8)=true then true else !inB v.Size 1 (jd .i64 (jd .i64 (v.Cyls * v.Heads) - 1))) = !fqg v.Serial v.Cyls v.Heads v.Size:=by
   unfold fqg;rw [hser]
   cases inB v.Cyls 1 64 <;> cases inB v.Heads 1 8 <;> simp
  rw [e2]
  cases hh:fqg v.Serial v.Cyls v.Heads v.Size with
  | false=>simp
  | true =>
   simp only [jK,cond_false,Jk]
   cases hl:decide ((v.Sets.length:Int) > (if jd .i64 (14 * v.Size) < 64 then jd .i64 (14 * v.Size) else 64)) with
   | true=>simp
   | false =>
    simp only [cond_false,jS,Jk]
    have key:=ewt n hn v ⟨h1,h2,h3⟩ [⟨0,jd .i64 (v.Size+1)⟩] (by simp) v.Sets.length 0 n (by omega) (by omega)
    simp only [List.take_zero] at key
    have key':ajk (fun (x:(List aj0)×Int)=>ak4 n v (v.Sets.length:Int) x.1 x.2) n ([(⟨0,jd .i64 (v.Size+1)⟩:aj0)],0)=some (if (List.range' 0 v.Sets.length).any (pBad v)=true then .inl 5 else .inr ([(⟨0,jd .i64 (v.Size+1)⟩:aj0)] ++ exts v.Sets)):=key
    rw [key',jc]
    cases (List.range' 0 v.Sets.length).any (pBad v) with
    | true=>simp
    | false =>
     have hel:=cq5 h3
     have hle:((⟨0,jd .i64 (v.Size+1)⟩:aj0) :: exts v.Sets).length≤1073741824:=by rw [jz];omega
     simp only [jj,if_false,List.singleton_append,bk6,djp n hn _ hle,jc,jS,Jk]
     cases (trkF [] ((⟨0,jd .i64 (v.Size+1)⟩:aj0) :: exts v.Sets)).isSome <;> rfl
theorem ejf (n:Nat) (hn:N0≤n) (v:aj5) (hv:bj5 v):bjq n v=some (rV v):=by
 have hn0:4194304≤n:=hn
 obtain ⟨h1,h2,h3⟩:=hv
 unfold bjq
 simp only [gk0 n v.Serial (by omega) (by omega),fqh,jc,Jo,j7,implies_true,and_self]
 rw [aj9 _ trivial]
 have e2:(if (if (if (!serB v.Serial)=true then true else !inB v.Cyls 1 64)=true then true else !inB v.Heads 1 8)=true then true else !inB v.Size 1 (jd .i64 (jd .i64 (v.Cyls * v.Heads) - 1))) = !head v:=by
  unfold head fqg
  cases serB v.Serial <;> cases inB v.Cyls 1 64 <;> cases inB v.Heads 1 8 <;> simp
 rw [e2]
 unfold rV
 cases hh:head v with
 | false=>simp
 | true =>
  simp only [jK,jj,if_false,Jk,dw6]
  cases hl:decide ((v.Sets.length:Int) > 64) with
  | true=>simp
  | false =>
   simp only [Bool.false_or,jS,Jk]
   cases hl2:decide ((v.Sets.length:Int) > jd .i64 (14 * v.Size)) with
   | true=>simp
   | false =>
    simp only [cond_false,jS,Jk]
    have key:=dks n hn v ⟨h1,h2,h3⟩ v.Sets.length 0 n (by omega) (by omega)
    have key':ajk (fun (x:Int)=>azh n v x) n 0=some (if (List.range' 0 v.Sets.length).any (rBad v)=true then .inl false else .inr ()):=key
    rw [key',jc]
    cases (List.range' 0 v.Sets.length).any (rBad v) with
    | true=>simp
    | false =>
     have hel:=cq5 h3
     simp only [jj,if_false,bzc,all_eq n hn v ⟨h1,h2,h3⟩,cjm n hn (exts v.Sets) (by omega),jc,jS,Jk]
theorem gjn {S:Int} (hS:0≤S∧S≤511) (A:List aj0):(trkF [] (⟨0,S+1⟩ :: A)).isSome=true↔(trkF [] A).isSome=true∧∀ x∈A,S < x.At:=by
 rw [awr,awr,awg,JL,jf,List.nodup_append]
 have hv0:val ⟨0,S+1⟩=true:=(ajv _).2 ⟨by simp,by simp only;omega,by simp,by simp only;omega⟩
 constructor
 ·rintro ⟨⟨_,h1⟩,_,h2,h3⟩
  refine ⟨⟨h1,h2⟩,fun x hx=>?_⟩
  have hvx:=(ajv x).1 (jE.1 h1 x hx)
  have hm:x.At∈trks A:=JQ.2 ⟨x,hx,ay2.2 ⟨by omega,by omega⟩⟩
  by_cases hc:S < x.At
  ·exact hc
  ·exact absurd rfl (h3 x.At (ay2.2 ⟨by simp only;omega,by simp only;omega⟩) x.At hm)
 ·rintro ⟨⟨h1,h2⟩,h3⟩
  refine ⟨⟨hv0,h1⟩,fjo _,h2,fun a ha b hb e=>?_⟩
  subst e
  obtain ⟨x,hx,hb⟩:=JQ.1 hb
  have:=h3 x hx
  have h4:=ay2.1 ha
  have h5:=ay2.1 hb
  simp only at h4
  omega
theorem fqi {p:Nat→Bool} {m:Nat}:(List.range' 0 m).any p=false↔∀ k,k < m→p k=false:=by
 rw [List.any_eq_false]
 constructor
 ·intro h k hk
  have:=h k (by simp [List.mem_range',hk])
  simpa using this
 ·intro h k hk
  have:k < m:=by simpa [List.mem_range'] using hk
  simp [h k this]
theorem hj7 {v:aj5} {k:Nat}:pBad v k=false↔pLbl v (gt v.Sets k)=true∧ordB v.Sets k=false:=by
 unfold pBad;cases pLbl v (gt v.Sets k) <;> cases ordB v.Sets k <;> simp
theorem hjw {v:aj5} {d:aj6}:rLbl v d=true↔pLbl v d=true∧∀ x∈d.Extents,v.Size < x.At:=by
 have e:d.Extents.any (fun x=>decide (x.At≤v.Size) || dqy v x)=false↔d.Extents.any (dqy v)=false∧∀ x∈d.Extents,v.Size < x.At:=by
  simp only [List.any_eq_false,Jz,decide_eq_true_eq,not_or]
  constructor
  ·intro h;exact ⟨fun x hx=>(h x hx).2,fun x hx=>by have:=(h x hx).1;omega⟩
  ·rintro ⟨h1,h2⟩ x hx;exact ⟨by have:=h2 x hx;omega,h1 x hx⟩
 unfold rLbl pLbl
 simp only [jf,j9,e]
 constructor
 ·rintro ⟨⟨h1,h2⟩,⟨⟨⟨h3,h4⟩,h5⟩,h6⟩,h7⟩;exact ⟨⟨⟨⟨⟨⟨h3,h4⟩,h5⟩,h6⟩,h1⟩,h7⟩,h2⟩
 ·rintro ⟨⟨⟨⟨⟨⟨h3,h4⟩,h5⟩,h6⟩,h1⟩,h7⟩,h2⟩;exact ⟨⟨h1,h2⟩,⟨⟨⟨h3,h4⟩,h5⟩,h6⟩,h7⟩
theorem fkr {v:aj5} {k:Nat}:rBad v k=false↔(pLbl v (gt v.Sets k)=true∧∀ x∈(gt v.Sets k).Extents,v.Size < x.At)∧ordB v.Sets k=false:=by
 rw [← hjw]
 unfold rBad;cases rLbl v (gt v.Sets k) <;> cases ordB v.Sets k <;> simp
theorem fkb {l:List aj6} {x:aj0}:x∈exts l↔∃ k,k < l.length∧x∈(gt l k).Extents:=by
 unfold exts
 rw [JQ]
 constructor
 ·rintro ⟨d,hd,hx⟩
  obtain ⟨k,hk,rfl⟩:=j1 hd
  exact ⟨k,hk,by rw [aqf hk];exact hx⟩
 ·rintro ⟨k,hk,hx⟩
  exact ⟨_,jw hk,by rw [← aqf hk];exact hx⟩
theorem fzv (v:aj5):pV v=rV v:=by
 unfold pV rV
 cases hh:head v with
 | false=>simp
 | true =>
  obtain ⟨z1,z2⟩:=gzv hh
  have w1:jd .i64 (14 * v.Size)=14 * v.Size:=wid (by omega)
  have w2:jd .i64 (v.Size+1)=v.Size+1:=wid (by omega)
  rw [JP,w1,w2]
  simp only [Jk,jf,j9,decide_eq_false_iff_not,fqi,hj7,fkr,gjn (S:=v.Size) ⟨by omega,by omega⟩]
  have em:¬ ((v.Sets.length:Int) > if 14 * v.Size < 64 then 14 * v.Size else 64)↔¬ ((v.Sets.length:Int) > 64)∧¬ ((v.Sets.length:Int) > 14 * v.Size):=by
   split <;> omega
  rw [em]
  constructor
  ·rintro ⟨⟨⟨h1,h2⟩,h3⟩,h4,h5⟩
   exact ⟨⟨⟨h1,h2⟩,fun k hk=>⟨⟨(h3 k hk).1,fun x hx=>h5 x (fkb.2 ⟨k,hk,hx⟩)⟩,(h3 k hk).2⟩⟩,h4⟩
  ·rintro ⟨⟨⟨h1,h2⟩,h3⟩,h4⟩
   refine ⟨⟨⟨h1,h2⟩,fun k hk=>⟨(h3 k hk).1.1,(h3 k hk).2⟩⟩,h4,fun x hx=>?_⟩
   obtain ⟨k,hk,hx⟩:=fkb.1 hx
   exact (h3 k hk).1.2 x hx
theorem hqp {v:aj5}:rV v=true↔head v=true∧v.Sets.length≤64∧(v.Sets.length:Int)≤14 * v.Size∧(∀ k,k < v.Sets.length→(pLbl v (gt v.Sets k)=true∧∀ x∈(gt v.Sets k).Extents,v.Size < x.At)∧ordB v.Sets k=false)∧(trkF [] (exts v.Sets)).isSome=true:=by
 unfold rV
 cases hh:head v with
 | false=>simp
 | true =>
  obtain ⟨z1,z2⟩:=gzv hh
  have w1:jd .i64 (14 * v.Size)=14 * v.Size:=wid (by omega)
  rw [w1]
  simp only [Jk,jf,j9,decide_eq_false_iff_not,fqi,fkr,true_and]
  constructor
  ·rintro ⟨⟨⟨h1,h2⟩,h3⟩,h4⟩;exact ⟨by omega,by omega,h3,h4⟩
  ·rintro ⟨h1,h2,h3,h4⟩;exact ⟨⟨⟨by omega,by omega⟩,h3⟩,h4⟩
theorem gy1 {s t:List Int} (h:∀ k,k∈s↔k∈t):mark s=mark t:=by
 unfold mark
 refine List.map_congr_left fun k _=>?_
 exact decide_eq_decide.2 (h k)
theorem ejm {a b:List aj0} (h:a.Perm b):(trkF [] a).isSome=(trkF [] b).isSome:=by
 rw [JP,awr,awr,ek4 h,(cz4 h).nodup_iff]
theorem gjd (n:Nat) (hn:N0≤n) {a b:List aj0} (h:a.Perm b) (m:Int) (ha:a.length≤2097152):bq4 n a m=bq4 n b m:=by
 have hb:b.length≤2097152:=by rw [← h.length_eq];exact ha
 unfold bq4
 rw [cjm n hn a ha,cjm n hn b hb,ejm h,jc,jc]
 cases hv:(trkF [] b).isSome with
 | false=>simp
 | true =>
  have hva:(trkF [] a).isSome=true:=by rw [ejm h];exact hv
  rw [fyf n a hn ha,fyf n b hn hb,ekn hva,ekn hv,gy1 (fun k=>(cz4 h).mem_iff)]
theorem gqj (n:Nat) (hn:N0≤n) (v:aj5) (hv:bj5 v) (u0:List aj0) (hu:u0.length≤1):∀ j k m,k+j=v.Sets.length→j < m →
  ajk (fun (x:(List aj0)×Int)=>bjw n v (v.Sets.length:Int) x.1 x.2) m (u0 ++ exts (v.Sets.take k),(k:Int))=some (u0 ++ exts v.Sets):=by
 obtain ⟨h1,h2,h3⟩:=hv
 intro j
 induction j with
 | zero =>
  intro k m hj hm
  obtain ⟨m,rfl⟩:∃ q,m=q+1:=⟨m - 1,by omega⟩
  have hk:k=v.Sets.length:=by omega
  subst hk
  refine ajn ?_
  unfold bjw
  simp only [Jj,decide_false,cond_false,JB]
 | succ j ih =>
  intro k m hj hm
  obtain ⟨m,rfl⟩:∃ q,m=q+1:=⟨m - 1,by omega⟩
  have hk:k < v.Sets.length:=by omega
  have hlt:((k:Nat):Int) < (v.Sets.length:Int):=by omega
  have hmem:gt v.Sets k∈v.Sets:=by rw [aqf hk];exact jw hk
  have hx:=(h3 _ hmem).2
  have hel:=cq5 (l:=v.Sets.take k) fun d hd=>h3 d (List.mem_of_mem_take hd)
  rw [jl] at hel
  refine (aju (x':=(u0 ++ exts (v.Sets.take (k+1)),((k+1:Nat):Int))) ?_).trans (ih (k+1) m (by omega) (by omega))
  unfold bjw
  simp only [decide_eq_true hlt,cond_true,jn]
  rw [aj9 _ ⟨by omega,hlt⟩,aj9 _ (by rw [ji];omega),wid (n:=(k:Int)+1) (by omega),ejh hk,jQ]
  rfl
theorem fk7 (n:Nat) (hn:N0≤n) (v:aj5) (hv:bj5 v):∃ R,by2 n v=some R∧bkm n v=some R∧R.length≤512:=by
 have hn0:4194304≤n:=hn
 have hel:=cq5 hv.2.2
 have h70:=hv.1
 unfold by2 bkm
 rw [bkz n hn v hv,ejf n hn v hv,fzv,jc,jc]
 cases hr:rV v with
 | false=>exact ⟨[],rfl,rfl,by simp⟩
 | true =>
  simp only [if_true,bne_self_eq_false,cond_false,jK]
  have key:=gqj n hn v hv [⟨0,jd .i64 (v.Size+1)⟩] (by simp) v.Sets.length 0 n (by omega) (by have:=hv.1;omega)
  simp only [List.take_zero] at key
  have key':ajk (fun (x:(List aj0)×Int)=>bjw n v (v.Sets.length:Int) x.1 x.2) n ([(⟨0,jd .i64 (v.Size+1)⟩:aj0)],0)=some ([(⟨0,jd .i64 (v.Size+1)⟩:aj0)] ++ exts v.Sets):=key
  have hle:((⟨0,jd .i64 (v.Size+1)⟩:aj0) :: exts v.Sets).length≤2097152:=by rw [jz];omega
  obtain ⟨R,hR1,hR2,hR3⟩:=hwf n hn ((⟨0,jd .i64 (v.Size+1)⟩:aj0) :: exts v.Sets) (jd .i64 (v.Cyls * v.Heads)) hle
  have hp:((⟨0,jd .i64 (v.Size+1)⟩:aj0) :: exts v.Sets).Perm (exts v.Sets ++ [⟨0,jd .i64 (v.Size+1)⟩]):=List.perm_append_comm (l₁:=[_])
  rw [gjd n hn hp _ hle] at hR2
  refine ⟨R,?_,?_,hR3⟩
  ·rw [key',jc,List.singleton_append,byv,hR1,jc]
  ·rw [all_eq n hn v hv,jc,aj9 _ (by omega),hR2,jc]
end Go.Proofs.YtijnkhcfondehaaGreatDoor
/-
 ch. 21: the order of names; where a label stands; copies.
-/
namespace Go.Proofs.YtijnkhcfondehaaGreatDoor
open Go.AE
theorem bzo (x:List UInt8):jG x x=false:=by
 rw [Go.Proofs.bytesLess_eq];simp [List.lt_irrefl]
theorem ck5 {x y z:List UInt8} (h1:jG x y=true) (h2:jG y z=true):jG x z=true:=by
 rw [Go.Proofs.bytesLess_eq,decide_eq_true_eq] at *
 exact List.lt_trans h1 h2
theorem dye (x y:List UInt8):jG x y=true∨x=y∨jG y x=true:=by
 simp only [Go.Proofs.bytesLess_eq,decide_eq_true_eq]
 rcases Std.lt_trichotomy x y with h | h | h
 ·exact .inl h
 ·exact .inr (.inl h)
 ·exact .inr (.inr h)
theorem fqd {x y:List UInt8} (h:jG x y=true):x≠y:=by
 rintro rfl;rw [bzo] at h;cases h
theorem ek9 {x y:List UInt8} (h:jG x y=true):jG y x=false:=by
 cases h2:jG y x with
 | false=>rfl
 | true=>have:=ck5 h h2;rw [bzo] at this;cases this
theorem dyo (x y:List UInt8):cmpS x y < 0↔jG x y=true:=by
 unfold cmpS
 by_cases h:jG x y=true
 ·simp [h]
 ·by_cases h2:x=y
  ·subst h2;simp [bzo]
  ·simp [h,h2]
theorem gzw (x y:List UInt8):cmpS x y=0↔x=y:=by
 unfold cmpS
 by_cases h:jG x y=true
 ·simp only [h,if_true];exact ⟨fun e=>by omega,fun e=>absurd e (fqd h)⟩
 ·by_cases h2:x=y
  ·subst h2;simp [bzo]
  ·simp [h,h2]
abbrev wlt (a b:aj6):Prop:=jG a.Name b.Name=true
theorem eya:∀ {a b:List aj6},a.Pairwise wlt→b.Pairwise wlt→(∀ v,v∈a↔v∈b)→a=b
 | [],[],_,_,_=>rfl
 | [],y :: b,_,_,h=>absurd ((h y).2 j8) (by simp)
 | x :: a,[],_,_,h=>absurd ((h x).1 j8) (by simp)
 | x :: a,y :: b,ha,hb,h=>by
  have ha':=JD.1 ha
  have hb':=JD.1 hb
  have hxy:x=y:=by
   rcases jO.1 ((h x).1 j8) with e | hx
   ·exact e
   ·rcases jO.1 ((h y).2 j8) with e | hy
    ·exact e.symm
    ·have h1:=hb'.1 x hx
     have h2:=ha'.1 y hy
     have:=ek9 h1
     rw [h2] at this;cases this
  subst hxy
  congr 1
  refine eya ha'.2 hb'.2 fun v=>?_
  constructor
  ·intro hv
   rcases jO.1 ((h v).1 (Jv _ hv)) with e | h1
   ·subst e;have:=ha'.1 v hv;rw [wlt,bzo] at this;cases this
   ·exact h1
  ·intro hv
   rcases jO.1 ((h v).2 (Jv _ hv)) with e | h1
   ·subst e;have:=hb'.1 v hv;rw [wlt,bzo] at this;cases this
   ·exact h1
theorem hqs {l:List aj6}:(∀ k,k < l.length→ordB l k=false)↔l.Pairwise wlt:=by
 constructor
 ·intro h
  have step:∀ k,0 < k→k < l.length→wlt (gt l (k - 1)) (gt l k):=by
   intro k h0 hk
   have:=h k hk
   unfold ordB at this
   rw [decide_eq_true h0,Jk] at this
   show jG _ _=true
   cases hb:jG (gt l (k - 1)).Name (gt l k).Name with
   | true=>rfl
   | false=>rw [hb] at this;cases this
  have far:∀ d i,i+d+1 < l.length→wlt (gt l i) (gt l (i+d+1)):=by
   intro d
   induction d with
   | zero=>intro i hi;have:=step (i+1) (by omega) (by omega);simpa using this
   | succ d ih =>
    intro i hi
    have h1:=ih i (by omega)
    have h2:=step (i+(d+1)+1) (by omega) hi
    have e:i+(d+1)+1 - 1=i+d+1:=by omega
    rw [e] at h2
    exact ck5 h1 h2
  rw [Jd]
  intro i j hi hj hij
  have:=far (j - i - 1) i (by omega)
  have e:i+(j - i - 1)+1=j:=by omega
  rw [e,aqf hi,aqf hj] at this
  exact this
 ·intro h k hk
  unfold ordB
  by_cases h0:0 < k
  ·rw [Jd] at h
   have:=h (k - 1) k (by omega) hk (by omega)
   rw [aqf hk,aqf (by omega:k - 1 < l.length)]
   rw [wlt] at this
   rw [this];simp
  ·rw [decide_eq_false h0];rfl
def lowN (l:List aj6) (name:List UInt8):Nat:=(l.takeWhile fun d=>jG d.Name name).length
theorem gw0 (l:List aj6) (name:List UInt8):lowN l name≤l.length:=by
 unfold lowN;exact List.Sublist.length_le (List.takeWhile_sublist _)
theorem cke {l:List aj6} {name:List UInt8}:∀ k,k < lowN l name→jG (gt l k).Name name=true:=by
 induction l with
 | nil=>intro k hk;simp [lowN] at hk
 | cons d l ih =>
  intro k hk
  unfold lowN at hk
  rw [List.takeWhile_cons] at hk
  by_cases hd:jG d.Name name=true
  ·rw [if_pos hd,jz] at hk
   cases k with
   | zero=>simpa [gt] using hd
   | succ k=>have:=ih k (by unfold lowN;omega);simpa [gt] using this
  ·rw [if_neg hd] at hk;simp at hk
theorem fwk {l:List aj6} {name:List UInt8} (h:lowN l name < l.length):jG (gt l (lowN l name)).Name name=false:=by
 induction l with
 | nil=>simp at h
 | cons d l ih =>
  unfold lowN at h ⊢
  rw [List.takeWhile_cons] at h ⊢
  by_cases hd:jG d.Name name=true
  ·rw [if_pos hd,jz] at h ⊢
   have:=ih (by unfold lowN;simpa using h)
   simpa [gt,lowN] using this
  ·rw [if_neg hd];simpa [gt] using hd
theorem fyq {l:List aj6} {name:List UInt8} (hs:l.Pairwise wlt) {k:Nat} (h1:lowN l name≤k) (h2:k < l.length):jG (gt l k).Name name=false:=by
 rcases jD (lowN l name) k with hlt | hge
 ·have h3:=fwk (name:=name) (by omega:lowN l name < l.length)
  rw [Jd] at hs
  have h4:=hs (lowN l name) k (by omega) h2 hlt
  rw [← aqf,← aqf] at h4
  cases h5:jG (gt l k).Name name with
  | false=>rfl
  | true=>have:=ck5 h4 h5;rw [h3] at this;cases this
 ·have:k=lowN l name:=by omega
  subst this;exact fwk h2
def hasN (l:List aj6) (name:List UInt8):Bool:=l.any fun d=>d.Name == name
theorem ekz {l:List aj6} {name:List UInt8} (hs:l.Pairwise wlt):hasN l name=true↔lowN l name < l.length∧(gt l (lowN l name)).Name=name:=by
 unfold hasN
 rw [List.any_eq_true]
 constructor
 ·rintro ⟨d,hd,he⟩
  obtain ⟨k,hk,rfl⟩:=j1 hd
  have he:l[k].Name=name:=by simpa using he
  rw [← aqf hk] at he
  have h1:lowN l name≤k:=by
   rcases jD k (lowN l name) with h | h
   ·have:=cke k h;rw [he,bzo] at this;cases this
   ·exact h
  rcases jD (lowN l name) k with h | h
  ·have h3:=fwk (name:=name) (by omega:lowN l name < l.length)
   have hs':=Jd.1 hs (lowN l name) k (by omega) hk h
   rw [← aqf,← aqf hk] at hs'
   rw [wlt,he,h3] at hs';cases hs'
  ·have:k=lowN l name:=by omega
   subst this;exact ⟨hk,he⟩
 ·rintro ⟨h1,h2⟩
  exact ⟨_,jw h1,by rw [← aqf h1,h2];simp⟩
theorem hke (i j:Nat) (h:i+j≤100000):jd .i64 ((Int.fdiv (jd .u64 ((jd .i64 ((i:Int)+(j:Int))))) (2 ^ min 1 (JF .u64))))=(((i+j) / 2:Nat):Int):=by
 rw [wid (n:=(i:Int)+(j:Int)) (by omega)]
 have e1:jd .u64 ((i:Int)+(j:Int))=(i:Int)+(j:Int):=by
  simp only [jd]
  have:IntKind.u64.bits=64:=rfl
  rw [this]
  simp [IntKind.signed]
  omega
 have e2:((2:Int) ^ min 1 (JF .u64))=2:=by decide
 rw [e1,e2]
 have e3:Int.fdiv ((i:Int)+(j:Int)) 2=(((i+j) / 2:Nat):Int):=by
  rw [Int.fdiv_eq_ediv_of_nonneg _ (by omega)];omega
 rw [e3]
 exact wid (by omega)
theorem hwu (n:Nat) (l:List aj6) (name:List UInt8) (hs:l.Pairwise wlt) (hl:l.length≤1000):∀ d i j m,j - i=d→d < m→i≤lowN l name→lowN l name≤j→j≤l.length →
  ajk (fun (x:Int×Int)=>aji n l name (l.length:Int) x.1 x.2) m ((i:Int),(j:Int))=some ((lowN l name:Nat):Int):=by
 intro d
 induction d using Nat.strongRecOn with
 | ind d ih =>
  intro i j m hd hm h1 h2 h3
  obtain ⟨m,rfl⟩:∃ q,m=q+1:=⟨m - 1,by omega⟩
  by_cases hij:i < j
  ·have hlt:((i:Nat):Int) < (j:Int):=by omega
   have hmid:=hke i j (by omega)
   have hml:(i+j) / 2 < l.length:=by omega
   have hb:aji n l name (l.length:Int) (i:Int) (j:Int)=some (if jG (gt l ((i+j) / 2)).Name name=true then .inl ((((i+j) / 2+1:Nat):Int),(j:Int)) else .inl ((i:Int),(((i+j) / 2:Nat):Int))):=by
    unfold aji
    simp only [decide_eq_true hlt,cond_true,hmid,jn,aqx,strings_Compare,jc]
    rw [aj9 _ (by omega),wid (n:=(((i+j) / 2:Nat):Int)+1) (by omega)]
    by_cases hc:jG (gt l ((i+j) / 2)).Name name=true
    ·rw [decide_eq_true ((dyo _ _).2 hc),if_pos hc];rfl
    ·rw [decide_eq_false (fun h=>hc ((dyo _ _).1 h)),if_neg hc];rfl
   by_cases hc:jG (gt l ((i+j) / 2)).Name name=true
   ·rw [if_pos hc] at hb
    have hlo:(i+j) / 2 < lowN l name:=by
     rcases jD ((i+j) / 2) (lowN l name) with h | h
     ·exact h
     ·have:=fyq hs h hml;rw [hc] at this;cases this
    exact (aju hb).trans (ih (j - ((i+j) / 2+1)) (by omega) _ _ m rfl (by omega) (by omega) h2 h3)
   ·rw [if_neg hc] at hb
    have hlo:lowN l name≤(i+j) / 2:=by
     rcases jD ((i+j) / 2) (lowN l name) with h | h
     ·exact absurd (cke _ h) hc
     ·exact h
    exact (aju hb).trans (ih ((i+j) / 2 - i) (by omega) _ _ m rfl (by omega) h1 hlo (by omega))
  ·have:i=lowN l name:=by omega
   refine ajn ?_
   unfold aji
   rw [decide_eq_false (by omega),cond_false,this]
theorem cqt (n:Nat) (hn:N0≤n) (v:aj5) (name:List UInt8) (hs:v.Sets.Pairwise wlt) (hl:v.Sets.length≤1000):ajx n v name=some (((lowN v.Sets name:Nat):Int),hasN v.Sets name):=by
 have hn0:4194304≤n:=hn
 have hle:=gw0 v.Sets name
 have key:ajk (fun (x:Int×Int)=>aji n v.Sets name (v.Sets.length:Int) x.1 x.2) n (0,(v.Sets.length:Int))=some ((lowN v.Sets name:Nat):Int):=hwu n v.Sets name hs hl v.Sets.length 0 v.Sets.length n (by omega) (by omega) (by omega) hle (jA _)
 simp only [ajx,aqe,key,jc,aq6,aqx,strings_Compare,Jo,j7,implies_true,and_true,jn]
 rw [aj9 _ (fun h=>by have:=of_decide_eq_true h;omega),jc]
 congr 2
 rw [dyu,JP,ekz hs]
 simp only [jf,decide_eq_true_eq,beq_iff_eq,gzw]
 constructor
 ·rintro ⟨h1,h2⟩;exact ⟨by omega,h2⟩
 ·rintro ⟨h1,h2⟩;exact ⟨by omega,h2⟩
theorem ewi (n:Nat) (v:aj5) (name:List UInt8) (p:Nat) (hp:∀ k,k < p→(gt v.Sets k).Name≠name) (hl:v.Sets.length≤1000) (hpl:p≤v.Sets.length):∀ j k m,k+j=p→j < m →
  ajk (fun (x:Int)=>aqj n name v x) m (k:Int)=ajk (fun (x:Int)=>aqj n name v x) (m - j) (p:Int):=by
 intro j
 induction j with
 | zero =>
  intro k m hj hm
  have:k=p:=by omega
  subst this;rfl
 | succ j ih =>
  intro k m hj hm
  obtain ⟨m,rfl⟩:∃ q,m=q+1:=⟨m - 1,by omega⟩
  have hlt:((k:Nat):Int) < (v.Sets.length:Int):=by omega
  refine (aju (x':=((k+1:Nat):Int)) ?_).trans ((ih (k+1) m (by omega) (by omega)).trans (by congr 1;omega))
  unfold aqj
  simp only [decide_eq_true hlt,cond_true,jn]
  have hne:=hp k (by omega)
  rw [aj9 _ ⟨by omega,hlt⟩,wid (n:=(k:Int)+1) (by omega),beq_eq_false_iff_ne.2 hne]
  rfl
theorem cqu (n:Nat) (hn:N0≤n) (v:aj5) (name:List UInt8) (hs:v.Sets.Pairwise wlt) (hl:v.Sets.length≤1000):awb n v name=some (if hasN v.Sets name=true then ((lowN v.Sets name:Nat):Int) else -1):=by
 have hn0:4194304≤n:=hn
 cases hh:hasN v.Sets name with
 | true =>
  obtain ⟨h1,h2⟩:=(ekz hs).1 hh
  have key:=ewi n v name (lowN v.Sets name) (fun k hk=>fqd (cke k hk)) hl (by omega) (lowN v.Sets name) 0 n (by omega) (by omega)
  obtain ⟨m,hm⟩:∃ q,n - lowN v.Sets name=q+1:=⟨n - lowN v.Sets name - 1,by omega⟩
  have hlt:((lowN v.Sets name:Nat):Int) < (v.Sets.length:Int):=by omega
  have hd:ajk (fun (x:Int)=>aqj n name v x) (m+1) ((lowN v.Sets name:Nat):Int)=some (.inl ((lowN v.Sets name:Nat):Int)):=by
   refine ajn ?_
   unfold aqj
   simp only [decide_eq_true hlt,cond_true,jn]
   rw [aj9 _ ⟨by omega,hlt⟩,h2,beq_self_eq_true]
   rfl
  rw [hm,hd] at key
  have key':ajk (fun (x:Int)=>aqj n name v x) n 0=some (.inl ((lowN v.Sets name:Nat):Int)):=key
  simp only [awb,key',jc,if_true]
 | false =>
  have hno:∀ k,k < v.Sets.length→(gt v.Sets k).Name≠name:=by
   intro k hk e
   have:hasN v.Sets name=true:=by
    unfold hasN;rw [List.any_eq_true]
    exact ⟨_,jw hk,by rw [← aqf hk,e];simp⟩
   rw [hh] at this;cases this
  have key:=ewi n v name v.Sets.length hno hl (jA _) v.Sets.length 0 n (by omega) (by omega)
  obtain ⟨m,hm⟩:∃ q,n - v.Sets.length=q+1:=⟨n - v.Sets.length - 1,by omega⟩
  have hd:ajk (fun (x:Int)=>aqj n name v x) (m+1) (v.Sets.length:Int)=some (.inr ()):=by
   refine ajn ?_
   unfold aqj
   simp only [Jj,decide_false,cond_false]
  rw [hm,hd] at key
  have key':ajk (fun (x:Int)=>aqj n name v x) n 0=some (.inr ()):=key
  simp only [awb,key',jc,bz9,jj,if_false]
theorem cq2 (n:Nat) (hn:N0≤n) (v:aj5) (hv:bj5 v):ajo n v=some v:=by
 have hn0:4194304≤n:=hn
 obtain ⟨h1,h2,h3⟩:=hv
 have key:∀ j k m,k+j=v.Sets.length→j < m→ajk (fun (x:(List aj6)×Int)=>aqh n v (v.Sets.length:Int) x.1 x.2) m (v.Sets.take k ++ azv j (⟨[],(⟨0,0,false,false,0,0,0,0⟩:TDcb),[],0⟩:aj6),(k:Int))=some v.Sets:=by
  intro j
  induction j with
  | zero =>
   intro k m hj hm
   obtain ⟨m,rfl⟩:∃ q,m=q+1:=⟨m - 1,by omega⟩
   have hk:k=v.Sets.length:=by omega
   subst hk
   refine ajn ?_
   unfold aqh
   simp [azv]
  | succ j ih =>
   intro k m hj hm
   obtain ⟨m,rfl⟩:∃ q,m=q+1:=⟨m - 1,by omega⟩
   have hk:k < v.Sets.length:=by omega
   have hlt:((k:Nat):Int) < (v.Sets.length:Int):=by omega
   have hmem:gt v.Sets k∈v.Sets:=by rw [aqf hk];exact jw hk
   have hx:=(h3 _ hmem).2
   have hll:(v.Sets.take k ++ azv (j+1) (⟨[],(⟨0,0,false,false,0,0,0,0⟩:TDcb),[],0⟩:aj6)).length=v.Sets.length:=by
    rw [ji,jl,cjj];omega
   refine (aju (x':=(v.Sets.take (k+1) ++ azv j (⟨[],(⟨0,0,false,false,0,0,0,0⟩:TDcb),[],0⟩:aj6),((k+1:Nat):Int))) ?_).trans (ih (k+1) m (by omega) (by omega))
   unfold aqh
   simp only [decide_eq_true hlt,cond_true,jn,dyq n _ (Jc hx (by decide)),jc]
   rw [aj9 _ ⟨by omega,hlt⟩,aj9 _ (by rw [hll];exact ⟨⟨by omega,hlt⟩,hk⟩),wid (n:=(k:Int)+1) (by omega)]
   have e:List.set (v.Sets.take k ++ azv (j+1) (⟨[],(⟨0,0,false,false,0,0,0,0⟩:TDcb),[],0⟩:aj6)) k (⟨(gt v.Sets k).Name,((gt v.Sets k).Dcb),(gt v.Sets k).Extents,(gt v.Sets k).Used⟩:aj6)=v.Sets.take (k+1) ++ azv j (⟨[],(⟨0,0,false,false,0,0,0,0⟩:TDcb),[],0⟩:aj6):=by
    show List.set _ k (gt v.Sets k)=_
    have hlk:(v.Sets.take k).length=k:=by rw [jl];omega
    have ht:v.Sets.take (k+1)=v.Sets.take k ++ [v.Sets[k]]:=by
     rw [JM,Jq hk];rfl
    rw [List.set_append_right _ _ (by omega),hlk,Nat.sub_self,ht,aqf hk,jQ]
    rfl
   rw [e];rfl
 have hz:=key v.Sets.length 0 n (by omega) (by omega)
 simp only [List.take_zero,Jt] at hz
 have hz':ajk (fun (x:(List aj6)×Int)=>aqh n v (v.Sets.length:Int) x.1 x.2) n ((azv (Int.toNat (v.Sets.length:Int)) (⟨[],(⟨0,0,false,false,0,0,0,0⟩:TDcb),[],0⟩:aj6)),0)=some v.Sets:=by
  rw [jn];exact hz
 unfold ajo
 rw [wid (n:=(v.Sets.length:Int)+1) (by omega),aj9 _ (by omega),hz',jc]
 rfl
end Go.Proofs.YtijnkhcfondehaaGreatDoor
/-
 ch. 21: tables with a label in another's place, tables without a label.
-/
namespace Go.Proofs.YtijnkhcfondehaaGreatDoor
open Go.AE
def wo (name:List UInt8) (l:List aj6):List aj6:=l.filter fun d=>d.Name != name
theorem fk3 (name:List UInt8) (l:List aj6):(wo name l).length≤l.length:=List.length_filter_le _ _
theorem ewz {name:List UInt8} {l:List aj6} {d:aj6}:d∈wo name l↔d∈l∧d.Name≠name:=by
 unfold wo;rw [List.mem_filter];simp
theorem ezq (n:Nat) (hn:N0≤n) (v:aj5) (name:List UInt8) (hl:v.Sets.length≤1000):ayg n v name=some ⟨v.Serial,v.Cyls,v.Heads,v.Size,wo name v.Sets⟩:=by
 have hn0:4194304≤n:=hn
 have key:∀ j k m,k+j=v.Sets.length→j < m→ajk (fun (x:(List aj6)×Int)=>az0 n name v x.1 x.2) m (wo name (v.Sets.take k),(k:Int))=some (wo name v.Sets):=by
  intro j
  induction j with
  | zero =>
   intro k m hj hm
   obtain ⟨m,rfl⟩:∃ q,m=q+1:=⟨m - 1,by omega⟩
   have hk:k=v.Sets.length:=by omega
   subst hk
   refine ajn ?_
   unfold az0
   simp only [Jj,decide_false,cond_false,JB]
  | succ j ih =>
   intro k m hj hm
   obtain ⟨m,rfl⟩:∃ q,m=q+1:=⟨m - 1,by omega⟩
   have hk:k < v.Sets.length:=by omega
   have hlt:((k:Nat):Int) < (v.Sets.length:Int):=by omega
   have hle:=fk3 name (v.Sets.take k)
   rw [jl] at hle
   have ht:v.Sets.take (k+1)=v.Sets.take k ++ [gt v.Sets k]:=by
    rw [JM,Jq hk,aqf hk];rfl
   refine (aju (x':=(wo name (v.Sets.take (k+1)),((k+1:Nat):Int))) ?_).trans (ih (k+1) m (by omega) (by omega))
   unfold az0
   simp only [decide_eq_true hlt,cond_true,jn,aka]
   rw [aj9 _ ⟨by omega,hlt⟩,aj9 _ ⟨⟨by omega,hlt⟩,by omega⟩,wid (n:=(k:Int)+1) (by omega),ht]
   have e:wo name (v.Sets.take k ++ [gt v.Sets k])=wo name (v.Sets.take k) ++ (if ((gt v.Sets k).Name != name)=true then [gt v.Sets k] else []):=by
    unfold wo;rw [List.filter_append];congr 1
    rw [List.filter_cons,List.filter_nil]
   rw [e]
   cases (gt v.Sets k).Name != name <;> simp
 have hz:=key v.Sets.length 0 n (by omega) (by omega)
 have hz':ajk (fun (x:(List aj6)×Int)=>az0 n name v x.1 x.2) n ([],0)=some (wo name v.Sets):=hz
 simp only [ayg,hz',jc,bje]
def ins (d:aj6):List aj6→List aj6
 | []=>[d]
 | x :: r=>if jG d.Name x.Name=true then d :: x :: r else x :: ins d r
def insP (d:aj6):List aj6→List aj6×Bool
 | []=>([],false)
 | x :: r=>if jG d.Name x.Name=true then (d :: x :: r,true) else (x :: (insP d r).1,(insP d r).2)
theorem hw8 (d:aj6):∀ l,ins d l=if (insP d l).2=true then (insP d l).1 else (insP d l).1 ++ [d]
 | []=>rfl
 | x :: r=>by
  rw [ins,insP]
  by_cases h:jG d.Name x.Name=true
  ·rw [if_pos h,if_pos h];rfl
  ·rw [if_neg h,if_neg h,hw8 d r]
   simp only
   split <;> simp
theorem ejz {d x:aj6}:∀ {l:List aj6},x∈ins d l↔x=d∨x∈l
 | []=>by simp [ins]
 | y :: r=>by
  rw [ins]
  split
  ·simp
  ·rw [jO,ejz,jO]
   constructor
   ·rintro (h | h | h)
    ·exact .inr (.inl h)
    ·exact .inl h
    ·exact .inr (.inr h)
   ·rintro (h | h | h)
    ·exact .inr (.inl h)
    ·exact .inl h
    ·exact .inr (.inr h)
theorem fzl (d:aj6):∀ l,(ins d l).length=l.length+1
 | []=>rfl
 | x :: r=>by
  rw [ins];split
  ·rfl
  ·rw [jz,fzl d r,jz]
theorem dz6 {d:aj6}:∀ {l:List aj6},l.Pairwise wlt→(∀ x∈l,x.Name≠d.Name)→(ins d l).Pairwise wlt
 | [],_,_=>by simp [ins]
 | y :: r,hs,hd=>by
  have hs':=JD.1 hs
  rw [ins]
  split
  ·rename_i h
   refine JD.2 ⟨fun x hx=>?_,hs⟩
   rcases jO.1 hx with rfl | hx
   ·exact h
   ·exact ck5 h (hs'.1 x hx)
  ·rename_i h
   refine JD.2 ⟨fun x hx=>?_,dz6 hs'.2 fun x hx=>hd x (Jv _ hx)⟩
   rcases ejz.1 hx with rfl | hx
   ·rcases dye y.Name x.Name with h1 | h1 | h1
    ·exact h1
    ·exact absurd h1 (hd y j8)
    ·exact absurd h1 h
   ·exact hs'.1 x hx
theorem gwx {d:aj6}:∀ {l:List aj6},(∀ x∈l,x.Name≠d.Name)→ins d l=l.take (lowN l d.Name) ++ [d] ++ l.drop (lowN l d.Name)
 | [],_=>rfl
 | y :: r,hd=>by
  have hne:=hd y j8
  rw [ins]
  unfold lowN
  rw [List.takeWhile_cons]
  rcases dye y.Name d.Name with h1 | h1 | h1
  ·rw [if_neg (by rw [ek9 h1];simp),if_pos h1,jz,List.take_succ_cons,List.drop_succ_cons,gwx fun x hx=>hd x (Jv _ hx)]
   rfl
  ·exact absurd h1 hne
  ·rw [if_pos h1,if_neg (by rw [ek9 h1];simp)]
   rfl
theorem gqy (n:Nat) (d:aj6) (a:List UInt8) (b c e:Int) (w:List aj6) (hl:w.length≤1000):∀ j k m acc,k+j=w.length→j < m→acc.length≤k+1 →
  (ajk (fun (x:(List aj6)×Bool×Int)=>aw1 n d a b c e w x.1 x.2.1 x.2.2) m (acc,true,(k:Int))=some (acc ++ w.drop k,true)) ∧
  (acc.length≤k→ajk (fun (x:(List aj6)×Bool×Int)=>aw1 n d a b c e w x.1 x.2.1 x.2.2) m (acc,false,(k:Int))=some (acc ++ (insP d (w.drop k)).1,(insP d (w.drop k)).2)):=by
 intro j
 induction j with
 | zero =>
  intro k m acc hj hm ha
  obtain ⟨m,rfl⟩:∃ q,m=q+1:=⟨m - 1,by omega⟩
  have hk:k=w.length:=by omega
  subst hk
  rw [List.drop_length]
  refine ⟨ajn ?_,fun _=>ajn ?_⟩
  ·unfold aw1
   simp only [Jj,decide_false,cond_false,Jy]
  ·unfold aw1
   simp only [Jj,decide_false,cond_false,Jy,insP]
 | succ j ih =>
  intro k m acc hj hm ha
  obtain ⟨m,rfl⟩:∃ q,m=q+1:=⟨m - 1,by omega⟩
  have hk:k < w.length:=by omega
  have hlt:((k:Nat):Int) < (w.length:Int):=by omega
  have hd:w.drop k=gt w k :: w.drop (k+1):=by rw [aqf hk];exact List.drop_eq_getElem_cons hk
  rw [hd]
  have hw:=wid (n:=(k:Int)+1) (by omega)
  refine ⟨?_,fun ha'=>?_⟩
  ·refine (aju (x':=(acc ++ [gt w k],true,((k+1:Nat):Int))) ?_).trans (((ih (k+1) m (acc ++ [gt w k]) (by omega) (by omega) (by simp;omega)).1).trans (by simp))
   unfold aw1
   simp only [decide_eq_true hlt,cond_true,cond_false,jn,ak2,ays,jK,jj,false_implies,if_false,and_self]
   rw [aj9 _ trivial,aj9 _ ⟨⟨by omega,hlt⟩,hk,by omega⟩,hw]
   rfl
  ·rw [insP]
   by_cases hc:jG d.Name (gt w k).Name=true
   ·rw [if_pos hc]
    refine (aju (x':=(acc ++ [d] ++ [gt w k],true,((k+1:Nat):Int))) ?_).trans (((ih (k+1) m (acc ++ [d] ++ [gt w k]) (by omega) (by omega) (by simp;omega)).1).trans (by simp))
    unfold aw1
    simp only [decide_eq_true hlt,cond_true,cond_false,jn,ak2,ays,jS,if_true,hc,true_implies]
    rw [aj9 _ ⟨⟨by omega,hlt⟩,hk⟩,aj9 _ (by omega),aj9 _ ⟨⟨by omega,hlt⟩,hk,by simp;omega⟩,hw]
    rfl
   ·rw [if_neg hc]
    refine (aju (x':=(acc ++ [gt w k],false,((k+1:Nat):Int))) ?_).trans (((ih (k+1) m (acc ++ [gt w k]) (by omega) (by omega) (by simp;omega)).2 (by simp;omega)).trans (by simp))
    unfold aw1
    have hc':jG d.Name (gt w k).Name=false:=by simpa using hc
    simp only [decide_eq_true hlt,cond_true,cond_false,jn,ak2,ays,jS,if_true,hc',true_implies]
    rw [aj9 _ ⟨⟨by omega,hlt⟩,hk⟩,aj9 _ ⟨⟨by omega,hlt⟩,hk,by omega⟩,hw]
    rfl
theorem fzd (n:Nat) (hn:N0≤n) (v:aj5) (name:List UInt8) (d:aj6) (hl:v.Sets.length≤1000):akj n v name d=some ⟨v.Serial,v.Cyls,v.Heads,v.Size,ins d (wo name v.Sets)⟩:=by
 have hn0:4194304≤n:=hn
 have hle:=fk3 name v.Sets
 simp only [akj,ezq n hn v name hl,jc]
 have key:=(gqy n d v.Serial v.Cyls v.Heads v.Size (wo name v.Sets) (by omega) (wo name v.Sets).length 0 n [] (by omega) (by omega) (by simp)).2 (by simp)
 simp only [List.drop_zero,Jt] at key
 have key':ajk (fun (x:(List aj6)×Bool×Int)=>aw1 n d v.Serial v.Cyls v.Heads v.Size (wo name v.Sets) x.1 x.2.1 x.2.2) n ([],false,0)=some ((insP d (wo name v.Sets)).1,(insP d (wo name v.Sets)).2):=key
 rw [key',jc,hw8]
 have hpl:(insP d (wo name v.Sets)).1.length+1≤2147483648:=by
  have h1:=fzl d (wo name v.Sets)
  rw [hw8] at h1
  split at h1
  ·omega
  ·rw [ji] at h1;simp at h1;omega
 unfold bka
 cases (insP d (wo name v.Sets)).2 with
 | true=>rfl
 | false =>
  simp only [jS,cond_true,jj,if_false]
  rw [aj9 _ hpl];rfl
theorem hw3 {l:List aj6} {k:Nat} {d:aj6} (hs:l.Pairwise wlt) (hk:k < l.length) (hd:d.Name=(gt l k).Name):l.set k d=ins d (wo d.Name l):=by
 have hp:=Jd.1 hs
 have hmem:∀ x,x∈l.set k d↔x=d∨(x∈l∧x.Name≠d.Name):=by
  intro x
  constructor
  ·intro hx
   obtain ⟨i,hi,rfl⟩:=j1 hx
   rw [jU] at hi
   by_cases e:i=k
   ·subst e;left;simp
   ·right
    rw [List.getElem_set_ne (Ne.symm e)]
    refine ⟨jw hi,fun he=>?_⟩
    rw [hd,aqf hk] at he
    rcases jD i k with h | h
    ·exact fqd (hp i k hi hk h) he
    ·exact fqd (hp k i hk hi (by omega)) he.symm
  ·rintro (rfl | ⟨hx,hne⟩)
   ·exact List.mem_iff_getElem.2 ⟨k,by simpa using hk,by simp⟩
   ·obtain ⟨i,hi,rfl⟩:=j1 hx
    have e:k≠i:=by rintro rfl;rw [hd,aqf hk] at hne;exact hne rfl
    exact List.mem_iff_getElem.2 ⟨i,by simpa using hi,List.getElem_set_ne e _⟩
 refine eya ?_ (dz6 (hs.filter _) fun x hx=>(ewz.1 hx).2) fun x=>?_
 ·rw [Jd]
  intro i j hi hj hij
  rw [jU] at hi hj
  have h0:=hp i j hi hj hij
  rw [wlt,List.getElem_set,List.getElem_set]
  rw [aqf hk] at hd
  by_cases e1:k=i <;> by_cases e2:k=j
  ·omega
  ·subst e1;rw [if_pos rfl,if_neg e2,hd];exact h0
  ·subst e2;rw [if_neg e1,if_pos rfl,hd];exact h0
  ·rw [if_neg e1,if_neg e2];exact h0
 ·rw [hmem,ejz,ewz]
end Go.Proofs.YtijnkhcfondehaaGreatDoor
/-
 ch. 21: Create and Extend, by the program and by the specification.
-/
namespace Go.Proofs.YtijnkhcfondehaaGreatDoor
open Go.AE
theorem gkx (n:Nat) (hn:N0≤n) (l:List aj0) (w:Int) (hl:l.length≤2097152) (hw:-9223372036854775808≤w∧w≤9223372036854775807):∃ r:List aj0×List aj0,bko n l w=some r∧cjh n l w=some r∧r.1.length≤l.length:=by
 have hn0:4194304≤n:=hn
 simp only [bko,cjh,djp n hn l (by omega),cjm n hn l hl,jc]
 by_cases h:(trkF [] l).isSome=true
 ·obtain ⟨hv,hnd⟩:=(awr l).1 h
  obtain ⟨y,y1,y2,y3,y4,y5⟩:=gqm n l hv w hw (by omega) (by omega)
  have hm:0≤mx w∧mx w≤9223372036854775807:=by unfold mx;split <;> omega
  have hK:=gkp n l hv (mx w) hm (by omega) (by omega)
  have em:(if 0 > w then 0 else w)=mx w:=rfl
  have hk:=hqn l (mx w)
  simp only [h,jK,ajj,jj,if_false,em,hK,y1,jc,bza,bkg,drop_eq n y.1 (by omega) (by omega),drop_eq n y.2 (by omega) (by omega),y2,y3]
  exact ⟨_,rfl,rfl,hk.1⟩
 ·rw [Ja] at h
  simp only [h,jS,ajj,if_true]
  exact ⟨_,rfl,rfl,by simp⟩
theorem fkf (n:Nat) (hn:N0≤n) (l:List aj0) (w most:Int) (hl:l.length≤2097152) (hw2:w≤9223372036854775807):∃ r,awo n l w most=some r∧bwl n l w most=some r∧(r.1=[]∨((r.1.length:Nat):Int)≤most):=by
 obtain ⟨r,h1,h2,_⟩:=hqz n hn l w most hl hw2
 refine ⟨r,h1,h2,?_⟩
 rcases gyi n hn l w most hl hw2 with ⟨h3,_⟩ | ⟨_,v,h3,_,_,_,_,_,h4⟩ | ⟨_,h3,_⟩
 ·rw [h1] at h3;rw [Option.some.inj h3];exact .inl rfl
 ·rw [h1] at h3;rw [Option.some.inj h3];exact .inr h4
 ·rw [h1] at h3;rw [Option.some.inj h3];exact .inl rfl
theorem gwk {s:List UInt8} (h:dj4 s=true):s.length≤44∧s≠[]:=by
 unfold dj4 at h
 rw [jf,decide_eq_true_eq] at h
 refine ⟨h.1,?_⟩
 rintro rfl
 exact absurd h.2 (by decide)
theorem bqm {v:aj5} (h:rV v=true):v.Sets.Pairwise wlt∧v.Sets.length≤64∧(v.Sets.length:Int)≤14 * v.Size∧(1≤v.Size∧v.Size≤511)∧∀ d∈v.Sets,dj4 d.Name=true∧d.Extents.length≤8:=by
 obtain ⟨h1,h2,h3,h4,h5⟩:=hqp.1 h
 refine ⟨hqs.1 fun k hk=>(h4 k hk).2,h2,h3,gzv h1,fun d hd=>?_⟩
 obtain ⟨k,hk,rfl⟩:=j1 hd
 have:=(h4 k hk).1.1
 rw [aqf hk] at this
 unfold pLbl inB at this
 simp only [jf,decide_eq_true_eq] at this
 exact ⟨this.1.1.1.1.1,by omega⟩
theorem hzp {l:List aj6} (h:∀ d∈l,dj4 d.Name=true):wo [] l=l:=by
 unfold wo
 rw [List.filter_eq_self]
 intro d hd
 have:=(gwk (h d hd)).2
 simpa using this
theorem ezf {l:List aj6} {name:List UInt8} (h:hasN l name=false):∀ x∈l,x.Name≠name:=by
 intro x hx e
 unfold hasN at h
 rw [List.any_eq_false] at h
 exact h x hx (by rw [e];simp)
def tz:aj5:=⟨[],0,0,0,[]⟩
theorem awh:bj5 tz:=⟨by simp [tz],by simp [tz],by simp [tz]⟩
theorem fwa {v:aj5} {d:aj6} {l:List aj6} (hv:bj5 v) (hl:l.length≤64) (hm:∀ x∈l,x∈v.Sets) (hd:d.Name.length≤100) (hx:d.Extents.length≤20):bj5 ⟨v.Serial,v.Cyls,v.Heads,v.Size,ins d l⟩:=by
 refine ⟨?_,hv.2.1,fun x hx'=>?_⟩
 ·show (ins d l).length≤70
  rw [fzl];omega
 ·rcases ejz.1 hx' with rfl | h
  ·exact ⟨hd,hx⟩
  ·exact hv.2.2 x (hm x h)
theorem djs (n:Nat) (hn:N0≤n) (v:aj5) (hv:bj5 v) (name:List UInt8):ak3 n v name=some (if rV v=true then (if hasN v.Sets name=true then 0 else 3) else 5):=by
 unfold ak3
 rw [ejf n hn v hv,jc]
 cases hr:rV v with
 | false=>rfl
 | true =>
  obtain ⟨hs,hl,_⟩:=bqm hr
  simp only [jK,cond_false,cqu n hn v name hs (by omega),jc,if_true]
  cases hasN v.Sets name with
  | true=>simp only [if_true];rw [decide_eq_false (by omega)];rfl
  | false=>rfl
theorem gwc (n:Nat) (hn:N0≤n) (v:aj5) (hv:bj5 v) (nm:List UInt8) (c:TDcb) (x:List aj0) (u N:Int) (hnm:nm.length≤100) (hN:N≤9223372036854775807) :
  ∃ r,aky n v ⟨nm,c,x,u⟩ N=some r∧bzg n v ⟨nm,c,[],0⟩ N=some r∧bj5 r.1:=by
 have hn0:4194304≤n:=hn
 simp only [aky,bzg,bkz n hn v hv,ejf n hn v hv,fzv,jc]
 cases hr:rV v with
 | false=>exact ⟨_,rfl,rfl,awh⟩
 | true =>
  obtain ⟨hs,hl,hl2,hz,hm⟩:=bqm hr
  simp only [if_true,bne_self_eq_false,cond_false,jK,fzh n _ hn,eym n nm hn (by omega),fwx,eyk,jc,Jo,j7,implies_true]
  rw [aj9 _ trivial,aj9 _ trivial]
  cases hc:(if (if (!dj4 nm)=true then true else !dscB c)=true then true else decide (N < 1)) with
  | true=>exact ⟨_,rfl,rfl,awh⟩
  | false =>
   simp only [cond_false,cqt n hn v nm hs (by omega),cqu n hn v nm hs (by omega),jc]
   cases hh:hasN v.Sets nm with
   | true =>
    simp only [if_true]
    rw [decide_eq_true (by omega)]
    exact ⟨_,rfl,rfl,awh⟩
   | false =>
    simp only [cond_false,jj,if_false]
    have w1:jd .i64 (14 * v.Size)=14 * v.Size:=wid (by omega)
    rw [w1]
    have e1:decide ((-1:Int) ≥ 0)=false:=by decide
    have e2:((v.Sets.length:Int) == if 14 * v.Size < 64 then 14 * v.Size else 64)=(if decide ((v.Sets.length:Int) ≥ 64)=true then true else decide ((v.Sets.length:Int) ≥ 14 * v.Size)):=by
     rw [dw6,JP,beq_iff_eq,Jz,decide_eq_true_eq,decide_eq_true_eq]
     split <;> omega
    rw [e1,cond_false,e2]
    cases hf:(if decide ((v.Sets.length:Int) ≥ 64)=true then true else decide ((v.Sets.length:Int) ≥ 14 * v.Size)) with
    | true=>exact ⟨_,rfl,rfl,awh⟩
    | false =>
     obtain ⟨R,hR1,hR2,hR3⟩:=fk7 n hn v hv
     obtain ⟨r,h1,h2,h3⟩:=fkf n hn R N 8 (by omega) hN
     simp only [cond_false,hR1,hR2,h1,h2,jc]
     cases r.2.2 != 0 with
     | true=>exact ⟨_,rfl,rfl,awh⟩
     | false =>
      have hlo:=gw0 v.Sets nm
      have hno:=ezf hh
      simp only [cond_false,cq2 n hn v hv,jc,fzd n hn v [] _ (by omega:v.Sets.length≤1000),hzp (fun d hd=>(hm d hd).1),bqz,jn]
      rw [aj9 _ (by simp only [jz,List.length_nil];omega),jc]
      have ei:=gwx (d:=⟨nm,c,r.1,0⟩) (l:=v.Sets) hno
      have hx8:r.1.length≤8:=by
       rcases h3 with h3 | h3
       ·rw [h3];simp
       ·omega
      refine ⟨_,rfl,by rw [ei],?_⟩
      have:=fwa (d:=⟨nm,c,r.1,0⟩) hv hl (fun x hx=>hx) hnm (by show r.1.length≤20;omega)
      rw [ei] at this
      exact this
theorem eq4 {v:aj5} {k:Nat} {d:aj6} (hv:bj5 v) (hd:d.Name.length≤100) (hx:d.Extents.length≤20):bj5 ⟨v.Serial,v.Cyls,v.Heads,v.Size,v.Sets.set k d⟩:=by
 refine ⟨by show (v.Sets.set k d).length≤70;rw [jU];exact hv.1,hv.2.1,fun x hx'=>?_⟩
 rcases List.mem_or_eq_of_mem_set hx' with h | rfl
 ·exact hv.2.2 x h
 ·exact ⟨hd,hx⟩
theorem cjq {v:aj5} {name:List UInt8} (hr:rV v=true) (hh:hasN v.Sets name=true):lowN v.Sets name < v.Sets.length∧(gt v.Sets (lowN v.Sets name)).Name=name∧gt v.Sets (lowN v.Sets name)∈v.Sets∧(gt v.Sets (lowN v.Sets name)).Extents.length≤8:=by
 obtain ⟨hs,hl,hl2,hz,hm⟩:=bqm hr
 obtain ⟨h1,h2⟩:=(ekz hs).1 hh
 have hmem:gt v.Sets (lowN v.Sets name)∈v.Sets:=by rw [aqf h1];exact jw h1
 exact ⟨h1,h2,hmem,(hm _ hmem).2⟩
theorem ekd (n:Nat) (hn:N0≤n) {v:aj5} {name:List UInt8} (hr:rV v=true) (hh:hasN v.Sets name=true) (d:aj6) (hd:d.Name=name):akj n v name d=some ⟨v.Serial,v.Cyls,v.Heads,v.Size,v.Sets.set (lowN v.Sets name) d⟩:=by
 obtain ⟨hs,hl,hl2,hz,hm⟩:=bqm hr
 obtain ⟨h1,h2,h3,h4⟩:=cjq hr hh
 rw [fzd n hn v name d (by omega),hw3 hs h1 (hd.trans h2.symm),hd]
theorem gqt (n:Nat) (hn:N0≤n) (v:aj5) (hv:bj5 v) (nm:List UInt8) (N:Int) (hnm:nm.length≤100) (hN:N≤9223372036854775807) :
  ∃ r,bwo n v nm N=some r∧bzs n v nm N=some r∧bj5 r.1:=by
 have hn0:4194304≤n:=hn
 simp only [bwo,bke,bzs,bkz n hn v hv,djs n hn v hv,fzv,jc]
 cases hr:rV v with
 | false=>exact ⟨_,rfl,rfl,awh⟩
 | true =>
  obtain ⟨hs,hl,hl2,hz,hm⟩:=bqm hr
  simp only [if_true,bne_self_eq_false,cond_false,cqt n hn v nm hs (by omega),cqu n hn v nm hs (by omega),jc]
  cases hh:hasN v.Sets nm with
  | false=>exact ⟨_,rfl,rfl,awh⟩
  | true =>
   obtain ⟨h1,h2,h3,h4⟩:=cjq hr hh
   have hlt:((lowN v.Sets nm:Nat):Int) < (v.Sets.length:Int):=by omega
   simp only [jK,cond_false,if_true,bne_self_eq_false,cq2 n hn v hv,jc]
   rw [aj9 _ ⟨⟨by omega,hlt⟩,trivial⟩,aj9 _ ⟨by omega,hlt⟩]
   simp only [az9,jn]
   cases decide (N < 1) with
   | true=>exact ⟨_,rfl,rfl,awh⟩
   | false =>
    have w8:jd .i64 (8 - ((gt v.Sets (lowN v.Sets nm)).Extents.length:Int))=8 - ((gt v.Sets (lowN v.Sets nm)).Extents.length:Int):=wid (by omega)
    have e8:(8 - ((gt v.Sets (lowN v.Sets nm)).Extents.length:Int) == 0)=(((gt v.Sets (lowN v.Sets nm)).Extents.length:Int) == 8):=by
     rw [JP,beq_iff_eq,beq_iff_eq];omega
    simp only [cond_false,w8,e8]
    cases ((gt v.Sets (lowN v.Sets nm)).Extents.length:Int) == 8 with
    | true=>exact ⟨_,rfl,rfl,awh⟩
    | false =>
     obtain ⟨R,hR1,hR2,hR3⟩:=fk7 n hn v hv
     obtain ⟨r,t1,t2,t3⟩:=fkf n hn R N (8 - ((gt v.Sets (lowN v.Sets nm)).Extents.length:Int)) (by omega) hN
     have hx8:(gt v.Sets (lowN v.Sets nm)).Extents.length+r.1.length≤8:=by
      rcases t3 with h3 | h3
      ·rw [h3];simp;exact h4
      ·omega
     simp only [cond_false,hR1,hR2,t1,t2,jc]
     rw [aj9 _ (by omega),jc]
     cases r.2.2 != 0 with
     | true=>exact ⟨_,rfl,rfl,awh⟩
     | false =>
      simp only [cond_false,jc]
      rw [aj9 _ (by omega),ekd n hn hr hh _ (by exact h2),jc]
      exact ⟨_,rfl,rfl,eq4 hv (by rw [h2];exact hnm) (by simp only [ji];omega)⟩
end Go.Proofs.YtijnkhcfondehaaGreatDoor
/-
 ch. 21: Release, Update, Scratch and Rename, by the program and by the specification.
-/
namespace Go.Proofs.YtijnkhcfondehaaGreatDoor
open Go.AE Go.Sort
theorem hqw {α:Type} [Inhabited α] (l:List α) (i:Nat) (x:α) (h:i < l.length):gt (l.set i x) i=x:=by
 simp [gt,ja,h]
theorem ejl {α:Type} (l:List α) (i:Nat) (x:α):(l.set i x).length=l.length:=jU
theorem gqa (n:Nat) (hn:N0≤n) (v:aj5) (hv:bj5 v) (nm:List UInt8) (N:Int) (hnm:nm.length≤100) (hN:-9223372036854775808≤N∧N≤9223372036854775807) :
  ∃ r,bq9 n v nm N=some r∧bqt n v nm N=some r∧bj5 r.1:=by
 have hn0:4194304≤n:=hn
 simp only [bq9,aki,bqt,bkz n hn v hv,djs n hn v hv,fzv,jc]
 cases hr:rV v with
 | false=>exact ⟨_,rfl,rfl,awh⟩
 | true =>
  obtain ⟨hs,hl,hl2,hz,hm⟩:=bqm hr
  simp only [if_true,bne_self_eq_false,cond_false,cqt n hn v nm hs (by omega),cqu n hn v nm hs (by omega),jc]
  cases hh:hasN v.Sets nm with
  | false=>exact ⟨_,rfl,rfl,awh⟩
  | true =>
   obtain ⟨h1,h2,h3,h4⟩:=cjq hr hh
   have hlt:((lowN v.Sets nm:Nat):Int) < (v.Sets.length:Int):=by omega
   simp only [jK,cond_false,if_true,bne_self_eq_false,cq2 n hn v hv,jc]
   rw [aj9 _ ⟨by omega,hlt⟩,aj9 _ ⟨by omega,hlt⟩]
   simp only [aye,jn]
   rw [aj9 _ ⟨h1,h1⟩]
   -- what is used lies in a word
   have hu:0≤(gt v.Sets (lowN v.Sets nm)).Used∧(gt v.Sets (lowN v.Sets nm)).Used≤512:=by
    have:=((hqp.1 hr).2.2.2.1 _ h1).1.1
    unfold pLbl inB at this
    simp only [jf,decide_eq_true_eq] at this
    have:=ekh (gt v.Sets (lowN v.Sets nm)).Extents
    omega
   obtain ⟨w,hw⟩:∃ w,w=(if 1 > (if (gt v.Sets (lowN v.Sets nm)).Used > N then (gt v.Sets (lowN v.Sets nm)).Used else N) then 1 else (if (gt v.Sets (lowN v.Sets nm)).Used > N then (gt v.Sets (lowN v.Sets nm)).Used else N)):=⟨_,rfl⟩
   have hwr:-9223372036854775808≤w∧w≤9223372036854775807:=by rw [hw];split <;> (try split) <;> omega
   obtain ⟨r,k1,k2,k3⟩:=gkx n hn (gt v.Sets (lowN v.Sets nm)).Extents w (by omega) hwr
   rw [← hw,k1,jc,aj9 _ h1,jc]
   simp only [ejl]
   rw [aj9 _ trivial]
   simp only [bne_self_eq_false,cond_false,jc]
   have hL:=eq4 (k:=lowN v.Sets nm) (d:=⟨(gt v.Sets (lowN v.Sets nm)).Name,(gt v.Sets (lowN v.Sets nm)).Dcb,r.1,(gt v.Sets (lowN v.Sets nm)).Used⟩) hv (by rw [h2];exact hnm) (by show r.1.length≤20;omega)
   have key:∀ q,q=w→awy n nm v (gt v.Sets (lowN v.Sets nm)).Name (gt v.Sets (lowN v.Sets nm)).Dcb.Org (gt v.Sets (lowN v.Sets nm)).Dcb.Format (gt v.Sets (lowN v.Sets nm)).Dcb.Blocked (gt v.Sets (lowN v.Sets nm)).Dcb.Asa (gt v.Sets (lowN v.Sets nm)).Dcb.Lrecl (gt v.Sets (lowN v.Sets nm)).Dcb.Blksize (gt v.Sets (lowN v.Sets nm)).Dcb.KeyLen (gt v.Sets (lowN v.Sets nm)).Dcb.KeyPos (gt v.Sets (lowN v.Sets nm)).Extents (gt v.Sets (lowN v.Sets nm)).Used q=some (⟨v.Serial,v.Cyls,v.Heads,v.Size,v.Sets.set (lowN v.Sets nm) ⟨(gt v.Sets (lowN v.Sets nm)).Name,(gt v.Sets (lowN v.Sets nm)).Dcb,r.1,(gt v.Sets (lowN v.Sets nm)).Used⟩⟩,0):=by
    rintro q rfl
    simp only [awy,k2,jc]
    rw [ekd n hn hr hh _ (by exact h2),jc]
   refine ⟨_,rfl,?_,hL⟩
   by_cases c1:N > 1
   ·rw [decide_eq_true c1,cond_true]
    unfold awz
    by_cases c2:(gt v.Sets (lowN v.Sets nm)).Used > N
    ·rw [decide_eq_true c2,cond_true]
     refine key _ ?_
     rw [hw]
     simp only [if_pos c2]
     rw [if_neg (by omega)]
    ·rw [decide_eq_false c2,cond_false]
     refine key _ ?_
     rw [hw]
     simp only [if_neg c2]
     rw [if_neg (by omega)]
   ·rw [decide_eq_false c1,cond_false]
    unfold awz
    by_cases c2:(gt v.Sets (lowN v.Sets nm)).Used > 1
    ·rw [decide_eq_true c2,cond_true]
     refine key _ ?_
     have c3:(gt v.Sets (lowN v.Sets nm)).Used > N:=by omega
     rw [hw]
     simp only [if_pos c3]
     rw [if_neg (by omega)]
    ·rw [decide_eq_false c2,cond_false]
     refine key _ ?_
     rw [hw]
     split <;> split <;> omega
theorem gqr (n:Nat) (hn:N0≤n) (v:aj5) (hv:bj5 v) (nm:List UInt8) (c:TDcb) (N:Int) (hnm:nm.length≤100) :
  ∃ r,bwm n v nm c N=some r∧bzh n v nm c N=some r∧bj5 r.1:=by
 have hn0:4194304≤n:=hn
 simp only [bwm,bz4,bzh,bkz n hn v hv,djs n hn v hv,fzv,jc]
 cases hr:rV v with
 | false=>exact ⟨_,rfl,rfl,awh⟩
 | true =>
  obtain ⟨hs,hl,hl2,hz,hm⟩:=bqm hr
  simp only [if_true,bne_self_eq_false,cond_false,cqt n hn v nm hs (by omega),cqu n hn v nm hs (by omega),jc]
  cases hh:hasN v.Sets nm with
  | false=>exact ⟨_,rfl,rfl,awh⟩
  | true =>
   obtain ⟨h1,h2,h3,h4⟩:=cjq hr hh
   have hlt:((lowN v.Sets nm:Nat):Int) < (v.Sets.length:Int):=by omega
   simp only [jK,cond_false,if_true,bne_self_eq_false,cq2 n hn v hv,jc]
   rw [aj9 _ ⟨by omega,hlt⟩,aj9 _ ⟨by omega,hlt⟩]
   simp only [bjh,jn,fwx,eyk,jc]
   cases hc:dscB c with
   | false =>
    simp only [jS,cond_true,jc]
    rw [aj9 _ (by first | trivial | rfl)]
    exact ⟨_,rfl,rfl,awh⟩
   | true =>
    simp only [jK,cond_false]
    rw [aj9 _ h1]
    simp only [fyg n hn (gt v.Sets (lowN v.Sets nm)).Extents (by omega),fjs n hn (gt v.Sets (lowN v.Sets nm)).Extents (by omega),gzd,fqh,jc]
    cases inB N 0 ((trkO (gt v.Sets (lowN v.Sets nm)).Extents).length:Int) with
    | false =>
     simp only [jS,cond_true,jc]
     rw [aj9 _ (by first | trivial | rfl)]
     exact ⟨_,rfl,rfl,awh⟩
    | true =>
     simp only [jK,cond_false]
     rw [aj9 _ ⟨h1,h1⟩]
     simp only [jc,ejl]
     rw [aj9 _ trivial]
     simp only [bne_self_eq_false,cond_false,jc,hqw _ _ _ h1,List.set_set]
     rw [ekd n hn hr hh _ (by exact h2),jc]
     exact ⟨_,rfl,rfl,eq4 hv (by rw [h2];exact hnm) (by show (gt v.Sets (lowN v.Sets nm)).Extents.length≤20;omega)⟩
theorem gq4 (n:Nat) (s:List aj6) (nm:List UInt8) (hl:s.length≤1000) (p:Nat) (hp:p < s.length) (h1:∀ k,k < p→(gt s k).Name≠nm) (h2:(gt s p).Name=nm):∀ j k m,k+j=p→j < m →
  ajk (fun (x:Int)=>ajy n s nm ((s.length:Nat):Int) x) m (k:Int)=some (.inl ((p:Nat):Int)):=by
 intro j
 induction j with
 | zero =>
  intro k m hj hm
  obtain ⟨m,rfl⟩:∃ q,m=q+1:=⟨m - 1,by omega⟩
  have hk:k=p:=by omega
  subst hk
  have hlt:((k:Nat):Int) < (s.length:Int):=by omega
  refine ajn ?_
  unfold ajy
  simp only [decide_eq_true hlt,cond_true,jn,aqo,jc,h2,beq_self_eq_true]
  rw [aj9 _ ⟨⟨by omega,hlt⟩,hp⟩]
 | succ j ih =>
  intro k m hj hm
  obtain ⟨m,rfl⟩:∃ q,m=q+1:=⟨m - 1,by omega⟩
  have hlt:((k:Nat):Int) < (s.length:Int):=by omega
  refine (aju (x':=((k+1:Nat):Int)) ?_).trans (ih (k+1) m (by omega) (by omega))
  unfold ajy
  simp only [decide_eq_true hlt,cond_true,jn,aqo,jc]
  rw [aj9 _ ⟨⟨by omega,hlt⟩,by omega⟩,beq_eq_false_iff_ne.2 (h1 k (by omega)),wid (n:=(k:Int)+1) (by omega)]
  rfl
theorem fwy (nm:List UInt8) (l:List aj6) (d:aj6):wo nm (l ++ [d])=wo nm l ++ (if (d.Name != nm)=true then [d] else []):=by
 unfold wo;rw [List.filter_append,List.filter_cons,List.filter_nil]
theorem fzp (n:Nat) (s:List aj6) (nm:List UInt8) (hl:s.length≤1000):∀ j k m (b:List aj6) (i:Nat),k+j=s.length→j < m→b.length=s.length→i < k∨(i=k)→i≤k→b.take i=wo nm (s.take k)→b.drop k=s.drop k →
  ∃ b' i',ajk (fun (x:(List aj6)×Int×Int)=>ajp n nm x.1 x.2.1 x.2.2) m (b,(i:Int),(k:Int))=some (b',((i':Nat):Int))∧b'.length=s.length∧i'≤s.length∧b'.take i'=wo nm s:=by
 intro j
 induction j with
 | zero =>
  intro k m b i hj hm hb _ hi h1 h2
  obtain ⟨m,rfl⟩:∃ q,m=q+1:=⟨m - 1,by omega⟩
  have hk:k=s.length:=by omega
  subst hk
  refine ⟨b,i,ajn ?_,hb,hi,by rw [h1,JB]⟩
  unfold ajp
  dsimp only
  rw [hb,decide_eq_false (by omega),cond_false]
 | succ j ih =>
  intro k m b i hj hm hb _ hi h1 h2
  obtain ⟨m,rfl⟩:∃ q,m=q+1:=⟨m - 1,by omega⟩
  have hk:k < s.length:=by omega
  have hlt:((k:Nat):Int) < (b.length:Int):=by omega
  have hw:=wid (n:=(k:Int)+1) (by omega)
  have hw2:=wid (n:=(i:Int)+1) (by omega)
  have hgk:gt b k=gt s k:=by
   have e1:gt b k=gt (b.drop k) 0:=by simp [gt,ja]
   have e2:gt s k=gt (s.drop k) 0:=by simp [gt,ja]
   rw [e1,e2,h2]
  have ht:s.take (k+1)=s.take k ++ [gt s k]:=by
   rw [JM,Jq hk,aqf hk];rfl
  have hd:∀ q:List aj6,q.drop k=s.drop k→q.drop (k+1)=s.drop (k+1):=fun q hq=>by
   rw [← List.drop_drop,← List.drop_drop,hq]
  by_cases hc:((gt s k).Name == nm)=true
  ·obtain ⟨b',i',g1,g2⟩:=ih (k+1) m b i (by omega) (by omega) hb (by omega) (by omega) (by
    rw [h1,ht,fwy]
    have:((gt s k).Name != nm)=false:=by simp only [bne,hc,jK]
    rw [this];simp) (hd b h2)
   refine ⟨b',i',(aju ?_).trans g1,g2⟩
   unfold ajp
   simp only [decide_eq_true hlt,cond_true,jn,aqo,jc,hgk,hc,jK,cond_false,aq0,hw]
   rw [aj9 _ ⟨⟨by omega,hlt⟩,by omega⟩]
   rfl
  ·rw [Ja] at hc
   have hil:i < b.length:=by omega
   obtain ⟨b',i',g1,g2⟩:=ih (k+1) m (List.set b i (gt s k)) (i+1) (by omega) (by omega) (by rw [jU];exact hb) (by omega) (by omega) (by
    rw [ht,fwy]
    have:((gt s k).Name != nm)=true:=by simp only [bne,hc,jS]
    rw [this,if_pos rfl,← h1,JM,List.take_set_of_le (jA _)]
    simp [hil]) (by
    have:=hd b h2
    rw [List.drop_set_of_lt (by omega)];exact this)
   refine ⟨b',i',(aju ?_).trans g1,g2⟩
   unfold ajp
   simp only [decide_eq_true hlt,cond_true,jn,aqo,jc,hgk,hc,jS,aq0,hw,hw2]
   rw [aj9 _ ⟨⟨by omega,hlt⟩,by omega⟩,aj9 _ ⟨⟨by omega,by omega⟩,hil⟩]
   rfl
theorem fyt (n:Nat) (hn:N0≤n) (s:List aj6) (nm:List UInt8) (hl:s.length≤1000) (p:Nat) (hp:p < s.length) (h1:∀ k,k < p→(gt s k).Name≠nm) (h2:(gt s p).Name=nm) :
  ∃ r,aqr n s nm=some r∧List.take r.1 r.2=wo nm s:=by
 have hn0:4194304≤n:=hn
 have key:ajk (fun (x:Int)=>ajy n s nm ((s.length:Nat):Int) x) n 0=some (.inl ((p:Nat):Int)):=gq4 n s nm hl p hp h1 h2 p 0 n (by omega) (by omega)
 simp only [aqr,aw5,key,jc]
 have e1:(((p:Nat):Int) == -1)=false:=by rw [beq_eq_false_iff_ne];omega
 rw [e1,cond_false,wid (n:=(p:Int)+1) (by omega)]
 have hpre:wo nm (s.take p)=s.take p:=by
  unfold wo
  rw [List.filter_eq_self]
  intro d hd
  obtain ⟨k,hk,rfl⟩:=j1 hd
  rw [jl] at hk
  have:=h1 k (by omega)
  rw [List.getElem_take,← aqf (by omega)]
  simpa using this
 have ht:s.take (p+1)=s.take p ++ [gt s p]:=by
  rw [JM,Jq hp,aqf hp];rfl
 obtain ⟨b',i',g1,g2,g3,g4⟩:=fzp n s nm hl (s.length - (p+1)) (p+1) n s p (by omega) (by omega) rfl (by omega) (by omega) (by
  rw [ht,fwy,hpre,h2];simp) rfl
 have g1':ajk (fun (x:(List aj6)×Int×Int)=>ajp n nm x.1 x.2.1 x.2.2) n (s,(p:Int),(p:Int)+1)=some (b',((i':Nat):Int)):=g1
 rw [g1',jc]
 unfold aqw
 dsimp only
 rw [aj9 _ (by rw [g2];omega),aj9 _ (by omega)]
 refine ⟨_,rfl,?_⟩
 simp only [Int.sub_zero,jn]
 rw [by3 (by rw [cjj];omega),← g4]
 rw [jQ,List.take_append_of_le_length (by rw [jl];omega),List.take_take,Nat.min_self]
theorem gj3 (n:Nat) (hn:N0≤n) (v:aj5) (hv:bj5 v) (nm:List UInt8) :
  ∃ r,bq6 n v nm=some r∧bw9 n v nm=some r∧bj5 r.1:=by
 have hn0:4194304≤n:=hn
 simp only [bq6,bwu,bw9,bkz n hn v hv,djs n hn v hv,fzv,jc]
 cases hr:rV v with
 | false=>exact ⟨_,rfl,rfl,awh⟩
 | true =>
  obtain ⟨hs,hl,hl2,hz,hm⟩:=bqm hr
  simp only [if_true,bne_self_eq_false,cond_false,cqt n hn v nm hs (by omega),jc]
  cases hh:hasN v.Sets nm with
  | false=>exact ⟨_,rfl,rfl,awh⟩
  | true =>
   obtain ⟨h1,h2,h3,h4⟩:=cjq hr hh
   have hlt:((lowN v.Sets nm:Nat):Int) < (v.Sets.length:Int):=by omega
   simp only [jK,cond_false,if_true,bne_self_eq_false,cq2 n hn v hv,jc]
   rw [aj9 _ ⟨by omega,hlt⟩]
   simp only [ayc,jc,bne_self_eq_false,cond_false]
   obtain ⟨r,d1,d2⟩:=fyt n hn v.Sets nm (by omega) (lowN v.Sets nm) h1 (fun k hk=>fqd (cke k hk)) h2
   rw [d1,jc,d2,ezq n hn v nm (by omega),jc]
   have hwl:=fk3 nm v.Sets
   exact ⟨_,rfl,rfl,by show (wo nm v.Sets).length≤70;omega,hv.2.1,fun x hx=>hv.2.2 x (ewz.1 hx).1⟩
end Go.Proofs.YtijnkhcfondehaaGreatDoor
/-
 ch. 21: Rename; every change is what the specification does.
-/
namespace Go.Proofs.YtijnkhcfondehaaGreatDoor
open Go.AE Go.Sort
theorem hj8:SWO (Go.Proofs.ltOf fun (x y:aj6)=>cmpS x.Name y.Name):=by
 have e:∀ x y:aj6,Go.Proofs.ltOf (fun (x y:aj6)=>cmpS x.Name y.Name) x y=jG x.Name y.Name:=by
  intro x y
  rw [Go.Proofs.ltOf,JP,decide_eq_true_eq];exact dyo _ _
 constructor
 ·intro x;rw [e];exact bzo _
 ·intro x y z;rw [e,e,e];exact ck5
 ·intro x y z;rw [e,e,e]
  intro h1 h2
  cases h3:jG x.Name z.Name with
  | false=>rfl
  | true =>
   rcases dye y.Name x.Name with h | h | h
   ·rw [ck5 h h3] at h2;cases h2
   ·rw [h,h3] at h2;cases h2
   ·rw [h] at h1;cases h1
theorem gzt (n:Nat) (l:List aj6):∃ r,aqc n l=some r∧r.Perm l∧r.Pairwise fun x y=>¬ cmpS y.Name x.Name < 0 :=
 fkv (f:=fun x y=>bwb n x y) (c:=fun (x y:aj6)=>cmpS x.Name y.Name) (fun _ _ _ _=>rfl) hj8
theorem gy5 (n:Nat):aqc n []=some []:=by
 obtain ⟨r,h1,h2,_⟩:=gzt n []
 rw [h1,h2.eq_nil]
theorem gy0 (n:Nat) {l:List aj6} {k:Nat} {d:aj6} {old:List UInt8} (hs:l.Pairwise wlt) (hk:k < l.length) (ho:(gt l k).Name=old) (hn:hasN l d.Name=false) :
  ∃ r,aqc n (l.set k d)=some r∧r=ins d (wo old l)∧r.length=l.length:=by
 obtain ⟨r,h1,h2,h3⟩:=gzt n (l.set k d)
 have hp:=Jd.1 hs
 have hne:=ezf hn
 have hmem:∀ x,x∈l.set k d↔x=d∨(x∈l∧x.Name≠old):=by
  intro x
  constructor
  ·intro hx
   obtain ⟨i,hi,rfl⟩:=j1 hx
   rw [jU] at hi
   by_cases e:i=k
   ·subst e;left;simp
   ·right
    rw [List.getElem_set_ne (Ne.symm e)]
    refine ⟨jw hi,fun he=>?_⟩
    rw [← ho,aqf hk] at he
    rcases jD i k with h | h
    ·exact fqd (hp i k hi hk h) he
    ·exact fqd (hp k i hk hi (by omega)) he.symm
  ·rintro (rfl | ⟨hx,hne⟩)
   ·exact List.mem_iff_getElem.2 ⟨k,by simpa using hk,by simp⟩
   ·obtain ⟨i,hi,rfl⟩:=j1 hx
    have e:k≠i:=by rintro rfl;rw [← ho,aqf hk] at hne;exact hne rfl
    exact List.mem_iff_getElem.2 ⟨i,by simpa using hi,List.getElem_set_ne e _⟩
 have hd:(l.set k d).Pairwise fun x y=>x.Name≠y.Name:=by
  rw [Jd]
  intro i j hi hj hij
  rw [jU] at hi hj
  rw [List.getElem_set,List.getElem_set]
  by_cases e1:k=i <;> by_cases e2:k=j
  ·omega
  ·rw [if_pos e1,if_neg e2];exact (hne _ (jw hj)).symm
  ·rw [if_neg e1,if_pos e2];exact hne _ (jw hi)
  ·rw [if_neg e1,if_neg e2];exact fqd (hp i j hi hj hij)
 have hd':r.Pairwise fun x y=>x.Name≠y.Name:=(h2.pairwise_iff (fun h=>Ne.symm h)).2 hd
 have hw:r.Pairwise wlt:=by
  refine (h3.and hd').imp ?_
  rintro a b ⟨q1,q2⟩
  rcases dye a.Name b.Name with h | h | h
  ·exact h
  ·exact absurd h q2
  ·exact absurd ((dyo _ _).2 h) q1
 refine ⟨r,h1,eya hw (dz6 (hs.filter _) fun x hx=>hne x (ewz.1 hx).1) fun x=>?_,by rw [h2.length_eq,jU]⟩
 rw [h2.mem_iff,hmem,ejz,ewz]
theorem gzf (n:Nat) (hn:N0≤n) (v:aj5) (hv:bj5 v) (old nm:List UInt8) (hnm:nm.length≤100) :
  ∃ r,bwq n v old nm=some r∧bzm n v old nm=some r∧bj5 r.1:=by
 have hn0:4194304≤n:=hn
 simp only [bwq,bww,bzm,bkz n hn v hv,djs n hn v hv,fzv,jc]
 have bad:∀ e:Int,∃ r,((some ((⟨[],0,0,0,[]⟩:aj5),e)).bind fun r1=>(aqc n r1.1.Sets).bind fun r2=>some ((⟨r1.1.Serial,r1.1.Cyls,r1.1.Heads,r1.1.Size,(List.take r1.1.Sets.length r2)⟩:aj5),r1.2))=some r∧some ((⟨[],0,0,0,[]⟩:aj5),e)=some r∧bj5 r.1:=by
  intro e
  refine ⟨((⟨[],0,0,0,[]⟩:aj5),e),?_,rfl,awh⟩
  simp only [jc,gy5]
  rfl
 cases hr:rV v with
 | false=>exact bad 5
 | true =>
  obtain ⟨hs,hl,hl2,hz,hm⟩:=bqm hr
  simp only [if_true,bne_self_eq_false,cond_false,cqt n hn v old hs (by omega),cqu n hn v nm hs (by omega),cqu n hn v old hs (by omega),jc]
  cases hh:hasN v.Sets old with
  | false=>exact bad 3
  | true =>
   obtain ⟨h1,h2,h3,h4⟩:=cjq hr hh
   have hlt:((lowN v.Sets old:Nat):Int) < (v.Sets.length:Int):=by omega
   simp only [jK,cond_false,if_true,bne_self_eq_false,cq2 n hn v hv,jc]
   rw [aj9 _ ⟨by omega,hlt⟩]
   simp only [bjf,jn,fzh n _ hn,eym n nm hn (by omega),jc]
   cases hc:dj4 nm with
   | false =>
    simp only [jS,cond_true,jc]
    rw [aj9 _ (by first | trivial | rfl)]
    exact bad 1
   | true =>
    have hi:ajx n ⟨v.Serial,v.Cyls,v.Heads,v.Size,v.Sets⟩ nm=some (((lowN v.Sets nm:Nat):Int),hasN v.Sets nm):=cqt n hn v nm hs (by omega)
    simp only [jK,cond_false,hi,jc]
    cases hx:hasN v.Sets nm with
    | true =>
     simp only [cond_true,jc,if_true]
     rw [aj9 _ (by first | trivial | rfl),decide_eq_true (by omega)]
     exact bad 4
    | false =>
     simp only [cond_false,jj,if_false]
     rw [aj9 _ h1,jc]
     simp only [ejl]
     rw [aj9 _ (by first | trivial | rfl)]
     obtain ⟨r,s1,s2,s3⟩:=gy0 n (d:=⟨nm,(gt v.Sets (lowN v.Sets old)).Dcb,(gt v.Sets (lowN v.Sets old)).Extents,(gt v.Sets (lowN v.Sets old)).Used⟩) hs h1 h2 hx
     have e1:decide ((-1:Int) ≥ 0)=false:=by decide
     simp only [bne_self_eq_false,cond_false,jc,s1,e1,ejl,ejl,fzd n hn v old _ (by omega:v.Sets.length≤1000)]
     rw [aj9 _ ⟨by omega,hlt⟩,← s3,JB,s2]
     refine ⟨_,rfl,rfl,?_⟩
     have hwl:=fk3 old v.Sets
     exact fwa hv (by omega) (fun x hx=>(ewz.1 hx).1) hnm (by show (gt v.Sets (lowN v.Sets old)).Extents.length≤20;omega)
theorem hkg (n:Nat) (hn:N0≤n) (v:aj5) (hv:bj5 v) (a:TAct) (h1:a.Name.length≤100) (h2:a.To.length≤100) (hN:-9223372036854775808≤a.N∧a.N≤9223372036854775807) :
  ∃ r,czu n v a=some r∧cjd n v a=some r∧bj5 r.1:=by
 unfold czu cjd
 cases Int.tmod a.Kind 6 == 0 with
 | true =>
  obtain ⟨r,e1,e2,e3⟩:=gwc n hn v hv a.Name a.Dcb [(⟨1,1⟩:aj0)] 7 a.N h1 hN.2
  simp only [cond_true,e1,e2,jc]
  exact ⟨_,rfl,rfl,e3⟩
 | false =>
  rw [cond_false,cond_false]
  cases Int.tmod a.Kind 6 == 1 with
  | true =>
   obtain ⟨r,e1,e2,e3⟩:=gqt n hn v hv a.Name a.N h1 hN.2
   simp only [cond_true,e1,e2,jc]
   exact ⟨_,rfl,rfl,e3⟩
  | false =>
   rw [cond_false,cond_false]
   cases Int.tmod a.Kind 6 == 2 with
   | true =>
    obtain ⟨r,e1,e2,e3⟩:=gqa n hn v hv a.Name a.N h1 hN
    simp only [cond_true,e1,e2,jc]
    exact ⟨_,rfl,rfl,e3⟩
   | false =>
    rw [cond_false,cond_false]
    cases Int.tmod a.Kind 6 == 3 with
    | true =>
     obtain ⟨r,e1,e2,e3⟩:=gqr n hn v hv a.Name a.Dcb a.N h1
     simp only [cond_true,e1,e2,jc]
     exact ⟨_,rfl,rfl,e3⟩
    | false =>
     rw [cond_false,cond_false]
     cases Int.tmod a.Kind 6 == 4 with
     | true =>
      obtain ⟨r,e1,e2,e3⟩:=gj3 n hn v hv a.Name
      simp only [cond_true,e1,e2,jc]
      exact ⟨_,rfl,rfl,e3⟩
     | false =>
      obtain ⟨r,e1,e2,e3⟩:=gzf n hn v hv a.Name a.To h2
      simp only [cond_false,e1,e2,jc]
      exact ⟨_,rfl,rfl,e3⟩
end Go.Proofs.YtijnkhcfondehaaGreatDoor
/-
 ch. 21: runs of changes.
-/
namespace Go.Proofs.YtijnkhcfondehaaGreatDoor
open Go.AE
theorem hqo (n:Nat) (hn:N0≤n) (v:aj5) (hv:bj5 v):bzq n v=some v:=by
 have hn0:4194304≤n:=hn
 obtain ⟨h1,h2,h3⟩:=hv
 have key:∀ j k m,k+j=v.Sets.length→j < m→ajk (fun (x:(List aj6)×Int)=>bjx n v x.1 x.2) m (v.Sets.take k,(k:Int))=some v.Sets:=by
  intro j
  induction j with
  | zero =>
   intro k m hj hm
   obtain ⟨m,rfl⟩:∃ q,m=q+1:=⟨m - 1,by omega⟩
   have hk:k=v.Sets.length:=by omega
   subst hk
   refine ajn ?_
   unfold bjx
   simp only [Jj,decide_false,cond_false,JB]
  | succ j ih =>
   intro k m hj hm
   obtain ⟨m,rfl⟩:∃ q,m=q+1:=⟨m - 1,by omega⟩
   have hk:k < v.Sets.length:=by omega
   have hlt:((k:Nat):Int) < (v.Sets.length:Int):=by omega
   have hmem:gt v.Sets k∈v.Sets:=by rw [aqf hk];exact jw hk
   have hx:=(h3 _ hmem).2
   have ht:v.Sets.take (k+1)=v.Sets.take k ++ [gt v.Sets k]:=by
    rw [JM,Jq hk,aqf hk];rfl
   refine (aju (x':=(v.Sets.take (k+1),((k+1:Nat):Int))) ?_).trans (ih (k+1) m (by omega) (by omega))
   unfold bjx
   simp only [decide_eq_true hlt,cond_true,jn]
   rw [aj9 _ ⟨by omega,hlt⟩,aj9 _ (by omega),aj9 _ (by rw [jl];omega),wid (n:=(k:Int)+1) (by omega),ht]
   rfl
 have hz:=key v.Sets.length 0 n (by omega) (by omega)
 have hz':ajk (fun (x:(List aj6)×Int)=>bjx n v x.1 x.2) n ([],0)=some v.Sets:=hz
 simp only [bzq,hz',jc,bys]
theorem gju (n:Nat) (hn:N0≤n) (d:aj6) (hd:d.Extents.length≤1000):bw4 n d d=some true:=by
 have hn0:4194304≤n:=hn
 have key:ajk (fun (x:Int)=>akb n d d x) n 0=some (if d.Extents.any (fun _=>false)=true then .inl false else .inr ()):=by
  refine bqy d.Extents (fun _=>false) _ _ (fun k hk=>?_) ?_ (by omega)
  ·have hlt:((k:Nat):Int) < (d.Extents.length:Int):=by omega
   unfold akb
   simp only [decide_eq_true hlt,cond_true,beq_self_eq_true,Bool.and_self,jK,cond_false]
   rw [aj9 _ ⟨⟨by omega,hlt⟩,by omega,hlt⟩,wid (n:=(k:Int)+1) (by omega)]
   rfl
  ·unfold akb
   simp only [Jj,decide_false,cond_false]
 have hf:d.Extents.any (fun _=>false)=false:=by simp
 rw [hf] at key
 unfold bw4
 simp only [bne_self_eq_false,jj,if_false,beq_self_eq_true,Bool.and_self,jK,cond_false,key,jc,bjk]
theorem gwt (n:Nat) (hn:N0≤n) (v:aj5) (hv:bj5 v):bki n v v=some true:=by
 have hn0:4194304≤n:=hn
 obtain ⟨h1,h2,h3⟩:=hv
 have key:ajk (fun (x:Int)=>bqn n v v x) n 0=some (if v.Sets.any (fun _=>false)=true then .inl false else .inr ()):=by
  refine bqy v.Sets (fun _=>false) _ _ (fun k hk=>?_) ?_ (by omega)
  ·have hlt:((k:Nat):Int) < (v.Sets.length:Int):=by omega
   have hx:=(h3 _ (by rw [aqf hk];exact jw hk:gt v.Sets k∈v.Sets)).2
   unfold bqn
   simp only [decide_eq_true hlt,cond_true,jn,gju n hn _ (Jc hx (by decide)),jc,jK,cond_false]
   rw [aj9 _ ⟨⟨by omega,hlt⟩,by omega,hlt⟩,wid (n:=(k:Int)+1) (by omega)]
   rfl
  ·unfold bqn
   simp only [Jj,decide_false,cond_false]
 have hf:v.Sets.any (fun _=>false)=false:=by simp
 rw [hf] at key
 unfold bki
 simp only [bne_self_eq_false,jj,if_false,cond_false,key,jc,bkf]
end Go.Proofs.YtijnkhcfondehaaGreatDoor
/-
 ch. 21: changes of any table.
-/
namespace Go.Proofs.YtijnkhcfondehaaGreatDoor
open Go.AE
theorem hj2 (n:Nat) (v:aj5) (hs:v.Sets.length≤2097152) (hn:N0≤n):bwp n v=some false∨(bwp n v=some true∧bj5 v):=by
 have hn0:4194304≤n:=hn
 have e:=bqy (body:=fun (x:Int)=>bj2 n v x) v.Sets (fun d=>decide ((d.Name.length:Int) > 100) || decide ((d.Extents.length:Int) > 20)) (.inl false:Bool ⊕ Unit) (.inr ()) (n:=n)
  (fun k hk=>by
   have hlt:((k:Nat):Int) < (v.Sets.length:Int):=by omega
   unfold bj2
   simp only [decide_eq_true hlt,cond_true,jn,dw6]
   rw [aj9 _ ⟨⟨by omega,hlt⟩,fun _=>⟨by omega,hlt⟩⟩,wid (n:=(k:Int)+1) (by omega)]
   have hg:gt v.Sets k=v.Sets[k]:=aqf hk
   by_cases h1:((gt v.Sets k).Name.length:Int) > 100
   ·rw [decide_eq_true (by rw [← hg];exact h1:((v.Sets[k].Name.length:Nat):Int) > 100)]
    simp only [decide_eq_true h1,Bool.true_or,cond_true,if_true]
   ·rw [decide_eq_false (by rw [← hg];exact h1:¬ ((v.Sets[k].Name.length:Nat):Int) > 100)]
    simp only [decide_eq_false h1,Bool.false_or]
    by_cases h2:((gt v.Sets k).Extents.length:Int) > 20
    ·rw [decide_eq_true (by rw [← hg];exact h2:((v.Sets[k].Extents.length:Nat):Int) > 20)]
     simp only [decide_eq_true h2,cond_true,if_true]
    ·rw [decide_eq_false (by rw [← hg];exact h2:¬ ((v.Sets[k].Extents.length:Nat):Int) > 20)]
     simp only [decide_eq_false h2,cond_false,jj,if_false]
     rfl)
  (by
   unfold bj2
   simp only [Jj,decide_false,cond_false]) (by omega)
 unfold bwp
 rw [e,jc]
 cases ha:v.Sets.any (fun d=>decide ((d.Name.length:Int) > 100) || decide ((d.Extents.length:Int) > 20)) with
 | true=>exact .inl rfl
 | false =>
  simp only [jj,if_false,bwz,dyu]
  have hall:∀ d∈v.Sets,d.Name.length≤100∧d.Extents.length≤20:=by
   intro d hd
   have:=(List.any_eq_false.1 ha) d hd
   simp only [Jz,decide_eq_true_eq,not_or] at this
   omega
  by_cases h1:(v.Sets.length:Int)≤70
  ·by_cases h2:(v.Serial.length:Int)≤100
   ·right
    simp only [h1,h2,decide_true,Bool.and_self]
    exact ⟨trivial,by omega,by omega,hall⟩
   ·left;simp [h2]
  ·left;simp [h1]
theorem hzu (n:Nat) (hn:N0≤n) (v:aj5) (k:Nat) (hk:k < v.Sets.length) (hx:v.Sets[k].Extents.length≤1000):ajk (fun (x:Int)=>az1 n v (k:Int) x) n 0=some ():=by
 have hn0:4194304≤n:=hn
 have hlt:((k:Nat):Int) < (v.Sets.length:Int):=by omega
 have e:=bqy (body:=fun (x:Int)=>az1 n v (k:Int) x) v.Sets[k].Extents (fun _=>false) () () (n:=n)
  (fun i hi=>by
   have hli:((i:Nat):Int) < (v.Sets[k].Extents.length:Int):=by omega
   unfold az1
   simp only [jn,aqf hk,decide_eq_true hli,cond_true]
   rw [aj9 _ ⟨by omega,hlt⟩,aj9 _ ⟨⟨by omega,hlt⟩,by omega,hli⟩,wid (n:=(i:Int)+1) (by omega)]
   rfl)
  (by
   unfold az1
   simp only [jn,aqf hk,Jj,decide_false,cond_false]
   rw [aj9 _ ⟨by omega,hlt⟩]) (by omega)
 simpa using e
theorem gyl (n:Nat) (hn:N0≤n) (v:aj5) (hv:v.Sets.length≤1000) (hx:∀ d∈v.Sets,d.Extents.length≤1000):bqx n v=some ():=by
 have hn0:4194304≤n:=hn
 have e:=bqy (body:=fun (x:Int)=>ak8 n v x) v.Sets (fun _=>false) () () (n:=n)
  (fun k hk=>by
   have hlt:((k:Nat):Int) < (v.Sets.length:Int):=by omega
   unfold ak8
   simp only [decide_eq_true hlt,cond_true,hzu n hn v k hk (hx _ (jw hk)),jc,bjc,bjj]
   rw [aj9 _ ⟨by omega,hlt⟩,wid (n:=(k:Int)+1) (by omega)]
   rfl)
  (by
   unfold ak8
   simp only [Jj,decide_false,cond_false]) (by omega)
 unfold bqx
 rw [e]
 simp
theorem dy7 (x0:aj5) (x1:TAct) (hc:∀ i,i < 2→CanL Tryz.prog (([(true,[.str,.int .i64,.int .i64,.int .i64,.slice 41]),(true,[.int .u8,.str,.str,.int .i64,.int .i64,.bool,.bool,.int .i64,.int .i64,.int .i64,.int .i64,.int .i64])]:List (Bool×List Kd)).getD i (false,[])).2 (([[.str x0.Serial,.int x0.Cyls,.int x0.Heads,.int x0.Size,.slice (List.map aj3 x0.Sets)],[.int x1.Kind,.str x1.Name,.str x1.To,.int x1.Dcb.Org,.int x1.Dcb.Format,.bool x1.Dcb.Blocked,.bool x1.Dcb.Asa,.int x1.Dcb.Lrecl,.int x1.Dcb.Blksize,.int x1.Dcb.KeyLen,.int x1.Dcb.KeyPos,.int x1.N]]:List (List C)).getD i []))
  (hb:cbss [[.str x0.Serial,.int x0.Cyls,.int x0.Heads,.int x0.Size,.slice (List.map aj3 x0.Sets)],[.int x1.Kind,.str x1.Name,.str x1.To,.int x1.Dcb.Org,.int x1.Dcb.Format,.bool x1.Dcb.Blocked,.bool x1.Dcb.Asa,.int x1.Dcb.Lrecl,.int x1.Dcb.Blksize,.int x1.Dcb.KeyLen,.int x1.Dcb.KeyPos,.int x1.N]]≤2097152):bz8 N0 x0 x1=some true:=by
 have hn:=jA N0
 have hl:=fwn hb (xs:=[.str x0.Serial,.int x0.Cyls,.int x0.Heads,.int x0.Size,.slice (List.map aj3 x0.Sets)]) (l:=x0.Sets) (f:=aj3) (by simp) (by simp)
 have hN:-9223372036854775808≤x1.N∧x1.N≤9223372036854775807:=by
  have h2:=(hc 1 (by decide)).2 11 (by simp)
  simp only [cg_zero,cg_succ,j5,List.getD_cons_succ] at h2
  cases h2 with
  | int _ _ hr =>
   have h3:IntKind.i64.min = -9223372036854775808:=by decide
   have h4:IntKind.i64.max=9223372036854775807:=by decide
   simp only [InR,h3,h4] at hr;omega
 simp only [bz8,gy8,jc,jK,cond_false]
 rcases hj2 N0 x0 hl hn with e | ⟨e,hv⟩
 ·rw [e,jc]
  rfl
 rw [e,jc]
 simp only [jK,jj,if_false,dw6]
 cases hq:decide ((x1.Name.length:Int) > 100) || decide ((x1.To.length:Int) > 100) with
 | true=>rfl
 | false =>
  simp only [Bool.or_eq_false_iff,decide_eq_false_iff_not] at hq
  obtain ⟨r,a1,a2,a3⟩:=hkg N0 hn x0 hv x1 (by omega) (by omega) hN
  simp only [cond_false,hqo N0 hn x0 hv,a1,a2,jc,bne_self_eq_false,jS,hqo N0 hn r.1 a3,gwt N0 hn r.1 a3,gwt N0 hn x0 hv,jK]
  rw [aj9 _ trivial,gyl N0 hn r.1 (Jc a3.1 (by decide)) (fun d hd=>Jc (a3.2.2 d hd).2 (by decide))]
  rfl
end Go.Proofs.YtijnkhcfondehaaGreatDoor
