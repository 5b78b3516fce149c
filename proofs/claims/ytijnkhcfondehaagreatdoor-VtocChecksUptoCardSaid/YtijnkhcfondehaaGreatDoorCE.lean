/- Text. -/
import Derived.Test.YtijnkhcfondehaaGreatDoorE
import Derived.Test.YtijnkhcfondehaaGreatDoorM
import Derived.Test.YtijnkhcfondehaaGreatDoorFL
set_option linter.unusedSimpArgs false
set_option linter.unusedVariables false
set_option maxHeartbeats 8000000
set_option maxRecDepth 100000
open _root_.Bool renaming false_eq_true→jl,true_and→Ja,not_false→jY,not_true→jQ,and_eq_true→je,or_eq_true→Js,not_eq_true'→j3
open _root_.Int renaming toNat_natCast→jr,lt_irrefl→Jm
open Go.IntKind renaming wrap→jc,bits→j6
open _root_.List renaming all_eq_true→jD,length_cons→jC,mem_cons→jN,getElem_mem→jG,getD_eq_getElem?_getD→ja,all_cons→Ju,append_nil→Jz,nil_append→Jr,length_drop→jB,length_take→jj,length_append→ji,append_assoc→j7,mem_flatMap→JO,replicate→jo,ext_getElem→JG,length_replicate→jS,getElem_append_left→JD,getElem_append_right→JB,take_of_length_le→jK,take_succ_eq_append_getElem→JK,range→Jb
open _root_.Nat renaming le_refl→jJ,le_trans→Jc
open _root_.Option renaming bind_some→jf,isSome_some→Jp,getD_some→jX
namespace Go.Proofs.YtijnkhcfondehaaGreatDoor
open Go.AE
theorem dropWhile_nil {p:UInt8→Bool}:∀ {l:List UInt8},l.dropWhile p=[]↔∀ x∈l,p x=true
 | []=>by simp
 | x :: l=>by
  rw [List.dropWhile_cons]
  cases h:p x with
  | true=>simp [dropWhile_nil (l:=l),h]
  | false=>simp [h]
theorem czo {p:UInt8→Bool}:∀ {l:List UInt8} {x:UInt8} {t:List UInt8},l.dropWhile p=x :: t→p x=false
 | [],x,t,h=>by simp at h
 | y :: l,x,t,h=>by
  rw [List.dropWhile_cons] at h
  cases hy:p y with
  | true=>rw [hy] at h;exact czo (by simpa using h)
  | false =>
   rw [hy] at h
   simp only [jl,if_false,List.cons.injEq] at h
   rw [← h.1];exact hy
theorem gq8 (l cs:List UInt8):Go.Lib.trimS l cs=[]↔l.all (cs.contains ·)=true:=by
 have hr:Go.Lib.trimRightS l cs=[]↔l.all (cs.contains ·)=true:=by
  unfold Go.Lib.trimRightS
  rw [List.reverse_eq_nil_iff,dropWhile_nil,jD]
  simp
 rw [← hr]
 unfold Go.Lib.trimS Go.Lib.trimLeftS
 rw [dropWhile_nil]
 constructor
 ·intro h
  unfold Go.Lib.trimRightS at h ⊢
  rw [List.reverse_eq_nil_iff]
  cases hd:List.dropWhile (fun x=>cs.contains x) l.reverse with
  | nil=>rfl
  | cons x t =>
   exfalso
   have h1:=h x (by rw [hd];simp)
   have h2:=czo hd
   rw [h1] at h2;cases h2
 ·intro h x hx
  rw [h] at hx;cases hx
theorem gj2 (l cs:List UInt8):(Go.Lib.trimS l cs != []) = !l.all (cs.contains ·):=by
 have h1:=gq8 l cs
 cases h3:l.all (cs.contains ·) with
 | true=>simpa using h1.2 h3
 | false =>
  have:¬ Go.Lib.trimS l cs=[]:=fun e=>by rw [h1.1 e] at h3;cases h3
  simpa using this
def letB (b:UInt8):Bool:=if (decide (((b.toNat:Nat):Int) ≥ 65))=true then (decide (((b.toNat:Nat):Int)≤90)) else false
def digB (b:UInt8):Bool:=if (decide (((b.toNat:Nat):Int) ≥ 48))=true then (decide (((b.toNat:Nat):Int)≤57)) else false
def othB (b:UInt8):Bool:=if (if (((b.toNat:Nat):Int) == 64)=true then true else (((b.toNat:Nat):Int) == 35))=true then true else (((b.toNat:Nat):Int) == 36)
def chB (b:UInt8):Bool:=letB b || digB b || othB b
def gk4:List UInt8:=[65,66,67,68,69,70,71,72,73,74,75,76,77,78,79,80,81,82,83,84,85,86,87,88,89,90,48,49,50,51,52,53,54,55,56,57,64,35,36]
def gza:List UInt8:=[65,66,67,68,69,70,71,72,73,74,75,76,77,78,79,80,81,82,83,84,85,86,87,88,89,90,48,49,50,51,52,53,54,55,56,57]
theorem dy6 (b:UInt8):gk4.contains b=chB b:=by
 have h:∀ k:Fin 256,gk4.contains (UInt8.ofNat k.val)=chB (UInt8.ofNat k.val):=by decide
 have:=h ⟨b.toNat,b.toNat_lt⟩
 simpa using this
theorem dyh (b:UInt8):gza.contains b=(letB b || digB b):=by
 have h:∀ k:Fin 256,gza.contains (UInt8.ofNat k.val)=(letB (UInt8.ofNat k.val) || digB (UInt8.ofNat k.val)):=by decide
 have:=h ⟨b.toNat,b.toNat_lt⟩
 simpa using this
theorem hqr (n:Nat) (l:List UInt8):∃ t,aqe n l gk4=some t∧(t != []) = !l.all chB:=by
 refine ⟨Go.Lib.trimS l gk4,?_,?_⟩
 ·rw [aqe,ajb _ (by decide)]
 ·rw [gj2];congr 2;funext b;exact dy6 b
theorem hq4 (n:Nat) (l:List UInt8):∃ t,aqe n l gza=some t∧(t != []) = !l.all (fun b=>letB b || digB b):=by
 refine ⟨Go.Lib.trimS l gza,?_,?_⟩
 ·rw [aqe,ajb _ (by decide)]
 ·rw [gj2];congr 2;funext b;exact dyh b
def smp (p:List UInt8):Bool:=decide (1≤p.length) && decide (p.length≤8) && (p.all chB && !(match p with | []=>false | b :: _=>digB b))
def parts:List UInt8→List (List UInt8)
 | []=>[[]]
 | b :: l=>if b=46 then [] :: parts l else match parts l with
  | p :: ps=>(b :: p) :: ps
  | []=>[[b]]
theorem dwz:∀ s:List UInt8,parts s≠[]
 | []=>by simp [parts]
 | b :: l=>by
  unfold parts
  split
  ·simp
  ·split <;> simp
theorem djz:∀ {s:List UInt8},46 ∉ s→parts s=[s]
 | [],_=>rfl
 | b :: l,h=>by
  have hb:b≠46:=fun e=>h (by simp [e])
  have hl:46 ∉ l:=fun e=>h (by simp [e])
  rw [parts,if_neg hb,djz hl]
theorem ezg:∀ {a:List UInt8} (t:List UInt8),46 ∉ a→parts (a ++ 46 :: t)=a :: parts t
 | [],t,_=>by simp [parts]
 | b :: l,t,h=>by
  have hb:b≠46:=fun e=>h (by simp [e])
  have hl:46 ∉ l:=fun e=>h (by simp [e])
  rw [List.cons_append,parts,if_neg hb,ezg t hl]
theorem dyr:∀ {s:List UInt8},46 ∉ s→Go.Lib.indexByte s 46 = -1
 | [],_=>rfl
 | b :: l,h=>by
  have hb:b≠46:=fun e=>h (by simp [e])
  have hl:46 ∉ l:=fun e=>h (by simp [e])
  rw [Go.Lib.indexByte,dyr hl]
  simp [hb]
theorem ey1:∀ {a:List UInt8} (t:List UInt8),46 ∉ a→Go.Lib.indexByte (a ++ 46 :: t) 46=(a.length:Int)
 | [],t,_=>by simp [Go.Lib.indexByte]
 | b :: l,t,h=>by
  have hb:b≠46:=fun e=>h (by simp [e])
  have hl:46 ∉ l:=fun e=>h (by simp [e])
  rw [List.cons_append,Go.Lib.indexByte,ey1 t hl]
  have:¬ ((l.length:Int) = -1):=by omega
  simp [hb,this]
theorem gkt:∀ s:List UInt8,46 ∉ s∨∃ a t,s=a ++ 46 :: t∧46 ∉ a
 | []=>.inl (by simp)
 | b :: l=>by
  by_cases hb:b=46
  ·exact .inr ⟨[],l,by simp [hb],by simp⟩
  ·rcases gkt l with h | ⟨a,t,rfl,ha⟩
   ·exact .inl (by simp [h,Ne.symm hb])
   ·exact .inr ⟨b :: a,t,by simp,by simp [ha,Ne.symm hb]⟩
theorem dwa:∀ (k:Nat) (s:List UInt8),s.count 46≤k→Go.Lib.splitK [46] 0 k s=parts s
 | 0,s,h=>by
  have:46 ∉ s:=fun hm=>by have:=List.count_pos_iff.2 hm;omega
  rw [djz this];rfl
 | k+1,s,h=>by
  rcases gkt s with hn | ⟨a,t,rfl,ha⟩
  ·rw [Go.Lib.splitK,Go.Lib.index_one,dyr hn,djz hn];rfl
  ·rw [Go.Lib.splitK,Go.Lib.index_one,ey1 t ha,ezg t ha]
   have h1:¬ (((a.length:Nat):Int) = -1):=by omega
   have h2:t.count 46≤k:=by
    rw [List.count_append,List.count_cons_self] at h;omega
   simp only [beq_iff_eq,h1,if_false,jr,Nat.add_zero,List.take_left,List.length_singleton]
   have:(a ++ 46 :: t).drop (a.length+1)=t:=by
    rw [show a ++ 46 :: t=(a ++ [46]) ++ t by simp,show a.length+1=(a ++ [46]).length by simp,List.drop_left]
   rw [this,dwa k t h2]
theorem fj5 (n:Nat) (s:List UInt8) (h:s.length < 4294967281):strings_Split n s [46]=some (parts s):=by
 rw [strings_Split,ajb _ ⟨h,rfl⟩]
 unfold Go.Lib.split
 rw [dwa _ _ (by rw [Go.Lib.count_one];exact jJ _)]
theorem ekl:∀ s:List UInt8,(parts s).length≤s.length+1
 | []=>by simp [parts]
 | b :: l=>by
  have:=ekl l
  unfold parts
  split
  ·simp only [jC];omega
  ·split
   ·rename_i p ps hp;rw [hp] at this;simp only [jC] at this ⊢;omega
   ·simp
def dzz (s:List UInt8):Bool:=decide (s.length≤44) && (parts s).all smp
theorem gwh {s p:List UInt8} (h:p∈parts s):p.length≤s.length:=by
 induction s generalizing p with
 | nil=>simp [parts] at h;subst h;simp
 | cons b l ih =>
  unfold parts at h
  split at h
  ·rcases jN.1 h with rfl | h
   ·simp
   ·have:=ih h;simp only [jC];omega
  ·split at h
   ·rename_i q ps hp
    rcases jN.1 h with rfl | h
    ·have:=ih (p:=q) (by rw [hp];simp);simp only [jC];omega
    ·have:=ih (p:=p) (by rw [hp];simp [h]);simp only [jC];omega
   ·simp at h;subst h;simp
theorem hj3 (n:Nat) (s:List UInt8) (hn:N0≤n):bku n s=some (dzz s):=by
 have hn0:4194304≤n:=hn
 unfold bku dzz
 by_cases h44:s.length≤44
 ·have h1:decide ((s.length:Int) > 44)=false:=decide_eq_false (by omega)
  have h2:decide (s.length≤44)=true:=decide_eq_true h44
  rw [h1,cond_false,fj5 n s (by omega),h2,Ja,jf]
  have hpl:=ekl s
  have key:aji (fun (x:Int)=>bqm n (parts s) (((parts s).length:Nat):Int) x) n 0=some (if (parts s).any (fun p=>!smp p)=true then .inl false else .inr ()):=by
   refine bqg (parts s) (fun p=>!smp p) _ _ (fun k hk=>?_) ?_ (by omega)
   ·have hlt:((k:Nat):Int) < (((parts s).length:Nat):Int):=by omega
    have h0:(0:Int)≤(k:Int):=by omega
    unfold bqm
    have hpk:=gwh (jG hk)
    simp only [decide_eq_true hlt,cond_true,jr,azh hk]
    rw [ajb _ ⟨⟨h0,hlt⟩,hk⟩]
    generalize (parts s)[k]=p at hpk ⊢
    rw [wid (n:=(k:Int)+1) (by omega)]
    obtain ⟨t,ht1,ht2⟩:=hqr n p
    have ht1':aqe n p [65,66,67,68,69,70,71,72,73,74,75,76,77,78,79,80,81,82,83,84,85,86,87,88,89,90,48,49,50,51,52,53,54,55,56,57,64,35,36]=some t:=ht1
    rw [ht1']
    cases p with
    | nil=>simp [smp,gd]
    | cons b q =>
     have e1:decide (((b :: q).length:Int) < 1)=false:=decide_eq_false (by simp only [jC];omega)
     have e0:(0:Int) < ((b :: q).length:Int):=by simp only [jC];omega
     simp only [e1,e0,implies_true,and_self,jl,if_false,List.getD_cons_zero,jf,ht2]
     rw [ajb _ trivial]
     have e5:decide (1≤(b :: q).length)=true:=decide_eq_true (by simp only [jC];omega)
     have e6:decide (((b :: q).length:Int) > 8) = !decide ((b :: q).length≤8):=by
      by_cases h:(b :: q).length≤8
      ·rw [decide_eq_true h,decide_eq_false (by omega)];rfl
      ·rw [decide_eq_false h,decide_eq_true (by omega)];rfl
     have e7:(if (decide (((b.toNat:Nat):Int) ≥ 48))=true then (decide (((b.toNat:Nat):Int)≤57)) else false)=digB b:=rfl
     simp only [e6,e7,smp,e5,Ja]
     cases decide ((b :: q).length≤8) <;> cases digB b <;> cases (b :: q).all chB <;> rfl
   ·unfold bqm
    simp only [Jm,decide_false,cond_false]
  rw [key,jf]
  have ha:(parts s).any (fun p=>!smp p) = !(parts s).all smp:=by
   rw [List.all_eq_not_any_not];simp
  rw [ha]
  cases (parts s).all smp <;> rfl
 ·have h1:decide ((s.length:Int) > 44)=true:=decide_eq_true (by omega)
  have h2:decide (s.length≤44)=false:=decide_eq_false h44
  rw [h1,h2];rfl
theorem ejn (n:Nat) (b:UInt8):bqw n (((b.toNat:Nat):Int))=some (letB b):=rfl
theorem ewr (n:Nat) (b:UInt8):ayk n (((b.toNat:Nat):Int))=some (digB b):=rfl
theorem ek3 (n:Nat) (p:List UInt8) (hn:p.length < n) (hp:p.length≤1099511627776):bqx n p=some (smp p):=by
 unfold bqx
 have key:=ay3 (σ:=Nat) (body:=fun (x:Int)=>az0 n p x) p (fun k _=>(k:Int)) (fun s b=>if (!letB b && !othB b && (s == 0 || !digB b))=true then .inr (.inl false) else .inl (s+1)) (fun _=>.inr ()) (fun k s=>s=k) (s:=0) rfl
  (fun k hk s hI=>by
   subst hI
   have hlt:((s:Nat):Int) < (p.length:Int):=by omega
   have h0:(0:Int)≤(s:Int):=by omega
   have hg:p.getD s 0=p[s]:=by simp [ja,hk]
   unfold az0
   simp only [decide_eq_true hlt,cond_true,jr,hg,h0,hlt,and_self,implies_true]
   rw [ajb _ trivial,ajb _ trivial]
   generalize p[s]=b
   rw [ejn,jf]
   simp only [ewr,Jp,jX,implies_true,true_and]
   have eo:(if (if (((b.toNat:Nat):Int) == 64)=true then true else (((b.toNat:Nat):Int) == 35))=true then true else (((b.toNat:Nat):Int) == 36))=othB b:=rfl
   have ez:(((s:Nat):Int) == 0)=(s == 0):=by
    by_cases h:s=0
    ·subst h;rfl
    ·have:¬ ((s:Int)=0):=by omega
     rw [beq_eq_false_iff_ne.2 this,beq_eq_false_iff_ne.2 h]
   rw [eo,ez,wid (n:=(s:Int)+1) (by omega)]
   rw [ajb _ (by intro h;simpa using h)]
   cases letB b <;> cases othB b <;> cases (s == 0) <;> cases digB b <;> rfl)
  (fun k hk s hI s' he=>by
   subst hI
   split at he
   ·cases he
   ·simp only [Sum.inl.injEq] at he;omega)
  (fun s hs=>by
   subst hs
   unfold az0
   simp only [Jm,decide_false,cond_false]) hn
 have key':aji (fun (x:Int)=>az0 n p x) n 0=_:=key
 rw [key',jf]
 have tail:∀ (q:List UInt8) (s:Nat),s≠0→runL (fun (s:Nat) b=>if (!letB b && !othB b && (s == 0 || !digB b))=true then (.inr (.inl false):Nat ⊕ (Bool ⊕ Unit)) else .inl (s+1)) (fun _=>.inr ()) q s=cond (q.all chB) (.inr ()) (.inl false):=by
  intro q
  induction q with
  | nil=>intro s _;rfl
  | cons b q ih =>
   intro s hs
   have hz:(s == 0)=false:=by simpa using hs
   have hih:=ih (s+1) (by omega)
   simp only [runL,hz,Bool.false_or,Ju]
   have e:(!letB b && !othB b && !digB b) = !chB b:=by unfold chB;cases letB b <;> cases othB b <;> cases digB b <;> rfl
   rw [e]
   rcases Bool.eq_false_or_eq_true (chB b) with h | h
   ·rw [h];simpa using hih
   ·rw [h];rfl
 cases p with
 | nil=>simp [runL,aww,smp]
 | cons b q =>
  have ht:=tail q 1 (by omega)
  simp only [runL,beq_self_eq_true,Bool.true_or,Bool.and_true]
  have el:decide (1≤(b :: q).length)=true:=decide_eq_true (by simp only [jC];omega)
  have el1:decide (((b :: q).length:Int) ≥ 1)=true:=decide_eq_true (by simp only [jC];omega)
  have el2:decide (((b :: q).length:Int)≤8)=decide ((b :: q).length≤8):=by
   by_cases h:(b :: q).length≤8
   ·rw [decide_eq_true h,decide_eq_true (by omega)]
   ·rw [decide_eq_false h,decide_eq_false (by omega)]
  have ek:aww n (b :: q)=some (decide ((b :: q).length≤8)):=by simp only [aww,el1,el2,if_true]
  have hx:∀ b:UInt8,(letB b || othB b)=true→digB b=false:=by
   intro b
   have h:∀ k:Fin 256,(letB (UInt8.ofNat k.val) || othB (UInt8.ofNat k.val))=true→digB (UInt8.ofNat k.val)=false:=by decide
   have:=h ⟨b.toNat,b.toNat_lt⟩
   simpa using this
  have hxb:=hx b
  simp only [smp,el,Ja,Ju]
  cases hl:letB b <;> cases ho:othB b <;> simp only [hl,ho,jY,jQ,Bool.and_self,Bool.and_false,Bool.false_and,Bool.or_false,Bool.or_true,Bool.false_or,Bool.true_or,if_true,jl,if_false] at hxb ⊢
  ·unfold chB
   rw [hl,ho]
   cases digB b <;> simp
  all_goals
   have hd:=hxb trivial
   have hc:chB b=true:=by unfold chB;rw [hl,ho];simp
   simp only [Nat.zero_add,ht,ek,hc,hd,Ja,jY,Bool.and_true]
   cases q.all chB <;> simp
end Go.Proofs.YtijnkhcfondehaaGreatDoor
/-
 ch. 21: names by the specification; serials, empty tables.
-/
namespace Go.Proofs.YtijnkhcfondehaaGreatDoor
open Go.AE
def goN:List UInt8→List UInt8→Bool
 | cur,[]=>smp cur
 | cur,b :: r=>if b=46 then smp cur && goN [] r else goN (cur ++ [b]) r
theorem dko:∀ (r cur:List UInt8),goN cur r=match parts r with | p :: ps=>smp (cur ++ p) && ps.all smp | []=>false
 | [],cur=>by simp [goN,parts]
 | b :: r,cur=>by
  rw [goN,parts]
  by_cases hb:b=46
  ·rw [if_pos hb,if_pos hb,dko r []]
   simp only [Jz,Jr]
   cases hp:parts r with
   | nil=>exact absurd hp (dwz r)
   | cons p ps=>simp
  ·rw [if_neg hb,if_neg hb,dko r (cur ++ [b])]
   cases hp:parts r with
   | nil=>exact absurd hp (dwz r)
   | cons p ps=>simp
theorem gyx (s:List UInt8):goN [] s=(parts s).all smp:=by
 rw [dko]
 cases hp:parts s with
 | nil=>exact absurd hp (dwz s)
 | cons p ps=>simp
theorem eq8 (n:Nat) (s:List UInt8) (hn:N0≤n) (hs:s.length≤2097152):∀ (j f i m:Nat),i+j=s.length→f≤i→j+1 < m →
  aji (fun (x:Int×Int)=>aqi n s x.1 x.2) m ((f:Int),(i:Int))=some (if goN (List.drop f (List.take i s)) (s.drop i)=true then .inr () else .inl false)
 | 0,f,i,m,hj,hf,hm=>by
  have hn0:4194304≤n:=hn
  have hi:i=s.length:=by omega
  obtain ⟨m,rfl⟩:∃ q,m=q+1+1:=⟨m - 2,by omega⟩
  have h1:decide ((i:Int)≤(s.length:Int))=true:=decide_eq_true (by omega)
  have h2:((i:Int) == (s.length:Int))=true:=by simp;omega
  have hd:s.drop i=[]:=List.drop_eq_nil_of_le (by omega)
  have hb:aqi n s (f:Int) (i:Int)=some (if smp (List.drop f (List.take i s))=true then .inl (((i+1:Nat):Int),((i+1:Nat):Int)) else .inr (.inl false)):=by
   unfold aqi
   rw [h1,cond_true,h2]
   simp only [jQ,jl,false_implies,if_true,cond_true,jr]
   rw [ajb _ trivial,ajb _ (by omega),ek3 n _ (by simp only [jB,jj];omega) (by simp only [jB,jj];omega),jf]
   rw [wid (n:=(i:Int)+1) (by omega)]
   simp only [azi,wid (n:=(i:Int)+1) (by omega)]
   cases smp (List.drop f (List.take i s)) <;> rfl
  rw [hd,goN]
  cases hsm:smp (List.drop f (List.take i s)) with
  | false =>
   rw [hsm] at hb
   rw [ajq (y:=.inl false) (by simpa using hb)];simp
  | true =>
   rw [hsm] at hb
   rw [ajk (x':=(((i+1:Nat):Int),((i+1:Nat):Int))) (by simpa using hb)]
   have he:aqi n s ((i+1:Nat):Int) ((i+1:Nat):Int)=some (.inr (.inr ())):=by
    unfold aqi
    rw [decide_eq_false (by omega),cond_false]
   rw [ajq he];simp
 | j+1,f,i,m,hj,hf,hm=>by
  have hn0:4194304≤n:=hn
  obtain ⟨m,rfl⟩:∃ q,m=q+1:=⟨m - 1,by omega⟩
  have hlt:i < s.length:=by omega
  have h1:decide ((i:Int)≤(s.length:Int))=true:=decide_eq_true (by omega)
  have h2:((i:Int) == (s.length:Int))=false:=by simp;omega
  have hd:s.drop i=s[i] :: s.drop (i+1):=List.drop_eq_getElem_cons hlt
  have hg:s.getD i 0=s[i]:=by simp [ja,hlt]
  have ht:List.take (i+1) s=List.take i s ++ [s[i]]:=by rw [List.take_add_one];simp [hlt]
  have e46:((((s[i]).toNat:Nat):Int) == 46)=decide (s[i]=46):=by
   generalize s[i]=b
   have h:∀ k:Fin 256,((((UInt8.ofNat k.val).toNat:Nat):Int) == 46)=decide ((UInt8.ofNat k.val)=46):=by decide
   have:=h ⟨b.toNat,b.toNat_lt⟩
   simpa using this
  have hb:aqi n s (f:Int) (i:Int)=some (if s[i]=46 then (if smp (List.drop f (List.take i s))=true then .inl (((i+1:Nat):Int),((i+1:Nat):Int)) else .inr (.inl false)) else .inl ((f:Int),((i+1:Nat):Int))):=by
   unfold aqi
   rw [h1,cond_true,h2]
   simp only [jY,jl,if_false,jr,hg,e46]
   rw [ajb _ (fun _=>by omega)]
   by_cases hc:s[i]=46
   ·rw [if_pos hc,decide_eq_true hc,cond_true]
    rw [ajb _ (by omega),ek3 n _ (by simp only [jB,jj];omega) (by simp only [jB,jj];omega),jf]
    rw [wid (n:=(i:Int)+1) (by omega)]
    simp only [azi,wid (n:=(i:Int)+1) (by omega)]
    cases smp (List.drop f (List.take i s)) <;> rfl
   ·rw [if_neg hc,decide_eq_false hc,cond_false]
    simp only [azi,wid (n:=(i:Int)+1) (by omega)]
    rfl
  rw [hd,goN]
  by_cases hc:s[i]=46
  ·rw [if_pos hc] at hb ⊢
   cases hsm:smp (List.drop f (List.take i s)) with
   | false =>
    rw [hsm] at hb
    rw [ajq (y:=.inl false) (by simpa using hb)];simp
   | true =>
    rw [hsm] at hb
    rw [ajk (x':=(((i+1:Nat):Int),((i+1:Nat):Int))) (by simpa using hb),eq8 n s hn hs j (i+1) (i+1) m (by omega) (by omega) (by omega)]
    have:List.drop (i+1) (List.take (i+1) s)=[]:=List.drop_eq_nil_of_le (by rw [jj];omega)
    rw [this];simp
  ·rw [if_neg hc] at hb ⊢
   rw [ajk (x':=((f:Int),((i+1:Nat):Int))) hb,eq8 n s hn hs j f (i+1) m (by omega) (by omega) (by omega),ht]
   have:List.drop f (List.take i s ++ [s[i]])=List.drop f (List.take i s) ++ [s[i]]:=by
    rw [List.drop_append_of_le_length (by rw [jj];omega)]
   rw [this]
theorem gke (n:Nat) (s:List UInt8) (hn:N0≤n) (hs:s.length≤2097152):bky n s=some (dzz s):=by
 have hn0:4194304≤n:=hn
 unfold bky dzz
 have:=eq8 n s hn hs s.length 0 0 n (by omega) (by omega) (by omega)
 simp only [List.take_zero,List.drop_nil,List.drop_zero,gyx] at this
 have this':aji (fun (x:Int×Int)=>aqi n s x.1 x.2) n (0,0)=some (if (parts s).all smp=true then .inr () else .inl false):=this
 rw [this',jf]
 have e:decide ((s.length:Int)≤44)=decide (s.length≤44):=by
  by_cases h:s.length≤44
  ·rw [decide_eq_true h,decide_eq_true (by omega)]
  ·rw [decide_eq_false h,decide_eq_false (by omega)]
 cases (parts s).all smp with
 | true=>simp only [if_true,bwa,e,Bool.and_true]
 | false=>simp
def serB (s:List UInt8):Bool:=decide (1≤s.length) && decide (s.length≤6) && s.all (fun b=>letB b || digB b)
def inB (x lo hi:Int):Bool:=decide (lo≤x) && decide (x≤hi)
theorem gzg (n:Nat) (x lo hi:Int):ajx n x lo hi=some (inB x lo hi):=by
 unfold ajx inB
 by_cases h:lo≤x
 ·simp [h]
 ·simp [h]
theorem fqq (n:Nat) (x lo hi:Int):ajj n x lo hi=some (inB x lo hi):=by
 unfold ajj inB
 by_cases h:lo≤x
 ·have:x ≥ lo:=h
  simp [h,this]
 ·have:¬ (x ≥ lo):=h
  simp [h,this]
theorem fkk (s:List UInt8):inB (s.length:Int) 1 6=(decide (1≤s.length) && decide (s.length≤6)):=by
 unfold inB
 congr 1 <;> (apply decide_eq_decide.2;omega)
theorem gjw (n:Nat) (s:List UInt8) (hn:s.length < n) (hs:s.length≤2097152):bqu n s=some (serB s):=by
 unfold bqu
 have key:aji (fun (x:Int)=>ak7 n s x) n 0=some (if s.any (fun b=>!(letB b || digB b))=true then .inl false else .inr ()):=by
  refine bqg s (fun b=>!(letB b || digB b)) _ _ (fun k hk=>?_) ?_ hn
  ·have hlt:((k:Nat):Int) < (s.length:Int):=by omega
   have h0:(0:Int)≤(k:Int):=by omega
   have hg:s.getD k 0=s[k]:=by simp [ja,hk]
   unfold ak7
   simp only [decide_eq_true hlt,cond_true,jr,hg,h0,hlt,and_self,implies_true]
   rw [ajb _ trivial,ejn,jf,ewr]
   simp only [Jp,jX,implies_true,and_self]
   rw [ajb _ trivial,wid (n:=(k:Int)+1) (by omega)]
   cases letB s[k] <;> cases digB s[k] <;> rfl
  ·unfold ak7
   simp only [Jm,decide_false,cond_false]
 rw [key,jf]
 have ha:s.any (fun b=>!(letB b || digB b)) = !s.all (fun b=>letB b || digB b):=by rw [List.all_eq_not_any_not];simp
 rw [ha]
 unfold serB
 cases s.all (fun b=>letB b || digB b) with
 | false=>simp
 | true=>simp only [jQ,jl,if_false,bjl,fqq,jf,fkk,Bool.and_true]
def ew6 (s:List UInt8) (c h z:Int):Bool:=serB s && inB c 1 64 && inB h 1 8 && inB z 1 (jc .i64 (jc .i64 (c * h) - 1))
theorem gjs {s:List UInt8} {c h z:Int} (hh:ew6 s c h z=true):1≤z∧z≤511:=by
 simp only [ew6,inB,je,decide_eq_true_eq] at hh
 obtain ⟨⟨⟨_,h1,h2⟩,h3,h4⟩,h5,h6⟩:=hh
 have e1:1≤c * h:=by
  have:0 < c * h:=Int.mul_pos (by omega) (by omega)
  omega
 have e2:c * h≤512:=by
  have a:c * h≤64 * h:=Int.mul_le_mul_of_nonneg_right h2 (by omega)
  omega
 rw [wid (n:=c * h) (by omega),wid (n:=c * h - 1) (by omega)] at h6
 omega
theorem gwj:bym N0=some true:=by decide +kernel
end Go.Proofs.YtijnkhcfondehaaGreatDoor
/-
 ch. 21: valid tables, by the program and by the specification.
-/
namespace Go.Proofs.YtijnkhcfondehaaGreatDoor
open Go.AE
def dscB (d:TDcb):Bool:=inB d.Org 1 3 && inB d.Format 1 3 && inB d.Lrecl 0 1024 && inB d.Blksize 0 1024 && inB d.KeyPos 0 1024 && inB d.KeyLen 0 64
theorem gyo (n:Nat) (d:TDcb):aq5 n d=some (dscB d):=by
 simp only [aq5,gzg,jf,Jp,jX,implies_true,and_self,dyz]
 rw [ajb _ trivial];rfl
theorem gk6 (n:Nat) (d:TDcb):aq4 n d=some (dscB d):=by
 simp only [aq4,fqq,jf,Jp,jX,implies_true,and_self,dyz]
 rw [ajb _ trivial];rfl
def exts (l:List ajc):List aj0:=l.flatMap (·.Extents)
def capV (v:aja):Int:=jc .i64 (v.Cyls * v.Heads)
def cys (v:aja) (x:aj0):Bool:=decide (jc .i64 (x.At+x.Len) > capV v)
def pLbl (v:aja) (d:ajc):Bool:=dzz d.Name && dscB d.Dcb && inB (d.Extents.length:Int) 1 8 && (trkF [] d.Extents).isSome && !d.Extents.any (cys v) && inB d.Used 0 (((trkO d.Extents).length:Nat):Int)
def rLbl (v:aja) (d:ajc):Bool:=!d.Extents.any (fun x=>decide (x.At≤v.Size) || cys v x) && (dzz d.Name && dscB d.Dcb && inB (d.Extents.length:Int) 1 8 && (trkF [] d.Extents).isSome && inB d.Used 0 (((trkO d.Extents).length:Nat):Int))
theorem azh {α:Type} [Inhabited α] {l:List α} {k:Nat} (h:k < l.length):gt l k=l[k]:=by simp [gt,ja,h]
theorem hjt (n:Nat) (hn:N0≤n) (v:aja) (d:ajc) (hd:d.Extents.length≤1048576):ak9 n v d=some (pLbl v d):=by
 have hn0:4194304≤n:=hn
 unfold ak9
 simp only [hj3 n _ hn,gyo,gzg,dwu n hn d.Extents (by omega),jf,Jp,jX,implies_true,and_self]
 rw [ajb _ trivial]
 have e1:(if (if (if (!dzz d.Name)=true then true else !dscB d.Dcb)=true then true else !inB (d.Extents.length:Int) 1 8)=true then true else !(trkF [] d.Extents).isSome) = !(dzz d.Name && dscB d.Dcb && inB (d.Extents.length:Int) 1 8 && (trkF [] d.Extents).isSome):=by
  simp only [dkq,Bool.not_and]
 rw [e1]
 unfold pLbl
 cases (dzz d.Name && dscB d.Dcb && inB (d.Extents.length:Int) 1 8 && (trkF [] d.Extents).isSome) with
 | false=>simp
 | true =>
  simp only [jQ,cond_false,Ja]
  have key:aji (fun (x:Int)=>awj n v d (d.Extents.length:Int) x) n 0=some (if d.Extents.any (cys v)=true then .inl false else .inr ()):=by
   refine bqg d.Extents (cys v) _ _ (fun k hk=>?_) ?_ (by omega)
   ·have hlt:((k:Nat):Int) < (d.Extents.length:Int):=by omega
    unfold awj
    rw [decide_eq_true hlt,cond_true,ajb _ ⟨by omega,hlt⟩,jr,azh hk,wid (n:=(k:Int)+1) (by omega)]
    show (bif cys v d.Extents[k] then _ else _)=_
    cases cys v d.Extents[k] <;> rfl
   ·unfold awj
    simp only [Jm,decide_false,cond_false]
  rw [key,jf]
  cases d.Extents.any (cys v) with
  | true=>simp
  | false=>simp only [jl,if_false,azx,gk1 n hn d.Extents (by omega),gzg,jf,jY,Ja]
theorem gws (n:Nat) (hn:N0≤n) (v:aja) (d:ajc) (hd:d.Extents.length≤1048576) (hs:d.Name.length≤2097152):bww n v d=some (rLbl v d):=by
 have hn0:4194304≤n:=hn
 unfold bww
 have key:aji (fun (x:Int)=>ay2 n v d x) n 0=some (if d.Extents.any (fun x=>decide (x.At≤v.Size) || cys v x)=true then .inl false else .inr ()):=by
  refine bqg d.Extents (fun x=>decide (x.At≤v.Size) || cys v x) _ _ (fun k hk=>?_) ?_ (by omega)
  ·have hlt:((k:Nat):Int) < (d.Extents.length:Int):=by omega
   unfold ay2
   rw [decide_eq_true hlt,cond_true,ajb _ ⟨by omega,hlt⟩,jr,azh hk,wid (n:=(k:Int)+1) (by omega),dkq]
   show (bif (decide (d.Extents[k].At≤v.Size) || cys v d.Extents[k]) then _ else _)=_
   cases (decide (d.Extents[k].At≤v.Size) || cys v d.Extents[k]) <;> rfl
  ·unfold ay2
   simp only [Jm,decide_false,cond_false]
 rw [key,jf]
 unfold rLbl
 cases d.Extents.any (fun x=>decide (x.At≤v.Size) || cys v x) with
 | true=>simp
 | false =>
  simp only [jl,if_false,bqj,gke n _ hn hs,gk6,fqq,cq9 n hn d.Extents (by omega),fyb n hn d.Extents (by omega),jf,Jp,jX,implies_true,and_self,jY,Ja]
  rw [ajb _ trivial]
  simp only [dyz]
def ordB (l:List ajc) (k:Nat):Bool:=decide (0 < k) && !Op.bytesLess (gt l (k - 1)).Name (gt l k).Name
def pBad (v:aja) (k:Nat):Bool:=!pLbl v (gt v.Sets k) || ordB v.Sets k
def rBad (v:aja) (k:Nat):Bool:=!rLbl v (gt v.Sets k) || ordB v.Sets k
def dwk (v:aja):Prop:=v.Sets.length≤70∧v.Serial.length≤100∧∀ d∈v.Sets,d.Name.length≤100∧d.Extents.length≤20
theorem gjf (d:ajc) (l:List ajc):exts (d :: l)=d.Extents ++ exts l:=rfl
theorem gz4 (a b:List ajc):exts (a ++ b)=exts a ++ exts b:=by simp [exts]
theorem by2:∀ {l:List ajc},(∀ d∈l,d.Name.length≤100∧d.Extents.length≤20)→(exts l).length≤20 * l.length
 | [],_=>by simp [exts]
 | d :: l,h=>by
  have h1:=(h d (by simp)).2
  have h2:=by2 (l:=l) fun x hx=>h x (by simp [hx])
  rw [gjf,ji,jC];omega
theorem dk4 {l:List ajc} {k:Nat} (h:k < l.length):exts (l.take (k+1))=exts (l.take k) ++ (gt l k).Extents:=by
 rw [List.take_add_one,gz4,azh h]
 simp [h,exts]
theorem ej1 (n:Nat) (hn:N0≤n) (v:aja) (hv:dwk v) (u0:List aj0) (hu:u0.length≤1):∀ j k m,k+j=v.Sets.length→j < m →
  aji (fun (x:(List aj0)×Int)=>azg n v (v.Sets.length:Int) x.1 x.2) m (u0 ++ exts (v.Sets.take k),(k:Int))=some (if (List.range' k j).any (pBad v)=true then .inl 5 else .inr (u0 ++ exts v.Sets))
 | 0,k,m,hj,hm=>by
  obtain ⟨m,rfl⟩:∃ q,m=q+1:=⟨m - 1,by omega⟩
  have hk:k=v.Sets.length:=by omega
  subst hk
  refine (ajq (y:=.inr (u0 ++ exts v.Sets)) ?_).trans (by simp)
  unfold azg
  simp only [Jm,decide_false,cond_false,List.take_length]
 | j+1,k,m,hj,hm=>by
  obtain ⟨h1,h2,h3⟩:=hv
  obtain ⟨m,rfl⟩:∃ q,m=q+1:=⟨m - 1,by omega⟩
  have hk:k < v.Sets.length:=by omega
  have hlt:((k:Nat):Int) < (v.Sets.length:Int):=by omega
  have hmem:gt v.Sets k∈v.Sets:=by rw [azh hk];exact jG hk
  have hx:=(h3 _ hmem).2
  have hb:azg n v (v.Sets.length:Int) (u0 ++ exts (v.Sets.take k)) (k:Int)=some (if pBad v k=true then .inr (.inl 5) else .inl (u0 ++ exts (v.Sets.take (k+1)),((k+1:Nat):Int))):=by
   unfold azg
   have hel:=by2 (l:=v.Sets.take k) fun d hd=>h3 d (List.mem_of_mem_take hd)
   rw [jj] at hel
   have hap:(u0 ++ exts (v.Sets.take k)).length+(gt v.Sets k).Extents.length≤2147483648:=by rw [ji];omega
   simp only [decide_eq_true hlt,cond_true,jr,hjt n hn v _ (Jc hx (by decide)),jf]
   rw [ajb _ ⟨by omega,hlt⟩,ajb _ (by
    intro hc
    simp only [je,decide_eq_true_eq] at hc
    rw [wid (n:=(k:Int) - 1) (by omega)];omega)]
   have eo:(if decide ((k:Int) > 0)=true then !Op.bytesLess (gt v.Sets (jc .i64 ((k:Int) - 1)).toNat).Name (gt v.Sets k).Name else false)=ordB v.Sets k:=by
    unfold ordB
    rw [dyz]
    by_cases h0:0 < k
    ·have:(k:Int) > 0:=by omega
     have e:(jc .i64 ((k:Int) - 1)).toNat=k - 1:=by rw [wid (by omega)];omega
     rw [e,decide_eq_true this,decide_eq_true h0]
    ·have:¬ ((k:Int) > 0):=by omega
     rw [decide_eq_false this,decide_eq_false h0];rfl
   rw [eo,dkq,ajb _ hap,wid (n:=(k:Int)+1) (by omega),dk4 hk]
   show (bif pBad v k then _ else _)=_
   rw [← j7]
   cases pBad v k <;> rfl
  rw [List.range'_succ,List.any_cons]
  cases hp:pBad v k with
  | true =>
   rw [hp] at hb
   rw [ajq (y:=.inl 5) (by simpa using hb)];simp
  | false =>
   rw [hp] at hb
   rw [ajk (x':=(u0 ++ exts (v.Sets.take (k+1)),((k+1:Nat):Int))) (by simpa using hb),ej1 n hn v ⟨h1,h2,h3⟩ u0 hu j (k+1) m (by omega) (by omega),Bool.false_or]
theorem dwe (n:Nat) (hn:N0≤n) (v:aja) (hv:dwk v):∀ j k m,k+j=v.Sets.length→j < m →
  aji (fun (x:Int)=>awn n v x) m (k:Int)=some (if (List.range' k j).any (rBad v)=true then .inl false else .inr ())
 | 0,k,m,hj,hm=>by
  obtain ⟨m,rfl⟩:∃ q,m=q+1:=⟨m - 1,by omega⟩
  have hk:k=v.Sets.length:=by omega
  subst hk
  refine (ajq (y:=.inr ()) ?_).trans (by simp)
  unfold awn
  simp only [Jm,decide_false,cond_false]
 | j+1,k,m,hj,hm=>by
  obtain ⟨h1,h2,h3⟩:=hv
  obtain ⟨m,rfl⟩:∃ q,m=q+1:=⟨m - 1,by omega⟩
  have hk:k < v.Sets.length:=by omega
  have hlt:((k:Nat):Int) < (v.Sets.length:Int):=by omega
  have hmem:gt v.Sets k∈v.Sets:=by rw [azh hk];exact jG hk
  have hx:=h3 _ hmem
  have hb:awn n v (k:Int)=some (if rBad v k=true then .inr (.inl false) else .inl ((k+1:Nat):Int)):=by
   unfold awn
   simp only [decide_eq_true hlt,cond_true,jr,gws n hn v _ (Jc hx.2 (by decide)) (Jc hx.1 (by decide)),jf]
   rw [ajb _ ⟨by omega,hlt⟩,ajb _ (by
    refine ⟨fun hc=>?_,fun _=>⟨by omega,hlt⟩⟩
    simp only [je,decide_eq_true_eq] at hc
    rw [wid (n:=(k:Int) - 1) (by omega)];omega)]
   have eo:(if decide ((k:Int) > 0)=true then !Op.bytesLess (gt v.Sets (jc .i64 ((k:Int) - 1)).toNat).Name (gt v.Sets k).Name else false)=ordB v.Sets k:=by
    unfold ordB
    rw [dyz]
    by_cases h0:0 < k
    ·have:(k:Int) > 0:=by omega
     have e:(jc .i64 ((k:Int) - 1)).toNat=k - 1:=by rw [wid (by omega)];omega
     rw [e,decide_eq_true this,decide_eq_true h0]
    ·have:¬ ((k:Int) > 0):=by omega
     rw [decide_eq_false this,decide_eq_false h0];rfl
   rw [eo,dkq,wid (n:=(k:Int)+1) (by omega)]
   show (bif rBad v k then _ else _)=_
   cases rBad v k <;> rfl
  rw [List.range'_succ,List.any_cons]
  cases hp:rBad v k with
  | true =>
   rw [hp] at hb
   rw [ajq (y:=.inl false) (by simpa using hb)];simp
  | false =>
   rw [hp] at hb
   rw [ajk (x':=((k+1:Nat):Int)) (by simpa using hb),dwe n hn v ⟨h1,h2,h3⟩ j (k+1) m (by omega) (by omega),Bool.false_or]
theorem all_eq (n:Nat) (hn:N0≤n) (v:aja) (hv:dwk v):bko n v=some (exts v.Sets):=by
 have hn0:4194304≤n:=hn
 obtain ⟨h1,h2,h3⟩:=hv
 have key:∀ j k m,k+j=v.Sets.length→j < m→aji (fun (x:(List aj0)×Int)=>ays n v x.1 x.2) m (exts (v.Sets.take k),(k:Int))=some (exts v.Sets):=by
  intro j
  induction j with
  | zero =>
   intro k m hj hm
   obtain ⟨m,rfl⟩:∃ q,m=q+1:=⟨m - 1,by omega⟩
   have hk:k=v.Sets.length:=by omega
   subst hk
   refine ajq ?_
   unfold ays
   simp only [Jm,decide_false,cond_false,List.take_length]
  | succ j ih =>
   intro k m hj hm
   obtain ⟨m,rfl⟩:∃ q,m=q+1:=⟨m - 1,by omega⟩
   have hk:k < v.Sets.length:=by omega
   have hlt:((k:Nat):Int) < (v.Sets.length:Int):=by omega
   have hmem:gt v.Sets k∈v.Sets:=by rw [azh hk];exact jG hk
   have hx:=(h3 _ hmem).2
   have hel:=by2 (l:=v.Sets.take k) fun d hd=>h3 d (List.mem_of_mem_take hd)
   rw [jj] at hel
   refine (ajk (x':=(exts (v.Sets.take (k+1)),((k+1:Nat):Int))) ?_).trans (ih (k+1) m (by omega) (by omega))
   unfold ays
   simp only [decide_eq_true hlt,cond_true,jr]
   rw [ajb _ ⟨⟨by omega,hlt⟩,by omega⟩,wid (n:=(k:Int)+1) (by omega),dk4 hk]
   rfl
 have:=key v.Sets.length 0 n (by omega) (by omega)
 simp only [List.take_zero] at this
 have this':aji (fun (x:(List aj0)×Int)=>ays n v x.1 x.2) n ([],0)=some (exts v.Sets):=this
 simp only [bko,this',jf,bzt]
end Go.Proofs.YtijnkhcfondehaaGreatDoor
/-
 ch. 21: Check is Valid; Free.
-/
namespace Go.Proofs.YtijnkhcfondehaaGreatDoor
open Go.AE
def head (v:aja):Bool:=ew6 v.Serial v.Cyls v.Heads v.Size
def pV (v:aja):Bool:=head v && !decide ((v.Sets.length:Int) > (if jc .i64 (14 * v.Size) < 64 then jc .i64 (14 * v.Size) else 64)) && !(List.range' 0 v.Sets.length).any (pBad v) && (trkF [] (⟨0,jc .i64 (v.Size+1)⟩ :: exts v.Sets)).isSome
def rV (v:aja):Bool:=head v && !decide ((v.Sets.length:Int) > 64) && !decide ((v.Sets.length:Int) > jc .i64 (14 * v.Size)) && !(List.range' 0 v.Sets.length).any (rBad v) && (trkF [] (exts v.Sets)).isSome
theorem dkd (n:Nat) (hn:N0≤n) (v:aja) (hv:dwk v):awd n v=some (if pV v=true then 0 else 5):=by
 have hn0:4194304≤n:=hn
 obtain ⟨h1,h2,h3⟩:=hv
 unfold awd
 obtain ⟨t,ht1,ht2⟩:=hq4 n v.Serial
 have ht1':aqe n v.Serial [65,66,67,68,69,70,71,72,73,74,75,76,77,78,79,80,81,82,83,84,85,86,87,88,89,90,48,49,50,51,52,53,54,55,56,57]=some t:=ht1
 simp only [gzg,jf,ht1',Jp,jX,implies_true,and_self,ht2,fkk]
 rw [ajb _ trivial]
 have e1:(if (!(decide (1≤v.Serial.length) && decide (v.Serial.length≤6)))=true then true else !v.Serial.all fun b=>letB b || digB b) = !serB v.Serial:=by
  unfold serB
  cases (decide (1≤v.Serial.length) && decide (v.Serial.length≤6)) <;> simp
 rw [e1]
 unfold pV head
 cases hser:serB v.Serial with
 | false=>simp [ew6,hser]
 | true =>
  simp only [jQ,cond_false]
  rw [ajb _ trivial]
  have e2:(if (if (!inB v.Cyls 1 64)=true then true else !inB v.Heads 1 8)=true then true else !inB v.Size 1 (jc .i64 (jc .i64 (v.Cyls * v.Heads) - 1))) = !ew6 v.Serial v.Cyls v.Heads v.Size:=by
   unfold ew6;rw [hser]
   cases inB v.Cyls 1 64 <;> cases inB v.Heads 1 8 <;> simp
  rw [e2]
  cases hh:ew6 v.Serial v.Cyls v.Heads v.Size with
  | false=>simp
  | true =>
   simp only [jQ,cond_false,Ja]
   cases hl:decide ((v.Sets.length:Int) > (if jc .i64 (14 * v.Size) < 64 then jc .i64 (14 * v.Size) else 64)) with
   | true=>simp
   | false =>
    simp only [cond_false,jY,Ja]
    have key:=ej1 n hn v ⟨h1,h2,h3⟩ [⟨0,jc .i64 (v.Size+1)⟩] (by simp) v.Sets.length 0 n (by omega) (by omega)
    simp only [List.take_zero] at key
    have key':aji (fun (x:(List aj0)×Int)=>azg n v (v.Sets.length:Int) x.1 x.2) n ([(⟨0,jc .i64 (v.Size+1)⟩:aj0)],0)=some (if (List.range' 0 v.Sets.length).any (pBad v)=true then .inl 5 else .inr ([(⟨0,jc .i64 (v.Size+1)⟩:aj0)] ++ exts v.Sets)):=key
    rw [key',jf]
    cases (List.range' 0 v.Sets.length).any (pBad v) with
    | true=>simp
    | false =>
     have hel:=by2 h3
     have hle:((⟨0,jc .i64 (v.Size+1)⟩:aj0) :: exts v.Sets).length≤1073741824:=by rw [jC];omega
     simp only [jl,if_false,List.singleton_append,bwb,dwu n hn _ hle,jf,jY,Ja]
     cases (trkF [] ((⟨0,jc .i64 (v.Size+1)⟩:aj0) :: exts v.Sets)).isSome <;> rfl
theorem dk2 (n:Nat) (hn:N0≤n) (v:aja) (hv:dwk v):ayl n v=some (rV v):=by
 have hn0:4194304≤n:=hn
 obtain ⟨h1,h2,h3⟩:=hv
 unfold ayl
 simp only [gjw n v.Serial (by omega) (by omega),fqq,jf,Jp,jX,implies_true,and_self]
 rw [ajb _ trivial]
 have e2:(if (if (if (!serB v.Serial)=true then true else !inB v.Cyls 1 64)=true then true else !inB v.Heads 1 8)=true then true else !inB v.Size 1 (jc .i64 (jc .i64 (v.Cyls * v.Heads) - 1))) = !head v:=by
  unfold head ew6
  cases serB v.Serial <;> cases inB v.Cyls 1 64 <;> cases inB v.Heads 1 8 <;> simp
 rw [e2]
 unfold rV
 cases hh:head v with
 | false=>simp
 | true =>
  simp only [jQ,jl,if_false,Ja,dkq]
  cases hl:decide ((v.Sets.length:Int) > 64) with
  | true=>simp
  | false =>
   simp only [Bool.false_or,jY,Ja]
   cases hl2:decide ((v.Sets.length:Int) > jc .i64 (14 * v.Size)) with
   | true=>simp
   | false =>
    simp only [cond_false,jY,Ja]
    have key:=dwe n hn v ⟨h1,h2,h3⟩ v.Sets.length 0 n (by omega) (by omega)
    have key':aji (fun (x:Int)=>awn n v x) n 0=some (if (List.range' 0 v.Sets.length).any (rBad v)=true then .inl false else .inr ()):=key
    rw [key',jf]
    cases (List.range' 0 v.Sets.length).any (rBad v) with
    | true=>simp
    | false =>
     have hel:=by2 h3
     simp only [jl,if_false,bqk,all_eq n hn v ⟨h1,h2,h3⟩,cq9 n hn (exts v.Sets) (by omega),jf,jY,Ja]
theorem fzf {S:Int} (hS:0≤S∧S≤511) (A:List aj0):(trkF [] (⟨0,S+1⟩ :: A)).isSome=true↔(trkF [] A).isSome=true∧∀ x∈A,S < x.At:=by
 rw [aw2,aw2,azp,Ju,je,List.nodup_append]
 have hv0:val ⟨0,S+1⟩=true:=(aqn _).2 ⟨by simp,by simp only;omega,by simp,by simp only;omega⟩
 constructor
 ·rintro ⟨⟨_,h1⟩,_,h2,h3⟩
  refine ⟨⟨h1,h2⟩,fun x hx=>?_⟩
  have hvx:=(aqn x).1 (jD.1 h1 x hx)
  have hm:x.At∈trks A:=JO.2 ⟨x,hx,ayh.2 ⟨by omega,by omega⟩⟩
  by_cases hc:S < x.At
  ·exact hc
  ·exact absurd rfl (h3 x.At (ayh.2 ⟨by simp only;omega,by simp only;omega⟩) x.At hm)
 ·rintro ⟨⟨h1,h2⟩,h3⟩
  refine ⟨⟨hv0,h1⟩,ezo _,h2,fun a ha b hb e=>?_⟩
  subst e
  obtain ⟨x,hx,hb⟩:=JO.1 hb
  have:=h3 x hx
  have h4:=ayh.1 ha
  have h5:=ayh.1 hb
  simp only at h4
  omega
theorem ekb {p:Nat→Bool} {m:Nat}:(List.range' 0 m).any p=false↔∀ k,k < m→p k=false:=by
 rw [List.any_eq_false]
 constructor
 ·intro h k hk
  have:=h k (by simp [List.mem_range',hk])
  simpa using this
 ·intro h k hk
  have:k < m:=by simpa [List.mem_range'] using hk
  simp [h k this]
theorem gzk {v:aja} {k:Nat}:pBad v k=false↔pLbl v (gt v.Sets k)=true∧ordB v.Sets k=false:=by
 unfold pBad;cases pLbl v (gt v.Sets k) <;> cases ordB v.Sets k <;> simp
theorem gk7 {v:aja} {d:ajc}:rLbl v d=true↔pLbl v d=true∧∀ x∈d.Extents,v.Size < x.At:=by
 have e:d.Extents.any (fun x=>decide (x.At≤v.Size) || cys v x)=false↔d.Extents.any (cys v)=false∧∀ x∈d.Extents,v.Size < x.At:=by
  simp only [List.any_eq_false,Js,decide_eq_true_eq,not_or]
  constructor
  ·intro h;exact ⟨fun x hx=>(h x hx).2,fun x hx=>by have:=(h x hx).1;omega⟩
  ·rintro ⟨h1,h2⟩ x hx;exact ⟨by have:=h2 x hx;omega,h1 x hx⟩
 unfold rLbl pLbl
 simp only [je,j3,e]
 constructor
 ·rintro ⟨⟨h1,h2⟩,⟨⟨⟨h3,h4⟩,h5⟩,h6⟩,h7⟩;exact ⟨⟨⟨⟨⟨⟨h3,h4⟩,h5⟩,h6⟩,h1⟩,h7⟩,h2⟩
 ·rintro ⟨⟨⟨⟨⟨⟨h3,h4⟩,h5⟩,h6⟩,h1⟩,h7⟩,h2⟩;exact ⟨⟨h1,h2⟩,⟨⟨⟨h3,h4⟩,h5⟩,h6⟩,h7⟩
theorem fqf {v:aja} {k:Nat}:rBad v k=false↔(pLbl v (gt v.Sets k)=true∧∀ x∈(gt v.Sets k).Extents,v.Size < x.At)∧ordB v.Sets k=false:=by
 rw [← gk7]
 unfold rBad;cases rLbl v (gt v.Sets k) <;> cases ordB v.Sets k <;> simp
theorem fq3 {l:List ajc} {x:aj0}:x∈exts l↔∃ k,k < l.length∧x∈(gt l k).Extents:=by
 unfold exts
 rw [JO]
 constructor
 ·rintro ⟨d,hd,hx⟩
  obtain ⟨k,hk,rfl⟩:=List.getElem_of_mem hd
  exact ⟨k,hk,by rw [azh hk];exact hx⟩
 ·rintro ⟨k,hk,hx⟩
  exact ⟨_,jG hk,by rw [← azh hk];exact hx⟩
theorem hjq (v:aja):pV v=rV v:=by
 unfold pV rV
 cases hh:head v with
 | false=>simp
 | true =>
  obtain ⟨z1,z2⟩:=gjs hh
  have w1:jc .i64 (14 * v.Size)=14 * v.Size:=wid (by omega)
  have w2:jc .i64 (v.Size+1)=v.Size+1:=wid (by omega)
  rw [Bool.eq_iff_iff,w1,w2]
  simp only [Ja,je,j3,decide_eq_false_iff_not,ekb,gzk,fqf,fzf (S:=v.Size) ⟨by omega,by omega⟩]
  have em:¬ ((v.Sets.length:Int) > if 14 * v.Size < 64 then 14 * v.Size else 64)↔¬ ((v.Sets.length:Int) > 64)∧¬ ((v.Sets.length:Int) > 14 * v.Size):=by
   split <;> omega
  rw [em]
  constructor
  ·rintro ⟨⟨⟨h1,h2⟩,h3⟩,h4,h5⟩
   exact ⟨⟨⟨h1,h2⟩,fun k hk=>⟨⟨(h3 k hk).1,fun x hx=>h5 x (fq3.2 ⟨k,hk,hx⟩)⟩,(h3 k hk).2⟩⟩,h4⟩
  ·rintro ⟨⟨⟨h1,h2⟩,h3⟩,h4⟩
   refine ⟨⟨⟨h1,h2⟩,fun k hk=>⟨(h3 k hk).1.1,(h3 k hk).2⟩⟩,h4,fun x hx=>?_⟩
   obtain ⟨k,hk,hx⟩:=fq3.1 hx
   exact (h3 k hk).1.2 x hx
theorem hw5 {v:aja}:rV v=true↔head v=true∧v.Sets.length≤64∧(v.Sets.length:Int)≤14 * v.Size∧(∀ k,k < v.Sets.length→(pLbl v (gt v.Sets k)=true∧∀ x∈(gt v.Sets k).Extents,v.Size < x.At)∧ordB v.Sets k=false)∧(trkF [] (exts v.Sets)).isSome=true:=by
 unfold rV
 cases hh:head v with
 | false=>simp
 | true =>
  obtain ⟨z1,z2⟩:=gjs hh
  have w1:jc .i64 (14 * v.Size)=14 * v.Size:=wid (by omega)
  rw [w1]
  simp only [Ja,je,j3,decide_eq_false_iff_not,ekb,fqf,true_and]
  constructor
  ·rintro ⟨⟨⟨h1,h2⟩,h3⟩,h4⟩;exact ⟨by omega,by omega,h3,h4⟩
  ·rintro ⟨h1,h2,h3,h4⟩;exact ⟨⟨⟨by omega,by omega⟩,h3⟩,h4⟩
theorem gw8 {s t:List Int} (h:∀ k,k∈s↔k∈t):mark s=mark t:=by
 unfold mark
 refine List.map_congr_left fun k _=>?_
 exact decide_eq_decide.2 (h k)
theorem dk9 {a b:List aj0} (h:a.Perm b):(trkF [] a).isSome=(trkF [] b).isSome:=by
 rw [Bool.eq_iff_iff,aw2,aw2,eq6 h,(cjx h).nodup_iff]
theorem fz1 (n:Nat) (hn:N0≤n) {a b:List aj0} (h:a.Perm b) (m:Int) (ha:a.length≤2097152):ayv n a m=ayv n b m:=by
 have hb:b.length≤2097152:=by rw [← h.length_eq];exact ha
 unfold ayv
 rw [cq9 n hn a ha,cq9 n hn b hb,dk9 h,jf,jf]
 cases hv:(trkF [] b).isSome with
 | false=>simp
 | true =>
  have hva:(trkF [] a).isSome=true:=by rw [dk9 h];exact hv
  rw [gqf n a hn ha,gqf n b hn hb,eqw hva,eqw hv,gw8 (fun k=>(cjx h).mem_iff)]
theorem fk9 (n:Nat) (hn:N0≤n) (v:aja) (hv:dwk v) (u0:List aj0) (hu:u0.length≤1):∀ j k m,k+j=v.Sets.length→j < m →
  aji (fun (x:(List aj0)×Int)=>ayq n v (v.Sets.length:Int) x.1 x.2) m (u0 ++ exts (v.Sets.take k),(k:Int))=some (u0 ++ exts v.Sets):=by
 obtain ⟨h1,h2,h3⟩:=hv
 intro j
 induction j with
 | zero =>
  intro k m hj hm
  obtain ⟨m,rfl⟩:∃ q,m=q+1:=⟨m - 1,by omega⟩
  have hk:k=v.Sets.length:=by omega
  subst hk
  refine ajq ?_
  unfold ayq
  simp only [Jm,decide_false,cond_false,List.take_length]
 | succ j ih =>
  intro k m hj hm
  obtain ⟨m,rfl⟩:∃ q,m=q+1:=⟨m - 1,by omega⟩
  have hk:k < v.Sets.length:=by omega
  have hlt:((k:Nat):Int) < (v.Sets.length:Int):=by omega
  have hmem:gt v.Sets k∈v.Sets:=by rw [azh hk];exact jG hk
  have hx:=(h3 _ hmem).2
  have hel:=by2 (l:=v.Sets.take k) fun d hd=>h3 d (List.mem_of_mem_take hd)
  rw [jj] at hel
  refine (ajk (x':=(u0 ++ exts (v.Sets.take (k+1)),((k+1:Nat):Int))) ?_).trans (ih (k+1) m (by omega) (by omega))
  unfold ayq
  simp only [decide_eq_true hlt,cond_true,jr]
  rw [ajb _ ⟨by omega,hlt⟩,ajb _ (by rw [ji];omega),wid (n:=(k:Int)+1) (by omega),dk4 hk,j7]
  rfl
theorem gwg (n:Nat) (hn:N0≤n) (v:aja) (hv:dwk v):∃ R,bz2 n v=some R∧bkq n v=some R∧R.length≤512:=by
 have hn0:4194304≤n:=hn
 have hel:=by2 hv.2.2
 have h70:=hv.1
 unfold bz2 bkq
 rw [dkd n hn v hv,dk2 n hn v hv,hjq,jf,jf]
 cases hr:rV v with
 | false=>exact ⟨[],rfl,rfl,by simp⟩
 | true =>
  simp only [if_true,bne_self_eq_false,cond_false,jQ]
  have key:=fk9 n hn v hv [⟨0,jc .i64 (v.Size+1)⟩] (by simp) v.Sets.length 0 n (by omega) (by have:=hv.1;omega)
  simp only [List.take_zero] at key
  have key':aji (fun (x:(List aj0)×Int)=>ayq n v (v.Sets.length:Int) x.1 x.2) n ([(⟨0,jc .i64 (v.Size+1)⟩:aj0)],0)=some ([(⟨0,jc .i64 (v.Size+1)⟩:aj0)] ++ exts v.Sets):=key
  have hle:((⟨0,jc .i64 (v.Size+1)⟩:aj0) :: exts v.Sets).length≤2097152:=by rw [jC];omega
  obtain ⟨R,hR1,hR2,hR3⟩:=gyn n hn ((⟨0,jc .i64 (v.Size+1)⟩:aj0) :: exts v.Sets) (jc .i64 (v.Cyls * v.Heads)) hle
  have hp:((⟨0,jc .i64 (v.Size+1)⟩:aj0) :: exts v.Sets).Perm (exts v.Sets ++ [⟨0,jc .i64 (v.Size+1)⟩]):=List.perm_append_comm (l₁:=[_])
  rw [fz1 n hn hp _ hle] at hR2
  refine ⟨R,?_,?_,hR3⟩
  ·rw [key',jf,List.singleton_append,bzs,hR1,jf]
  ·rw [all_eq n hn v hv,jf,ajb _ (by omega),hR2,jf]
end Go.Proofs.YtijnkhcfondehaaGreatDoor
/-
 ch. 21: the order of names; where a label stands; copies.
-/
namespace Go.Proofs.YtijnkhcfondehaaGreatDoor
open Go.AE
end Go.Proofs.YtijnkhcfondehaaGreatDoor
/-
 ch. 21: tables with a label in another's place, tables without a label.
-/
namespace Go.Proofs.YtijnkhcfondehaaGreatDoor
open Go.AE
end Go.Proofs.YtijnkhcfondehaaGreatDoor
/-
 ch. 21: Create and Extend, by the program and by the specification.
-/
namespace Go.Proofs.YtijnkhcfondehaaGreatDoor
open Go.AE
def tz:aja:=⟨[],0,0,0,[]⟩
end Go.Proofs.YtijnkhcfondehaaGreatDoor
/-
 ch. 21: Release, Update, Scratch and Rename, by the program and by the specification.
-/
namespace Go.Proofs.YtijnkhcfondehaaGreatDoor
open Go.AE Go.Sort
end Go.Proofs.YtijnkhcfondehaaGreatDoor
/-
 ch. 21: Rename; every change is what the specification does.
-/
namespace Go.Proofs.YtijnkhcfondehaaGreatDoor
open Go.AE Go.Sort
end Go.Proofs.YtijnkhcfondehaaGreatDoor
/-
 ch. 21: runs of changes.
-/
namespace Go.Proofs.YtijnkhcfondehaaGreatDoor
open Go.AE
theorem hw4 (n:Nat) (hn:N0≤n) (v:aja) (hv:dwk v):bkp n v=some v:=by
 have hn0:4194304≤n:=hn
 obtain ⟨h1,h2,h3⟩:=hv
 have key:∀ j k m,k+j=v.Sets.length→j < m→aji (fun (x:(List ajc)×Int)=>ayr n v x.1 x.2) m (v.Sets.take k,(k:Int))=some v.Sets:=by
  intro j
  induction j with
  | zero =>
   intro k m hj hm
   obtain ⟨m,rfl⟩:∃ q,m=q+1:=⟨m - 1,by omega⟩
   have hk:k=v.Sets.length:=by omega
   subst hk
   refine ajq ?_
   unfold ayr
   simp only [Jm,decide_false,cond_false,List.take_length]
  | succ j ih =>
   intro k m hj hm
   obtain ⟨m,rfl⟩:∃ q,m=q+1:=⟨m - 1,by omega⟩
   have hk:k < v.Sets.length:=by omega
   have hlt:((k:Nat):Int) < (v.Sets.length:Int):=by omega
   have hmem:gt v.Sets k∈v.Sets:=by rw [azh hk];exact jG hk
   have hx:=(h3 _ hmem).2
   have ht:v.Sets.take (k+1)=v.Sets.take k ++ [gt v.Sets k]:=by
    rw [List.take_add_one,List.getElem?_eq_getElem hk,azh hk];rfl
   refine (ajk (x':=(v.Sets.take (k+1),((k+1:Nat):Int))) ?_).trans (ih (k+1) m (by omega) (by omega))
   unfold ayr
   simp only [decide_eq_true hlt,cond_true,jr]
   rw [ajb _ ⟨by omega,hlt⟩,ajb _ (by omega),ajb _ (by rw [jj];omega),wid (n:=(k:Int)+1) (by omega),ht]
   rfl
 have hz:=key v.Sets.length 0 n (by omega) (by omega)
 have hz':aji (fun (x:(List ajc)×Int)=>ayr n v x.1 x.2) n ([],0)=some v.Sets:=hz
 simp only [bkp,hz',jf,bzo]
theorem fzn (n:Nat) (hn:N0≤n) (d:ajc) (hd:d.Extents.length≤1000):bjn n d d=some true:=by
 have hn0:4194304≤n:=hn
 have key:aji (fun (x:Int)=>azm n d d x) n 0=some (if d.Extents.any (fun _=>false)=true then .inl false else .inr ()):=by
  refine bqg d.Extents (fun _=>false) _ _ (fun k hk=>?_) ?_ (by omega)
  ·have hlt:((k:Nat):Int) < (d.Extents.length:Int):=by omega
   unfold azm
   simp only [decide_eq_true hlt,cond_true,beq_self_eq_true,Bool.and_self,jQ,cond_false]
   rw [ajb _ ⟨⟨by omega,hlt⟩,by omega,hlt⟩,wid (n:=(k:Int)+1) (by omega)]
   rfl
  ·unfold azm
   simp only [Jm,decide_false,cond_false]
 have hf:d.Extents.any (fun _=>false)=false:=by simp
 rw [hf] at key
 unfold bjn
 simp only [bne_self_eq_false,jl,if_false,beq_self_eq_true,Bool.and_self,jQ,cond_false,key,jf,ay9]
theorem gyk (n:Nat) (hn:N0≤n) (v:aja) (hv:dwk v):bkg n v v=some true:=by
 have hn0:4194304≤n:=hn
 obtain ⟨h1,h2,h3⟩:=hv
 have key:aji (fun (x:Int)=>bjb n v v x) n 0=some (if v.Sets.any (fun _=>false)=true then .inl false else .inr ()):=by
  refine bqg v.Sets (fun _=>false) _ _ (fun k hk=>?_) ?_ (by omega)
  ·have hlt:((k:Nat):Int) < (v.Sets.length:Int):=by omega
   have hx:=(h3 _ (by rw [azh hk];exact jG hk:gt v.Sets k∈v.Sets)).2
   unfold bjb
   simp only [decide_eq_true hlt,cond_true,jr,fzn n hn _ (Jc hx (by decide)),jf,jQ,cond_false]
   rw [ajb _ ⟨⟨by omega,hlt⟩,by omega,hlt⟩,wid (n:=(k:Int)+1) (by omega)]
   rfl
  ·unfold bjb
   simp only [Jm,decide_false,cond_false]
 have hf:v.Sets.any (fun _=>false)=false:=by simp
 rw [hf] at key
 unfold bkg
 simp only [bne_self_eq_false,jl,if_false,cond_false,key,jf,bwi]
end Go.Proofs.YtijnkhcfondehaaGreatDoor
/-
 ch. 21: codes, texts, numbers of two bytes.
-/
namespace Go.Proofs.YtijnkhcfondehaaGreatDoor
open Go.AE
def cdI (k:Int):Int:=((bq2 0 k).getD default).1
def cd (b:UInt8):Int:=cdI ((b.toNat:Nat):Int)
def okC (b:UInt8):Bool:=decide (32≤b.toNat∧b.toNat≤126)
theorem fju:∀ k:Fin 256,32≤k.val∧k.val≤126→bq2 0 ((k.val:Nat):Int)=some (cdI ((k.val:Nat):Int),true)∧bkj 0 ((k.val:Nat):Int)=some (cdI ((k.val:Nat):Int),true):=by decide +kernel
theorem gyc (n:Nat) {b:UInt8} (h:okC b=true):bq2 n ((b.toNat:Nat):Int)=some (cd b,true):=by
 have:=(fju ⟨b.toNat,b.toNat_lt⟩ (by simpa [okC] using h)).1
 exact this
theorem gzr (n:Nat) {b:UInt8} (h:okC b=true):bkj n ((b.toNat:Nat):Int)=some (cd b,true):=by
 have:=(fju ⟨b.toNat,b.toNat_lt⟩ (by simpa [okC] using h)).2
 exact this
def txt (s:List UInt8) (K:Nat):List Int:=s.map cd ++ jo (K - s.length) 64
theorem czx (s:List UInt8) (K:Nat) (h:s.length≤K):(txt s K).length=K:=by simp [txt];omega
theorem cku {W:List Int} {j K:Nat} (hW:W.length=K) (hj:j < K) (w:Int) (hw:W[j]'(by omega)=w):(W.take j ++ jo (K - j) 0).set j w=W.take (j+1) ++ jo (K - (j+1)) 0:=by
 subst hw
 apply JG
 ·simp;omega
 ·intro i h1 h2
  simp only [List.length_set,ji,jj,jS] at h1
  by_cases e:i=j
  ·subst e
   rw [List.getElem_set_self,JD (by simp;omega)]
   simp
  ·rw [List.getElem_set_ne (by omega)]
   by_cases hl:i < j
   ·rw [JD (by simp;omega),JD (by simp;omega)]
    simp
   ·rw [JB (by simp;omega),JB (by simp;omega)]
    simp
theorem gz6 (n:Nat) (s:List UInt8) (K:Nat) (hs:s.length≤K) (hK:K≤65536) (hc:s.all okC=true):∀ r j m,j+r=K→r < m →
  aji (fun (x:(List Int)×Int)=>aw9 n s (K:Int) x.1 x.2) m ((txt s K).take j ++ jo (K - j) 0,(j:Int))=some (.inr (txt s K)):=by
 have hW:=czx s K hs
 intro r
 induction r with
 | zero =>
  intro j m hj hm
  obtain ⟨m,rfl⟩:∃ q,m=q+1:=⟨m - 1,by omega⟩
  have:j=K:=by omega
  subst this
  refine ajq ?_
  unfold aw9
  simp only [show decide ((j:Int) < (j:Int))=false by simp,cond_false,Nat.sub_self,List.replicate_zero,Jz]
  rw [jK (by omega)]
 | succ r ih =>
  intro j m hj hm
  obtain ⟨m,rfl⟩:∃ q,m=q+1:=⟨m - 1,by omega⟩
  have hjK:j < K:=by omega
  refine (ajk (x':=((txt s K).take (j+1) ++ jo (K - (j+1)) 0,((j+1:Nat):Int))) ?_).trans (ih (j+1) m (by omega) (by omega))
  have hl:((txt s K).take j ++ jo (K - j) 0).length=K:=by simp [hW];omega
  unfold aw9
  simp only [decide_eq_true (show (j:Int) < (K:Int) by omega),cond_true,jr,hl]
  rw [ajb _ ⟨⟨by omega,by omega⟩,hjK⟩]
  by_cases hs2:j < s.length
  ·simp only [show decide ((j:Int) ≥ (s.length:Int))=false by simp;omega,cond_false]
   rw [ajb _ ⟨by omega,by omega⟩]
   have hg:s.getD j 0=s[j]:=by simp [ja,hs2]
   have hok:okC s[j]=true:=(jD.1 hc) _ (jG hs2)
   rw [hg,gyc n hok,jf]
   simp only [jQ,cond_false,List.set_set]
   rw [ajb _ ⟨⟨by omega,by omega⟩,hjK⟩]
   unfold awb
   rw [cku hW hjK (cd s[j]) (by simp [txt,JD,hs2]),wid (n:=(j:Int)+1) (by omega)]
   rfl
  ·simp only [show decide ((j:Int) ≥ (s.length:Int))=true by simp;omega,cond_true]
   unfold awb
   rw [cku hW hjK 64 (by rw [show (txt s K)[j]=_ from JB (by simp;omega)];simp),wid (n:=(j:Int)+1) (by omega)]
   rfl
theorem dkk (n:Nat) (hn:N0≤n) (s:List UInt8) (K:Nat) (hs:s.length≤K) (hK:K≤65536) (hc:s.all okC=true):bjk n s (K:Int)=some (txt s K):=by
 have hn0:4194304≤n:=hn
 unfold bjk cw7
 simp only [show (if (decide ((K:Int) < 0))=true then true else (decide ((K:Int) > 65536)))=false by simp;omega,cond_false,show decide ((s.length:Int) > (K:Int))=false by simp;omega]
 unfold bwf
 rw [ajb _ ⟨by omega,by omega,by omega⟩]
 have key:=gz6 n s K hs hK hc K 0 n (by omega) (by omega)
 simp only [List.take_zero,Jr,Nat.sub_zero] at key
 simp only [jr]
 rw [show aqo K (0:Int)=jo K 0 from rfl]
 have key':aji (fun (x:(List Int)×Int)=>aw9 n s (K:Int) x.1 x.2) n (jo K 0,0)=some (.inr (txt s K)):=key
 rw [key']
 rfl
theorem gk8 (n:Nat) (s:List UInt8) (hs:s.length≤65536) (hc:s.all okC=true):∀ r j m,j+r=s.length→r < m →
  aji (fun (x:(List Int)×Int)=>az8 n s x.1 x.2) m ((s.take j).map cd,(j:Int))=some (.inr (s.map cd)):=by
 intro r
 induction r with
 | zero =>
  intro j m hj hm
  obtain ⟨m,rfl⟩:∃ q,m=q+1:=⟨m - 1,by omega⟩
  have:j=s.length:=by omega
  subst this
  refine ajq ?_
  unfold az8
  simp only [show decide ((s.length:Int) < (s.length:Int))=false by simp,cond_false,List.take_length]
 | succ r ih =>
  intro j m hj hm
  obtain ⟨m,rfl⟩:∃ q,m=q+1:=⟨m - 1,by omega⟩
  have hjs:j < s.length:=by omega
  refine (ajk (x':=((s.take (j+1)).map cd,((j+1:Nat):Int))) ?_).trans (ih (j+1) m (by omega) (by omega))
  unfold az8
  simp only [decide_eq_true (show (j:Int) < (s.length:Int) by omega),cond_true,jr]
  rw [ajb _ ⟨by omega,by omega⟩]
  have hg:s.getD j 0=s[j]:=by simp [ja,hjs]
  have hok:okC s[j]=true:=(jD.1 hc) _ (jG hjs)
  rw [hg,gzr n hok,jf]
  simp only [jQ,cond_false]
  rw [ajb _ (by simp;omega),wid (n:=(j:Int)+1) (by omega),JK hjs,List.map_append]
  rfl
theorem gw1 (n:Nat) (K:Nat) (hK:K≤65536):∀ r (b:List Int) m,b.length+r=K→r < m →
  aji (fun (x:(List Int))=>bjt n (K:Int) x) m b=some (b ++ jo r 64):=by
 intro r
 induction r with
 | zero =>
  intro b m hj hm
  obtain ⟨m,rfl⟩:∃ q,m=q+1:=⟨m - 1,by omega⟩
  refine ajq ?_
  unfold bjt
  simp only [show decide ((b.length:Int) < (K:Int))=false by simp;omega,cond_false,List.replicate_zero,Jz]
 | succ r ih =>
  intro b m hj hm
  obtain ⟨m,rfl⟩:∃ q,m=q+1:=⟨m - 1,by omega⟩
  refine (ajk (x':=b ++ [64]) ?_).trans ((ih (b ++ [64]) m (by simp;omega) (by omega)).trans (by rw [j7];rfl))
  unfold bjt
  simp only [decide_eq_true (show (b.length:Int) < (K:Int) by omega),cond_true]
  rw [ajb _ (by omega)]
theorem djb (n:Nat) (hn:N0≤n) (s:List UInt8) (K:Nat) (hs:s.length≤K) (hK:K≤65536) (hc:s.all okC=true):akm n s (K:Int)=some (txt s K):=by
 have hn0:4194304≤n:=hn
 unfold akm bzq
 have key:=gk8 n s (by omega) hc s.length 0 n (by omega) (by omega)
 have key':aji (fun (x:(List Int)×Int)=>az8 n s x.1 x.2) n ([],0)=some (.inr (s.map cd)):=key
 rw [key']
 simp only [jf,bjr,bwg]
 rw [gw1 n K hK (K - s.length) (s.map cd) n (by simp;omega) (by omega)]
 rfl
def h2 (k:Int):List Int:=[jc .u8 (Int.fdiv k 256),jc .u8 k]
theorem eyg (n:Nat) (k:Int):akw n k=some (h2 k):=rfl
theorem djg (n:Nat) (k:Int) (h:0≤k∧k≤4611686018427387904):ayu n k=some (h2 k):=by
 unfold ayu h2
 have e1:Int.tdiv k 256=Int.fdiv k 256:=by rw [Int.tdiv_eq_ediv_of_nonneg h.1,Int.fdiv_eq_ediv_of_nonneg _ (by omega)]
 have e2:Int.tmod k 256=k % 256:=Int.tmod_eq_emod_of_nonneg h.1
 have e3:0≤Int.fdiv k 256∧Int.fdiv k 256≤4611686018427387904:=by rw [Int.fdiv_eq_ediv_of_nonneg _ (by omega)];omega
 rw [e1,e2,wid (n:=Int.fdiv k 256) (by omega)]
 have e4:jc .u8 (k % 256)=jc .u8 k:=by rw [IntKind.wrap_u8,IntKind.wrap_u8];omega
 rw [e4]
theorem azj (k:Int):(h2 k).length=2:=rfl
end Go.Proofs.YtijnkhcfondehaaGreatDoor
/-
 ch. 21: the records of labels.
-/
namespace Go.Proofs.YtijnkhcfondehaaGreatDoor
open Go.AE
def eyh (d:TDcb):Int:=if d.Blocked then (if d.Asa then 192 else 128) else if d.Asa then 64 else 0
def gq2 (d:ajc):List Int:=[jc .u8 d.Dcb.Org,jc .u8 d.Dcb.Format,eyh d.Dcb,jc .u8 d.Dcb.KeyLen] ++ h2 d.Dcb.Lrecl ++ h2 d.Dcb.Blksize ++ h2 d.Dcb.KeyPos ++ h2 d.Used
def exb (l:List aj0):List Int:=l.flatMap fun x=>h2 x.At ++ h2 x.Len
def cwg (d:ajc):List Int:=gq2 d ++ [jc .u8 (d.Extents.length:Int)]
def gz9 (d:ajc):List Int:=cwg d ++ exb d.Extents ++ jo (32 - 4 * d.Extents.length) 0
def rcP (k:Int) (d:ajc):TRec:=⟨k,txt d.Name 44,gz9 d,false⟩
theorem dk5 (d:ajc):(cwg d).length=13:=by simp [cwg,gq2,h2]
theorem eq7:∀ l:List aj0,(exb l).length=4 * l.length
 | []=>rfl
 | x :: l=>by
  have:=eq7 l
  simp only [exb,List.flatMap_cons,ji,azj,jC] at this ⊢
  omega
theorem hjh (a b:List aj0):exb (a ++ b)=exb a ++ exb b:=by simp [exb]
theorem fjw {l:List aj0} {k:Nat} (h:k < l.length):exb (l.take (k+1))=exb (l.take k) ++ (h2 (gt l k).At ++ h2 (gt l k).Len):=by
 rw [JK h,hjh,azh h];simp [exb]
structure OkD (d:ajc):Prop where
 ext:d.Extents.length≤8
 name:d.Name.all okC=true
 nlen:d.Name.length≤44
 nums:∀ x∈[d.Dcb.Lrecl,d.Dcb.Blksize,d.Dcb.KeyPos,d.Used],0≤x∧x≤4611686018427387904
 exts:∀ x∈d.Extents,(0≤x.At∧x.At≤4611686018427387904)∧(0≤x.Len∧x.Len≤4611686018427387904)
theorem gzu (n:Nat) (n_:Int) (d:ajc) (hd:d.Extents.length≤8):∀ r j m,j+r=d.Extents.length→r < m →
  aji (fun (x:(List Int)×Int)=>azu n n_ d (d.Extents.length:Int) x.1 x.2) m (cwg d ++ exb (d.Extents.take j),(j:Int))=some (cwg d ++ exb d.Extents):=by
 intro r
 induction r with
 | zero =>
  intro j m hj hm
  obtain ⟨m,rfl⟩:∃ q,m=q+1:=⟨m - 1,by omega⟩
  have:j=d.Extents.length:=by omega
  subst this
  refine ajq ?_
  unfold azu
  simp only [show decide ((d.Extents.length:Int) < (d.Extents.length:Int))=false by simp,cond_false,List.take_length]
 | succ r ih =>
  intro j m hj hm
  obtain ⟨m,rfl⟩:∃ q,m=q+1:=⟨m - 1,by omega⟩
  have hjs:j < d.Extents.length:=by omega
  refine (ajk (x':=(cwg d ++ exb (d.Extents.take (j+1)),((j+1:Nat):Int))) ?_).trans (ih (j+1) m (by omega) (by omega))
  unfold azu
  have hl:(cwg d ++ exb (d.Extents.take j)).length=13+4 * j:=by rw [ji,dk5,eq7,jj];omega
  simp only [decide_eq_true (show (j:Int) < (d.Extents.length:Int) by omega),cond_true,jr,eyg,jf]
  rw [ajb _ ⟨by omega,by omega⟩,ajb _ (by simp only [azj,hl];omega),ajb _ (by simp only [azj,hl];omega),wid (n:=(j:Int)+1) (by omega),fjw hjs]
  simp only [j7]
  rfl
theorem fyc (n:Nat) (hn:N0≤n) (k:Int) (d:ajc) (hd:OkD d):bwx n k d=some (rcP k d):=by
 have hn0:4194304≤n:=hn
 have hd1:=hd.ext
 have key:∀ f,f=eyh d.Dcb→azv n k d f=some (rcP k d):=by
  intro f hf
  unfold azv
  simp only [eyg,jf]
  rw [ajb _ (by simp only [azj];omega),ajb _ (by simp only [azj];omega),ajb _ (by simp only [azj];omega),ajb _ (by simp only [azj];omega),ajb _ (by simp only [azj];omega)]
  have h:=gzu n k d hd1 d.Extents.length 0 n (by omega) (by omega)
  rw [hf]
  have h':aji (fun (x:(List Int)×Int)=>azu n k d (d.Extents.length:Int) x.1 x.2) n (cwg d,0)=some (cwg d ++ exb d.Extents):=by
   simpa [exb] using h
  have e:(((((([(jc .u8 (d.Dcb.Org)),(jc .u8 (d.Dcb.Format)),eyh d.Dcb,(jc .u8 (d.Dcb.KeyLen))] ++ h2 d.Dcb.Lrecl) ++ h2 d.Dcb.Blksize) ++ h2 d.Dcb.KeyPos) ++ h2 d.Used) ++ [(jc .u8 ((d.Extents.length:Int)))]))=cwg d:=rfl
  rw [e,h',jf]
  unfold bq8
  rw [show (44:Int)=((44:Nat):Int) from rfl,dkk n hn d.Name 44 hd.nlen (by omega) hd.name,jf]
  have hl:(cwg d ++ exb d.Extents).length=13+4 * d.Extents.length:=by rw [ji,dk5,eq7]
  rw [hl,wid (n:=45 - ((13+4 * d.Extents.length:Nat):Int)) (by omega),ajb _ ⟨by omega,by omega⟩]
  have e2:(45 - ((13+4 * d.Extents.length:Nat):Int)).toNat=32 - 4 * d.Extents.length:=by omega
  rw [e2]
  rfl
 unfold bwx
 have e0:jc .u8 (((BitVec.ofInt (j6 .u8) 0 ||| BitVec.ofInt (j6 .u8) 128).toNat:Int))=128:=by decide
 have e1:jc .u8 (((BitVec.ofInt (j6 .u8) 128 ||| BitVec.ofInt (j6 .u8) 64).toNat:Int))=192:=by decide
 have e2:jc .u8 (((BitVec.ofInt (j6 .u8) 0 ||| BitVec.ofInt (j6 .u8) 64).toNat:Int))=64:=by decide
 rw [e0]
 unfold akz
 rw [e1,e2]
 cases hB:d.Dcb.Blocked <;> cases hA:d.Dcb.Asa <;> simp only [cond_true,cond_false] <;> exact key _ (by simp [eyh,hA,hB])
theorem fkg (n:Nat) (hn:N0≤n) (n_:Int) (d:ajc) (hd:OkD d) (b:List Int) (hb:b.length=4) :
  aji (fun (x:(List Int)×Int)=>ak6 n n_ d [d.Dcb.Lrecl,d.Dcb.Blksize,d.Dcb.KeyPos,d.Used] x.1 x.2) n (b,0)=some (b ++ h2 d.Dcb.Lrecl ++ h2 d.Dcb.Blksize ++ h2 d.Dcb.KeyPos ++ h2 d.Used):=by
 have hn0:4194304≤n:=hn
 obtain ⟨m,rfl⟩:∃ m,n=m+1+1+1+1+1:=⟨n - 5,by omega⟩
 generalize hN:m+1+1+1+1+1=N at *
 have step:∀ (j:Nat) (b':List Int) (x:Int),j < 4→b'.length≤100→gt [d.Dcb.Lrecl,d.Dcb.Blksize,d.Dcb.KeyPos,d.Used] j=x→ak6 N n_ d [d.Dcb.Lrecl,d.Dcb.Blksize,d.Dcb.KeyPos,d.Used] b' (j:Int)=some (.inl (b' ++ h2 x,((j+1:Nat):Int))):=by
  intro j b' x hj hb' hx
  unfold ak6
  have hm:x∈[d.Dcb.Lrecl,d.Dcb.Blksize,d.Dcb.KeyPos,d.Used]:=by
   rw [← hx,azh (by simpa using hj)];exact jG _
  simp only [decide_eq_true (show (j:Int) < 4 by omega),cond_true,jr,hx]
  rw [ajb _ ⟨⟨by omega,by simp;omega⟩,by simpa using hj⟩,djg N x (hd.nums x hm),jf,ajb _ (by rw [azj];omega),wid (n:=(j:Int)+1) (by omega)]
  rfl
 rw [← hN]
 refine (ajk (x':=(b ++ h2 d.Dcb.Lrecl,1)) (by rw [hN];exact step 0 b _ (by omega) (by omega) rfl)).trans ?_
 refine (ajk (x':=(b ++ h2 d.Dcb.Lrecl ++ h2 d.Dcb.Blksize,2)) (by rw [hN];exact step 1 _ _ (by omega) (by simp [azj];omega) rfl)).trans ?_
 refine (ajk (x':=(b ++ h2 d.Dcb.Lrecl ++ h2 d.Dcb.Blksize ++ h2 d.Dcb.KeyPos,3)) (by rw [hN];exact step 2 _ _ (by omega) (by simp [azj];omega) rfl)).trans ?_
 refine (ajk (x':=(b ++ h2 d.Dcb.Lrecl ++ h2 d.Dcb.Blksize ++ h2 d.Dcb.KeyPos ++ h2 d.Used,4)) (by rw [hN];exact step 3 _ _ (by omega) (by simp [azj];omega) rfl)).trans ?_
 refine ajq ?_
 rfl
theorem h2_0:h2 0=[0,0]:=by decide
theorem gqu (n:Nat) (hn:N0≤n) (n_:Int) (d:ajc) (hd:OkD d):∀ r j m,j+r=8→r < m →
  aji (fun (x:(List Int)×Int)=>az1 n n_ d x.1 x.2) m (cwg d ++ exb (d.Extents.take j) ++ jo (4 * (j - d.Extents.length)) 0,(j:Int))=some (gz9 d):=by
 intro r
 induction r with
 | zero =>
  intro j m hj hm
  obtain ⟨m,rfl⟩:∃ q,m=q+1:=⟨m - 1,by omega⟩
  have:j=8:=by omega
  subst this
  refine ajq ?_
  unfold az1
  simp only [show decide (((8:Nat):Int) < 8)=false by decide,cond_false]
  rw [jK hd.ext]
  unfold gz9
  rw [show 4 * (8 - d.Extents.length)=32 - 4 * d.Extents.length by omega]
 | succ r ih =>
  intro j m hj hm
  obtain ⟨m,rfl⟩:∃ q,m=q+1:=⟨m - 1,by omega⟩
  refine (ajk (x':=(cwg d ++ exb (d.Extents.take (j+1)) ++ jo (4 * (j+1 - d.Extents.length)) 0,((j+1:Nat):Int))) ?_).trans (ih (j+1) m (by omega) (by omega))
  unfold az1
  have hl:(cwg d ++ exb (d.Extents.take j) ++ jo (4 * (j - d.Extents.length)) 0).length≤100:=by rw [ji,ji,dk5,eq7,jj,jS];omega
  generalize hB:cwg d ++ exb (d.Extents.take j) ++ jo (4 * (j - d.Extents.length)) 0=B at hl ⊢
  simp only [decide_eq_true (show (j:Int) < 8 by omega),cond_true,jr]
  by_cases hjs:j < d.Extents.length
  ·have hx:=hd.exts (gt d.Extents j) (by rw [azh hjs];exact jG _)
   simp only [decide_eq_true (show (j:Int) < (d.Extents.length:Int) by omega),cond_true]
   rw [ajb _ ⟨by omega,by omega⟩]
   unfold awu ak4
   rw [djg n _ hx.1,jf,ajb _ (by rw [azj];omega),djg n _ hx.2,jf,ajb _ (by rw [azj,azj];omega),wid (n:=(j:Int)+1) (by omega),← hB,fjw hjs]
   rw [show j - d.Extents.length=0 by omega,show j+1 - d.Extents.length=0 by omega]
   simp
  ·simp only [show decide ((j:Int) < (d.Extents.length:Int))=false by simp;omega,cond_false]
   unfold awu ak4
   rw [djg n 0 (by omega),jf,ajb _ (by rw [azj];omega),jf,ajb _ (by rw [azj];omega),wid (n:=(j:Int)+1) (by omega),← hB]
   rw [jK (by omega),jK (by omega),show 4 * (j+1 - d.Extents.length)=4 * (j - d.Extents.length)+4 by omega,← List.replicate_append_replicate,h2_0]
   simp [j7]
theorem fze (n:Nat) (hn:N0≤n) (k:Int) (d:ajc) (hd:OkD d):bqv n k d=some (rcP k d):=by
 have hn0:4194304≤n:=hn
 unfold bqv
 obtain ⟨r1,hr1⟩:∃ r1,akc n d.Dcb.Blocked 128=some r1:=by unfold akc;cases d.Dcb.Blocked <;> exact ⟨_,rfl⟩
 obtain ⟨r2,hr2⟩:∃ r2,akc n d.Dcb.Asa 64=some r2:=by unfold akc;cases d.Dcb.Asa <;> exact ⟨_,rfl⟩
 have hf:jc .u8 (r1+r2)=eyh d.Dcb:=by
  unfold akc at hr1 hr2
  unfold eyh
  cases hB:d.Dcb.Blocked <;> cases hA:d.Dcb.Asa <;> rw [hB] at hr1 <;> rw [hA] at hr2 <;> simp only [cond_true,cond_false,Option.some.injEq] at hr1 hr2 <;> subst hr1 hr2 <;> decide
 rw [hr1,jf,hr2,jf,hf,fkg n hn k d hd _ rfl,jf]
 unfold bjg
 have e:[jc .u8 d.Dcb.Org,jc .u8 d.Dcb.Format,eyh d.Dcb,jc .u8 d.Dcb.KeyLen] ++ h2 d.Dcb.Lrecl ++ h2 d.Dcb.Blksize ++ h2 d.Dcb.KeyPos ++ h2 d.Used=gq2 d:=rfl
 rw [e,ajb _ (by simp [gq2,h2])]
 have h:=gqu n hn k d hd 8 0 n (by omega) (by omega)
 have h':aji (fun (x:(List Int)×Int)=>az1 n k d x.1 x.2) n (gq2 d ++ [jc .u8 (d.Extents.length:Int)],0)=some (gz9 d):=by
  simpa [exb,cwg] using h
 rw [h',jf]
 unfold bj9
 rw [show (44:Int)=((44:Nat):Int) from rfl,djb n hn d.Name 44 hd.nlen (by omega) hd.name,jf]
 rfl
end Go.Proofs.YtijnkhcfondehaaGreatDoor
/-
 ch. 21: the tracks of a table.
-/
namespace Go.Proofs.YtijnkhcfondehaaGreatDoor
open Go.AE
def tr (S:Nat) (L:List TRec):List (List TRec):=(Jb S).map fun n=>(L.drop (14 * n)).take 14
theorem cko (S:Nat) (L:List TRec):(tr S L).length=S:=by simp [tr]
theorem eku {S:Nat} {L:List TRec} {i:Nat} (h:i < (tr S L).length):(tr S L)[i]=(L.drop (14 * i)).take 14:=by simp [tr]
theorem gy6 (S:Nat) (L:List TRec):tr (S+1) L=tr S L ++ [(L.drop (14 * S)).take 14]:=by simp [tr,List.range_succ]
theorem gy5 {S:Nat} (L:List TRec) (r:TRec) (h:L.length / 14 < S):tr S (L ++ [r])=(tr S L).set (L.length / 14) ((L.drop (14 * (L.length / 14))).take 14 ++ [r]):=by
 apply JG
 ·simp [cko]
 ·intro i h1 h2
  rw [cko] at h1
  rw [List.getElem_set,eku]
  by_cases e:L.length / 14=i
  ·subst e
   simp only [if_true]
   rw [List.drop_append_of_le_length (by omega),List.take_append,jK (by simp <;> omega)]
   congr 1
   rw [jK (by simp <;> omega)]
  ·rw [if_neg e,eku]
   by_cases hl:i < L.length / 14
   ·rw [List.drop_append_of_le_length (by omega),List.take_append_of_le_length (by simp <;> omega)]
   ·rw [List.drop_eq_nil_of_le (by simp <;> omega),List.drop_eq_nil_of_le (by omega)]
def recs (v:aja):List TRec:=(Jb v.Sets.length).map fun j=>rcP ((j % 14+1:Nat):Int) (gt v.Sets j)
theorem dww (v:aja):(recs v).length=v.Sets.length:=by simp [recs]
theorem fjx {v:aja} {j:Nat} (h:j < (recs v).length):(recs v)[j]=rcP ((j % 14+1:Nat):Int) (gt v.Sets j):=by simp [recs]
def volB (v:aja):List Int:=txt [86,79,76,49] 4 ++ txt v.Serial 6 ++ h2 v.Cyls ++ h2 v.Heads ++ h2 v.Size ++ txt [] 64
def vol (v:aja):TRec:=⟨3,txt [86,79,76,49] 4,volB v,false⟩
def encT (v:aja):List (List TRec):=[vol v] :: tr v.Size.toNat (recs v)
structure OkV (v:aja):Prop where
 ser:v.Serial.all okC=true
 slen:v.Serial.length≤6
 nums:∀ x∈[v.Cyls,v.Heads,v.Size],0≤x∧x≤4611686018427387904
 size:1≤v.Size∧v.Size≤511
 sets:v.Sets.length≤64∧(v.Sets.length:Int)≤14 * v.Size
 lbl:∀ k,k < v.Sets.length→OkD (gt v.Sets k)
theorem gy4 {α:Type} (A:List α) (x y:α) (Z:List α):(A ++ [x] ++ Z).set A.length y=A ++ [y] ++ Z:=by simp
theorem gy2 (j:Nat) (h:j≤64):jc .i64 (Int.tmod (j:Int) 14+1)=((j % 14+1:Nat):Int):=by
 rw [Int.tmod_eq_emod_of_nonneg (by omega),wid (by omega)];omega
theorem gkp (j:Nat) (h:j≤64):jc .i64 (1+jc .i64 (Int.tdiv (j:Int) 14))=((1+j / 14:Nat):Int):=by
 rw [Int.tdiv_eq_ediv_of_nonneg (by omega),wid (n:=(j:Int) / 14) (by omega),wid (by omega)];omega
theorem gj8 (n:Nat) (hn:N0≤n) (v:aja) (hv:OkV v) (S:Nat) (hS:(S:Int)=v.Size) (w:TRec):∀ r j mm (A:List (List TRec)) (x:List TRec) (m:Nat),j+r=v.Sets.length→r < mm →
  A ++ [x] ++ jo m []=[w] :: tr S ((recs v).take j)→A.length=(if j=0 then 0 else 1+(j - 1) / 14)→A.length+1+m=S+1 →
  aji (fun (x:List (List TRec)×List TRec×Nat×Int)=>awo n v x.1 x.2.1 x.2.2.1 x.2.2.2) mm (A,x,m,(j:Int))=some ([w] :: tr S (recs v)):=by
 obtain ⟨hs1,hs2⟩:=hv.sets
 obtain ⟨hz1,hz2⟩:=hv.size
 intro r
 induction r with
 | zero =>
  intro j mm A x m hj hm hI hA hl
  obtain ⟨mm,rfl⟩:∃ q,mm=q+1:=⟨mm - 1,by omega⟩
  have:j=v.Sets.length:=by omega
  subst this
  refine ajq ?_
  unfold awo
  simp only [show decide ((v.Sets.length:Int) < (v.Sets.length:Int))=false by simp,cond_false]
  rw [jK (by rw [dww];omega)] at hI
  rw [← hI];rfl
 | succ r ih =>
  intro j mm A x m hj hm hI hA hl
  obtain ⟨mm,rfl⟩:∃ q,mm=q+1:=⟨mm - 1,by omega⟩
  have hjs:j < v.Sets.length:=by omega
  have hxl:x.length≤14:=by
   have h1:(A ++ [x] ++ jo m [])[A.length]'(by simp <;> omega)=x:=by
    rw [JD (by simp),JB (by simp)];simp
   have h2:∀ (i:Nat) (hi:i < ([w] :: tr S ((recs v).take j)).length),(([w] :: tr S ((recs v).take j))[i]).length≤14:=by
    intro i hi
    cases i with
    | zero=>simp
    | succ i=>rw [List.getElem_cons_succ,eku];simp;omega
   have h3:=h2 A.length (by rw [← hI];simp <;> omega)
   rw [← h1]
   have:∀ {a b:List (List TRec)} (e:a=b) (i:Nat) (ha:i < a.length) (hb:i < b.length),a[i]=b[i]:=by intro a b e;subst e;intros;rfl
   rw [this hI A.length (by simp <;> omega) (by rw [← hI];simp <;> omega)]
   exact h3
  have hrt:(recs v).take (j+1)=(recs v).take j ++ [rcP ((j % 14+1:Nat):Int) (gt v.Sets j)]:=by
   rw [JK (by rw [dww];exact hjs),fjx]
  have hlt:((recs v).take j).length=j:=by rw [jj,dww];omega
  have hq:j / 14 < S:=by omega
  have hst:=gy5 ((recs v).take j) (rcP ((j % 14+1:Nat):Int) (gt v.Sets j)) (S:=S) (by rw [hlt];exact hq)
  rw [← hrt,hlt] at hst
  have hget:∀ i (hi:i < (A ++ [x] ++ jo m []).length),i=1+j / 14→(A ++ [x] ++ jo m [])[i]=(((recs v).take j).drop (14 * (j / 14))).take 14:=by
   have:∀ {a b:List (List TRec)} (e:a=b) (i:Nat) (ha:i < a.length) (hb:i < b.length),a[i]=b[i]:=by intro a b e;subst e;intros;rfl
   intro i hi e
   subst e
   rw [this hI (1+j / 14) hi (by simp [cko] <;> omega)]
   have e2:([w] :: tr S ((recs v).take j))[1+j / 14]'(by simp [cko] <;> omega)=(tr S ((recs v).take j))[j / 14]'(by rw [cko];exact hq):=by
    simp [Nat.add_comm 1 (j / 14)]
   rw [e2,eku]
  have hrec:=fyc n hn ((j % 14+1:Nat):Int) (gt v.Sets j) (hv.lbl j hjs)
  generalize rcP ((j % 14+1:Nat):Int) (gt v.Sets j)=R at hrec hst
  have hset:[w] :: tr S ((recs v).take (j+1))=(A ++ [x] ++ jo m []).set (1+j / 14) ((((recs v).take j).drop (14 * (j / 14))).take 14 ++ [R]):=by
   rw [hst,hI,Nat.add_comm 1 (j / 14)];rfl
  by_cases hin:1+j / 14=A.length
  ·refine (ajk (x':=(A,x ++ [R],m,((j+1:Nat):Int))) ?_).trans (ih (j+1) mm A (x ++ [R]) m (by omega) (by omega) ?_ ?_ hl)
   ·unfold awo
    simp only [decide_eq_true (show (j:Int) < (v.Sets.length:Int) by omega),cond_true,jr,gy2 j (by omega),gkp j (by omega),hin]
    rw [ajb _ ⟨by omega,by omega⟩,hrec,jf,ajb _ ⟨by omega,by omega⟩]
    simp only [decide_true,cond_true]
    rw [wid (n:=(j:Int)+1) (by omega)];rfl
   ·rw [hset,hin]
    have hx:=hget A.length (by simp <;> omega) (by omega)
    rw [← hx]
    have h1:(A ++ [x] ++ jo m [])[A.length]'(by simp <;> omega)=x:=by
     rw [JD (by simp),JB (by simp)];simp
    rw [h1]
    exact (gy4 A x (x ++ [R]) _).symm
   ·rw [if_neg (by omega)];omega
  ·have hn1:1+j / 14=A.length+1:=by
    by_cases h0:j=0
    ·rw [if_pos h0] at hA;omega
    ·rw [if_neg h0] at hA;omega
   have hm0:0 < m:=by omega
   obtain ⟨m,rfl⟩:∃ q,m=q+1:=⟨m - 1,by omega⟩
   refine (ajk (x':=(A ++ [x],[R],m,((j+1:Nat):Int))) ?_).trans (ih (j+1) mm (A ++ [x]) [R] m (by omega) (by omega) ?_ ?_ (by simp <;> omega))
   ·unfold awo
    simp only [decide_eq_true (show (j:Int) < (v.Sets.length:Int) by omega),cond_true,jr,gy2 j (by omega),gkp j (by omega)]
    rw [ajb _ ⟨by omega,by omega⟩,hrec,jf,ajb _ ⟨by omega,by omega⟩]
    rw [show decide (((1+j / 14:Nat):Int)=(A.length:Int))=false by simp;omega]
    simp only [cond_false]
    rw [ajb _ ⟨by rw [hn1],by omega⟩,wid (n:=(j:Int)+1) (by omega)];rfl
   ·rw [hset,hn1]
    have hx:=hget (A.length+1) (by simp) (by omega)
    rw [← hx]
    have h1:(A ++ [x] ++ jo (m+1) [])[A.length+1]'(by simp)=[]:=by
     rw [JB (by simp)];simp
    rw [h1,List.set_append_right _ _ (by simp)]
    simp [List.replicate_succ]
   ·rw [if_neg (by omega),ji];simp;omega
end Go.Proofs.YtijnkhcfondehaaGreatDoor
/-
 ch. 21: Encode is as specified; the law of checks.
-/
namespace Go.Proofs.YtijnkhcfondehaaGreatDoor
open Go.AE
theorem hje:∀ k:Fin 256,(letB (UInt8.ofNat k.val)=true∨digB (UInt8.ofNat k.val)=true∨chB (UInt8.ofNat k.val)=true∨k.val=46)→okC (UInt8.ofNat k.val)=true:=by decide +kernel
theorem gjd {b:UInt8} (h:letB b=true∨digB b=true∨chB b=true∨b=46):okC b=true:=by
 have:=hje ⟨b.toNat,b.toNat_lt⟩
 have e:UInt8.ofNat b.toNat=b:=by simp
 simp only [e] at this
 refine this ?_
 rcases h with h | h | h | h
 ·exact .inl h
 ·exact .inr (.inl h)
 ·exact .inr (.inr (.inl h))
 ·subst h;exact .inr (.inr (.inr rfl))
theorem ewm:∀ s:List UInt8,(∀ p∈parts s,p.all chB=true)→s.all okC=true
 | [],_=>rfl
 | b :: l,h=>by
  simp only [parts] at h
  by_cases hb:b=46
  ·rw [if_pos hb] at h
   rw [Ju,gjd (.inr (.inr (.inr hb))),Ja]
   exact ewm l fun p hp=>h p (List.mem_cons_of_mem _ hp)
  ·rw [if_neg hb] at h
   cases hp:parts l with
   | nil=>exact absurd hp (dwz l)
   | cons p ps =>
    rw [hp] at h
    have h0:=h _ List.mem_cons_self
    simp only [Ju,je] at h0
    rw [Ju,gjd (.inr (.inr (.inl h0.1))),Ja]
    refine ewm l fun q hq=>?_
    rw [hp] at hq
    rcases jN.1 hq with rfl | hq
    ·exact h0.2
    ·exact h q (List.mem_cons_of_mem _ hq)
theorem fw5 {s:List UInt8} (h:dzz s=true):s.all okC=true∧s.length≤44:=by
 simp only [dzz,je,decide_eq_true_eq,jD] at h
 refine ⟨ewm s fun p hp=>?_,h.1⟩
 have:=h.2 p hp
 simp only [smp,je] at this
 exact this.2.1
theorem fym {s:List UInt8} (h:serB s=true):s.all okC=true∧s.length≤6:=by
 simp only [serB,je,decide_eq_true_eq,jD] at h
 refine ⟨jD.2 fun b hb=>gjd ?_,h.1.2⟩
 have:=h.2 b hb
 simp only [Js] at this
 rcases this with h | h
 ·exact .inl h
 ·exact .inr (.inl h)
theorem fkh {v:aja} (h:rV v=true):OkV v:=by
 obtain ⟨hh,h1,h2,h3,h4⟩:=hw5.1 h
 have hz:=gjs hh
 unfold head ew6 at hh
 simp only [je,inB,decide_eq_true_eq] at hh
 obtain ⟨⟨⟨hs,hc1,hc2⟩,hd1,hd2⟩,he1,he2⟩:=hh
 refine ⟨(fym hs).1,(fym hs).2,?_,hz,⟨h1,h2⟩,fun k hk=>?_⟩
 ·intro x hx
  simp only [jN,List.not_mem_nil,or_false] at hx
  rcases hx with rfl | rfl | rfl <;> omega
 ·obtain ⟨⟨hp,hx⟩,_⟩:=h3 k hk
  unfold pLbl dscB at hp
  simp only [je,inB,decide_eq_true_eq] at hp
  obtain ⟨⟨⟨⟨⟨hnm,hds⟩,he1,he2⟩,hv⟩,hov⟩,hu1,hu2⟩:=hp
  have hval:=(aw2 _).1 hv
  have hul:((trkO (gt v.Sets k).Extents).length:Int)≤4611686018427387904:=by
   have hsum:∀ l:List aj0,l.all val=true→(trks l).length≤512 * l.length:=by
    intro l
    induction l with
    | nil=>intro _;simp [trks]
    | cons x l ih =>
     intro h
     simp only [Ju,je] at h
     have h5:=ih h.2
     have h6:=(aqn x).1 h.1
     rw [azp,ji,jC]
     have:(trk x).length≤512:=by simp [trk];omega
     omega
   have e:trkO (gt v.Sets k).Extents=trks (gt v.Sets k).Extents:=by
    unfold trkO
    rw [cy2 hval.1 (by simpa using hval.2)];simp
   rw [e]
   have:=hsum _ hval.1
   omega
  refine ⟨by omega,(fw5 hnm).1,(fw5 hnm).2,?_,?_⟩
  ·intro x hx
   simp only [jN,List.not_mem_nil,or_false] at hx
   rcases hx with rfl | rfl | rfl | rfl <;> omega
  ·intro x hx
   have:=(aqn x).1 ((jD.1 hval.1) x hx)
   omega
theorem fkl (n:Nat) (hn:N0≤n) (v:aja) (b:List Int) (hb:b.length≤100) :
  aji (fun (x:(List Int)×Int)=>ay1 n v [v.Cyls,v.Heads,v.Size] x.1 x.2) n (b,0)=some (b ++ h2 v.Cyls ++ h2 v.Heads ++ h2 v.Size):=by
 have hn0:4194304≤n:=hn
 obtain ⟨m,rfl⟩:∃ m,n=m+1+1+1+1:=⟨n - 4,by omega⟩
 generalize hN:m+1+1+1+1=N at *
 have step:∀ (j:Nat) (b':List Int) (x:Int),j < 3→b'.length≤200→gt [v.Cyls,v.Heads,v.Size] j=x→ay1 N v [v.Cyls,v.Heads,v.Size] b' (j:Int)=some (.inl (b' ++ h2 x,((j+1:Nat):Int))):=by
  intro j b' x hj hb' hx
  unfold ay1
  simp only [decide_eq_true (show (j:Int) < 3 by omega),cond_true,jr,hx]
  rw [ajb _ ⟨⟨by omega,by simp;omega⟩,by simpa using hj⟩,eyg N x,jf,ajb _ (by rw [azj];omega),wid (n:=(j:Int)+1) (by omega)]
  rfl
 rw [← hN]
 refine (ajk (x':=(b ++ h2 v.Cyls,1)) (by rw [hN];exact step 0 b _ (by omega) (by omega) rfl)).trans ?_
 refine (ajk (x':=(b ++ h2 v.Cyls ++ h2 v.Heads,2)) (by rw [hN];exact step 1 _ _ (by omega) (by simp [azj];omega) rfl)).trans ?_
 refine (ajk (x':=(b ++ h2 v.Cyls ++ h2 v.Heads ++ h2 v.Size,3)) (by rw [hN];exact step 2 _ _ (by omega) (by simp [azj];omega) rfl)).trans ?_
 refine ajq ?_
 rfl
theorem gk5 (n:Nat) (hn:N0≤n) (v:aja) (hv:OkV v) (b:List Int) (hb:b.length≤100) :
  aji (fun (x:(List Int)×Int)=>ak5 n v [v.Cyls,v.Heads,v.Size] x.1 x.2) n (b,0)=some (b ++ h2 v.Cyls ++ h2 v.Heads ++ h2 v.Size):=by
 have hn0:4194304≤n:=hn
 obtain ⟨m,rfl⟩:∃ m,n=m+1+1+1+1:=⟨n - 4,by omega⟩
 generalize hN:m+1+1+1+1=N at *
 have step:∀ (j:Nat) (b':List Int) (x:Int),j < 3→b'.length≤200→gt [v.Cyls,v.Heads,v.Size] j=x→ak5 N v [v.Cyls,v.Heads,v.Size] b' (j:Int)=some (.inl (b' ++ h2 x,((j+1:Nat):Int))):=by
  intro j b' x hj hb' hx
  unfold ak5
  have hm:x∈[v.Cyls,v.Heads,v.Size]:=by
   rw [← hx,azh (by simpa using hj)];exact jG _
  simp only [decide_eq_true (show (j:Int) < 3 by omega),cond_true,jr,hx]
  rw [ajb _ ⟨⟨by omega,by simp;omega⟩,by simpa using hj⟩,djg N x (hv.nums x hm),jf,ajb _ (by rw [azj];omega),wid (n:=(j:Int)+1) (by omega)]
  rfl
 rw [← hN]
 refine (ajk (x':=(b ++ h2 v.Cyls,1)) (by rw [hN];exact step 0 b _ (by omega) (by omega) rfl)).trans ?_
 refine (ajk (x':=(b ++ h2 v.Cyls ++ h2 v.Heads,2)) (by rw [hN];exact step 1 _ _ (by omega) (by simp [azj];omega) rfl)).trans ?_
 refine (ajk (x':=(b ++ h2 v.Cyls ++ h2 v.Heads ++ h2 v.Size,3)) (by rw [hN];exact step 2 _ _ (by omega) (by simp [azj];omega) rfl)).trans ?_
 refine ajq ?_
 rfl
theorem gq1 (n:Nat) (hn:N0≤n) (v:aja) (hl:dwk v):bwt n v=some (if rV v=true then (encT v,0) else ([],5)):=by
 have hn0:4194304≤n:=hn
 unfold bwt
 rw [dkd n hn v hl,hjq,jf]
 cases hr:rV v with
 | false=>simp
 | true =>
  have hv:=fkh hr
  simp only [if_true,bne_self_eq_false,cond_false]
  have e4:([86,79,76,49]:List UInt8).all okC=true:=by decide
  rw [show (4:Int)=((4:Nat):Int) from rfl,show (6:Int)=((6:Nat):Int) from rfl,dkk n hn _ 4 (by decide) (by decide) e4,jf,dkk n hn v.Serial 6 hv.slen (by omega) hv.ser,jf]
  have l4:=czx [86,79,76,49] 4 (by decide)
  have l6:=czx v.Serial 6 hv.slen
  rw [ajb _ (by rw [l4,l6];omega),fkl n hn v _ (by rw [ji,l4,l6];omega),jf]
  unfold bq9
  have hl16:(txt [86,79,76,49] 4 ++ txt v.Serial 6 ++ h2 v.Cyls ++ h2 v.Heads ++ h2 v.Size).length=16:=by
   simp only [ji,l4,l6,azj]
  have l64:=czx [] 64 (by decide)
  have hS1:jc .i64 (v.Size+1)=v.Size+1:=wid (by have:=hv.size;omega)
  obtain ⟨hz1,hz2⟩:=hv.size
  rw [hl16,wid (n:=80 - ((16:Nat):Int)) (by omega),show (80 - ((16:Nat):Int))=((64:Nat):Int) from rfl,dkk n hn [] 64 (by decide) (by decide) (by decide),jf,ajb _ (by rw [l64];omega),hS1,ajb _ ⟨by omega,by omega,by omega⟩]
  rw [show (4:Int)=((4:Nat):Int) from rfl,dkk n hn _ 4 (by decide) (by decide) e4,jf,ajb _ ⟨by omega,by omega⟩]
  have key:=gj8 n hn v hv v.Size.toNat (by omega) (vol v) v.Sets.length 0 n [] [vol v] v.Size.toNat (by omega) (by have:=hv.sets;omega) (by
   simp only [Jr,List.take_zero,List.singleton_append]
   congr 1
   apply JG
   ·simp [cko]
   ·intro i h1 h2
    rw [eku];simp) (by simp) (by simp;omega)
  have e:(v.Size+1).toNat - 1=v.Size.toNat:=by omega
  rw [e]
  have key':aji (fun (x:List (List TRec)×List TRec×Nat×Int)=>awo n v x.1 x.2.1 x.2.2.1 x.2.2.2) n ([],[(⟨3,txt [86,79,76,49] 4,txt [86,79,76,49] 4 ++ txt v.Serial 6 ++ h2 v.Cyls ++ h2 v.Heads ++ h2 v.Size ++ txt [] 64,false⟩:TRec)],v.Size.toNat,0)=some (encT v):=key
  rw [key',jf]
  rfl
theorem eyb (n:Nat) (hn:N0≤n) (v:aja) (hv:OkV v) (out:List (List TRec)) (q:Nat) (hq:q≤511):∀ r k mm,k+r=(((recs v).drop (14 * q)).take 14).length→r < mm →
  aji (fun (x:(List TRec)×Int)=>az6 n v out (q:Int) x.1 x.2) mm ((((recs v).drop (14 * q)).take 14).take k,(k:Int))=some (((recs v).drop (14 * q)).take 14):=by
 obtain ⟨hs1,hs2⟩:=hv.sets
 have hlen:(((recs v).drop (14 * q)).take 14).length=min 14 (v.Sets.length - 14 * q):=by rw [jj,jB,dww]
 intro r
 induction r with
 | zero =>
  intro k mm hj hm
  obtain ⟨mm,rfl⟩:∃ p,mm=p+1:=⟨mm - 1,by omega⟩
  refine ajq ?_
  unfold az6
  have hc:(if (decide ((k:Int) < 14))=true then (decide ((jc .i64 ((jc .i64 ((q:Int) * 14))+(k:Int))) < (v.Sets.length:Int))) else false)=false:=by
   rw [wid (n:=(q:Int) * 14) (by omega),wid (by omega)]
   rw [hlen] at hj
   by_cases h14:(k:Int) < 14
   ·rw [if_pos (by simpa using h14)];simp;omega
   ·rw [if_neg (by simpa using h14)]
  rw [hc]
  simp only [cond_false]
  rw [jK (by omega)]
 | succ r ih =>
  intro k mm hj hm
  obtain ⟨mm,rfl⟩:∃ p,mm=p+1:=⟨mm - 1,by omega⟩
  refine (ajk (x':=((((recs v).drop (14 * q)).take 14).take (k+1),((k+1:Nat):Int))) ?_).trans (ih (k+1) mm (by omega) (by omega))
  have hk:k < (((recs v).drop (14 * q)).take 14).length:=by omega
  have hk2:=hk
  rw [hlen] at hk2
  have hjs:14 * q+k < v.Sets.length:=by omega
  unfold az6
  have hw:jc .i64 ((jc .i64 ((q:Int) * 14))+(k:Int))=((14 * q+k:Nat):Int):=by
   rw [wid (n:=(q:Int) * 14) (by omega),wid (by omega)];omega
  rw [hw]
  have hc:(if (decide ((k:Int) < 14))=true then (decide (((14 * q+k:Nat):Int) < (v.Sets.length:Int))) else false)=true:=by
   rw [if_pos (by simp;omega)];simp;omega
  rw [hc]
  simp only [cond_true,jr]
  have hw2:jc .i64 ((k:Int)+1)=((k+1:Nat):Int):=by rw [wid (by omega)];omega
  rw [ajb _ ⟨by omega,by omega⟩,hw2,fze n hn _ _ (hv.lbl _ hjs),jf,ajb _ (by rw [jj];omega)]
  rw [JK hk]
  have hg:(((recs v).drop (14 * q)).take 14)[k]=rcP ((k+1:Nat):Int) (gt v.Sets (14 * q+k)):=by
   rw [List.getElem_take,List.getElem_drop,fjx]
   congr 1
   have:(14 * q+k) % 14=k:=by omega
   rw [this]
  rw [hg]
theorem gjl (n:Nat) (hn:N0≤n) (v:aja) (hv:OkV v) (w:TRec):∀ r j mm,((j+r:Nat):Int)=v.Size→r < mm →
  aji (fun (x:(List (List TRec))×Int)=>az5 n v x.1 x.2) mm ([w] :: tr j (recs v),(j:Int))=some ([w] :: tr v.Size.toNat (recs v)):=by
 have hn0:4194304≤n:=hn
 obtain ⟨hz1,hz2⟩:=hv.size
 intro r
 induction r with
 | zero =>
  intro j mm hj hm
  obtain ⟨mm,rfl⟩:∃ p,mm=p+1:=⟨mm - 1,by omega⟩
  refine ajq ?_
  unfold az5
  simp only [show decide ((j:Int) < v.Size)=false by simp;omega,cond_false]
  have:v.Size.toNat=j:=by omega
  rw [this]
 | succ r ih =>
  intro j mm hj hm
  obtain ⟨mm,rfl⟩:∃ p,mm=p+1:=⟨mm - 1,by omega⟩
  refine (ajk (x':=([w] :: tr (j+1) (recs v),((j+1:Nat):Int))) ?_).trans (ih (j+1) mm (by omega) (by omega))
  unfold az5
  simp only [decide_eq_true (show (j:Int) < v.Size by omega),cond_true]
  have key:=eyb n hn v hv ([w] :: tr j (recs v)) j (by omega) (((recs v).drop (14 * j)).take 14).length 0 n (by omega) (by rw [jj];omega)
  have key':aji (fun (x:(List TRec)×Int)=>az6 n v ([w] :: tr j (recs v)) (j:Int) x.1 x.2) n ([],0)=some (((recs v).drop (14 * j)).take 14):=key
  rw [key',jf]
  unfold bje bj0
  rw [ajb _ (by simp [cko];omega),wid (n:=(j:Int)+1) (by omega),gy6]
  rfl
theorem fz9 (n:Nat) (hn:N0≤n) (v:aja) (hl:dwk v):bqt n v=some (if rV v=true then (encT v,0) else ([],5)):=by
 have hn0:4194304≤n:=hn
 unfold bqt
 rw [dk2 n hn v hl,jf]
 cases hr:rV v with
 | false=>simp
 | true =>
  have hv:=fkh hr
  simp only [if_true,jQ,cond_false]
  have e4:([86,79,76,49]:List UInt8).all okC=true:=by decide
  rw [show (4:Int)=((4:Nat):Int) from rfl,show (6:Int)=((6:Nat):Int) from rfl,djb n hn _ 4 (by decide) (by decide) e4,jf,djb n hn v.Serial 6 hv.slen (by omega) hv.ser,jf]
  have l4:=czx [86,79,76,49] 4 (by decide)
  have l6:=czx v.Serial 6 hv.slen
  rw [ajb _ (by rw [l4,l6];omega),gk5 n hn v hv _ (by rw [ji,l4,l6];omega),jf]
  unfold bj2
  have hl16:(txt [86,79,76,49] 4 ++ txt v.Serial 6 ++ h2 v.Cyls ++ h2 v.Heads ++ h2 v.Size).length=16:=by
   simp only [ji,l4,l6,azj]
  have l64:=czx [] 64 (by decide)
  obtain ⟨hz1,hz2⟩:=hv.size
  rw [show (64:Int)=((64:Nat):Int) from rfl,djb n hn [] 64 (by decide) (by decide) (by decide),jf,ajb _ (by rw [l64,hl16];omega)]
  rw [show (4:Int)=((4:Nat):Int) from rfl,djb n hn _ 4 (by decide) (by decide) e4,jf]
  have key:=gjl n hn v hv (vol v) v.Size.toNat 0 n (by omega) (by omega)
  have key':aji (fun (x:(List (List TRec))×Int)=>az5 n v x.1 x.2) n ([[(⟨3,txt [86,79,76,49] 4,txt [86,79,76,49] 4 ++ txt v.Serial 6 ++ h2 v.Cyls ++ h2 v.Heads ++ h2 v.Size ++ txt [] 64,false⟩:TRec)]],0)=some (encT v):=key
  rw [key',jf]
  rfl
theorem fjk (n:Nat) (a:TRec):bjs n a a=some true:=by
 unfold bjs
 simp only [beq_self_eq_true,if_true,cond_true]
 rfl
theorem eyf (n:Nat) (a:List TRec) (hn:a.length < n) (ha:a.length≤1000000):bks n a a=some true:=by
 have key:aji (fun (x:Int)=>bju n a a x) n 0=some (if a.any (fun _=>false)=true then .inl false else .inr ()):=by
  refine bqg a (fun _=>false) _ _ (fun k hk=>?_) ?_ hn
  ·have hlt:((k:Nat):Int) < (a.length:Int):=by omega
   unfold bju
   simp only [decide_eq_true hlt,cond_true,fjk]
   rw [ajb _ ⟨⟨by omega,hlt⟩,by omega,hlt⟩,jf,wid (n:=(k:Int)+1) (by omega)]
   rfl
  ·unfold bju
   simp only [Jm,decide_false,cond_false]
 have hf:a.any (fun _=>false)=false:=by simp
 rw [hf] at key
 unfold bks
 simp only [bne_self_eq_false,cond_false]
 rw [key]
 rfl
theorem cwv (n:Nat) (a:List (List TRec)) (hn:a.length < n) (ha:a.length≤1000000) (h:∀ t∈a,t.length < n∧t.length≤1000000):awe n a a=some true:=by
 have key:aji (fun (x:Int)=>aw1 n a a x) n 0=some (if a.any (fun _=>false)=true then .inl false else .inr ()):=by
  refine bqg a (fun _=>false) _ _ (fun k hk=>?_) ?_ hn
  ·have hlt:((k:Nat):Int) < (a.length:Int):=by omega
   have hm:=h (gt a k) (by rw [azh hk];exact jG _)
   unfold aw1
   simp only [decide_eq_true hlt,cond_true,jr,eyf n _ hm.1 hm.2]
   rw [ajb _ ⟨⟨by omega,hlt⟩,by omega,hlt⟩,jf,wid (n:=(k:Int)+1) (by omega)]
   rfl
  ·unfold aw1
   simp only [Jm,decide_false,cond_false]
 have hf:a.any (fun _=>false)=false:=by simp
 rw [hf] at key
 unfold awe
 simp only [bne_self_eq_false,cond_false]
 rw [key]
 rfl
end Go.Proofs.YtijnkhcfondehaaGreatDoor
/-
 ch. 21: the laws of checks, and the examples.
-/
namespace Go.Proofs.YtijnkhcfondehaaGreatDoor
open Go.AE
theorem gze (n:Nat) (v:aja) (hs:v.Sets.length≤2097152) (hn:N0≤n):bq5 n v=some false∨(bq5 n v=some true∧dwk v):=by
 have hn0:4194304≤n:=hn
 have e:=bqg (body:=fun (x:Int)=>akv n v x) v.Sets (fun d=>decide ((d.Name.length:Int) > 100) || decide ((d.Extents.length:Int) > 20)) (.inl false:Bool ⊕ Unit) (.inr ()) (n:=n)
  (fun k hk=>by
   have hlt:((k:Nat):Int) < (v.Sets.length:Int):=by omega
   unfold akv
   simp only [decide_eq_true hlt,cond_true,jr,dkq]
   rw [ajb _ ⟨⟨by omega,hlt⟩,fun _=>⟨by omega,hlt⟩⟩,wid (n:=(k:Int)+1) (by omega)]
   have hg:gt v.Sets k=v.Sets[k]:=azh hk
   by_cases h1:((gt v.Sets k).Name.length:Int) > 100
   ·rw [decide_eq_true (by rw [← hg];exact h1:((v.Sets[k].Name.length:Nat):Int) > 100)]
    simp only [decide_eq_true h1,Bool.true_or,cond_true,if_true]
   ·rw [decide_eq_false (by rw [← hg];exact h1:¬ ((v.Sets[k].Name.length:Nat):Int) > 100)]
    simp only [decide_eq_false h1,Bool.false_or]
    by_cases h2:((gt v.Sets k).Extents.length:Int) > 20
    ·rw [decide_eq_true (by rw [← hg];exact h2:((v.Sets[k].Extents.length:Nat):Int) > 20)]
     simp only [decide_eq_true h2,cond_true,if_true]
    ·rw [decide_eq_false (by rw [← hg];exact h2:¬ ((v.Sets[k].Extents.length:Nat):Int) > 20)]
     simp only [decide_eq_false h2,cond_false,jl,if_false]
     rfl)
  (by
   unfold akv
   simp only [Jm,decide_false,cond_false]) (by omega)
 unfold bq5
 rw [e,jf]
 cases ha:v.Sets.any (fun d=>decide ((d.Name.length:Int) > 100) || decide ((d.Extents.length:Int) > 20)) with
 | true=>exact .inl rfl
 | false =>
  simp only [jl,if_false,bqa,dyz]
  have hall:∀ d∈v.Sets,d.Name.length≤100∧d.Extents.length≤20:=by
   intro d hd
   have:=(List.any_eq_false.1 ha) d hd
   simp only [Js,decide_eq_true_eq,not_or] at this
   omega
  by_cases h1:(v.Sets.length:Int)≤70
  ·by_cases h2:(v.Serial.length:Int)≤100
   ·right
    simp only [h1,h2,decide_true,Bool.and_self]
    exact ⟨trivial,by omega,by omega,hall⟩
   ·left;simp [h2]
  ·left;simp [h1]
theorem cyr (x0:aja) (hc:∀ i,i < 1→CanL Tryz.prog (([(true,[.str,.int .i64,.int .i64,.int .i64,.slice 41])]:List (Bool×List Kd)).getD i (false,[])).2 (([[.str x0.Serial,.int x0.Cyls,.int x0.Heads,.int x0.Size,.slice (List.map aj5 x0.Sets)]]:List (List C)).getD i []))
  (hb:cbss [[.str x0.Serial,.int x0.Cyls,.int x0.Heads,.int x0.Size,.slice (List.map aj5 x0.Sets)]]≤2097152):ay7 N0 x0=some true:=by
 have hn:=jJ N0
 have hl:=eyc hb (xs:=[.str x0.Serial,.int x0.Cyls,.int x0.Heads,.int x0.Size,.slice (List.map aj5 x0.Sets)]) (l:=x0.Sets) (f:=aj5) (by simp) (by simp)
 clear hc
 simp only [ay7,gwj,jf,jQ,cond_false]
 rcases gze N0 x0 hl hn with e | ⟨e,hv⟩
 ·rw [e,jf]
  rfl
 rw [e,jf]
 obtain ⟨R,hF1,hF2,hF3⟩:=gwg N0 hn x0 hv
 have hN:N0=4194304:=rfl
 simp only [jQ,cond_false,hw4 N0 hn x0 hv,gq1 N0 hn x0 hv,fz9 N0 hn x0 hv,dkd N0 hn x0 hv,dk2 N0 hn x0 hv,hjq,jf,hF1,hF2,gyk N0 hn x0 hv,Jp,jX,implies_true,true_and]
 have hS:awe N0 (if rV x0=true then (encT x0,(0:Int)) else ([],5)).1 (if rV x0=true then (encT x0,(0:Int)) else ([],5)).1=some true:=by
  cases hr:rV x0 with
  | false=>exact cwv N0 [] (by simp [hN]) (by simp) (fun t ht=>by simp at ht)
  | true =>
   have ho:=fkh hr
   have hz:=ho.size
   refine cwv N0 (encT x0) (by simp [encT,cko,hN];omega) (by simp [encT,cko];omega) (fun t ht=>?_)
   simp only [encT,jN] at ht
   rcases ht with rfl | ht
   ·simp [hN]
   ·simp only [tr,List.mem_map] at ht
    obtain ⟨i,_,rfl⟩:=ht
    rw [jj];omega
 have hG:bwo N0 R R=some true:=by rw [gyu N0 R R (by omega) (by omega)];simp
 refine Eq.trans (ajb _ trivial) ?_
 cases hr:rV x0 with
 | false =>
  rw [hr] at hS
  simp only [jl,if_false] at hS ⊢
  simp [hS,hG]
  exact (ajb _ trivial).trans (ajb _ trivial)
 | true =>
  rw [hr] at hS
  simp only [if_true] at hS ⊢
  simp [hS,hG]
  exact (ajb _ trivial).trans (ajb _ trivial)
end Go.Proofs.YtijnkhcfondehaaGreatDoor
