/- Text. -/
import Derived.Test.YtijnkhcfondehaaGreatDoorE
import Derived.Test.YtijnkhcfondehaaGreatDoorML
import Derived.Test.YtijnkhcfondehaaGreatDoorFL
set_option linter.unusedSimpArgs false
set_option linter.unusedVariables false
set_option maxHeartbeats 8000000
set_option maxRecDepth 100000
open _root_.Bool renaming false_eq_true→jm,true_and→Jg,false_or→JW,not_false→j5,not_true→jR,and_eq_true→jf,or_eq_true→Jq,not_eq_true'→Jb,eq_iff_iff→J7,not_eq_true→JM
open _root_.Int renaming toNat_natCast→ju,lt_irrefl→j9
open Go.IntKind renaming wrap→ja,bits→jj,signed→Jz
open _root_.List renaming all_eq_true→jK,cons_append→Jh,length_cons→jx,mem_cons→jY,getElem_mem→jB,getD_eq_getElem?_getD→jb,all_cons→JV,append_nil→JJ,nil_append→Je,length_drop→jE,length_take→jk,length_append→ji,append_assoc→Jk,mem_flatMap→JK,any_eq_false→J5,replicate→jt,ext_getElem→J1,length_replicate→jW,getElem_append_left→JQ,getElem_append_right→JN,take_of_length_le→jL,take_succ_eq_append_getElem→j6,map_append→J6,flatMap_cons→JG,range→Jc,mem_cons_of_mem→J4,map_map→JE,map_congr_left→jV,length_nil→jP,mem_of_mem_drop→JU,length_pos_iff→Jo,length_range→JY,mem_range→J3,mem_map→J2,length_map→jH,mem_singleton→JS
open _root_.Nat renaming le_refl→jA,zero_add→Ja,le_trans→Jf
open _root_.Option renaming bind_some→je,isSome_some→JI,getD_some→j7
open Go.Proofs.Tryz renaming prog→jd
namespace Go.Proofs.YtijnkhcfondehaaGreatDoor
open Go.AE
theorem dropWhile_nil {p:UInt8→Bool}:∀ {l:List UInt8},l.dropWhile p=[]↔∀ x∈l,p x=true
 | []=>by simp
 | x :: l=>by
  rw [List.dropWhile_cons];cases h:p x with
  | true=>simp [dropWhile_nil (l:=l),h]
  | false=>simp [h]
theorem dja {p:UInt8→Bool}:∀ {l:List UInt8} {x:UInt8} {t:List UInt8},l.dropWhile p=x :: t→p x=false
 | [],x,t,h=>by simp at h
 | y :: l,x,t,h=>by
  rw [List.dropWhile_cons] at h;cases hy:p y with
  | true=>rw [hy] at h;exact dja (by simpa using h)
  | false =>
   rw [hy] at h;simp only [jm,if_false,List.cons.injEq] at h;rw [← h.1];exact hy
theorem hjt (l cs:List UInt8):Go.Lib.trimS l cs=[]↔l.all (cs.contains ·)=true:=by
 have hr:Go.Lib.trimRightS l cs=[]↔l.all (cs.contains ·)=true:=by
  unfold Go.Lib.trimRightS;rw [List.reverse_eq_nil_iff,dropWhile_nil,jK];simp
 rw [← hr];unfold Go.Lib.trimS Go.Lib.trimLeftS;rw [dropWhile_nil];constructor
 ·intro h;unfold Go.Lib.trimRightS at h ⊢;rw [List.reverse_eq_nil_iff];cases hd:List.dropWhile (fun x=>cs.contains x) l.reverse with
  | nil=>rfl
  | cons x t =>
   exfalso;have h1:=h x (by rw [hd];simp);have h2:=dja hd;rw [h1] at h2;cases h2
 ·intro h x hx;rw [h] at hx;cases hx
theorem gyd (l cs:List UInt8):(Go.Lib.trimS l cs != []) = !l.all (cs.contains ·):=by
 have h1:=hjt l cs;cases h3:l.all (cs.contains ·) with
 | true=>simpa using h1.2 h3
 | false =>
  have:¬ Go.Lib.trimS l cs=[]:=fun e=>by rw [h1.1 e] at h3;cases h3
  simpa using this
def letB (b:UInt8):Bool:=if (decide (((b.toNat:Nat):Int) ≥ 65))=true then (decide (((b.toNat:Nat):Int)≤90)) else false
def digB (b:UInt8):Bool:=if (decide (((b.toNat:Nat):Int) ≥ 48))=true then (decide (((b.toNat:Nat):Int)≤57)) else false
def othB (b:UInt8):Bool:=if (if (((b.toNat:Nat):Int) == 64)=true then true else (((b.toNat:Nat):Int) == 35))=true then true else (((b.toNat:Nat):Int) == 36)
def chB (b:UInt8):Bool:=letB b || digB b || othB b
def hyh:List UInt8:=[65,66,67,68,69,70,71,72,73,74,75,76,77,78,79,80,81,82,83,84,85,86,87,88,89,90,48,49,50,51,52,53,54,55,56,57,64,35,36]
def hzk:List UInt8:=[65,66,67,68,69,70,71,72,73,74,75,76,77,78,79,80,81,82,83,84,85,86,87,88,89,90,48,49,50,51,52,53,54,55,56,57]
theorem ewx (b:UInt8):hyh.contains b=chB b:=by
 have h:∀ k:Fin 256,hyh.contains (UInt8.ofNat k.val)=chB (UInt8.ofNat k.val):=by decide
 have:=h ⟨b.toNat,b.toNat_lt⟩
 simpa using this
theorem ez9 (b:UInt8):hzk.contains b=(letB b || digB b):=by
 have h:∀ k:Fin 256,hzk.contains (UInt8.ofNat k.val)=(letB (UInt8.ofNat k.val) || digB (UInt8.ofNat k.val)):=by decide
 have:=h ⟨b.toNat,b.toNat_lt⟩
 simpa using this
theorem izm (n:Nat) (l:List UInt8):∃ t,aqp n l hyh=some t∧(t != []) = !l.all chB:=by
 refine ⟨Go.Lib.trimS l hyh,?_,?_⟩
 ·rw [aqp,ajb _ (by decide)]
 ·rw [gyd];congr 2;funext b;exact ewx b
theorem iwy (n:Nat) (l:List UInt8):∃ t,aqp n l hzk=some t∧(t != []) = !l.all (fun b=>letB b || digB b):=by
 refine ⟨Go.Lib.trimS l hzk,?_,?_⟩
 ·rw [aqp,ajb _ (by decide)]
 ·rw [gyd];congr 2;funext b;exact ez9 b
def smp (p:List UInt8):Bool:=decide (1≤p.length) && decide (p.length≤8) && (p.all chB && !(match p with | []=>false | b :: _=>digB b))
def parts:List UInt8→List (List UInt8)
 | []=>[[]]
 | b :: l=>if b=46 then [] :: parts l else match parts l with
  | p :: ps=>(b :: p) :: ps
  | []=>[[b]]
theorem ejk:∀ s:List UInt8,parts s≠[]
 | []=>by simp [parts]
 | b :: l=>by
  unfold parts
  split
  ·simp
  ·split <;> simp
theorem dkc:∀ {s:List UInt8},46 ∉ s→parts s=[s]
 | [],_=>rfl
 | b :: l,h=>by
  have hb:b≠46:=fun e=>h (by simp [e]);have hl:46 ∉ l:=fun e=>h (by simp [e]);rw [parts,if_neg hb,dkc hl]
theorem fqj:∀ {a:List UInt8} (t:List UInt8),46 ∉ a→parts (a ++ 46 :: t)=a :: parts t
 | [],t,_=>by simp [parts]
 | b :: l,t,h=>by
  have hb:b≠46:=fun e=>h (by simp [e]);have hl:46 ∉ l:=fun e=>h (by simp [e]);rw [Jh,parts,if_neg hb,fqj t hl]
theorem ezj:∀ {s:List UInt8},46 ∉ s→Go.Lib.indexByte s 46 = -1
 | [],_=>rfl
 | b :: l,h=>by
  have hb:b≠46:=fun e=>h (by simp [e]);have hl:46 ∉ l:=fun e=>h (by simp [e]);rw [Go.Lib.indexByte,ezj hl];simp [hb]
theorem fzd:∀ {a:List UInt8} (t:List UInt8),46 ∉ a→Go.Lib.indexByte (a ++ 46 :: t) 46=(a.length:Int)
 | [],t,_=>by simp [Go.Lib.indexByte]
 | b :: l,t,h=>by
  have hb:b≠46:=fun e=>h (by simp [e]);have hl:46 ∉ l:=fun e=>h (by simp [e]);rw [Jh,Go.Lib.indexByte,fzd t hl]
  have:¬ ((l.length:Int) = -1):=by omega
  simp [hb,this]
theorem ijh:∀ s:List UInt8,46 ∉ s∨∃ a t,s=a ++ 46 :: t∧46 ∉ a
 | []=>.inl (by simp)
 | b :: l=>by
  by_cases hb:b=46
  ·exact .inr ⟨[],l,by simp [hb],by simp⟩
  ·rcases ijh l with h | ⟨a,t,rfl,ha⟩
   ·exact .inl (by simp [h,Ne.symm hb])
   ·exact .inr ⟨b :: a,t,by simp,by simp [ha,Ne.symm hb]⟩
theorem dyt:∀ (k:Nat) (s:List UInt8),s.count 46≤k→Go.Lib.splitK [46] 0 k s=parts s
 | 0,s,h=>by
  have:46 ∉ s:=fun hm=>by have:=List.count_pos_iff.2 hm;omega
  rw [dkc this];rfl
 | k+1,s,h=>by
  rcases ijh s with hn | ⟨a,t,rfl,ha⟩
  ·rw [Go.Lib.splitK,Go.Lib.index_one,ezj hn,dkc hn];rfl
  ·rw [Go.Lib.splitK,Go.Lib.index_one,fzd t ha,fqj t ha];have h1:¬ (((a.length:Nat):Int) = -1):=by omega
   have h2:t.count 46≤k:=by
    rw [List.count_append,List.count_cons_self] at h;omega
   simp only [beq_iff_eq,h1,if_false,ju,Nat.add_zero,List.take_left,List.length_singleton]
   have:(a ++ 46 :: t).drop (a.length+1)=t:=by
    rw [show a ++ 46 :: t=(a ++ [46]) ++ t by simp,show a.length+1=(a ++ [46]).length by simp,List.drop_left]
   rw [this,dyt k t h2]
theorem fke (n:Nat) (s:List UInt8) (h:s.length < 4294967281):strings_Split n s [46]=some (parts s):=by
 rw [strings_Split,ajb _ ⟨h,rfl⟩];unfold Go.Lib.split;rw [dyt _ _ (by rw [Go.Lib.count_one];exact jA _)]
theorem fwx:∀ s:List UInt8,(parts s).length≤s.length+1
 | []=>by simp [parts]
 | b :: l=>by
  have:=fwx l
  unfold parts
  split
  ·simp only [jx];omega
  ·split
   ·rename_i p ps hp;rw [hp] at this;simp only [jx] at this ⊢;omega
   ·simp
def eqk (s:List UInt8):Bool:=decide (s.length≤44) && (parts s).all smp
theorem hwf {s p:List UInt8} (h:p∈parts s):p.length≤s.length:=by
 induction s generalizing p with
 | nil=>simp [parts] at h;subst h;simp
 | cons b l ih =>
  unfold parts at h
  split at h
  ·rcases jY.1 h with rfl | h
   ·simp
   ·have:=ih h;simp only [jx];omega
  ·split at h
   ·rename_i q ps hp;rcases jY.1 h with rfl | h
    ·have:=ih (p:=q) (by rw [hp];simp);simp only [jx];omega
    ·have:=ih (p:=p) (by rw [hp];simp [h]);simp only [jx];omega
   ·simp at h;subst h;simp
theorem iqy (n:Nat) (s:List UInt8) (hn:N0≤n):cjn n s=some (eqk s):=by
 have hn0:4194304≤n:=hn;unfold cjn eqk;by_cases h44:s.length≤44
 ·have h1:decide ((s.length:Int) > 44)=false:=decide_eq_false (by omega);have h2:decide (s.length≤44)=true:=decide_eq_true h44;rw [h1,cond_false,fke n s (by omega),h2,Jg,je];have hpl:=fwx s
  have key:ajg (fun (x:Int)=>bwt n (parts s) (((parts s).length:Nat):Int) x) n 0=some (if (parts s).any (fun p=>!smp p)=true then .inl false else .inr ()):=by
   refine bqb (parts s) (fun p=>!smp p) _ _ (fun k hk=>?_) ?_ (by omega)
   ·have hlt:((k:Nat):Int) < (((parts s).length:Nat):Int):=by omega
    have h0:(0:Int)≤(k:Int):=by omega
    unfold bwt;have hpk:=hwf (jB hk);simp only [decide_eq_true hlt,cond_true,ju,aqy hk];rw [ajb _ ⟨⟨h0,hlt⟩,hk⟩];generalize (parts s)[k]=p at hpk ⊢;rw [wid (n:=(k:Int)+1) (by omega)];obtain ⟨t,ht1,ht2⟩:=izm n p;have ht1':aqp n p [65,66,67,68,69,70,71,72,73,74,75,76,77,78,79,80,81,82,83,84,85,86,87,88,89,90,48,49,50,51,52,53,54,55,56,57,64,35,36]=some t:=ht1;rw [ht1'];cases p with
    | nil=>simp [smp,gd]
    | cons b q =>
     have e1:decide (((b :: q).length:Int) < 1)=false:=decide_eq_false (by simp only [jx];omega);have e0:(0:Int) < ((b :: q).length:Int):=by simp only [jx];omega
     simp only [e1,e0,implies_true,and_self,jm,if_false,List.getD_cons_zero,je,ht2];rw [ajb _ trivial];have e5:decide (1≤(b :: q).length)=true:=decide_eq_true (by simp only [jx];omega)
     have e6:decide (((b :: q).length:Int) > 8) = !decide ((b :: q).length≤8):=by
      by_cases h:(b :: q).length≤8
      ·rw [decide_eq_true h,decide_eq_false (by omega)];rfl
      ·rw [decide_eq_false h,decide_eq_true (by omega)];rfl
     have e7:(if (decide (((b.toNat:Nat):Int) ≥ 48))=true then (decide (((b.toNat:Nat):Int)≤57)) else false)=digB b:=rfl;simp only [e6,e7,smp,e5,Jg];cases decide ((b :: q).length≤8) <;> cases digB b <;> cases (b :: q).all chB <;> rfl
   ·unfold bwt;simp only [j9,decide_false,cond_false]
  rw [key,je]
  have ha:(parts s).any (fun p=>!smp p) = !(parts s).all smp:=by
   rw [List.all_eq_not_any_not];simp
  rw [ha];cases (parts s).all smp <;> rfl
 ·have h1:decide ((s.length:Int) > 44)=true:=decide_eq_true (by omega);have h2:decide (s.length≤44)=false:=decide_eq_false h44;rw [h1,h2];rfl
theorem ekj (n:Nat) (b:UInt8):bz2 n (((b.toNat:Nat):Int))=some (letB b):=rfl
theorem fjv (n:Nat) (b:UInt8):bjf n (((b.toNat:Nat):Int))=some (digB b):=rfl
theorem fwf (n:Nat) (p:List UInt8) (hn:p.length < n) (hp:p.length≤1099511627776):bz3 n p=some (smp p):=by
 unfold bz3
 have key:=cjl (σ:=Nat) (body:=fun (x:Int)=>azm n p x) p (fun k _=>(k:Int)) (fun s b=>if (!letB b && !othB b && (s == 0 || !digB b))=true then .inr (.inl false) else .inl (s+1)) (fun _=>.inr ()) (fun k s=>s=k) (s:=0) rfl
  (fun k hk s hI=>by
   subst hI;have hlt:((s:Nat):Int) < (p.length:Int):=by omega
   have h0:(0:Int)≤(s:Int):=by omega
   have hg:p.getD s 0=p[s]:=by simp [jb,hk]
   unfold azm;simp only [decide_eq_true hlt,cond_true,ju,hg,h0,hlt,and_self,implies_true];rw [ajb _ trivial,ajb _ trivial];generalize p[s]=b;rw [ekj,je];simp only [fjv,JI,j7,implies_true,true_and];have eo:(if (if (((b.toNat:Nat):Int) == 64)=true then true else (((b.toNat:Nat):Int) == 35))=true then true else (((b.toNat:Nat):Int) == 36))=othB b:=rfl
   have ez:(((s:Nat):Int) == 0)=(s == 0):=by
    by_cases h:s=0
    ·subst h;rfl
    ·have:¬ ((s:Int)=0):=by omega
     rw [beq_eq_false_iff_ne.2 this,beq_eq_false_iff_ne.2 h]
   rw [eo,ez,wid (n:=(s:Int)+1) (by omega)];rw [ajb _ (by intro h;simpa using h)]
   cases letB b <;> cases othB b <;> cases (s == 0) <;> cases digB b <;> rfl)
  (fun k hk s hI s' he=>by
   subst hI
   split at he
   ·cases he
   ·simp only [Sum.inl.injEq] at he;omega)
  (fun s hs=>by
   subst hs;unfold azm
   simp only [j9,decide_false,cond_false]) hn
 have key':ajg (fun (x:Int)=>azm n p x) n 0=_:=key;rw [key',je]
 have tail:∀ (q:List UInt8) (s:Nat),s≠0→runL (fun (s:Nat) b=>if (!letB b && !othB b && (s == 0 || !digB b))=true then (.inr (.inl false):Nat ⊕ (Bool ⊕ Unit)) else .inl (s+1)) (fun _=>.inr ()) q s=cond (q.all chB) (.inr ()) (.inl false):=by
  intro q
  induction q with
  | nil=>intro s _;rfl
  | cons b q ih =>
   intro s hs;have hz:(s == 0)=false:=by simpa using hs
   have hih:=ih (s+1) (by omega);simp only [runL,hz,JW,JV];have e:(!letB b && !othB b && !digB b) = !chB b:=by unfold chB;cases letB b <;> cases othB b <;> cases digB b <;> rfl
   rw [e];rcases Bool.eq_false_or_eq_true (chB b) with h | h
   ·rw [h];simpa using hih
   ·rw [h];rfl
 cases p with
 | nil=>simp [runL,azj,smp]
 | cons b q =>
  have ht:=tail q 1 (by omega);simp only [runL,beq_self_eq_true,Bool.true_or,Bool.and_true];have el:decide (1≤(b :: q).length)=true:=decide_eq_true (by simp only [jx];omega);have el1:decide (((b :: q).length:Int) ≥ 1)=true:=decide_eq_true (by simp only [jx];omega)
  have el2:decide (((b :: q).length:Int)≤8)=decide ((b :: q).length≤8):=by
   by_cases h:(b :: q).length≤8
   ·rw [decide_eq_true h,decide_eq_true (by omega)]
   ·rw [decide_eq_false h,decide_eq_false (by omega)]
  have ek:azj n (b :: q)=some (decide ((b :: q).length≤8)):=by simp only [azj,el1,el2,if_true]
  have hx:∀ b:UInt8,(letB b || othB b)=true→digB b=false:=by
   intro b;have h:∀ k:Fin 256,(letB (UInt8.ofNat k.val) || othB (UInt8.ofNat k.val))=true→digB (UInt8.ofNat k.val)=false:=by decide
   have:=h ⟨b.toNat,b.toNat_lt⟩
   simpa using this
  have hxb:=hx b;simp only [smp,el,Jg,JV];cases hl:letB b <;> cases ho:othB b <;> simp only [hl,ho,j5,jR,Bool.and_self,Bool.and_false,Bool.false_and,Bool.or_false,Bool.or_true,JW,Bool.true_or,if_true,jm,if_false] at hxb ⊢
  ·unfold chB;rw [hl,ho];cases digB b <;> simp
  all_goals
   have hd:=hxb trivial;have hc:chB b=true:=by unfold chB;rw [hl,ho];simp
   simp only [Ja,ht,ek,hc,hd,Jg,j5,Bool.and_true];cases q.all chB <;> simp
end Go.Proofs.YtijnkhcfondehaaGreatDoor
/-
 ch. 21: names by the specification; serials, empty tables.
-/
namespace Go.Proofs.YtijnkhcfondehaaGreatDoor
open Go.AE
def goN:List UInt8→List UInt8→Bool
 | cur,[]=>smp cur
 | cur,b :: r=>if b=46 then smp cur && goN [] r else goN (cur ++ [b]) r
theorem ewa:∀ (r cur:List UInt8),goN cur r=match parts r with | p :: ps=>smp (cur ++ p) && ps.all smp | []=>false
 | [],cur=>by simp [goN,parts]
 | b :: r,cur=>by
  rw [goN,parts];by_cases hb:b=46
  ·rw [if_pos hb,if_pos hb,ewa r []];simp only [JJ,Je];cases hp:parts r with
   | nil=>exact absurd hp (ejk r)
   | cons p ps=>simp
  ·rw [if_neg hb,if_neg hb,ewa r (cur ++ [b])];cases hp:parts r with
   | nil=>exact absurd hp (ejk r)
   | cons p ps=>simp
theorem iqt (s:List UInt8):goN [] s=(parts s).all smp:=by
 rw [ewa];cases hp:parts s with
 | nil=>exact absurd hp (ejk s)
 | cons p ps=>simp
theorem ey8 (n:Nat) (s:List UInt8) (hn:N0≤n) (hs:s.length≤2097152):∀ (j f i m:Nat),i+j=s.length→f≤i→j+1 < m →
  ajg (fun (x:Int×Int)=>aqu n s x.1 x.2) m ((f:Int),(i:Int))=some (if goN (List.drop f (List.take i s)) (s.drop i)=true then .inr () else .inl false)
 | 0,f,i,m,hj,hf,hm=>by
  have hn0:4194304≤n:=hn;have hi:i=s.length:=by omega
  obtain ⟨m,rfl⟩:∃ q,m=q+1+1:=⟨m - 2,by omega⟩;have h1:decide ((i:Int)≤(s.length:Int))=true:=decide_eq_true (by omega);have h2:((i:Int) == (s.length:Int))=true:=by simp;omega
  have hd:s.drop i=[]:=List.drop_eq_nil_of_le (by omega)
  have hb:aqu n s (f:Int) (i:Int)=some (if smp (List.drop f (List.take i s))=true then .inl (((i+1:Nat):Int),((i+1:Nat):Int)) else .inr (.inl false)):=by
   unfold aqu;rw [h1,cond_true,h2];simp only [jR,jm,false_implies,if_true,cond_true,ju];rw [ajb _ trivial,ajb _ (by omega),fwf n _ (by simp only [jE,jk];omega) (by simp only [jE,jk];omega),je];rw [wid (n:=(i:Int)+1) (by omega)];simp only [ak6,wid (n:=(i:Int)+1) (by omega)];cases smp (List.drop f (List.take i s)) <;> rfl
  rw [hd,goN];cases hsm:smp (List.drop f (List.take i s)) with
  | false =>
   rw [hsm] at hb;rw [ajn (y:=.inl false) (by simpa using hb)];simp
  | true =>
   rw [hsm] at hb;rw [ajm (x':=(((i+1:Nat):Int),((i+1:Nat):Int))) (by simpa using hb)]
   have he:aqu n s ((i+1:Nat):Int) ((i+1:Nat):Int)=some (.inr (.inr ())):=by
    unfold aqu;rw [decide_eq_false (by omega),cond_false]
   rw [ajn he];simp
 | j+1,f,i,m,hj,hf,hm=>by
  have hn0:4194304≤n:=hn;obtain ⟨m,rfl⟩:∃ q,m=q+1:=⟨m - 1,by omega⟩;have hlt:i < s.length:=by omega
  have h1:decide ((i:Int)≤(s.length:Int))=true:=decide_eq_true (by omega);have h2:((i:Int) == (s.length:Int))=false:=by simp;omega
  have hd:s.drop i=s[i] :: s.drop (i+1):=List.drop_eq_getElem_cons hlt;have hg:s.getD i 0=s[i]:=by simp [jb,hlt]
  have ht:List.take (i+1) s=List.take i s ++ [s[i]]:=by rw [List.take_add_one];simp [hlt]
  have e46:((((s[i]).toNat:Nat):Int) == 46)=decide (s[i]=46):=by
   generalize s[i]=b;have h:∀ k:Fin 256,((((UInt8.ofNat k.val).toNat:Nat):Int) == 46)=decide ((UInt8.ofNat k.val)=46):=by decide
   have:=h ⟨b.toNat,b.toNat_lt⟩
   simpa using this
  have hb:aqu n s (f:Int) (i:Int)=some (if s[i]=46 then (if smp (List.drop f (List.take i s))=true then .inl (((i+1:Nat):Int),((i+1:Nat):Int)) else .inr (.inl false)) else .inl ((f:Int),((i+1:Nat):Int))):=by
   unfold aqu;rw [h1,cond_true,h2];simp only [j5,jm,if_false,ju,hg,e46];rw [ajb _ (fun _=>by omega)];by_cases hc:s[i]=46
   ·rw [if_pos hc,decide_eq_true hc,cond_true];rw [ajb _ (by omega),fwf n _ (by simp only [jE,jk];omega) (by simp only [jE,jk];omega),je];rw [wid (n:=(i:Int)+1) (by omega)];simp only [ak6,wid (n:=(i:Int)+1) (by omega)];cases smp (List.drop f (List.take i s)) <;> rfl
   ·rw [if_neg hc,decide_eq_false hc,cond_false];simp only [ak6,wid (n:=(i:Int)+1) (by omega)];rfl
  rw [hd,goN];by_cases hc:s[i]=46
  ·rw [if_pos hc] at hb ⊢;cases hsm:smp (List.drop f (List.take i s)) with
   | false =>
    rw [hsm] at hb;rw [ajn (y:=.inl false) (by simpa using hb)];simp
   | true =>
    rw [hsm] at hb;rw [ajm (x':=(((i+1:Nat):Int),((i+1:Nat):Int))) (by simpa using hb),ey8 n s hn hs j (i+1) (i+1) m (by omega) (by omega) (by omega)]
    have:List.drop (i+1) (List.take (i+1) s)=[]:=List.drop_eq_nil_of_le (by rw [jk];omega)
    rw [this];simp
  ·rw [if_neg hc] at hb ⊢;rw [ajm (x':=((f:Int),((i+1:Nat):Int))) hb,ey8 n s hn hs j f (i+1) m (by omega) (by omega) (by omega),ht]
   have:List.drop f (List.take i s ++ [s[i]])=List.drop f (List.take i s) ++ [s[i]]:=by
    rw [List.drop_append_of_le_length (by rw [jk];omega)]
   rw [this]
theorem hyw (n:Nat) (s:List UInt8) (hn:N0≤n) (hs:s.length≤2097152):cjq n s=some (eqk s):=by
 have hn0:4194304≤n:=hn;unfold cjq eqk
 have:=ey8 n s hn hs s.length 0 0 n (by omega) (by omega) (by omega)
 simp only [List.take_zero,List.drop_nil,List.drop_zero,iqt] at this;have this':ajg (fun (x:Int×Int)=>aqu n s x.1 x.2) n (0,0)=some (if (parts s).all smp=true then .inr () else .inl false):=this;rw [this',je]
 have e:decide ((s.length:Int)≤44)=decide (s.length≤44):=by
  by_cases h:s.length≤44
  ·rw [decide_eq_true h,decide_eq_true (by omega)]
  ·rw [decide_eq_false h,decide_eq_false (by omega)]
 cases (parts s).all smp with
 | true=>simp only [if_true,bzo,e,Bool.and_true]
 | false=>simp
def serB (s:List UInt8):Bool:=decide (1≤s.length) && decide (s.length≤6) && s.all (fun b=>letB b || digB b)
def inB (x lo hi:Int):Bool:=decide (lo≤x) && decide (x≤hi)
theorem hzx (n:Nat) (x lo hi:Int):aq1 n x lo hi=some (inB x lo hi):=by
 unfold aq1 inB;by_cases h:lo≤x
 ·simp [h]
 ·simp [h]
theorem gjd (n:Nat) (x lo hi:Int):ajo n x lo hi=some (inB x lo hi):=by
 unfold ajo inB;by_cases h:lo≤x
 ·have:x ≥ lo:=h
  simp [h,this]
 ·have:¬ (x ≥ lo):=h
  simp [h,this]
theorem gzi (s:List UInt8):inB (s.length:Int) 1 6=(decide (1≤s.length) && decide (s.length≤6)):=by
 unfold inB;congr 1 <;> (apply decide_eq_decide.2;omega)
theorem hj9 (n:Nat) (s:List UInt8) (hn:s.length < n) (hs:s.length≤2097152):bz0 n s=some (serB s):=by
 unfold bz0
 have key:ajg (fun (x:Int)=>ay1 n s x) n 0=some (if s.any (fun b=>!(letB b || digB b))=true then .inl false else .inr ()):=by
  refine bqb s (fun b=>!(letB b || digB b)) _ _ (fun k hk=>?_) ?_ hn
  ·have hlt:((k:Nat):Int) < (s.length:Int):=by omega
   have h0:(0:Int)≤(k:Int):=by omega
   have hg:s.getD k 0=s[k]:=by simp [jb,hk]
   unfold ay1;simp only [decide_eq_true hlt,cond_true,ju,hg,h0,hlt,and_self,implies_true];rw [ajb _ trivial,ekj,je,fjv];simp only [JI,j7,implies_true,and_self];rw [ajb _ trivial,wid (n:=(k:Int)+1) (by omega)];cases letB s[k] <;> cases digB s[k] <;> rfl
  ·unfold ay1;simp only [j9,decide_false,cond_false]
 rw [key,je];have ha:s.any (fun b=>!(letB b || digB b)) = !s.all (fun b=>letB b || digB b):=by rw [List.all_eq_not_any_not];simp
 rw [ha];unfold serB;cases s.all (fun b=>letB b || digB b) with
 | false=>simp
 | true=>simp only [jR,jm,if_false,bqe,gjd,je,gzi,Bool.and_true]
def fj8 (s:List UInt8) (c h z:Int):Bool:=serB s && inB c 1 64 && inB h 1 8 && inB z 1 (ja .i64 (ja .i64 (c * h) - 1))
theorem hj5 {s:List UInt8} {c h z:Int} (hh:fj8 s c h z=true):1≤z∧z≤511:=by
 simp only [fj8,inB,jf,decide_eq_true_eq] at hh;obtain ⟨⟨⟨_,h1,h2⟩,h3,h4⟩,h5,h6⟩:=hh
 have e1:1≤c * h:=by
  have:0 < c * h:=Int.mul_pos (by omega) (by omega)
  omega
 have e2:c * h≤512:=by
  have a:c * h≤64 * h:=Int.mul_le_mul_of_nonneg_right h2 (by omega);omega
 rw [wid (n:=c * h) (by omega),wid (n:=c * h - 1) (by omega)] at h6;omega
theorem hwh:bkr N0=some true:=by decide +kernel
end Go.Proofs.YtijnkhcfondehaaGreatDoor
/-
 ch. 21: valid tables, by the program and by the specification.
-/
namespace Go.Proofs.YtijnkhcfondehaaGreatDoor
open Go.AE
def dscB (d:TDcb):Bool:=inB d.Org 1 3 && inB d.Format 1 3 && inB d.Lrecl 0 1024 && inB d.Blksize 0 1024 && inB d.KeyPos 0 1024 && inB d.KeyLen 0 64
theorem iqi (n:Nat) (d:TDcb):aqd n d=some (dscB d):=by
 simp only [aqd,hzx,je,JI,j7,implies_true,and_self,dqi];rw [ajb _ trivial];rfl
theorem hyj (n:Nat) (d:TDcb):aqc n d=some (dscB d):=by
 simp only [aqc,gjd,je,JI,j7,implies_true,and_self,dqi];rw [ajb _ trivial];rfl
def exts (l:List aj8):List aj0:=l.flatMap (·.Extents)
def capV (v:aja):Int:=ja .i64 (v.Cyls * v.Heads)
def dww (v:aja) (x:aj0):Bool:=decide (ja .i64 (x.At+x.Len) > capV v)
def pLbl (v:aja) (d:aj8):Bool:=eqk d.Name && dscB d.Dcb && inB (d.Extents.length:Int) 1 8 && (trkF [] d.Extents).isSome && !d.Extents.any (dww v) && inB d.Used 0 (((trkO d.Extents).length:Nat):Int)
def rLbl (v:aja) (d:aj8):Bool:=!d.Extents.any (fun x=>decide (x.At≤v.Size) || dww v x) && (eqk d.Name && dscB d.Dcb && inB (d.Extents.length:Int) 1 8 && (trkF [] d.Extents).isSome && inB d.Used 0 (((trkO d.Extents).length:Nat):Int))
theorem aqy {α:Type} [Inhabited α] {l:List α} {k:Nat} (h:k < l.length):gt l k=l[k]:=by simp [gt,jb,h]
theorem iwp (n:Nat) (hn:N0≤n) (v:aja) (d:aj8) (hd:d.Extents.length≤1048576):ay3 n v d=some (pLbl v d):=by
 have hn0:4194304≤n:=hn;unfold ay3;simp only [iqy n _ hn,iqi,hzx,eyb n hn d.Extents (by omega),je,JI,j7,implies_true,and_self];rw [ajb _ trivial]
 have e1:(if (if (if (!eqk d.Name)=true then true else !dscB d.Dcb)=true then true else !inB (d.Extents.length:Int) 1 8)=true then true else !(trkF [] d.Extents).isSome) = !(eqk d.Name && dscB d.Dcb && inB (d.Extents.length:Int) 1 8 && (trkF [] d.Extents).isSome):=by
  simp only [cqx,Bool.not_and]
 rw [e1];unfold pLbl;cases (eqk d.Name && dscB d.Dcb && inB (d.Extents.length:Int) 1 8 && (trkF [] d.Extents).isSome) with
 | false=>simp
 | true =>
  simp only [jR,cond_false,Jg]
  have key:ajg (fun (x:Int)=>az2 n v d (d.Extents.length:Int) x) n 0=some (if d.Extents.any (dww v)=true then .inl false else .inr ()):=by
   refine bqb d.Extents (dww v) _ _ (fun k hk=>?_) ?_ (by omega)
   ·have hlt:((k:Nat):Int) < (d.Extents.length:Int):=by omega
    unfold az2;rw [decide_eq_true hlt,cond_true,ajb _ ⟨by omega,hlt⟩,ju,aqy hk,wid (n:=(k:Int)+1) (by omega)];show (bif dww v d.Extents[k] then _ else _)=_;cases dww v d.Extents[k] <;> rfl
   ·unfold az2;simp only [j9,decide_false,cond_false]
  rw [key,je];cases d.Extents.any (dww v) with
  | true=>simp
  | false=>simp only [jm,if_false,aki,hyc n hn d.Extents (by omega),hzx,je,j5,Jg]
theorem hws (n:Nat) (hn:N0≤n) (v:aja) (d:aj8) (hd:d.Extents.length≤1048576) (hs:d.Name.length≤2097152):bke n v d=some (rLbl v d):=by
 have hn0:4194304≤n:=hn;unfold bke
 have key:ajg (fun (x:Int)=>bj2 n v d x) n 0=some (if d.Extents.any (fun x=>decide (x.At≤v.Size) || dww v x)=true then .inl false else .inr ()):=by
  refine bqb d.Extents (fun x=>decide (x.At≤v.Size) || dww v x) _ _ (fun k hk=>?_) ?_ (by omega)
  ·have hlt:((k:Nat):Int) < (d.Extents.length:Int):=by omega
   unfold bj2;rw [decide_eq_true hlt,cond_true,ajb _ ⟨by omega,hlt⟩,ju,aqy hk,wid (n:=(k:Int)+1) (by omega),cqx];show (bif (decide (d.Extents[k].At≤v.Size) || dww v d.Extents[k]) then _ else _)=_;cases (decide (d.Extents[k].At≤v.Size) || dww v d.Extents[k]) <;> rfl
  ·unfold bj2;simp only [j9,decide_false,cond_false]
 rw [key,je];unfold rLbl;cases d.Extents.any (fun x=>decide (x.At≤v.Size) || dww v x) with
 | true=>simp
 | false =>
  simp only [jm,if_false,bwp,hyw n _ hn hs,hyj,gjd,fw8 n hn d.Extents (by omega),gkg n hn d.Extents (by omega),je,JI,j7,implies_true,and_self,j5,Jg];rw [ajb _ trivial];simp only [dqi]
def ordB (l:List aj8) (k:Nat):Bool:=decide (0 < k) && !Op.bytesLess (gt l (k - 1)).Name (gt l k).Name
def pBad (v:aja) (k:Nat):Bool:=!pLbl v (gt v.Sets k) || ordB v.Sets k
def rBad (v:aja) (k:Nat):Bool:=!rLbl v (gt v.Sets k) || ordB v.Sets k
def ej6 (v:aja):Prop:=v.Sets.length≤300∧v.Serial.length≤400∧∀ d∈v.Sets,d.Name.length≤400∧d.Extents.length≤20
theorem gyr (d:aj8) (l:List aj8):exts (d :: l)=d.Extents ++ exts l:=rfl
theorem hzf (a b:List aj8):exts (a ++ b)=exts a ++ exts b:=by simp [exts]
theorem dqd:∀ {l:List aj8},(∀ d∈l,d.Name.length≤400∧d.Extents.length≤20)→(exts l).length≤20 * l.length
 | [],_=>by simp [exts]
 | d :: l,h=>by
  have h1:=(h d (by simp)).2;have h2:=dqd (l:=l) fun x hx=>h x (by simp [hx]);rw [gyr,ji,jx];omega
theorem fqx {l:List aj8} {k:Nat} (h:k < l.length):exts (l.take (k+1))=exts (l.take k) ++ (gt l k).Extents:=by
 rw [List.take_add_one,hzf,aqy h];simp [h,exts]
theorem ezs (n:Nat) (hn:N0≤n) (v:aja) (hv:ej6 v) (u0:List aj0) (hu:u0.length≤1):∀ j k m,k+j=v.Sets.length→j < m →
  ajg (fun (x:(List aj0)×Int)=>ak4 n v (v.Sets.length:Int) x.1 x.2) m (u0 ++ exts (v.Sets.take k),(k:Int))=some (if (List.range' k j).any (pBad v)=true then .inl 5 else .inr (u0 ++ exts v.Sets))
 | 0,k,m,hj,hm=>by
  obtain ⟨m,rfl⟩:∃ q,m=q+1:=⟨m - 1,by omega⟩;have hk:k=v.Sets.length:=by omega
  subst hk;refine (ajn (y:=.inr (u0 ++ exts v.Sets)) ?_).trans (by simp);unfold ak4;simp only [j9,decide_false,cond_false,List.take_length]
 | j+1,k,m,hj,hm=>by
  obtain ⟨h1,h2,h3⟩:=hv;obtain ⟨m,rfl⟩:∃ q,m=q+1:=⟨m - 1,by omega⟩;have hk:k < v.Sets.length:=by omega
  have hlt:((k:Nat):Int) < (v.Sets.length:Int):=by omega
  have hmem:gt v.Sets k∈v.Sets:=by rw [aqy hk];exact jB hk
  have hx:=(h3 _ hmem).2
  have hb:ak4 n v (v.Sets.length:Int) (u0 ++ exts (v.Sets.take k)) (k:Int)=some (if pBad v k=true then .inr (.inl 5) else .inl (u0 ++ exts (v.Sets.take (k+1)),((k+1:Nat):Int))):=by
   unfold ak4;have hel:=dqd (l:=v.Sets.take k) fun d hd=>h3 d (List.mem_of_mem_take hd);rw [jk] at hel;have hap:(u0 ++ exts (v.Sets.take k)).length+(gt v.Sets k).Extents.length≤2147483648:=by rw [ji];omega
   simp only [decide_eq_true hlt,cond_true,ju,iwp n hn v _ (Jf hx (by decide)),je]
   rw [ajb _ ⟨by omega,hlt⟩,ajb _ (by
    intro hc;simp only [jf,decide_eq_true_eq] at hc
    rw [wid (n:=(k:Int) - 1) (by omega)];omega)]
   have eo:(if decide ((k:Int) > 0)=true then !Op.bytesLess (gt v.Sets (ja .i64 ((k:Int) - 1)).toNat).Name (gt v.Sets k).Name else false)=ordB v.Sets k:=by
    unfold ordB;rw [dqi];by_cases h0:0 < k
    ·have:(k:Int) > 0:=by omega
     have e:(ja .i64 ((k:Int) - 1)).toNat=k - 1:=by rw [wid (by omega)];omega
     rw [e,decide_eq_true this,decide_eq_true h0]
    ·have:¬ ((k:Int) > 0):=by omega
     rw [decide_eq_false this,decide_eq_false h0];rfl
   rw [eo,cqx,ajb _ hap,wid (n:=(k:Int)+1) (by omega),fqx hk];show (bif pBad v k then _ else _)=_;rw [← Jk];cases pBad v k <;> rfl
  rw [List.range'_succ,List.any_cons];cases hp:pBad v k with
  | true =>
   rw [hp] at hb;rw [ajn (y:=.inl 5) (by simpa using hb)];simp
  | false =>
   rw [hp] at hb;rw [ajm (x':=(u0 ++ exts (v.Sets.take (k+1)),((k+1:Nat):Int))) (by simpa using hb),ezs n hn v ⟨h1,h2,h3⟩ u0 hu j (k+1) m (by omega) (by omega),JW]
theorem dyy (n:Nat) (hn:N0≤n) (v:aja) (hv:ej6 v):∀ j k m,k+j=v.Sets.length→j < m →
  ajg (fun (x:Int)=>az6 n v x) m (k:Int)=some (if (List.range' k j).any (rBad v)=true then .inl false else .inr ())
 | 0,k,m,hj,hm=>by
  obtain ⟨m,rfl⟩:∃ q,m=q+1:=⟨m - 1,by omega⟩;have hk:k=v.Sets.length:=by omega
  subst hk;refine (ajn (y:=.inr ()) ?_).trans (by simp);unfold az6;simp only [j9,decide_false,cond_false]
 | j+1,k,m,hj,hm=>by
  obtain ⟨h1,h2,h3⟩:=hv;obtain ⟨m,rfl⟩:∃ q,m=q+1:=⟨m - 1,by omega⟩;have hk:k < v.Sets.length:=by omega
  have hlt:((k:Nat):Int) < (v.Sets.length:Int):=by omega
  have hmem:gt v.Sets k∈v.Sets:=by rw [aqy hk];exact jB hk
  have hx:=h3 _ hmem
  have hb:az6 n v (k:Int)=some (if rBad v k=true then .inr (.inl false) else .inl ((k+1:Nat):Int)):=by
   unfold az6;simp only [decide_eq_true hlt,cond_true,ju,hws n hn v _ (Jf hx.2 (by decide)) (Jf hx.1 (by decide)),je]
   rw [ajb _ ⟨by omega,hlt⟩,ajb _ (by
    refine ⟨fun hc=>?_,fun _=>⟨by omega,hlt⟩⟩;simp only [jf,decide_eq_true_eq] at hc
    rw [wid (n:=(k:Int) - 1) (by omega)];omega)]
   have eo:(if decide ((k:Int) > 0)=true then !Op.bytesLess (gt v.Sets (ja .i64 ((k:Int) - 1)).toNat).Name (gt v.Sets k).Name else false)=ordB v.Sets k:=by
    unfold ordB;rw [dqi];by_cases h0:0 < k
    ·have:(k:Int) > 0:=by omega
     have e:(ja .i64 ((k:Int) - 1)).toNat=k - 1:=by rw [wid (by omega)];omega
     rw [e,decide_eq_true this,decide_eq_true h0]
    ·have:¬ ((k:Int) > 0):=by omega
     rw [decide_eq_false this,decide_eq_false h0];rfl
   rw [eo,cqx,wid (n:=(k:Int)+1) (by omega)];show (bif rBad v k then _ else _)=_;cases rBad v k <;> rfl
  rw [List.range'_succ,List.any_cons];cases hp:rBad v k with
  | true =>
   rw [hp] at hb;rw [ajn (y:=.inl false) (by simpa using hb)];simp
  | false =>
   rw [hp] at hb;rw [ajm (x':=((k+1:Nat):Int)) (by simpa using hb),dyy n hn v ⟨h1,h2,h3⟩ j (k+1) m (by omega) (by omega),JW]
theorem all_eq (n:Nat) (hn:N0≤n) (v:aja) (hv:ej6 v):cji n v=some (exts v.Sets):=by
 have hn0:4194304≤n:=hn;obtain ⟨h1,h2,h3⟩:=hv
 have key:∀ j k m,k+j=v.Sets.length→j < m→ajg (fun (x:(List aj0)×Int)=>bjk n v x.1 x.2) m (exts (v.Sets.take k),(k:Int))=some (exts v.Sets):=by
  intro j
  induction j with
  | zero =>
   intro k m hj hm;obtain ⟨m,rfl⟩:∃ q,m=q+1:=⟨m - 1,by omega⟩;have hk:k=v.Sets.length:=by omega
   subst hk;refine ajn ?_;unfold bjk;simp only [j9,decide_false,cond_false,List.take_length]
  | succ j ih =>
   intro k m hj hm;obtain ⟨m,rfl⟩:∃ q,m=q+1:=⟨m - 1,by omega⟩;have hk:k < v.Sets.length:=by omega
   have hlt:((k:Nat):Int) < (v.Sets.length:Int):=by omega
   have hmem:gt v.Sets k∈v.Sets:=by rw [aqy hk];exact jB hk
   have hx:=(h3 _ hmem).2;have hel:=dqd (l:=v.Sets.take k) fun d hd=>h3 d (List.mem_of_mem_take hd);rw [jk] at hel;refine (ajm (x':=(exts (v.Sets.take (k+1)),((k+1:Nat):Int))) ?_).trans (ih (k+1) m (by omega) (by omega));unfold bjk;simp only [decide_eq_true hlt,cond_true,ju];rw [ajb _ ⟨⟨by omega,hlt⟩,by omega⟩,wid (n:=(k:Int)+1) (by omega),fqx hk];rfl
 have:=key v.Sets.length 0 n (by omega) (by omega)
 simp only [List.take_zero] at this;have this':ajg (fun (x:(List aj0)×Int)=>bjk n v x.1 x.2) n ([],0)=some (exts v.Sets):=this;simp only [cji,this',je,byd]
end Go.Proofs.YtijnkhcfondehaaGreatDoor
/-
 ch. 21: Check is Valid; Free.
-/
namespace Go.Proofs.YtijnkhcfondehaaGreatDoor
open Go.AE
def head (v:aja):Bool:=fj8 v.Serial v.Cyls v.Heads v.Size
def pV (v:aja):Bool:=head v && !decide ((v.Sets.length:Int) > (if ja .i64 (14 * v.Size) < 64 then ja .i64 (14 * v.Size) else 64)) && !(List.range' 0 v.Sets.length).any (pBad v) && (trkF [] (⟨0,ja .i64 (v.Size+1)⟩ :: exts v.Sets)).isSome
def rV (v:aja):Bool:=head v && !decide ((v.Sets.length:Int) > 64) && !decide ((v.Sets.length:Int) > ja .i64 (14 * v.Size)) && !(List.range' 0 v.Sets.length).any (rBad v) && (trkF [] (exts v.Sets)).isSome
theorem gy6 (n:Nat) (hn:N0≤n) (v:aja) (hv:ej6 v):awf n v=some (if pV v=true then 0 else 5):=by
 have hn0:4194304≤n:=hn;obtain ⟨h1,h2,h3⟩:=hv;unfold awf;obtain ⟨t,ht1,ht2⟩:=iwy n v.Serial;have ht1':aqp n v.Serial [65,66,67,68,69,70,71,72,73,74,75,76,77,78,79,80,81,82,83,84,85,86,87,88,89,90,48,49,50,51,52,53,54,55,56,57]=some t:=ht1;simp only [hzx,je,ht1',JI,j7,implies_true,and_self,ht2,gzi];rw [ajb _ trivial]
 have e1:(if (!(decide (1≤v.Serial.length) && decide (v.Serial.length≤6)))=true then true else !v.Serial.all fun b=>letB b || digB b) = !serB v.Serial:=by
  unfold serB;cases (decide (1≤v.Serial.length) && decide (v.Serial.length≤6)) <;> simp
 rw [e1];unfold pV head;cases hser:serB v.Serial with
 | false=>simp [fj8,hser]
 | true =>
  simp only [jR,cond_false];rw [ajb _ trivial]
  have e2:(if (if (!inB v.Cyls 1 64)=true then true else !inB v.Heads 1 8)=true then true else !inB v.Size 1 (ja .i64 (ja .i64 (v.Cyls * v.Heads) - 1))) = !fj8 v.Serial v.Cyls v.Heads v.Size:=by
   unfold fj8;rw [hser];cases inB v.Cyls 1 64 <;> cases inB v.Heads 1 8 <;> simp
  rw [e2];cases hh:fj8 v.Serial v.Cyls v.Heads v.Size with
  | false=>simp
  | true =>
   simp only [jR,cond_false,Jg];cases hl:decide ((v.Sets.length:Int) > (if ja .i64 (14 * v.Size) < 64 then ja .i64 (14 * v.Size) else 64)) with
   | true=>simp
   | false =>
    simp only [cond_false,j5,Jg];have key:=ezs n hn v ⟨h1,h2,h3⟩ [⟨0,ja .i64 (v.Size+1)⟩] (by simp) v.Sets.length 0 n (by omega) (by omega);simp only [List.take_zero] at key;have key':ajg (fun (x:(List aj0)×Int)=>ak4 n v (v.Sets.length:Int) x.1 x.2) n ([(⟨0,ja .i64 (v.Size+1)⟩:aj0)],0)=some (if (List.range' 0 v.Sets.length).any (pBad v)=true then .inl 5 else .inr ([(⟨0,ja .i64 (v.Size+1)⟩:aj0)] ++ exts v.Sets)):=key;rw [key',je];cases (List.range' 0 v.Sets.length).any (pBad v) with
    | true=>simp
    | false =>
     have hel:=dqd h3;have hle:((⟨0,ja .i64 (v.Size+1)⟩:aj0) :: exts v.Sets).length≤1073741824:=by rw [jx];omega
     simp only [jm,if_false,List.singleton_append,bzp,eyb n hn _ hle,je,j5,Jg];cases (trkF [] ((⟨0,ja .i64 (v.Size+1)⟩:aj0) :: exts v.Sets)).isSome <;> rfl
theorem gkr (n:Nat) (hn:N0≤n) (v:aja) (hv:ej6 v):bjg n v=some (rV v):=by
 have hn0:4194304≤n:=hn;obtain ⟨h1,h2,h3⟩:=hv;unfold bjg;simp only [hj9 n v.Serial (by omega) (by omega),gjd,je,JI,j7,implies_true,and_self];rw [ajb _ trivial]
 have e2:(if (if (if (!serB v.Serial)=true then true else !inB v.Cyls 1 64)=true then true else !inB v.Heads 1 8)=true then true else !inB v.Size 1 (ja .i64 (ja .i64 (v.Cyls * v.Heads) - 1))) = !head v:=by
  unfold head fj8;cases serB v.Serial <;> cases inB v.Cyls 1 64 <;> cases inB v.Heads 1 8 <;> simp
 rw [e2];unfold rV;cases hh:head v with
 | false=>simp
 | true =>
  simp only [jR,jm,if_false,Jg,cqx];cases hl:decide ((v.Sets.length:Int) > 64) with
  | true=>simp
  | false =>
   simp only [JW,j5,Jg];cases hl2:decide ((v.Sets.length:Int) > ja .i64 (14 * v.Size)) with
   | true=>simp
   | false =>
    simp only [cond_false,j5,Jg];have key:=dyy n hn v ⟨h1,h2,h3⟩ v.Sets.length 0 n (by omega) (by omega);have key':ajg (fun (x:Int)=>az6 n v x) n 0=some (if (List.range' 0 v.Sets.length).any (rBad v)=true then .inl false else .inr ()):=key;rw [key',je];cases (List.range' 0 v.Sets.length).any (rBad v) with
    | true=>simp
    | false =>
     have hel:=dqd h3;simp only [jm,if_false,bwq,all_eq n hn v ⟨h1,h2,h3⟩,fw8 n hn (exts v.Sets) (by omega),je,j5,Jg]
theorem gw6 {S:Int} (hS:0≤S∧S≤511) (A:List aj0):(trkF [] (⟨0,S+1⟩ :: A)).isSome=true↔(trkF [] A).isSome=true∧∀ x∈A,S < x.At:=by
 rw [akv,akv,bz4,JV,jf,List.nodup_append];have hv0:val ⟨0,S+1⟩=true:=(ay6 _).2 ⟨by simp,by simp only;omega,by simp,by simp only;omega⟩;constructor
 ·rintro ⟨⟨_,h1⟩,_,h2,h3⟩;refine ⟨⟨h1,h2⟩,fun x hx=>?_⟩;have hvx:=(ay6 x).1 (jK.1 h1 x hx);have hm:x.At∈trks A:=JK.2 ⟨x,hx,bkl.2 ⟨by omega,by omega⟩⟩;by_cases hc:S < x.At
  ·exact hc
  ·exact absurd rfl (h3 x.At (bkl.2 ⟨by simp only;omega,by simp only;omega⟩) x.At hm)
 ·rintro ⟨⟨h1,h2⟩,h3⟩;refine ⟨⟨hv0,h1⟩,fqs _,h2,fun a ha b hb e=>?_⟩;subst e;obtain ⟨x,hx,hb⟩:=JK.1 hb
  have:=h3 x hx
  have h4:=bkl.1 ha;have h5:=bkl.1 hb;simp only at h4;omega
theorem fwp {p:Nat→Bool} {m:Nat}:(List.range' 0 m).any p=false↔∀ k,k < m→p k=false:=by
 rw [J5];constructor
 ·intro h k hk
  have:=h k (by simp [List.mem_range',hk])
  simpa using this
 ·intro h k hk
  have:k < m:=by simpa [List.mem_range'] using hk
  simp [h k this]
theorem hk8 {v:aja} {k:Nat}:pBad v k=false↔pLbl v (gt v.Sets k)=true∧ordB v.Sets k=false:=by
 unfold pBad;cases pLbl v (gt v.Sets k) <;> cases ordB v.Sets k <;> simp
theorem hyl {v:aja} {d:aj8}:rLbl v d=true↔pLbl v d=true∧∀ x∈d.Extents,v.Size < x.At:=by
 have e:d.Extents.any (fun x=>decide (x.At≤v.Size) || dww v x)=false↔d.Extents.any (dww v)=false∧∀ x∈d.Extents,v.Size < x.At:=by
  simp only [J5,Jq,decide_eq_true_eq,not_or];constructor
  ·intro h;exact ⟨fun x hx=>(h x hx).2,fun x hx=>by have:=(h x hx).1;omega⟩
  ·rintro ⟨h1,h2⟩ x hx;exact ⟨by have:=h2 x hx;omega,h1 x hx⟩
 unfold rLbl pLbl;simp only [jf,Jb,e];constructor
 ·rintro ⟨⟨h1,h2⟩,⟨⟨⟨h3,h4⟩,h5⟩,h6⟩,h7⟩;exact ⟨⟨⟨⟨⟨⟨h3,h4⟩,h5⟩,h6⟩,h1⟩,h7⟩,h2⟩
 ·rintro ⟨⟨⟨⟨⟨⟨h3,h4⟩,h5⟩,h6⟩,h1⟩,h7⟩,h2⟩;exact ⟨⟨h1,h2⟩,⟨⟨⟨h3,h4⟩,h5⟩,h6⟩,h7⟩
theorem gj1 {v:aja} {k:Nat}:rBad v k=false↔(pLbl v (gt v.Sets k)=true∧∀ x∈(gt v.Sets k).Extents,v.Size < x.At)∧ordB v.Sets k=false:=by
 rw [← hyl];unfold rBad;cases rLbl v (gt v.Sets k) <;> cases ordB v.Sets k <;> simp
theorem fyo {l:List aj8} {x:aj0}:x∈exts l↔∃ k,k < l.length∧x∈(gt l k).Extents:=by
 unfold exts;rw [JK];constructor
 ·rintro ⟨d,hd,hx⟩;obtain ⟨k,hk,rfl⟩:=List.getElem_of_mem hd;exact ⟨k,hk,by rw [aqy hk];exact hx⟩
 ·rintro ⟨k,hk,hx⟩;exact ⟨_,jB hk,by rw [← aqy hk];exact hx⟩
theorem iy2 (v:aja):pV v=rV v:=by
 unfold pV rV;cases hh:head v with
 | false=>simp
 | true =>
  obtain ⟨z1,z2⟩:=hj5 hh;have w1:ja .i64 (14 * v.Size)=14 * v.Size:=wid (by omega);have w2:ja .i64 (v.Size+1)=v.Size+1:=wid (by omega);rw [J7,w1,w2];simp only [Jg,jf,Jb,decide_eq_false_iff_not,fwp,hk8,gj1,gw6 (S:=v.Size) ⟨by omega,by omega⟩]
  have em:¬ ((v.Sets.length:Int) > if 14 * v.Size < 64 then 14 * v.Size else 64)↔¬ ((v.Sets.length:Int) > 64)∧¬ ((v.Sets.length:Int) > 14 * v.Size):=by
   split <;> omega
  rw [em];constructor
  ·rintro ⟨⟨⟨h1,h2⟩,h3⟩,h4,h5⟩;exact ⟨⟨⟨h1,h2⟩,fun k hk=>⟨⟨(h3 k hk).1,fun x hx=>h5 x (fyo.2 ⟨k,hk,hx⟩)⟩,(h3 k hk).2⟩⟩,h4⟩
  ·rintro ⟨⟨⟨h1,h2⟩,h3⟩,h4⟩;refine ⟨⟨⟨h1,h2⟩,fun k hk=>⟨(h3 k hk).1.1,(h3 k hk).2⟩⟩,h4,fun x hx=>?_⟩;obtain ⟨k,hk,hx⟩:=fyo.1 hx;exact (h3 k hk).1.2 x hx
theorem ik0 {v:aja}:rV v=true↔head v=true∧v.Sets.length≤64∧(v.Sets.length:Int)≤14 * v.Size∧(∀ k,k < v.Sets.length→(pLbl v (gt v.Sets k)=true∧∀ x∈(gt v.Sets k).Extents,v.Size < x.At)∧ordB v.Sets k=false)∧(trkF [] (exts v.Sets)).isSome=true:=by
 unfold rV;cases hh:head v with
 | false=>simp
 | true =>
  obtain ⟨z1,z2⟩:=hj5 hh;have w1:ja .i64 (14 * v.Size)=14 * v.Size:=wid (by omega);rw [w1];simp only [Jg,jf,Jb,decide_eq_false_iff_not,fwp,gj1,true_and];constructor
  ·rintro ⟨⟨⟨h1,h2⟩,h3⟩,h4⟩;exact ⟨by omega,by omega,h3,h4⟩
  ·rintro ⟨h1,h2,h3,h4⟩;exact ⟨⟨⟨by omega,by omega⟩,h3⟩,h4⟩
end Go.Proofs.YtijnkhcfondehaaGreatDoor
/-
 ch. 21: runs of changes.
-/
namespace Go.Proofs.YtijnkhcfondehaaGreatDoor
open Go.AE
theorem izz (n:Nat) (hn:N0≤n) (v:aja) (hv:ej6 v):bkn n v=some v:=by
 have hn0:4194304≤n:=hn;obtain ⟨h1,h2,h3⟩:=hv
 have key:∀ j k m,k+j=v.Sets.length→j < m→ajg (fun (x:(List aj8)×Int)=>bji n v x.1 x.2) m (v.Sets.take k,(k:Int))=some v.Sets:=by
  intro j
  induction j with
  | zero =>
   intro k m hj hm;obtain ⟨m,rfl⟩:∃ q,m=q+1:=⟨m - 1,by omega⟩;have hk:k=v.Sets.length:=by omega
   subst hk;refine ajn ?_;unfold bji;simp only [j9,decide_false,cond_false,List.take_length]
  | succ j ih =>
   intro k m hj hm;obtain ⟨m,rfl⟩:∃ q,m=q+1:=⟨m - 1,by omega⟩;have hk:k < v.Sets.length:=by omega
   have hlt:((k:Nat):Int) < (v.Sets.length:Int):=by omega
   have hmem:gt v.Sets k∈v.Sets:=by rw [aqy hk];exact jB hk
   have hx:=(h3 _ hmem).2
   have ht:v.Sets.take (k+1)=v.Sets.take k ++ [gt v.Sets k]:=by
    rw [List.take_add_one,List.getElem?_eq_getElem hk,aqy hk];rfl
   refine (ajm (x':=(v.Sets.take (k+1),((k+1:Nat):Int))) ?_).trans (ih (k+1) m (by omega) (by omega));unfold bji;simp only [decide_eq_true hlt,cond_true,ju];rw [ajb _ ⟨by omega,hlt⟩,ajb _ (by omega),ajb _ (by rw [jk];omega),wid (n:=(k:Int)+1) (by omega),ht];rfl
 have hz:=key v.Sets.length 0 n (by omega) (by omega);have hz':ajg (fun (x:(List aj8)×Int)=>bji n v x.1 x.2) n ([],0)=some v.Sets:=hz;simp only [bkn,hz',je,by8]
theorem gwe (n:Nat) (hn:N0≤n) (d:aj8) (hd:d.Extents.length≤1000):bqg n d d=some true:=by
 have hn0:4194304≤n:=hn
 have key:ajg (fun (x:Int)=>ak9 n d d x) n 0=some (if d.Extents.any (fun _=>false)=true then .inl false else .inr ()):=by
  refine bqb d.Extents (fun _=>false) _ _ (fun k hk=>?_) ?_ (by omega)
  ·have hlt:((k:Nat):Int) < (d.Extents.length:Int):=by omega
   unfold ak9;simp only [decide_eq_true hlt,cond_true,beq_self_eq_true,Bool.and_self,jR,cond_false];rw [ajb _ ⟨⟨by omega,hlt⟩,by omega,hlt⟩,wid (n:=(k:Int)+1) (by omega)];rfl
  ·unfold ak9;simp only [j9,decide_false,cond_false]
 have hf:d.Extents.any (fun _=>false)=false:=by simp
 rw [hf] at key;unfold bqg;simp only [bne_self_eq_false,jm,if_false,beq_self_eq_true,Bool.and_self,jR,cond_false,key,je,bj5]
theorem iqf (n:Nat) (hn:N0≤n) (v:aja) (hv:ej6 v):bk2 n v v=some true:=by
 have hn0:4194304≤n:=hn;obtain ⟨h1,h2,h3⟩:=hv
 have key:ajg (fun (x:Int)=>bq5 n v v x) n 0=some (if v.Sets.any (fun _=>false)=true then .inl false else .inr ()):=by
  refine bqb v.Sets (fun _=>false) _ _ (fun k hk=>?_) ?_ (by omega)
  ·have hlt:((k:Nat):Int) < (v.Sets.length:Int):=by omega
   have hx:=(h3 _ (by rw [aqy hk];exact jB hk:gt v.Sets k∈v.Sets)).2;unfold bq5;simp only [decide_eq_true hlt,cond_true,ju,gwe n hn _ (Jf hx (by decide)),je,jR,cond_false];rw [ajb _ ⟨⟨by omega,hlt⟩,by omega,hlt⟩,wid (n:=(k:Int)+1) (by omega)];rfl
  ·unfold bq5;simp only [j9,decide_false,cond_false]
 have hf:v.Sets.any (fun _=>false)=false:=by simp
 rw [hf] at key;unfold bk2;simp only [bne_self_eq_false,jm,if_false,cond_false,key,je,bzw]
end Go.Proofs.YtijnkhcfondehaaGreatDoor
/-
 ch. 21: codes, texts, numbers of two bytes.
-/
namespace Go.Proofs.YtijnkhcfondehaaGreatDoor
open Go.AE
def cdI (k:Int):Int:=((bw2 0 k).getD default).1
def cd (b:UInt8):Int:=cdI ((b.toNat:Nat):Int)
def okC (b:UInt8):Bool:=decide (32≤b.toNat∧b.toNat≤126)
theorem fyf:∀ k:Fin 256,32≤k.val∧k.val≤126→bw2 0 ((k.val:Nat):Int)=some (cdI ((k.val:Nat):Int),true)∧cjd 0 ((k.val:Nat):Int)=some (cdI ((k.val:Nat):Int),true):=by decide +kernel
theorem iq6 (n:Nat) {b:UInt8} (h:okC b=true):bw2 n ((b.toNat:Nat):Int)=some (cd b,true):=by
 have:=(fyf ⟨b.toNat,b.toNat_lt⟩ (by simpa [okC] using h)).1
 exact this
theorem hkt (n:Nat) {b:UInt8} (h:okC b=true):cjd n ((b.toNat:Nat):Int)=some (cd b,true):=by
 have:=(fyf ⟨b.toNat,b.toNat_lt⟩ (by simpa [okC] using h)).2
 exact this
def txt (s:List UInt8) (K:Nat):List Int:=s.map cd ++ jt (K - s.length) 64
theorem bqy (s:List UInt8) (K:Nat) (h:s.length≤K):(txt s K).length=K:=by simp [txt];omega
theorem dqo {W:List Int} {j K:Nat} (hW:W.length=K) (hj:j < K) (w:Int) (hw:W[j]'(by omega)=w):(W.take j ++ jt (K - j) 0).set j w=W.take (j+1) ++ jt (K - (j+1)) 0:=by
 subst hw;apply J1
 ·simp;omega
 ·intro i h1 h2;simp only [List.length_set,ji,jk,jW] at h1;by_cases e:i=j
  ·subst e;rw [List.getElem_set_self,JQ (by simp;omega)];simp
  ·rw [List.getElem_set_ne (by omega)];by_cases hl:i < j
   ·rw [JQ (by simp;omega),JQ (by simp;omega)];simp
   ·rw [JN (by simp;omega),JN (by simp;omega)];simp
theorem hzh (n:Nat) (s:List UInt8) (K:Nat) (hs:s.length≤K) (hK:K≤65536) (hc:s.all okC=true):∀ r j m,j+r=K→r < m →
  ajg (fun (x:(List Int)×Int)=>awr n s (K:Int) x.1 x.2) m ((txt s K).take j ++ jt (K - j) 0,(j:Int))=some (.inr (txt s K)):=by
 have hW:=bqy s K hs;intro r
 induction r with
 | zero =>
  intro j m hj hm;obtain ⟨m,rfl⟩:∃ q,m=q+1:=⟨m - 1,by omega⟩
  have:j=K:=by omega
  subst this;refine ajn ?_;unfold awr;simp only [show decide ((j:Int) < (j:Int))=false by simp,cond_false,Nat.sub_self,List.replicate_zero,JJ];rw [jL (by omega)]
 | succ r ih =>
  intro j m hj hm;obtain ⟨m,rfl⟩:∃ q,m=q+1:=⟨m - 1,by omega⟩;have hjK:j < K:=by omega
  refine (ajm (x':=((txt s K).take (j+1) ++ jt (K - (j+1)) 0,((j+1:Nat):Int))) ?_).trans (ih (j+1) m (by omega) (by omega));have hl:((txt s K).take j ++ jt (K - j) 0).length=K:=by simp [hW];omega
  unfold awr;simp only [decide_eq_true (show (j:Int) < (K:Int) by omega),cond_true,ju,hl];rw [ajb _ ⟨⟨by omega,by omega⟩,hjK⟩];by_cases hs2:j < s.length
  ·simp only [show decide ((j:Int) ≥ (s.length:Int))=false by simp;omega,cond_false];rw [ajb _ ⟨by omega,by omega⟩];have hg:s.getD j 0=s[j]:=by simp [jb,hs2]
   have hok:okC s[j]=true:=(jK.1 hc) _ (jB hs2);rw [hg,iq6 n hok,je];simp only [jR,cond_false,List.set_set];rw [ajb _ ⟨⟨by omega,by omega⟩,hjK⟩];unfold awt;rw [dqo hW hjK (cd s[j]) (by simp [txt,JQ,hs2]),wid (n:=(j:Int)+1) (by omega)];rfl
  ·simp only [show decide ((j:Int) ≥ (s.length:Int))=true by simp;omega,cond_true];unfold awt;rw [dqo hW hjK 64 (by rw [show (txt s K)[j]=_ from JN (by simp;omega)];simp),wid (n:=(j:Int)+1) (by omega)];rfl
theorem ew7 (n:Nat) (hn:N0≤n) (s:List UInt8) (K:Nat) (hs:s.length≤K) (hK:K≤65536) (hc:s.all okC=true):bqd n s (K:Int)=some (txt s K):=by
 have hn0:4194304≤n:=hn;unfold bqd ckp;simp only [show (if (decide ((K:Int) < 0))=true then true else (decide ((K:Int) > 65536)))=false by simp;omega,cond_false,show decide ((s.length:Int) > (K:Int))=false by simp;omega];unfold bzt;rw [ajb _ ⟨by omega,by omega,by omega⟩];have key:=hzh n s K hs hK hc K 0 n (by omega) (by omega);simp only [List.take_zero,Je,Nat.sub_zero] at key;simp only [ju];rw [show aw0 K (0:Int)=jt K 0 from rfl];have key':ajg (fun (x:(List Int)×Int)=>awr n s (K:Int) x.1 x.2) n (jt K 0,0)=some (.inr (txt s K)):=key;rw [key'];rfl
theorem hyn (n:Nat) (s:List UInt8) (hs:s.length≤65536) (hc:s.all okC=true):∀ r j m,j+r=s.length→r < m →
  ajg (fun (x:(List Int)×Int)=>azu n s x.1 x.2) m ((s.take j).map cd,(j:Int))=some (.inr (s.map cd)):=by
 intro r
 induction r with
 | zero =>
  intro j m hj hm;obtain ⟨m,rfl⟩:∃ q,m=q+1:=⟨m - 1,by omega⟩
  have:j=s.length:=by omega
  subst this;refine ajn ?_;unfold azu;simp only [show decide ((s.length:Int) < (s.length:Int))=false by simp,cond_false,List.take_length]
 | succ r ih =>
  intro j m hj hm;obtain ⟨m,rfl⟩:∃ q,m=q+1:=⟨m - 1,by omega⟩;have hjs:j < s.length:=by omega
  refine (ajm (x':=((s.take (j+1)).map cd,((j+1:Nat):Int))) ?_).trans (ih (j+1) m (by omega) (by omega));unfold azu;simp only [decide_eq_true (show (j:Int) < (s.length:Int) by omega),cond_true,ju];rw [ajb _ ⟨by omega,by omega⟩];have hg:s.getD j 0=s[j]:=by simp [jb,hjs]
  have hok:okC s[j]=true:=(jK.1 hc) _ (jB hjs);rw [hg,hkt n hok,je];simp only [jR,cond_false];rw [ajb _ (by simp;omega),wid (n:=(j:Int)+1) (by omega),j6 hjs,J6];rfl
theorem hqu (n:Nat) (K:Nat) (hK:K≤65536):∀ r (b:List Int) m,b.length+r=K→r < m →
  ajg (fun (x:(List Int))=>bqn n (K:Int) x) m b=some (b ++ jt r 64):=by
 intro r
 induction r with
 | zero =>
  intro b m hj hm;obtain ⟨m,rfl⟩:∃ q,m=q+1:=⟨m - 1,by omega⟩;refine ajn ?_;unfold bqn;simp only [show decide ((b.length:Int) < (K:Int))=false by simp;omega,cond_false,List.replicate_zero,JJ]
 | succ r ih =>
  intro b m hj hm;obtain ⟨m,rfl⟩:∃ q,m=q+1:=⟨m - 1,by omega⟩;refine (ajm (x':=b ++ [64]) ?_).trans ((ih (b ++ [64]) m (by simp;omega) (by omega)).trans (by rw [Jk];rfl));unfold bqn;simp only [decide_eq_true (show (b.length:Int) < (K:Int) by omega),cond_true];rw [ajb _ (by omega)]
theorem dzk (n:Nat) (hn:N0≤n) (s:List UInt8) (K:Nat) (hs:s.length≤K) (hK:K≤65536) (hc:s.all okC=true):ayk n s (K:Int)=some (txt s K):=by
 have hn0:4194304≤n:=hn;unfold ayk by9;have key:=hyn n s (by omega) hc s.length 0 n (by omega) (by omega);have key':ajg (fun (x:(List Int)×Int)=>azu n s x.1 x.2) n ([],0)=some (.inr (s.map cd)):=key;rw [key'];simp only [je,bql,bzv];rw [hqu n K hK (K - s.length) (s.map cd) n (by simp;omega) (by omega)];rfl
def h2 (k:Int):List Int:=[ja .u8 (Int.fdiv k 256),ja .u8 k]
theorem fzq (n:Nat) (k:Int):ayw n k=some (h2 k):=rfl
theorem dzr (n:Nat) (k:Int) (h:0≤k∧k≤4611686018427387904):bjn n k=some (h2 k):=by
 unfold bjn h2;have e1:Int.tdiv k 256=Int.fdiv k 256:=by rw [Int.tdiv_eq_ediv_of_nonneg h.1,Int.fdiv_eq_ediv_of_nonneg _ (by omega)]
 have e2:Int.tmod k 256=k % 256:=Int.tmod_eq_emod_of_nonneg h.1;have e3:0≤Int.fdiv k 256∧Int.fdiv k 256≤4611686018427387904:=by rw [Int.fdiv_eq_ediv_of_nonneg _ (by omega)];omega
 rw [e1,e2,wid (n:=Int.fdiv k 256) (by omega)];have e4:ja .u8 (k % 256)=ja .u8 k:=by rw [IntKind.wrap_u8,IntKind.wrap_u8];omega
 rw [e4]
theorem ak0 (k:Int):(h2 k).length=2:=rfl
end Go.Proofs.YtijnkhcfondehaaGreatDoor
/-
 ch. 21: the records of labels.
-/
namespace Go.Proofs.YtijnkhcfondehaaGreatDoor
open Go.AE
def fqo (d:TDcb):Int:=if d.Blocked then (if d.Asa then 192 else 128) else if d.Asa then 64 else 0
def gwt (d:aj8):List Int:=[ja .u8 d.Dcb.Org,ja .u8 d.Dcb.Format,fqo d.Dcb,ja .u8 d.Dcb.KeyLen] ++ h2 d.Dcb.Lrecl ++ h2 d.Dcb.Blksize ++ h2 d.Dcb.KeyPos ++ h2 d.Used
def exb (l:List aj0):List Int:=l.flatMap fun x=>h2 x.At ++ h2 x.Len
def cwg (d:aj8):List Int:=gwt d ++ [ja .u8 (d.Extents.length:Int)]
def eyy (d:aj8):List Int:=cwg d ++ exb d.Extents ++ jt (32 - 4 * d.Extents.length) 0
def rcP (k:Int) (d:aj8):TRec:=⟨k,txt d.Name 44,eyy d,false⟩
theorem dwd (d:aj8):(cwg d).length=13:=by simp [cwg,gwt,h2]
theorem ejq:∀ l:List aj0,(exb l).length=4 * l.length
 | []=>rfl
 | x :: l=>by
  have:=ejq l
  simp only [exb,JG,ji,ak0,jx] at this ⊢;omega
theorem iwi (a b:List aj0):exb (a ++ b)=exb a ++ exb b:=by simp [exb]
theorem fyg {l:List aj0} {k:Nat} (h:k < l.length):exb (l.take (k+1))=exb (l.take k) ++ (h2 (gt l k).At ++ h2 (gt l k).Len):=by
 rw [j6 h,iwi,aqy h];simp [exb]
structure OkD (d:aj8):Prop where
 ext:d.Extents.length≤8
 name:d.Name.all okC=true
 nlen:d.Name.length≤44
 nums:∀ x∈[d.Dcb.Lrecl,d.Dcb.Blksize,d.Dcb.KeyPos,d.Used],0≤x∧x≤4611686018427387904
 exts:∀ x∈d.Extents,(0≤x.At∧x.At≤4611686018427387904)∧(0≤x.Len∧x.Len≤4611686018427387904)
theorem hkx (n:Nat) (n_:Int) (d:aj8) (hd:d.Extents.length≤8):∀ r j m,j+r=d.Extents.length→r < m →
  ajg (fun (x:(List Int)×Int)=>akf n n_ d (d.Extents.length:Int) x.1 x.2) m (cwg d ++ exb (d.Extents.take j),(j:Int))=some (cwg d ++ exb d.Extents):=by
 intro r
 induction r with
 | zero =>
  intro j m hj hm;obtain ⟨m,rfl⟩:∃ q,m=q+1:=⟨m - 1,by omega⟩
  have:j=d.Extents.length:=by omega
  subst this;refine ajn ?_;unfold akf;simp only [show decide ((d.Extents.length:Int) < (d.Extents.length:Int))=false by simp,cond_false,List.take_length]
 | succ r ih =>
  intro j m hj hm;obtain ⟨m,rfl⟩:∃ q,m=q+1:=⟨m - 1,by omega⟩;have hjs:j < d.Extents.length:=by omega
  refine (ajm (x':=(cwg d ++ exb (d.Extents.take (j+1)),((j+1:Nat):Int))) ?_).trans (ih (j+1) m (by omega) (by omega));unfold akf;have hl:(cwg d ++ exb (d.Extents.take j)).length=13+4 * j:=by rw [ji,dwd,ejq,jk];omega
  simp only [decide_eq_true (show (j:Int) < (d.Extents.length:Int) by omega),cond_true,ju,fzq,je];rw [ajb _ ⟨by omega,by omega⟩,ajb _ (by simp only [ak0,hl];omega),ajb _ (by simp only [ak0,hl];omega),wid (n:=(j:Int)+1) (by omega),fyg hjs];simp only [Jk];rfl
theorem gkh (n:Nat) (hn:N0≤n) (k:Int) (d:aj8) (hd:OkD d):bkg n k d=some (rcP k d):=by
 have hn0:4194304≤n:=hn;have hd1:=hd.ext
 have key:∀ f,f=fqo d.Dcb→akg n k d f=some (rcP k d):=by
  intro f hf;unfold akg;simp only [fzq,je];rw [ajb _ (by simp only [ak0];omega),ajb _ (by simp only [ak0];omega),ajb _ (by simp only [ak0];omega),ajb _ (by simp only [ak0];omega),ajb _ (by simp only [ak0];omega)];have h:=hkx n k d hd1 d.Extents.length 0 n (by omega) (by omega);rw [hf]
  have h':ajg (fun (x:(List Int)×Int)=>akf n k d (d.Extents.length:Int) x.1 x.2) n (cwg d,0)=some (cwg d ++ exb d.Extents):=by
   simpa [exb] using h
  have e:(((((([(ja .u8 (d.Dcb.Org)),(ja .u8 (d.Dcb.Format)),fqo d.Dcb,(ja .u8 (d.Dcb.KeyLen))] ++ h2 d.Dcb.Lrecl) ++ h2 d.Dcb.Blksize) ++ h2 d.Dcb.KeyPos) ++ h2 d.Used) ++ [(ja .u8 ((d.Extents.length:Int)))]))=cwg d:=rfl;rw [e,h',je];unfold bwb;rw [show (44:Int)=((44:Nat):Int) from rfl,ew7 n hn d.Name 44 hd.nlen (by omega) hd.name,je];have hl:(cwg d ++ exb d.Extents).length=13+4 * d.Extents.length:=by rw [ji,dwd,ejq]
  rw [hl,wid (n:=45 - ((13+4 * d.Extents.length:Nat):Int)) (by omega),ajb _ ⟨by omega,by omega⟩];have e2:(45 - ((13+4 * d.Extents.length:Nat):Int)).toNat=32 - 4 * d.Extents.length:=by omega
  rw [e2];rfl
 unfold bkg;have e0:ja .u8 (((BitVec.ofInt (jj .u8) 0 ||| BitVec.ofInt (jj .u8) 128).toNat:Int))=128:=by decide
 have e1:ja .u8 (((BitVec.ofInt (jj .u8) 128 ||| BitVec.ofInt (jj .u8) 64).toNat:Int))=192:=by decide
 have e2:ja .u8 (((BitVec.ofInt (jj .u8) 0 ||| BitVec.ofInt (jj .u8) 64).toNat:Int))=64:=by decide
 rw [e0];unfold ayy;rw [e1,e2];cases hB:d.Dcb.Blocked <;> cases hA:d.Dcb.Asa <;> simp only [cond_true,cond_false] <;> exact key _ (by simp [fqo,hA,hB])
theorem gzd (n:Nat) (hn:N0≤n) (n_:Int) (d:aj8) (hd:OkD d) (b:List Int) (hb:b.length=4) :
  ajg (fun (x:(List Int)×Int)=>ay0 n n_ d [d.Dcb.Lrecl,d.Dcb.Blksize,d.Dcb.KeyPos,d.Used] x.1 x.2) n (b,0)=some (b ++ h2 d.Dcb.Lrecl ++ h2 d.Dcb.Blksize ++ h2 d.Dcb.KeyPos ++ h2 d.Used):=by
 have hn0:4194304≤n:=hn;obtain ⟨m,rfl⟩:∃ m,n=m+1+1+1+1+1:=⟨n - 5,by omega⟩;generalize hN:m+1+1+1+1+1=N at *
 have step:∀ (j:Nat) (b':List Int) (x:Int),j < 4→b'.length≤100→gt [d.Dcb.Lrecl,d.Dcb.Blksize,d.Dcb.KeyPos,d.Used] j=x→ay0 N n_ d [d.Dcb.Lrecl,d.Dcb.Blksize,d.Dcb.KeyPos,d.Used] b' (j:Int)=some (.inl (b' ++ h2 x,((j+1:Nat):Int))):=by
  intro j b' x hj hb' hx;unfold ay0
  have hm:x∈[d.Dcb.Lrecl,d.Dcb.Blksize,d.Dcb.KeyPos,d.Used]:=by
   rw [← hx,aqy (by simpa using hj)];exact jB _
  simp only [decide_eq_true (show (j:Int) < 4 by omega),cond_true,ju,hx];rw [ajb _ ⟨⟨by omega,by simp;omega⟩,by simpa using hj⟩,dzr N x (hd.nums x hm),je,ajb _ (by rw [ak0];omega),wid (n:=(j:Int)+1) (by omega)];rfl
 rw [← hN];refine (ajm (x':=(b ++ h2 d.Dcb.Lrecl,1)) (by rw [hN];exact step 0 b _ (by omega) (by omega) rfl)).trans ?_;refine (ajm (x':=(b ++ h2 d.Dcb.Lrecl ++ h2 d.Dcb.Blksize,2)) (by rw [hN];exact step 1 _ _ (by omega) (by simp [ak0];omega) rfl)).trans ?_;refine (ajm (x':=(b ++ h2 d.Dcb.Lrecl ++ h2 d.Dcb.Blksize ++ h2 d.Dcb.KeyPos,3)) (by rw [hN];exact step 2 _ _ (by omega) (by simp [ak0];omega) rfl)).trans ?_;refine (ajm (x':=(b ++ h2 d.Dcb.Lrecl ++ h2 d.Dcb.Blksize ++ h2 d.Dcb.KeyPos ++ h2 d.Used,4)) (by rw [hN];exact step 3 _ _ (by omega) (by simp [ak0];omega) rfl)).trans ?_;refine ajn ?_;rfl
theorem h2_0:h2 0=[0,0]:=by decide
theorem hqm (n:Nat) (hn:N0≤n) (n_:Int) (d:aj8) (hd:OkD d):∀ r j m,j+r=8→r < m →
  ajg (fun (x:(List Int)×Int)=>azn n n_ d x.1 x.2) m (cwg d ++ exb (d.Extents.take j) ++ jt (4 * (j - d.Extents.length)) 0,(j:Int))=some (eyy d):=by
 intro r
 induction r with
 | zero =>
  intro j m hj hm;obtain ⟨m,rfl⟩:∃ q,m=q+1:=⟨m - 1,by omega⟩
  have:j=8:=by omega
  subst this;refine ajn ?_;unfold azn;simp only [show decide (((8:Nat):Int) < 8)=false by decide,cond_false];rw [jL hd.ext];unfold eyy;rw [show 4 * (8 - d.Extents.length)=32 - 4 * d.Extents.length by omega]
 | succ r ih =>
  intro j m hj hm;obtain ⟨m,rfl⟩:∃ q,m=q+1:=⟨m - 1,by omega⟩;refine (ajm (x':=(cwg d ++ exb (d.Extents.take (j+1)) ++ jt (4 * (j+1 - d.Extents.length)) 0,((j+1:Nat):Int))) ?_).trans (ih (j+1) m (by omega) (by omega));unfold azn;have hl:(cwg d ++ exb (d.Extents.take j) ++ jt (4 * (j - d.Extents.length)) 0).length≤100:=by rw [ji,ji,dwd,ejq,jk,jW];omega
  generalize hB:cwg d ++ exb (d.Extents.take j) ++ jt (4 * (j - d.Extents.length)) 0=B at hl ⊢;simp only [decide_eq_true (show (j:Int) < 8 by omega),cond_true,ju];by_cases hjs:j < d.Extents.length
  ·have hx:=hd.exts (gt d.Extents j) (by rw [aqy hjs];exact jB _);simp only [decide_eq_true (show (j:Int) < (d.Extents.length:Int) by omega),cond_true];rw [ajb _ ⟨by omega,by omega⟩];unfold azh akw;rw [dzr n _ hx.1,je,ajb _ (by rw [ak0];omega),dzr n _ hx.2,je,ajb _ (by rw [ak0,ak0];omega),wid (n:=(j:Int)+1) (by omega),← hB,fyg hjs];rw [show j - d.Extents.length=0 by omega,show j+1 - d.Extents.length=0 by omega];simp
  ·simp only [show decide ((j:Int) < (d.Extents.length:Int))=false by simp;omega,cond_false];unfold azh akw;rw [dzr n 0 (by omega),je,ajb _ (by rw [ak0];omega),je,ajb _ (by rw [ak0];omega),wid (n:=(j:Int)+1) (by omega),← hB];rw [jL (by omega),jL (by omega),show 4 * (j+1 - d.Extents.length)=4 * (j - d.Extents.length)+4 by omega,← List.replicate_append_replicate,h2_0];simp [Jk]
theorem gw5 (n:Nat) (hn:N0≤n) (k:Int) (d:aj8) (hd:OkD d):bz1 n k d=some (rcP k d):=by
 have hn0:4194304≤n:=hn;unfold bz1;obtain ⟨r1,hr1⟩:∃ r1,aya n d.Dcb.Blocked 128=some r1:=by unfold aya;cases d.Dcb.Blocked <;> exact ⟨_,rfl⟩
 obtain ⟨r2,hr2⟩:∃ r2,aya n d.Dcb.Asa 64=some r2:=by unfold aya;cases d.Dcb.Asa <;> exact ⟨_,rfl⟩
 have hf:ja .u8 (r1+r2)=fqo d.Dcb:=by
  unfold aya at hr1 hr2;unfold fqo;cases hB:d.Dcb.Blocked <;> cases hA:d.Dcb.Asa <;> rw [hB] at hr1 <;> rw [hA] at hr2 <;> simp only [cond_true,cond_false,Option.some.injEq] at hr1 hr2 <;> subst hr1 hr2 <;> decide
 rw [hr1,je,hr2,je,hf,gzd n hn k d hd _ rfl,je];unfold bq9;have e:[ja .u8 d.Dcb.Org,ja .u8 d.Dcb.Format,fqo d.Dcb,ja .u8 d.Dcb.KeyLen] ++ h2 d.Dcb.Lrecl ++ h2 d.Dcb.Blksize ++ h2 d.Dcb.KeyPos ++ h2 d.Used=gwt d:=rfl;rw [e,ajb _ (by simp [gwt,h2])];have h:=hqm n hn k d hd 8 0 n (by omega) (by omega)
 have h':ajg (fun (x:(List Int)×Int)=>azn n k d x.1 x.2) n (gwt d ++ [ja .u8 (d.Extents.length:Int)],0)=some (eyy d):=by
  simpa [exb,cwg] using h
 rw [h',je];unfold bq3;rw [show (44:Int)=((44:Nat):Int) from rfl,dzk n hn d.Name 44 hd.nlen (by omega) hd.name,je];rfl
end Go.Proofs.YtijnkhcfondehaaGreatDoor
/-
 ch. 21: the tracks of a table.
-/
namespace Go.Proofs.YtijnkhcfondehaaGreatDoor
open Go.AE
def tr (S:Nat) (L:List TRec):List (List TRec):=(Jc S).map fun n=>(L.drop (14 * n)).take 14
theorem ejz (S:Nat) (L:List TRec):(tr S L).length=S:=by simp [tr]
theorem fz6 {S:Nat} {L:List TRec} {i:Nat} (h:i < (tr S L).length):(tr S L)[i]=(L.drop (14 * i)).take 14:=by simp [tr]
theorem ijz (S:Nat) (L:List TRec):tr (S+1) L=tr S L ++ [(L.drop (14 * S)).take 14]:=by simp [tr,List.range_succ]
theorem ijy {S:Nat} (L:List TRec) (r:TRec) (h:L.length / 14 < S):tr S (L ++ [r])=(tr S L).set (L.length / 14) ((L.drop (14 * (L.length / 14))).take 14 ++ [r]):=by
 apply J1
 ·simp [ejz]
 ·intro i h1 h2;rw [ejz] at h1;rw [List.getElem_set,fz6];by_cases e:L.length / 14=i
  ·subst e;simp only [if_true];rw [List.drop_append_of_le_length (by omega),List.take_append,jL (by simp <;> omega)];congr 1;rw [jL (by simp <;> omega)]
  ·rw [if_neg e,fz6];by_cases hl:i < L.length / 14
   ·rw [List.drop_append_of_le_length (by omega),List.take_append_of_le_length (by simp <;> omega)]
   ·rw [List.drop_eq_nil_of_le (by simp <;> omega),List.drop_eq_nil_of_le (by omega)]
def recs (v:aja):List TRec:=(Jc v.Sets.length).map fun j=>rcP ((j % 14+1:Nat):Int) (gt v.Sets j)
theorem dqs (v:aja):(recs v).length=v.Sets.length:=by simp [recs]
theorem ey7 {v:aja} {j:Nat} (h:j < (recs v).length):(recs v)[j]=rcP ((j % 14+1:Nat):Int) (gt v.Sets j):=by simp [recs]
def volB (v:aja):List Int:=txt [86,79,76,49] 4 ++ txt v.Serial 6 ++ h2 v.Cyls ++ h2 v.Heads ++ h2 v.Size ++ txt [] 64
def vol (v:aja):TRec:=⟨3,txt [86,79,76,49] 4,volB v,false⟩
def encT (v:aja):List (List TRec):=[vol v] :: tr v.Size.toNat (recs v)
structure OkV (v:aja):Prop where
 ser:v.Serial.all okC=true
 slen:v.Serial.length≤6
 nums:∀ x∈[v.Cyls,v.Heads,v.Size],0≤x∧x≤4611686018427387904
 size:1≤v.Size∧v.Size≤511
 sets:v.Sets.length≤64∧(v.Sets.length:Int)≤14 * v.Size
 lbl:∀ k,k < v.Sets.length→OkD (gt v.Sets k)
theorem ijx {α:Type} (A:List α) (x y:α) (Z:List α):(A ++ [x] ++ Z).set A.length y=A ++ [y] ++ Z:=by simp
theorem ijs (j:Nat) (h:j≤64):ja .i64 (Int.tmod (j:Int) 14+1)=((j % 14+1:Nat):Int):=by
 rw [Int.tmod_eq_emod_of_nonneg (by omega),wid (by omega)];omega
theorem ije (j:Nat) (h:j≤64):ja .i64 (1+ja .i64 (Int.tdiv (j:Int) 14))=((1+j / 14:Nat):Int):=by
 rw [Int.tdiv_eq_ediv_of_nonneg (by omega),wid (n:=(j:Int) / 14) (by omega),wid (by omega)];omega
theorem gyl (n:Nat) (hn:N0≤n) (v:aja) (hv:OkV v) (S:Nat) (hS:(S:Int)=v.Size) (w:TRec):∀ r j mm (A:List (List TRec)) (x:List TRec) (m:Nat),j+r=v.Sets.length→r < mm →
  A ++ [x] ++ jt m []=[w] :: tr S ((recs v).take j)→A.length=(if j=0 then 0 else 1+(j - 1) / 14)→A.length+1+m=S+1 →
  ajg (fun (x:List (List TRec)×List TRec×Nat×Int)=>az8 n v x.1 x.2.1 x.2.2.1 x.2.2.2) mm (A,x,m,(j:Int))=some ([w] :: tr S (recs v)):=by
 obtain ⟨hs1,hs2⟩:=hv.sets;obtain ⟨hz1,hz2⟩:=hv.size;intro r
 induction r with
 | zero =>
  intro j mm A x m hj hm hI hA hl;obtain ⟨mm,rfl⟩:∃ q,mm=q+1:=⟨mm - 1,by omega⟩
  have:j=v.Sets.length:=by omega
  subst this;refine ajn ?_;unfold az8;simp only [show decide ((v.Sets.length:Int) < (v.Sets.length:Int))=false by simp,cond_false];rw [jL (by rw [dqs];omega)] at hI;rw [← hI];rfl
 | succ r ih =>
  intro j mm A x m hj hm hI hA hl;obtain ⟨mm,rfl⟩:∃ q,mm=q+1:=⟨mm - 1,by omega⟩;have hjs:j < v.Sets.length:=by omega
  have hxl:x.length≤14:=by
   have h1:(A ++ [x] ++ jt m [])[A.length]'(by simp <;> omega)=x:=by
    rw [JQ (by simp),JN (by simp)];simp
   have h2:∀ (i:Nat) (hi:i < ([w] :: tr S ((recs v).take j)).length),(([w] :: tr S ((recs v).take j))[i]).length≤14:=by
    intro i hi;cases i with
    | zero=>simp
    | succ i=>rw [List.getElem_cons_succ,fz6];simp;omega
   have h3:=h2 A.length (by rw [← hI];simp <;> omega);rw [← h1]
   have:∀ {a b:List (List TRec)} (e:a=b) (i:Nat) (ha:i < a.length) (hb:i < b.length),a[i]=b[i]:=by intro a b e;subst e;intros;rfl
   rw [this hI A.length (by simp <;> omega) (by rw [← hI];simp <;> omega)];exact h3
  have hrt:(recs v).take (j+1)=(recs v).take j ++ [rcP ((j % 14+1:Nat):Int) (gt v.Sets j)]:=by
   rw [j6 (by rw [dqs];exact hjs),ey7]
  have hlt:((recs v).take j).length=j:=by rw [jk,dqs];omega
  have hq:j / 14 < S:=by omega
  have hst:=ijy ((recs v).take j) (rcP ((j % 14+1:Nat):Int) (gt v.Sets j)) (S:=S) (by rw [hlt];exact hq);rw [← hrt,hlt] at hst
  have hget:∀ i (hi:i < (A ++ [x] ++ jt m []).length),i=1+j / 14→(A ++ [x] ++ jt m [])[i]=(((recs v).take j).drop (14 * (j / 14))).take 14:=by
   have:∀ {a b:List (List TRec)} (e:a=b) (i:Nat) (ha:i < a.length) (hb:i < b.length),a[i]=b[i]:=by intro a b e;subst e;intros;rfl
   intro i hi e;subst e;rw [this hI (1+j / 14) hi (by simp [ejz] <;> omega)]
   have e2:([w] :: tr S ((recs v).take j))[1+j / 14]'(by simp [ejz] <;> omega)=(tr S ((recs v).take j))[j / 14]'(by rw [ejz];exact hq):=by
    simp [Nat.add_comm 1 (j / 14)]
   rw [e2,fz6]
  have hrec:=gkh n hn ((j % 14+1:Nat):Int) (gt v.Sets j) (hv.lbl j hjs);generalize rcP ((j % 14+1:Nat):Int) (gt v.Sets j)=R at hrec hst
  have hset:[w] :: tr S ((recs v).take (j+1))=(A ++ [x] ++ jt m []).set (1+j / 14) ((((recs v).take j).drop (14 * (j / 14))).take 14 ++ [R]):=by
   rw [hst,hI,Nat.add_comm 1 (j / 14)];rfl
  by_cases hin:1+j / 14=A.length
  ·refine (ajm (x':=(A,x ++ [R],m,((j+1:Nat):Int))) ?_).trans (ih (j+1) mm A (x ++ [R]) m (by omega) (by omega) ?_ ?_ hl)
   ·unfold az8;simp only [decide_eq_true (show (j:Int) < (v.Sets.length:Int) by omega),cond_true,ju,ijs j (by omega),ije j (by omega),hin];rw [ajb _ ⟨by omega,by omega⟩,hrec,je,ajb _ ⟨by omega,by omega⟩];simp only [decide_true,cond_true];rw [wid (n:=(j:Int)+1) (by omega)];rfl
   ·rw [hset,hin];have hx:=hget A.length (by simp <;> omega) (by omega);rw [← hx]
    have h1:(A ++ [x] ++ jt m [])[A.length]'(by simp <;> omega)=x:=by
     rw [JQ (by simp),JN (by simp)];simp
    rw [h1];exact (ijx A x (x ++ [R]) _).symm
   ·rw [if_neg (by omega)];omega
  ·have hn1:1+j / 14=A.length+1:=by
    by_cases h0:j=0
    ·rw [if_pos h0] at hA;omega
    ·rw [if_neg h0] at hA;omega
   have hm0:0 < m:=by omega
   obtain ⟨m,rfl⟩:∃ q,m=q+1:=⟨m - 1,by omega⟩;refine (ajm (x':=(A ++ [x],[R],m,((j+1:Nat):Int))) ?_).trans (ih (j+1) mm (A ++ [x]) [R] m (by omega) (by omega) ?_ ?_ (by simp <;> omega))
   ·unfold az8;simp only [decide_eq_true (show (j:Int) < (v.Sets.length:Int) by omega),cond_true,ju,ijs j (by omega),ije j (by omega)];rw [ajb _ ⟨by omega,by omega⟩,hrec,je,ajb _ ⟨by omega,by omega⟩];rw [show decide (((1+j / 14:Nat):Int)=(A.length:Int))=false by simp;omega];simp only [cond_false];rw [ajb _ ⟨by rw [hn1],by omega⟩,wid (n:=(j:Int)+1) (by omega)];rfl
   ·rw [hset,hn1];have hx:=hget (A.length+1) (by simp) (by omega);rw [← hx]
    have h1:(A ++ [x] ++ jt (m+1) [])[A.length+1]'(by simp)=[]:=by
     rw [JN (by simp)];simp
    rw [h1,List.set_append_right _ _ (by simp)];simp [List.replicate_succ]
   ·rw [if_neg (by omega),ji];simp;omega
end Go.Proofs.YtijnkhcfondehaaGreatDoor
/-
 ch. 21: Encode is as specified; the law of checks.
-/
namespace Go.Proofs.YtijnkhcfondehaaGreatDoor
open Go.AE
theorem iwe:∀ k:Fin 256,(letB (UInt8.ofNat k.val)=true∨digB (UInt8.ofNat k.val)=true∨chB (UInt8.ofNat k.val)=true∨k.val=46)→okC (UInt8.ofNat k.val)=true:=by decide +kernel
theorem gyo {b:UInt8} (h:letB b=true∨digB b=true∨chB b=true∨b=46):okC b=true:=by
 have:=iwe ⟨b.toNat,b.toNat_lt⟩
 have e:UInt8.ofNat b.toNat=b:=by simp
 simp only [e] at this;refine this ?_;rcases h with h | h | h | h
 ·exact .inl h
 ·exact .inr (.inl h)
 ·exact .inr (.inr (.inl h))
 ·subst h;exact .inr (.inr (.inr rfl))
theorem fjq:∀ s:List UInt8,(∀ p∈parts s,p.all chB=true)→s.all okC=true
 | [],_=>rfl
 | b :: l,h=>by
  simp only [parts] at h;by_cases hb:b=46
  ·rw [if_pos hb] at h;rw [JV,gyo (.inr (.inr (.inr hb))),Jg];exact fjq l fun p hp=>h p (J4 _ hp)
  ·rw [if_neg hb] at h;cases hp:parts l with
   | nil=>exact absurd hp (ejk l)
   | cons p ps =>
    rw [hp] at h;have h0:=h _ List.mem_cons_self;simp only [JV,jf] at h0;rw [JV,gyo (.inr (.inr (.inl h0.1))),Jg];refine fjq l fun q hq=>?_;rw [hp] at hq;rcases jY.1 hq with rfl | hq
    ·exact h0.2
    ·exact h q (J4 _ hq)
theorem gjv {s:List UInt8} (h:eqk s=true):s.all okC=true∧s.length≤44:=by
 simp only [eqk,jf,decide_eq_true_eq,jK] at h;refine ⟨fjq s fun p hp=>?_,h.1⟩
 have:=h.2 p hp
 simp only [smp,jf] at this;exact this.2.1
theorem gkt {s:List UInt8} (h:serB s=true):s.all okC=true∧s.length≤6:=by
 simp only [serB,jf,decide_eq_true_eq,jK] at h;refine ⟨jK.2 fun b hb=>gyo ?_,h.1.2⟩
 have:=h.2 b hb
 simp only [Jq] at this;rcases this with h | h
 ·exact .inl h
 ·exact .inr (.inl h)
theorem fyc {v:aja} (h:rV v=true):OkV v:=by
 obtain ⟨hh,h1,h2,h3,h4⟩:=ik0.1 h;have hz:=hj5 hh;unfold head fj8 at hh;simp only [jf,inB,decide_eq_true_eq] at hh;obtain ⟨⟨⟨hs,hc1,hc2⟩,hd1,hd2⟩,he1,he2⟩:=hh;refine ⟨(gkt hs).1,(gkt hs).2,?_,hz,⟨h1,h2⟩,fun k hk=>?_⟩
 ·intro x hx;simp only [jY,List.not_mem_nil,or_false] at hx;rcases hx with rfl | rfl | rfl <;> omega
 ·obtain ⟨⟨hp,hx⟩,_⟩:=h3 k hk;unfold pLbl dscB at hp;simp only [jf,inB,decide_eq_true_eq] at hp;obtain ⟨⟨⟨⟨⟨hnm,hds⟩,he1,he2⟩,hv⟩,hov⟩,hu1,hu2⟩:=hp;have hval:=(akv _).1 hv
  have hul:((trkO (gt v.Sets k).Extents).length:Int)≤4611686018427387904:=by
   have hsum:∀ l:List aj0,l.all val=true→(trks l).length≤512 * l.length:=by
    intro l
    induction l with
    | nil=>intro _;simp [trks]
    | cons x l ih =>
     intro h;simp only [JV,jf] at h;have h5:=ih h.2;have h6:=(ay6 x).1 h.1;rw [bz4,ji,jx]
     have:(trk x).length≤512:=by simp [trk];omega
     omega
   have e:trkO (gt v.Sets k).Extents=trks (gt v.Sets k).Extents:=by
    unfold trkO;rw [dqy hval.1 (by simpa using hval.2)];simp
   rw [e]
   have:=hsum _ hval.1
   omega
  refine ⟨by omega,(gjv hnm).1,(gjv hnm).2,?_,?_⟩
  ·intro x hx;simp only [jY,List.not_mem_nil,or_false] at hx;rcases hx with rfl | rfl | rfl | rfl <;> omega
  ·intro x hx
   have:=(ay6 x).1 ((jK.1 hval.1) x hx)
   omega
theorem gzj (n:Nat) (hn:N0≤n) (v:aja) (b:List Int) (hb:b.length≤100) :
  ajg (fun (x:(List Int)×Int)=>bj1 n v [v.Cyls,v.Heads,v.Size] x.1 x.2) n (b,0)=some (b ++ h2 v.Cyls ++ h2 v.Heads ++ h2 v.Size):=by
 have hn0:4194304≤n:=hn;obtain ⟨m,rfl⟩:∃ m,n=m+1+1+1+1:=⟨n - 4,by omega⟩;generalize hN:m+1+1+1+1=N at *
 have step:∀ (j:Nat) (b':List Int) (x:Int),j < 3→b'.length≤200→gt [v.Cyls,v.Heads,v.Size] j=x→bj1 N v [v.Cyls,v.Heads,v.Size] b' (j:Int)=some (.inl (b' ++ h2 x,((j+1:Nat):Int))):=by
  intro j b' x hj hb' hx;unfold bj1;simp only [decide_eq_true (show (j:Int) < 3 by omega),cond_true,ju,hx];rw [ajb _ ⟨⟨by omega,by simp;omega⟩,by simpa using hj⟩,fzq N x,je,ajb _ (by rw [ak0];omega),wid (n:=(j:Int)+1) (by omega)];rfl
 rw [← hN];refine (ajm (x':=(b ++ h2 v.Cyls,1)) (by rw [hN];exact step 0 b _ (by omega) (by omega) rfl)).trans ?_;refine (ajm (x':=(b ++ h2 v.Cyls ++ h2 v.Heads,2)) (by rw [hN];exact step 1 _ _ (by omega) (by simp [ak0];omega) rfl)).trans ?_;refine (ajm (x':=(b ++ h2 v.Cyls ++ h2 v.Heads ++ h2 v.Size,3)) (by rw [hN];exact step 2 _ _ (by omega) (by simp [ak0];omega) rfl)).trans ?_;refine ajn ?_;rfl
theorem hyi (n:Nat) (hn:N0≤n) (v:aja) (hv:OkV v) (b:List Int) (hb:b.length≤100) :
  ajg (fun (x:(List Int)×Int)=>akz n v [v.Cyls,v.Heads,v.Size] x.1 x.2) n (b,0)=some (b ++ h2 v.Cyls ++ h2 v.Heads ++ h2 v.Size):=by
 have hn0:4194304≤n:=hn;obtain ⟨m,rfl⟩:∃ m,n=m+1+1+1+1:=⟨n - 4,by omega⟩;generalize hN:m+1+1+1+1=N at *
 have step:∀ (j:Nat) (b':List Int) (x:Int),j < 3→b'.length≤200→gt [v.Cyls,v.Heads,v.Size] j=x→akz N v [v.Cyls,v.Heads,v.Size] b' (j:Int)=some (.inl (b' ++ h2 x,((j+1:Nat):Int))):=by
  intro j b' x hj hb' hx;unfold akz
  have hm:x∈[v.Cyls,v.Heads,v.Size]:=by
   rw [← hx,aqy (by simpa using hj)];exact jB _
  simp only [decide_eq_true (show (j:Int) < 3 by omega),cond_true,ju,hx];rw [ajb _ ⟨⟨by omega,by simp;omega⟩,by simpa using hj⟩,dzr N x (hv.nums x hm),je,ajb _ (by rw [ak0];omega),wid (n:=(j:Int)+1) (by omega)];rfl
 rw [← hN];refine (ajm (x':=(b ++ h2 v.Cyls,1)) (by rw [hN];exact step 0 b _ (by omega) (by omega) rfl)).trans ?_;refine (ajm (x':=(b ++ h2 v.Cyls ++ h2 v.Heads,2)) (by rw [hN];exact step 1 _ _ (by omega) (by simp [ak0];omega) rfl)).trans ?_;refine (ajm (x':=(b ++ h2 v.Cyls ++ h2 v.Heads ++ h2 v.Size,3)) (by rw [hN];exact step 2 _ _ (by omega) (by simp [ak0];omega) rfl)).trans ?_;refine ajn ?_;rfl
theorem hjf (n:Nat) (hn:N0≤n) (v:aja) (hl:ej6 v):bj8 n v=some (if rV v=true then (encT v,0) else ([],5)):=by
 have hn0:4194304≤n:=hn;unfold bj8;rw [gy6 n hn v hl,iy2,je];cases hr:rV v with
 | false=>simp
 | true =>
  have hv:=fyc hr;simp only [if_true,bne_self_eq_false,cond_false];have e4:([86,79,76,49]:List UInt8).all okC=true:=by decide
  rw [show (4:Int)=((4:Nat):Int) from rfl,show (6:Int)=((6:Nat):Int) from rfl,ew7 n hn _ 4 (by decide) (by decide) e4,je,ew7 n hn v.Serial 6 hv.slen (by omega) hv.ser,je];have l4:=bqy [86,79,76,49] 4 (by decide);have l6:=bqy v.Serial 6 hv.slen;rw [ajb _ (by rw [l4,l6];omega),gzj n hn v _ (by rw [ji,l4,l6];omega),je];unfold bwc
  have hl16:(txt [86,79,76,49] 4 ++ txt v.Serial 6 ++ h2 v.Cyls ++ h2 v.Heads ++ h2 v.Size).length=16:=by
   simp only [ji,l4,l6,ak0]
  have l64:=bqy [] 64 (by decide);have hS1:ja .i64 (v.Size+1)=v.Size+1:=wid (by have:=hv.size;omega);obtain ⟨hz1,hz2⟩:=hv.size;rw [hl16,wid (n:=80 - ((16:Nat):Int)) (by omega),show (80 - ((16:Nat):Int))=((64:Nat):Int) from rfl,ew7 n hn [] 64 (by decide) (by decide) (by decide),je,ajb _ (by rw [l64];omega),hS1,ajb _ ⟨by omega,by omega,by omega⟩];rw [show (4:Int)=((4:Nat):Int) from rfl,ew7 n hn _ 4 (by decide) (by decide) e4,je,ajb _ ⟨by omega,by omega⟩]
  have key:=gyl n hn v hv v.Size.toNat (by omega) (vol v) v.Sets.length 0 n [] [vol v] v.Size.toNat (by omega) (by have:=hv.sets;omega) (by
   simp only [Je,List.take_zero,List.singleton_append];congr 1;apply J1
   ·simp [ejz]
   ·intro i h1 h2
    rw [fz6];simp) (by simp) (by simp;omega)
  have e:(v.Size+1).toNat - 1=v.Size.toNat:=by omega
  rw [e];have key':ajg (fun (x:List (List TRec)×List TRec×Nat×Int)=>az8 n v x.1 x.2.1 x.2.2.1 x.2.2.2) n ([],[(⟨3,txt [86,79,76,49] 4,txt [86,79,76,49] 4 ++ txt v.Serial 6 ++ h2 v.Cyls ++ h2 v.Heads ++ h2 v.Size ++ txt [] 64,false⟩:TRec)],v.Size.toNat,0)=some (encT v):=key;rw [key',je];rfl
theorem fzn (n:Nat) (hn:N0≤n) (v:aja) (hv:OkV v) (out:List (List TRec)) (q:Nat) (hq:q≤511):∀ r k mm,k+r=(((recs v).drop (14 * q)).take 14).length→r < mm →
  ajg (fun (x:(List TRec)×Int)=>azs n v out (q:Int) x.1 x.2) mm ((((recs v).drop (14 * q)).take 14).take k,(k:Int))=some (((recs v).drop (14 * q)).take 14):=by
 obtain ⟨hs1,hs2⟩:=hv.sets;have hlen:(((recs v).drop (14 * q)).take 14).length=min 14 (v.Sets.length - 14 * q):=by rw [jk,jE,dqs]
 intro r
 induction r with
 | zero =>
  intro k mm hj hm;obtain ⟨mm,rfl⟩:∃ p,mm=p+1:=⟨mm - 1,by omega⟩;refine ajn ?_;unfold azs
  have hc:(if (decide ((k:Int) < 14))=true then (decide ((ja .i64 ((ja .i64 ((q:Int) * 14))+(k:Int))) < (v.Sets.length:Int))) else false)=false:=by
   rw [wid (n:=(q:Int) * 14) (by omega),wid (by omega)];rw [hlen] at hj;by_cases h14:(k:Int) < 14
   ·rw [if_pos (by simpa using h14)];simp;omega
   ·rw [if_neg (by simpa using h14)]
  rw [hc];simp only [cond_false];rw [jL (by omega)]
 | succ r ih =>
  intro k mm hj hm;obtain ⟨mm,rfl⟩:∃ p,mm=p+1:=⟨mm - 1,by omega⟩;refine (ajm (x':=((((recs v).drop (14 * q)).take 14).take (k+1),((k+1:Nat):Int))) ?_).trans (ih (k+1) mm (by omega) (by omega));have hk:k < (((recs v).drop (14 * q)).take 14).length:=by omega
  have hk2:=hk;rw [hlen] at hk2;have hjs:14 * q+k < v.Sets.length:=by omega
  unfold azs
  have hw:ja .i64 ((ja .i64 ((q:Int) * 14))+(k:Int))=((14 * q+k:Nat):Int):=by
   rw [wid (n:=(q:Int) * 14) (by omega),wid (by omega)];omega
  rw [hw]
  have hc:(if (decide ((k:Int) < 14))=true then (decide (((14 * q+k:Nat):Int) < (v.Sets.length:Int))) else false)=true:=by
   rw [if_pos (by simp;omega)];simp;omega
  rw [hc];simp only [cond_true,ju];have hw2:ja .i64 ((k:Int)+1)=((k+1:Nat):Int):=by rw [wid (by omega)];omega
  rw [ajb _ ⟨by omega,by omega⟩,hw2,gw5 n hn _ _ (hv.lbl _ hjs),je,ajb _ (by rw [jk];omega)];rw [j6 hk]
  have hg:(((recs v).drop (14 * q)).take 14)[k]=rcP ((k+1:Nat):Int) (gt v.Sets (14 * q+k)):=by
   rw [List.getElem_take,List.getElem_drop,ey7];congr 1
   have:(14 * q+k) % 14=k:=by omega
   rw [this]
  rw [hg]
theorem gyw (n:Nat) (hn:N0≤n) (v:aja) (hv:OkV v) (w:TRec):∀ r j mm,((j+r:Nat):Int)=v.Size→r < mm →
  ajg (fun (x:(List (List TRec))×Int)=>azr n v x.1 x.2) mm ([w] :: tr j (recs v),(j:Int))=some ([w] :: tr v.Size.toNat (recs v)):=by
 have hn0:4194304≤n:=hn;obtain ⟨hz1,hz2⟩:=hv.size;intro r
 induction r with
 | zero =>
  intro j mm hj hm;obtain ⟨mm,rfl⟩:∃ p,mm=p+1:=⟨mm - 1,by omega⟩;refine ajn ?_;unfold azr;simp only [show decide ((j:Int) < v.Size)=false by simp;omega,cond_false]
  have:v.Size.toNat=j:=by omega
  rw [this]
 | succ r ih =>
  intro j mm hj hm;obtain ⟨mm,rfl⟩:∃ p,mm=p+1:=⟨mm - 1,by omega⟩;refine (ajm (x':=([w] :: tr (j+1) (recs v),((j+1:Nat):Int))) ?_).trans (ih (j+1) mm (by omega) (by omega));unfold azr;simp only [decide_eq_true (show (j:Int) < v.Size by omega),cond_true];have key:=fzn n hn v hv ([w] :: tr j (recs v)) j (by omega) (((recs v).drop (14 * j)).take 14).length 0 n (by omega) (by rw [jk];omega);have key':ajg (fun (x:(List TRec)×Int)=>azs n v ([w] :: tr j (recs v)) (j:Int) x.1 x.2) n ([],0)=some (((recs v).drop (14 * j)).take 14):=key;rw [key',je];unfold bq7 bjt;rw [ajb _ (by simp [ejz];omega),wid (n:=(j:Int)+1) (by omega),ijz];rfl
theorem gw0 (n:Nat) (hn:N0≤n) (v:aja) (hl:ej6 v):bjj n v=some (if rV v=true then (encT v,0) else ([],5)):=by
 have hn0:4194304≤n:=hn;unfold bjj;rw [gkr n hn v hl,je];cases hr:rV v with
 | false=>simp
 | true =>
  have hv:=fyc hr;simp only [if_true,jR,cond_false];have e4:([86,79,76,49]:List UInt8).all okC=true:=by decide
  rw [show (4:Int)=((4:Nat):Int) from rfl,show (6:Int)=((6:Nat):Int) from rfl,dzk n hn _ 4 (by decide) (by decide) e4,je,dzk n hn v.Serial 6 hv.slen (by omega) hv.ser,je];have l4:=bqy [86,79,76,49] 4 (by decide);have l6:=bqy v.Serial 6 hv.slen;rw [ajb _ (by rw [l4,l6];omega),hyi n hn v hv _ (by rw [ji,l4,l6];omega),je];unfold bjw
  have hl16:(txt [86,79,76,49] 4 ++ txt v.Serial 6 ++ h2 v.Cyls ++ h2 v.Heads ++ h2 v.Size).length=16:=by
   simp only [ji,l4,l6,ak0]
  have l64:=bqy [] 64 (by decide);obtain ⟨hz1,hz2⟩:=hv.size;rw [show (64:Int)=((64:Nat):Int) from rfl,dzk n hn [] 64 (by decide) (by decide) (by decide),je,ajb _ (by rw [l64,hl16];omega)];rw [show (4:Int)=((4:Nat):Int) from rfl,dzk n hn _ 4 (by decide) (by decide) e4,je];have key:=gyw n hn v hv (vol v) v.Size.toNat 0 n (by omega) (by omega);have key':ajg (fun (x:(List (List TRec))×Int)=>azr n v x.1 x.2) n ([[(⟨3,txt [86,79,76,49] 4,txt [86,79,76,49] 4 ++ txt v.Serial 6 ++ h2 v.Cyls ++ h2 v.Heads ++ h2 v.Size ++ txt [] 64,false⟩:TRec)]],0)=some (encT v):=key;rw [key',je];rfl
end Go.Proofs.YtijnkhcfondehaaGreatDoor
/-
 ch. 21: numbers of two bytes, texts of codes.
-/
namespace Go.Proofs.YtijnkhcfondehaaGreatDoor
open Go.AE
def byL (l:List Int):Prop:=∀ x∈l,0≤x∧x < 256
theorem bzi {l:List Int} (h:byL l) {k:Nat} (hk:k < l.length):0≤gt l k∧gt l k < 256:=by
 rw [aqy hk];exact h _ (jB hk)
def h16 (b:List Int) (i:Nat):Int:=256 * gt b i+gt b (i+1)
theorem hzr (a b:Nat) (ha:a < 256) (hb:b < 256) :
  (ja .i64 ((ja .u32 (((BitVec.ofInt (jj .u32) (ja .u32 ((ja .i32 ((ja .i16 (((BitVec.ofInt (jj .i16) (ja .i16 ((ja .i16 ((a:Int))) * 2 ^ min 8 (jj .i16))) ||| BitVec.ofInt (jj .i16) (ja .i16 ((b:Int)))).toNat:Int))))))) &&& BitVec.ofInt (jj .u32) 65535).toNat:Int)))))=256 * (a:Int)+b:=by
 have hw16:∀ x:Int,ja .i16 x=if x % 65536 ≥ 32768 then x % 65536 - 65536 else x % 65536:=fun x=>by simp [ja,jj,Jz]
 have hw32:∀ x:Int,ja .i32 x=if x % 4294967296 ≥ 2147483648 then x % 4294967296 - 4294967296 else x % 4294967296:=fun x=>by simp [ja,jj,Jz]
 have hwu:∀ x:Int,ja .u32 x=x % 4294967296:=fun x=>by simp [ja,jj,Jz]
 have ea:ja .i16 (a:Int)=a:=by rw [hw16];split <;> omega
 have eb:ja .i16 (b:Int)=b:=by rw [hw16];split <;> omega
 have e8:(2:Int) ^ min 8 (jj .i16)=256:=by decide
 rw [ea,eb,e8]
 have hX:(BitVec.ofInt (jj .i16) (ja .i16 ((a:Int) * 256))).toNat=a <<< 8:=by
  show (BitVec.ofInt 16 _).toNat=_;rw [BitVec.toNat_ofInt,hw16,Nat.shiftLeft_eq]
  split <;> omega
 have hY:(BitVec.ofInt (jj .i16) (b:Int)).toNat=b:=by
  show (BitVec.ofInt 16 _).toNat=_;rw [BitVec.toNat_ofInt];omega
 have hor:a <<< 8 ||| b=a * 256+b:=by
  rw [← Nat.shiftLeft_add_eq_or_of_lt (by simpa using hb),Nat.shiftLeft_eq]
 rw [BitVec.toNat_or,hX,hY,hor];have hm:a * 256+b < 65536:=by omega
 rw [show 256 * (a:Int)+b=((a * 256+b:Nat):Int) by omega];generalize a * 256+b=m at hm
 obtain ⟨z,hz,hzm⟩:∃ z:Nat,ja .u32 (ja .i32 (ja .i16 (m:Int)))=(z:Int)∧z < 4294967296∧z % 65536=m:=by
  refine ⟨if m ≥ 32768 then m+4294901760 else m,?_,?_,?_⟩
  ·rw [hwu,hw32,hw16]
   split <;> split <;> split <;> omega
  ·split <;> omega
  ·split <;> omega
 rw [hz]
 have hZ:(BitVec.ofInt (jj .u32) (z:Int)).toNat=z:=by
  show (BitVec.ofInt 32 _).toNat=_;rw [BitVec.toNat_ofInt];omega
 have hF:(BitVec.ofInt (jj .u32) 65535).toNat=2 ^ 16 - 1:=by decide
 rw [BitVec.toNat_and,hZ,hF,Nat.and_two_pow_sub_one_eq_mod,show z % 2 ^ 16=m from hzm.2,hwu,wid (by omega)];omega
theorem cqi (n:Nat) {b:List Int} (hb:byL b) {i:Nat} (hi:i+1 < b.length) (hl:b.length≤1000000):awg n b (i:Int)=some (h16 b i):=by
 have h0:=bzi hb (k:=i) (by omega);have h1:=bzi hb (k:=i+1) (by omega);have e2:(ja .i64 ((i:Int)+1)).toNat=i+1:=by rw [wid (by omega)];omega
 have hf:cwf n b (i:Int) 2=some true:=by
  unfold cwf;rw [wid (n:=(b.length:Int) - 2) (by omega),decide_eq_true (show (i:Int) ≥ 0 by omega),decide_eq_true (show (i:Int)≤(b.length:Int) - 2 by omega)];rfl
 unfold awg dw0;rw [hf,je];simp only [jR,cond_false];rw [ajb _ ⟨⟨by omega,by omega⟩,by rw [wid (n:=(i:Int)+1) (by omega)];omega⟩,je,e2,ju]
 have:=hzr (gt b i).toNat (gt b (i+1)).toNat (by omega) (by omega)
 rw [show (((gt b i).toNat:Nat):Int)=gt b i by omega,show (((gt b (i+1)).toNat:Nat):Int)=gt b (i+1) by omega] at this;rw [h16,← this]
theorem cjs (n:Nat) {b:List Int} (hb:byL b) {i:Nat} (hi:i+1 < b.length) (hl:b.length≤1000000):aqr n b (i:Int)=some (h16 b i):=by
 have h0:=bzi hb (k:=i) (by omega);have h1:=bzi hb (k:=i+1) (by omega);have e2:(ja .i64 ((i:Int)+1)).toNat=i+1:=by rw [wid (by omega)];omega
 unfold aqr;rw [ajb _ ⟨⟨by omega,by omega⟩,by rw [wid (n:=(i:Int)+1) (by omega)];omega⟩,e2,ju,wid (n:=gt b i) (by omega),wid (n:=gt b (i+1)) (by omega),wid (n:=256 * gt b i) (by omega),wid (by omega)];rfl
theorem hkj:∀ k:Fin 256,bzy 200 (k.val:Int)=some (eChC (k.val:Int),eChO (k.val:Int)):=by decide +kernel
theorem iw0 (n:Nat) (hn:N0≤n) {x:Int} (hx:0≤x∧x < 256):bzy n x=some (eChC x,eChO x):=by
 have hn0:4194304≤n:=hn;have h:=hkj ⟨x.toNat,by omega⟩;simp only [show ((x.toNat:Nat):Int)=x by omega] at h;unfold bzy at h ⊢;obtain ⟨r,hr,h⟩:=bind_some h;obtain ⟨y,hy,h⟩:=bind_some h;rw [show bkf n=some r from hr,je];have hy':ajg (fun (x_1:Int)=>cq2 n x r x_1) 200 0=some y:=hy;rw [ey0 (by omega) hy',je];exact h
def eCh (x:Int):Int:=if eChO x=true then eChC x else 46
theorem hw4 (n:Nat) (hn:N0≤n) (b:List Int) (hb:byL b) (hl:b.length≤1000000):∀ r j m,j+r=b.length→r < m →
  ajg (fun (x:(List Int)×Int)=>azf n b x.1 x.2) m ((b.take j).map eCh,(j:Int))=some (b.map eCh):=by
 intro r
 induction r with
 | zero =>
  intro j m hj hm;obtain ⟨m,rfl⟩:∃ q,m=q+1:=⟨m - 1,by omega⟩
  have:j=b.length:=by omega
  subst this;refine ajn ?_;unfold azf;simp only [show decide ((b.length:Int) < (b.length:Int))=false by simp,cond_false,List.take_length]
 | succ r ih =>
  intro j m hj hm;obtain ⟨m,rfl⟩:∃ q,m=q+1:=⟨m - 1,by omega⟩;have hjs:j < b.length:=by omega
  refine (ajm (x':=((b.take (j+1)).map eCh,((j+1:Nat):Int))) ?_).trans (ih (j+1) m (by omega) (by omega));unfold azf;simp only [decide_eq_true (show (j:Int) < (b.length:Int) by omega),cond_true,ju];rw [ajb _ ⟨by omega,by omega⟩,iw0 n hn (bzi hb hjs),je];rw [j6 hjs,J6,← aqy hjs];unfold akt bqr;rw [wid (n:=(j:Int)+1) (by omega)];simp only [List.map_cons,List.map_nil,eCh];cases eChO (gt b j) with
  | false=>rw [ajb _ (by simp;omega)];rfl
  | true=>simp only [jR,cond_false];rw [ajb _ (by simp;omega)];rfl
theorem gk5 (n:Nat) (hn:N0≤n) (b:List Int) (hb:byL b) (hl:b.length≤1000000):bwu n b=some (decM b):=by
 have hn0:4194304≤n:=hn;have key:=hw4 n hn b hb hl b.length 0 n (by omega) (by omega);have key':ajg (fun (x:(List Int)×Int)=>azf n b x.1 x.2) n ([],0)=some (b.map eCh):=key;unfold bwu;rw [key',je,bqq,awk,decM,JE];congr 1;refine jV fun x _=>?_;show UInt8.ofNat (eCh x).toNat=eChB x;unfold eCh eChB
 split <;> rfl
theorem gki (n:Nat) (b:List Int) (hl:b.length≤1000000):∀ k m,k≤b.length→k < m →
  ajg (fun (x:Int)=>ayd n b x) m (k:Int)=some ((ewu b k:Nat):Int):=by
 intro k
 induction k with
 | zero =>
  intro m hk hm;obtain ⟨m,rfl⟩:∃ q,m=q+1:=⟨m - 1,by omega⟩;refine ajn ?_;unfold ayd;rw [ajb _ (by intro h;simp at h)];rfl
 | succ k ih =>
  intro m hk hm;obtain ⟨m,rfl⟩:∃ q,m=q+1:=⟨m - 1,by omega⟩;have e1:ja .i64 (((k+1:Nat):Int) - 1)=(k:Int):=by rw [wid (by omega)];omega
  have hp:decide (((k+1:Nat):Int) > 0)=true:=decide_eq_true (by omega)
  have hb:ayd n b ((k+1:Nat):Int)=some (if gt b k == 64 then .inl (k:Int) else .inr ((k+1:Nat):Int)):=by
   unfold ayd;rw [ajb _ (by intro _;rw [e1];exact ⟨by omega,by omega⟩),e1,hp];simp only [if_true,ju];cases gt b k == 64 <;> rfl
  have hg:gt b k=b.getD k 0:=by simp [gt,jb,show k < b.length by omega]
  unfold ewu;by_cases h64:b.getD k 0=64
  ·rw [if_pos h64];rw [hg,h64] at hb;rw [ajm (x':=(k:Int)) (by simpa using hb),ih m (by omega) (by omega)]
  ·rw [if_neg h64]
   have:(gt b k == 64)=false:=by rw [hg];simpa using h64
   rw [this] at hb;exact ajn (by simpa using hb)
theorem gj7 (n:Nat) (hn:N0≤n) (b:List Int) (hb:byL b) (hl:b.length≤1000000):bzz n b=some (czj b):=by
 have hn0:4194304≤n:=hn;have hle:=eji b b.length;unfold bzz ckl;rw [gki n b hl b.length n (jA _) (by omega),je];unfold bzs;rw [ajb _ ⟨by omega,by omega⟩,ju,gk5 n hn _ (fun x hx=>hb x (List.mem_of_mem_take hx)) (by rw [jk];omega)];rfl
end Go.Proofs.YtijnkhcfondehaaGreatDoor
/-
 ch. 21: labels and tables out of tracks.
-/
namespace Go.Proofs.YtijnkhcfondehaaGreatDoor
open Go.AE
theorem hjz {α β Y:Type} (l:List α) (p:α→Bool) (f:α→List β) (y:Y) (o c:Nat) (hc:∀ a∈l,(f a).length≤c) (acc:List β)
  (body:List β×Int→Option ((List β×Int) ⊕ (Y ⊕ List β)))
  (hb:∀ k (hk:k < l.length) (s:List β),s.length≤acc.length+c * k→body (s,((o+k:Nat):Int))=some (if p l[k]=true then .inr (.inl y) else .inl (s ++ f l[k],((o+k+1:Nat):Int))))
  (he:∀ s,body (s,((o+l.length:Nat):Int))=some (.inr (.inr s))):∀ r j m (s:List β),j+r=l.length→r < m→s.length≤acc.length+c * j →
  ajg body m (s,((o+j:Nat):Int))=some (if (l.drop j).any p=true then .inl y else .inr (s ++ (l.drop j).flatMap f)):=by
 intro r
 induction r with
 | zero =>
  intro j m s hj hm hs;obtain ⟨m,rfl⟩:∃ q,m=q+1:=⟨m - 1,by omega⟩
  have:j=l.length:=by omega
  subst this;rw [ajn (he s)];simp
 | succ r ih =>
  intro j m s hj hm hs;obtain ⟨m,rfl⟩:∃ q,m=q+1:=⟨m - 1,by omega⟩;have hjl:j < l.length:=by omega
  have h:=hb j hjl s hs;rw [List.drop_eq_getElem_cons hjl,List.any_cons,JG];cases hp:p l[j] with
  | true =>
   rw [hp] at h;rw [ajn (by simpa using h)];simp
  | false =>
   rw [hp] at h;have hx:=hc l[j] (jB hjl);rw [ajm (x':=(s ++ f l[j],((o+(j+1):Nat):Int))) (by simpa [Nat.add_assoc] using h),ih (j+1) m _ (by omega) (by omega) (by rw [ji,Nat.mul_succ];omega)];simp
theorem coll {α β Y:Type} (l:List α) (p:α→Bool) (f:α→List β) (y:Y) (o c:Nat) (hc:∀ a∈l,(f a).length≤c) (acc:List β)
  (body:List β×Int→Option ((List β×Int) ⊕ (Y ⊕ List β)))
  (hb:∀ k (hk:k < l.length) (s:List β),s.length≤acc.length+c * k→body (s,((o+k:Nat):Int))=some (if p l[k]=true then .inr (.inl y) else .inl (s ++ f l[k],((o+k+1:Nat):Int))))
  (he:∀ s,body (s,((o+l.length:Nat):Int))=some (.inr (.inr s))) {n:Nat} (hn:l.length < n) :
  ajg body n (acc,(o:Int))=some (if l.any p=true then .inl y else .inr (acc ++ l.flatMap f)):=by
 have:=hjz l p f y o c hc acc body hb he l.length 0 n acc (by omega) hn (by omega)
 simpa using this
def exM (D:List Int):List aj0:=(Jc (gt D 12).toNat).map fun i=>⟨h16 D (13+4 * i),h16 D (15+4 * i)⟩
def labM (r:TRec):aj8:=⟨czj r.Key,⟨gt r.Data 0,gt r.Data 1,decide (gt r.Data 2 ≥ 128),(Int.tmod (ja .u8 (Int.tdiv (gt r.Data 2) 64)) 2) == 1,h16 r.Data 4,h16 r.Data 6,gt r.Data 3,h16 r.Data 8⟩,exM r.Data,h16 r.Data 10⟩
def badR (r:TRec):Bool:=((r.Data.length:Int) != 45) || decide (gt r.Data 12 > 8)
theorem gkz:∀ k:Fin 256,((ja .u8 (((BitVec.ofInt (jj .u8) (k.val:Int) &&& BitVec.ofInt (jj .u8) 128).toNat:Int))) != 0)=decide ((k.val:Int) ≥ 128)∧((ja .u8 (((BitVec.ofInt (jj .u8) (k.val:Int) &&& BitVec.ofInt (jj .u8) 64).toNat:Int))) != 0)=((Int.tmod (ja .u8 (Int.tdiv (k.val:Int) 64)) 2) == 1):=by decide +kernel
theorem flags {x:Int} (h:0≤x∧x < 256):((ja .u8 (((BitVec.ofInt (jj .u8) x &&& BitVec.ofInt (jj .u8) 128).toNat:Int))) != 0)=decide (x ≥ 128)∧((ja .u8 (((BitVec.ofInt (jj .u8) x &&& BitVec.ofInt (jj .u8) 64).toNat:Int))) != 0)=((Int.tmod (ja .u8 (Int.tdiv x 64)) 2) == 1):=by
 have:=gkz ⟨x.toNat,by omega⟩
 simpa only [show ((x.toNat:Nat):Int)=x by omega] using this
theorem dk1 (D:List Int):(exM D).length=(gt D 12).toNat:=by simp [exM]
theorem gjo (D:List Int) {j:Nat} (hj:j < (gt D 12).toNat):(exM D).take (j+1)=(exM D).take j ++ [⟨h16 D (13+4 * j),h16 D (15+4 * j)⟩]:=by
 rw [j6 (by rw [dk1];exact hj)];simp [exM]
theorem hwy (n:Nat) (r_:TRec) (hd:r_.Data.length=45) (hb:byL r_.Data) (h8:gt r_.Data 12≤8) (a1:List UInt8) (a2 a3:Int) (a4 a5:Bool) (a6 a7 a8 a9 a10:Int):∀ r j m,j+r=(gt r_.Data 12).toNat→r < m →
  ajg (fun (x:(List aj0)×Int)=>bjs n r_ a1 a2 a3 a4 a5 a6 a7 a8 a9 a10 x.1 x.2) m ((exM r_.Data).take j,(j:Int))=some (exM r_.Data):=by
 have h12:=bzi hb (k:=12) (by omega);have hle:(exM r_.Data).length≤8:=by rw [dk1];omega
 intro r
 induction r with
 | zero =>
  intro j m hj hm;obtain ⟨m,rfl⟩:∃ q,m=q+1:=⟨m - 1,by omega⟩;refine ajn ?_;unfold bjs;rw [ajb _ (by omega),wid (n:=gt r_.Data 12) (by omega),show decide ((j:Int) < gt r_.Data 12)=false from decide_eq_false (by omega),jL (by rw [dk1];omega)];rfl
 | succ r ih =>
  intro j m hj hm;obtain ⟨m,rfl⟩:∃ q,m=q+1:=⟨m - 1,by omega⟩;refine (ajm (x':=((exM r_.Data).take (j+1),((j+1:Nat):Int))) ?_).trans (ih (j+1) m (by omega) (by omega));unfold bjs;rw [ajb _ (by omega),wid (n:=gt r_.Data 12) (by omega),show decide ((j:Int) < gt r_.Data 12)=true from decide_eq_true (by omega),cond_true];rw [wid (n:=4 * (j:Int)) (by omega),wid (n:=13+4 * (j:Int)) (by omega),wid (n:=15+4 * (j:Int)) (by omega)];rw [show 13+4 * (j:Int)=((13+4 * j:Nat):Int) by omega,show 15+4 * (j:Int)=((15+4 * j:Nat):Int) by omega];rw [cqi n hb (by omega) (by omega),je,cqi n hb (by omega) (by omega),je,ajb _ (by rw [jk];omega),wid (n:=(j:Int)+1) (by omega),gjo _ (by omega)];rfl
theorem gyk (n:Nat) (l:List (List TRec)) (v5:List UInt8) (v6 v7 v8:Int) (v11:List aj8) (n_ k R:Int) (K:List Int) (B:Bool) (D:List Int) (hd:D.length=45) (hb:byL D) (h8:gt D 12≤8) (a1:List UInt8) (a2 a3:Int) (a4 a5:Bool) (a6 a7 a8 a9 a10:Int):∀ r j m,j+r=(gt D 12).toNat→r < m →
  ajg (fun (x:(List aj0)×Int)=>ayq n l v5 v6 v7 v8 v11 n_ k R K D B a1 a2 a3 a4 a5 a6 a7 a8 a9 a10 x.1 x.2) m ((exM D).take j,(j:Int))=some (exM D):=by
 have h12:=bzi hb (k:=12) (by omega);have hle:(exM D).length≤8:=by rw [dk1];omega
 intro r
 induction r with
 | zero =>
  intro j m hj hm;obtain ⟨m,rfl⟩:∃ q,m=q+1:=⟨m - 1,by omega⟩;refine ajn ?_;unfold ayq;rw [ajb _ (by omega),wid (n:=gt D 12) (by omega),show decide ((j:Int) < gt D 12)=false from decide_eq_false (by omega),jL (by rw [dk1];omega)];rfl
 | succ r ih =>
  intro j m hj hm;obtain ⟨m,rfl⟩:∃ q,m=q+1:=⟨m - 1,by omega⟩;refine (ajm (x':=((exM D).take (j+1),((j+1:Nat):Int))) ?_).trans (ih (j+1) m (by omega) (by omega));unfold ayq;rw [ajb _ (by omega),wid (n:=gt D 12) (by omega),show decide ((j:Int) < gt D 12)=true from decide_eq_true (by omega),cond_true];rw [wid (n:=4 * (j:Int)) (by omega),wid (n:=13+4 * (j:Int)) (by omega),wid (n:=15+4 * (j:Int)) (by omega)];rw [show 13+4 * (j:Int)=((13+4 * j:Nat):Int) by omega,show 15+4 * (j:Int)=((15+4 * j:Nat):Int) by omega];rw [cjs n hb (by omega) (by omega),je,cjs n hb (by omega) (by omega),je,ajb _ (by rw [jk];omega),wid (n:=(j:Int)+1) (by omega),gjo _ (by omega)];rfl
theorem hq4 (n:Nat) (hn:N0≤n) (r:TRec) (hk:byL r.Key) (hb:byL r.Data) (hkl:r.Key.length≤1000000):cj7 n r=some (if badR r=true then (⟨[],⟨0,0,false,false,0,0,0,0⟩,[],0⟩,false) else (labM r,true)):=by
 have hn0:4194304≤n:=hn;unfold cj7;by_cases hd:r.Data.length=45
 ·have h12:=bzi hb (k:=12) (by omega);have e1:((r.Data.length:Int) != 45)=false:=by rw [hd];rfl
  rw [ajb _ (by intro _;omega),e1];simp only [jm,if_false,wid (n:=gt r.Data 12) (by omega)];unfold badR;rw [e1,JW];by_cases h8:gt r.Data 12 > 8
  ·rw [decide_eq_true h8];rfl
  ·rw [decide_eq_false h8];simp only [cond_false,jm,if_false,bw0,je];have h0:=bzi hb (k:=0) (by omega);have h1:=bzi hb (k:=1) (by omega);have h2':=bzi hb (k:=2) (by omega);have h3:=bzi hb (k:=3) (by omega);rw [ajb _ (by omega)];rw [show (4:Int)=((4:Nat):Int) from rfl,show (6:Int)=((6:Nat):Int) from rfl,show awg n r.Data 8=awg n r.Data ((8:Nat):Int) from rfl,show (10:Int)=((10:Nat):Int) from rfl];rw [cqi n hb (i:=4) (by omega) (by omega),je,cqi n hb (i:=6) (by omega) (by omega),je,cqi n hb (i:=8) (by omega) (by omega),je,cqi n hb (i:=10) (by omega) (by omega),je];have key:=hwy n r hd hb (by omega) (czj r.Key) (ja .i64 (gt r.Data 0)) (ja .i64 (gt r.Data 1)) ((ja .u8 (((BitVec.ofInt (jj .u8) (gt r.Data 2) &&& BitVec.ofInt (jj .u8) 128).toNat:Int))) != 0) ((ja .u8 (((BitVec.ofInt (jj .u8) (gt r.Data 2) &&& BitVec.ofInt (jj .u8) 64).toNat:Int))) != 0) (h16 r.Data 4) (h16 r.Data 6) (ja .i64 (gt r.Data 3)) (h16 r.Data 8) (h16 r.Data 10) (gt r.Data 12).toNat 0 n (by omega) (by omega);simp only [List.take_zero] at key;rw [show (((0:Nat)):Int)=0 from rfl] at key;rw [key,je];unfold bzu;rw [(flags h2').1,(flags h2').2,wid (n:=gt r.Data 0) (by omega),wid (n:=gt r.Data 1) (by omega),wid (n:=gt r.Data 3) (by omega)];rfl
 ·have e1:((r.Data.length:Int) != 45)=true:=by simp;omega
  rw [ajb _ (by rw [e1];intro h;simp at h),e1];unfold badR;rw [e1];rfl
end Go.Proofs.YtijnkhcfondehaaGreatDoor
/-
 ch. 21: what table tracks say.
-/
namespace Go.Proofs.YtijnkhcfondehaaGreatDoor
open Go.AE
def okT (t:List TRec):Prop:=t.length≤20∧∀ r∈t,byL r.Key∧byL r.Data∧r.Key.length≤300∧r.Data.length≤300
def okLL (l:List (List TRec)):Prop:=l.length≤12∧∀ t∈l,okT t
def zV:aja:=⟨[],0,0,0,[]⟩
theorem p_in (n:Nat) (hn:N0≤n) (l:List (List TRec)) (a:List UInt8) (b c d:Int) (e:List (List TRec)) (f g:Int) (t:List TRec) (ht:okT t) (acc:List aj8) (ha:acc.length≤1000) :
  ajg (fun (x:(List aj8)×Int)=>az7 n l a b c d e f g t (t.length:Int) x.1 x.2) n (acc,0)=some (if t.any badR=true then .inl (zV,5) else .inr (acc ++ t.flatMap fun r=>[labM r])):=by
 have hn0:4194304≤n:=hn;obtain ⟨h20,hr⟩:=ht;refine coll t badR (fun r=>[labM r]) (zV,5) 0 1 (fun _ _=>by simp) acc _ (fun k hk s hs=>?_) (fun s=>?_) (by omega)
 ·have hm:=hr t[k] (jB hk);have hlt:((k:Nat):Int) < (t.length:Int):=by omega
  rw [Ja];show az7 n l a b c d e f g t (t.length:Int) s (k:Int)=_;unfold az7;rw [decide_eq_true hlt,cond_true,ajb _ ⟨by omega,hlt⟩,ju,aqy hk,hq4 n hn _ hm.1 hm.2.1 (by omega),je];cases badR t[k] with
  | true=>rfl
  | false =>
   simp only [jm,if_false,jR,cond_false];rw [ajb _ (by omega),wid (n:=(k:Int)+1) (by omega)];rfl
 ·rw [Ja];show az7 n l a b c d e f g t (t.length:Int) s (t.length:Int)=_;unfold az7;simp only [j9,decide_false,cond_false]
theorem r_in (n:Nat) (hn:N0≤n) (l:List (List TRec)) (a:List UInt8) (b c d:Int) (i:Nat) (hi:i < l.length) (t:List TRec) (hti:gt l i=t) (ht:okT t) (acc:List aj8) (ha:acc.length≤1000) :
  ajg (fun (x:(List aj8)×Int)=>az9 n l a b c d (i:Int) x.1 x.2) n (acc,0)=some (if t.any badR=true then .inl (zV,false) else .inr (acc ++ t.flatMap fun r=>[labM r])):=by
 have hn0:4194304≤n:=hn;obtain ⟨h20,hr⟩:=ht;refine coll t badR (fun r=>[labM r]) (zV,false) 0 1 (fun _ _=>by simp) acc _ (fun k hk s hs=>?_) (fun s=>?_) (by omega)
 ·have hm:=hr t[k] (jB hk);have hlt:((k:Nat):Int) < (t.length:Int):=by omega
  rw [Ja];show az9 n l a b c d (i:Int) s (k:Int)=_;unfold az9;simp only [ju,hti];rw [ajb _ (by omega),decide_eq_true hlt,cond_true,ajb _ ⟨by omega,by omega,hlt⟩,aqy hk];obtain ⟨r,hrr⟩:∃ r,r=t[k]:=⟨_,rfl⟩;rw [← hrr] at hm ⊢;obtain ⟨hkb,hdb,hkl,hdl⟩:=hm;by_cases hd:r.Data.length=45
  ·have h12:=bzi hdb (k:=12) (by omega);have e1:((r.Data.length:Int) != 45)=false:=by rw [hd];rfl
   rw [ajb _ (by intro _;omega),e1];simp only [jm,if_false];unfold badR;rw [e1,JW];by_cases h8:gt r.Data 12 > 8
   ·rw [decide_eq_true h8];rfl
   ·rw [decide_eq_false h8];simp only [cond_false,jm,if_false];have h0:=bzi hdb (k:=0) (by omega);have h1:=bzi hdb (k:=1) (by omega);have h3:=bzi hdb (k:=3) (by omega);rw [gj7 n hn _ hkb (by omega),je];rw [show (10:Int)=((10:Nat):Int) from rfl,show (4:Int)=((4:Nat):Int) from rfl,show (6:Int)=((6:Nat):Int) from rfl,show aqr n r.Data 8=aqr n r.Data ((8:Nat):Int) from rfl];rw [cjs n hdb (i:=10) (by omega) (by omega),je,ajb _ (by omega),cjs n hdb (i:=4) (by omega) (by omega),je,cjs n hdb (i:=6) (by omega) (by omega),je,cjs n hdb (i:=8) (by omega) (by omega),je];have key:=gyk n l a b c d s (i:Int) (k:Int) r.R r.Key r.Bad r.Data hd hdb (by omega) (czj r.Key) (ja .i64 (gt r.Data 0)) (ja .i64 (gt r.Data 1)) (decide (gt r.Data 2 ≥ 128)) ((Int.tmod (ja .u8 (Int.tdiv (gt r.Data 2) 64)) 2) == 1) (h16 r.Data 4) (h16 r.Data 6) (ja .i64 (gt r.Data 3)) (h16 r.Data 8) (h16 r.Data 10) (gt r.Data 12).toNat 0 n (by omega) (by omega);simp only [List.take_zero] at key;rw [show (((0:Nat)):Int)=0 from rfl] at key;rw [key,je];unfold bwf bwo;rw [ajb _ (by omega),wid (n:=gt r.Data 0) (by omega),wid (n:=gt r.Data 1) (by omega),wid (n:=gt r.Data 3) (by omega),wid (n:=(k:Int)+1) (by omega)];rfl
  ·have e1:((r.Data.length:Int) != 45)=true:=by simp;omega
   rw [ajb _ (by rw [e1];intro h;simp at h),e1];unfold badR;rw [e1];rfl
 ·rw [Ja];show az9 n l a b c d (i:Int) s (t.length:Int)=_;unfold az9;simp only [ju,hti];rw [ajb _ (by omega)];simp only [j9,decide_false,cond_false]
def labs (t:List TRec):List aj8:=t.flatMap fun r=>[labM r]
theorem eyj (t:List TRec):(labs t).length=t.length:=by
 induction t with
 | nil=>rfl
 | cons r t ih=>simp only [labs,JG,ji,jx,jP] at ih ⊢;omega
theorem ikj (n:Nat) (hn:N0≤n) (l L:List (List TRec)) (a:List UInt8) (b c d:Int) (hL:okLL L) :
  ajg (fun (x:(List aj8)×Int)=>awb n l a b c d L (L.length:Int) x.1 x.2) n ([],0)=some (if L.any (fun t=>t.any badR)=true then .inl (zV,5) else .inr (L.flatMap labs)):=by
 have hn0:4194304≤n:=hn;obtain ⟨h12,hr⟩:=hL
 have:=coll L (fun t=>t.any badR) labs ((zV,5):aja×Int) 0 20 (fun t ht=>by rw [eyj];exact (hr t ht).1) [] (fun (x:(List aj8)×Int)=>awb n l a b c d L (L.length:Int) x.1 x.2) (fun k hk s hs=>?_) (fun s=>?_) (n:=n) (by omega)
 ·simpa using this
 ·have hm:=hr L[k] (jB hk);have hlt:((k:Nat):Int) < (L.length:Int):=by omega
  rw [Ja];show awb n l a b c d L (L.length:Int) s (k:Int)=_;unfold awb;simp only [jP] at hs;rw [decide_eq_true hlt,cond_true,ajb _ ⟨by omega,hlt⟩,ju,aqy hk,p_in n hn l a b c d L _ _ _ hm s (by omega),je];cases hp:L[k].any badR with
  | true=>rfl
  | false =>
   simp only [jm,if_false];unfold bwj;rw [wid (n:=(k:Int)+1) (by omega)];rfl
 ·rw [Ja];show awb n l a b c d L (L.length:Int) s (L.length:Int)=_;unfold awb;simp only [j9,decide_false,cond_false]
theorem ikd (n:Nat) (hn:N0≤n) (l:List (List TRec)) (a:List UInt8) (b c d:Int) (hl:okLL l) (h1:1≤l.length) :
  ajg (fun (x:(List aj8)×Int)=>awa n l a b c d x.1 x.2) n ([],1)=some (if (l.drop 1).any (fun t=>t.any badR)=true then .inl (zV,false) else .inr ((l.drop 1).flatMap labs)):=by
 have hn0:4194304≤n:=hn;obtain ⟨h12,hr⟩:=hl;have hdl:(l.drop 1).length=l.length - 1:=jE
 have:=coll (l.drop 1) (fun t=>t.any badR) labs ((zV,false):aja×Bool) 1 20 (fun t ht=>by rw [eyj];exact (hr t (JU ht)).1) [] (fun (x:(List aj8)×Int)=>awa n l a b c d x.1 x.2) (fun k hk s hs=>?_) (fun s=>?_) (n:=n) (by omega)
 ·simpa using this
 ·have hm:=hr (l.drop 1)[k] (JU (jB hk));have hlt:((1+k:Nat):Int) < (l.length:Int):=by omega
  have hg:gt l (1+k)=(l.drop 1)[k]:=by rw [aqy (by omega)];simp [Nat.add_comm]
  show awa n l a b c d s ((1+k:Nat):Int)=_;unfold awa;simp only [jP] at hs;rw [decide_eq_true hlt,cond_true,r_in n hn l a b c d (1+k) (by omega) _ hg hm s (by omega),je];cases hp:(l.drop 1)[k].any badR with
  | true=>rfl
  | false =>
   simp only [jm,if_false];unfold bwi;rw [wid (n:=((1+k:Nat):Int)+1) (by omega)];rfl
 ·show awa n l a b c d s ((1+(l.drop 1).length:Nat):Int)=_;unfold awa;rw [show ((1+(l.drop 1).length:Nat):Int)=(l.length:Int) by omega];simp only [j9,decide_false,cond_false]
def badH (l:List (List TRec)):Bool:=(l.length == 0) || ((gt l 0).length != 1) || ((gt (gt l 0) 0).Data.length != 80)
def gV (l:List (List TRec)):aja:=⟨czj (List.drop 4 (List.take 10 (gt (gt l 0) 0).Data)),h16 (gt (gt l 0) 0).Data 10,h16 (gt (gt l 0) 0).Data 12,h16 (gt (gt l 0) 0).Data 14,(l.drop 1).flatMap labs⟩
def noG (l:List (List TRec)):Bool:=badH l || (l.drop 1).any fun t=>t.any badR
theorem ijw {l:List Int} (h:byL l) (a b:Nat):byL (List.drop a (List.take b l)):=fun x hx=>h x (List.mem_of_mem_take (JU hx))
theorem hqf (l:List (List TRec)):(if (if ((l.length:Int) == 0)=true then true else (((gt l 0).length:Int) != 1))=true then true else ((((gt (gt l 0) 0).Data).length:Int) != 80))=badH l:=by
 have e1:((l.length:Int) == 0)=(l.length == 0):=by rw [J7];simp
 have e2:(((gt l 0).length:Int) != 1)=((gt l 0).length != 1):=by rw [J7];simp;omega
 have e3:((((gt (gt l 0) 0).Data).length:Int) != 80)=((gt (gt l 0) 0).Data.length != 80):=by rw [J7];simp;omega
 rw [cqx,cqx,e1,e2,e3];rfl
theorem gyp {l:List (List TRec)}:((!((l.length:Int) == 0))=true→0 < (l.length:Int))∧((!(if ((l.length:Int) == 0)=true then true else (((gt l 0).length:Int) != 1)))=true→0 < (l.length:Int))∧((!(if ((l.length:Int) == 0)=true then true else (((gt l 0).length:Int) != 1)))=true→0 < ((gt l 0).length:Int)):=by
 refine ⟨fun h=>?_,fun h=>?_,fun h=>?_⟩
 ·simp at h;have:=Jo.2 h;omega
 ·rw [cqx] at h;simp at h;have:=Jo.2 h.1;omega
 ·rw [cqx] at h;simp at h;omega
theorem eyr {l:List (List TRec)} (h:badH l=false):1≤l.length∧(gt l 0).length=1∧(gt (gt l 0) 0).Data.length=80:=by
 simp [badH] at h
 have:=Jo.2 h.1.1
 exact ⟨by omega,h.1.2,h.2⟩
theorem gzg {l:List (List TRec)} (hl:okLL l) (h:badH l=false):byL (gt (gt l 0) 0).Data:=by
 obtain ⟨h1,h2,h3⟩:=eyr h
 have:=(hl.2 (gt l 0) (by rw [aqy (by omega)];exact jB _)).2 (gt (gt l 0) 0) (by rw [aqy (l:=gt l 0) (by omega)];exact jB _)
 exact this.2.1
theorem hk6 (n:Nat) (hn:N0≤n) (l:List (List TRec)) (hl:okLL l):bkb n l=some (if noG l=true then (zV,false) else (gV l,true)):=by
 unfold bkb noG;rw [ajb _ gyp,hqf];cases hb:badH l with
 | true=>rfl
 | false =>
  obtain ⟨h1,h2,h3⟩:=eyr hb;have hD:=gzg hl hb;simp only [cond_false,JW];rw [ajb _ ⟨by omega,by omega⟩,ajb _ (by omega),gj7 n hn _ (ijw hD _ _) (by simp;omega),je];rw [show (10:Int)=((10:Nat):Int) from rfl,show (12:Int)=((12:Nat):Int) from rfl,show (14:Int)=((14:Nat):Int) from rfl];rw [cjs n hD (i:=10) (by omega) (by omega),je,cjs n hD (i:=12) (by omega) (by omega),je,cjs n hD (i:=14) (by omega) (by omega),je,ikd n hn l _ _ _ _ hl h1,je];cases (l.drop 1).any (fun t=>t.any badR) <;> rfl
theorem gw4 (n:Nat) (hn:N0≤n) (l:List (List TRec)) (hl:okLL l):bw3 n l=if noG l=true then some (zV,5) else bj0 n l (gV l).Serial (gV l).Cyls (gV l).Heads (gV l).Size (gV l).Sets:=by
 unfold bw3 noG;rw [ajb _ gyp,hqf];cases hb:badH l with
 | true=>rfl
 | false =>
  obtain ⟨h1,h2,h3⟩:=eyr hb;have hD:=gzg hl hb;simp only [cond_false,JW,bw0,je];rw [ajb _ ⟨by omega,by omega⟩,ajb _ (by omega)];rw [show (10:Int)=((10:Nat):Int) from rfl,show (12:Int)=((12:Nat):Int) from rfl,show (14:Int)=((14:Nat):Int) from rfl];rw [cqi n hD (i:=10) (by omega) (by omega),je,cqi n hD (i:=12) (by omega) (by omega),je,cqi n hD (i:=14) (by omega) (by omega),je];have hL:okLL (List.drop 1 l):=⟨by have:=hl.1;rw [jE];omega,fun t ht=>hl.2 t (JU ht)⟩;rw [ajb _ (by omega),ikj n hn l (List.drop 1 l) _ _ _ _ hL,je];cases (l.drop 1).any (fun t=>t.any badR) <;> rfl
end Go.Proofs.YtijnkhcfondehaaGreatDoor
/-
 ch. 21: tracks compared, tracks that are valid.
-/
namespace Go.Proofs.YtijnkhcfondehaaGreatDoor
open Go.AE
theorem czk {α:Type} [DecidableEq α] [Inhabited α] (a b:List α) (hl:a.length=b.length) (body:Int→Option (Int ⊕ (Bool ⊕ Unit)))
  (hb:∀ k,k < a.length→body (k:Int)=some (if gt a k=gt b k then .inl ((k+1:Nat):Int) else .inr (.inl false)))
  (he:body (a.length:Int)=some (.inr (.inr ()))) {n:Nat} (hn:a.length < n):ajg body n 0=some (if a=b then .inr () else .inl false):=by
 have h:=bqb (Jc a.length) (fun k=>!decide (gt a k=gt b k)) (.inl false:Bool ⊕ Unit) (.inr ()) (body:=body) (n:=n) (fun k hk=>by
  rw [JY] at hk;rw [hb k hk,List.getElem_range]
  by_cases e:gt a k=gt b k <;> simp [e]) (by rw [JY];exact he) (by rw [JY];exact hn)
 rw [h];congr 1;by_cases e:a=b
 ·subst e;rw [if_pos rfl,if_neg];simp
 ·rw [if_neg e,if_pos];rw [List.any_eq_true];apply Classical.byContradiction;intro hno;apply e;apply J1 hl;intro i h1 h2;apply Classical.byContradiction;intro hne;apply hno;refine ⟨i,J3.2 h1,?_⟩;rw [aqy h1,aqy h2];simpa using hne
theorem ezu {a b:List Int} (ha:byL a) (hb:byL b) (h:awk a=awk b):a=b:=by
 have e:bzn (awk a)=bzn (awk b):=by rw [h]
 have key:∀ l:List Int,byL l→bzn (awk l)=l:=by
  intro l hl;unfold bzn awk;rw [JE];refine (jV fun x hx=>?_).trans (List.map_id l)
  have:=hl x hx
  show ((UInt8.ofNat x.toNat).toNat:Int)=x;rw [show (UInt8.ofNat x.toNat).toNat=x.toNat % 256 from UInt8.toNat_ofNat];omega
 rw [key a ha,key b hb] at e;exact e
def byR (r:TRec):Prop:=byL r.Key∧byL r.Data
theorem hzb (n:Nat) (x y:TRec) (hx:byR x) (hy:byR y):bqm n x y=some (decide (x=y)):=by
 obtain ⟨x1,x2,x3,x4⟩:=x;obtain ⟨y1,y2,y3,y4⟩:=y;unfold bqm;dsimp only;by_cases h1:x1=y1
 ·by_cases h4:x4=y4
  ·subst h1 h4;simp only [beq_self_eq_true,if_true,cond_true];rw [ajb _ (by trivial)];by_cases h2:awk x2=awk y2
   ·have:=ezu hx.1 hy.1 h2
    dsimp only at this;subst this;simp only [beq_self_eq_true,cond_true];rw [ajb _ (by trivial)];by_cases h3:awk x3=awk y3
    ·have:=ezu hx.2 hy.2 h3
     dsimp only at this;subst this;simp
    ·have:¬ x3=y3:=fun e=>h3 (by rw [e])
     have e1:(awk x3 == awk y3)=false:=by simpa using h3
     simp [e1,this]
   ·have:¬ x2=y2:=fun e=>h2 (by rw [e])
    have e1:(awk x2 == awk y2)=false:=by simpa using h2
    simp [e1,this]
  ·have e1:(x4 == y4)=false:=by simpa using h4
   subst h1;simp [e1,h4]
 ·have e1:(x1 == y1)=false:=by simpa using h1
  simp [e1,h1]
theorem ikb (n:Nat) (a b:List TRec) (hn:a.length < n) (hl:a.length≤1000000) (ha:∀ r∈a,byR r) (hb:∀ r∈b,byR r):cjk n a b=some (decide (a=b)):=by
 unfold cjk;by_cases h:a.length=b.length
 ·have e1:((a.length:Int) != (b.length:Int))=false:=by rw [h];simp
  rw [e1];have key:=czk a b h (fun (x:Int)=>bqo n a b x) (fun k hk=>?_) ?_ (n:=n) hn
  ·simp only [cond_false];rw [key,je];by_cases e:a=b <;> simp [e,bzq]
  ·have hlt:((k:Nat):Int) < (a.length:Int):=by omega
   have h1:=ha (gt a k) (by rw [aqy hk];exact jB _);have h2:=hb (gt b k) (by rw [aqy (by omega)];exact jB _);unfold bqo;simp only [decide_eq_true hlt,cond_true,ju,hzb n _ _ h1 h2];rw [ajb _ ⟨⟨by omega,hlt⟩,by omega,by omega⟩,je,wid (n:=(k:Int)+1) (by omega)];by_cases e:gt a k=gt b k <;> simp [e]
  ·unfold bqo;simp only [j9,decide_false,cond_false]
 ·have e1:((a.length:Int) != (b.length:Int))=true:=by simp;omega
  have e2:¬ a=b:=fun e=>h (by rw [e]);rw [e1];simp [e2]
theorem fy8 (n:Nat) (a b:List (List TRec)) (hn:a.length < n) (hl:a.length≤1000000) (ha:∀ t∈a,t.length < n∧t.length≤1000000∧∀ r∈t,byR r) (hb:∀ t∈b,∀ r∈t,byR r):awv n a b=some (decide (a=b)):=by
 unfold awv;by_cases h:a.length=b.length
 ·have e1:((a.length:Int) != (b.length:Int))=false:=by rw [h];simp
  rw [e1];have key:=czk a b h (fun (x:Int)=>awi n a b x) (fun k hk=>?_) ?_ (n:=n) hn
  ·simp only [cond_false];rw [key,je];by_cases e:a=b <;> simp [e,ak3]
  ·have hlt:((k:Nat):Int) < (a.length:Int):=by omega
   obtain ⟨h1,h3,h4⟩:=ha (gt a k) (by rw [aqy hk];exact jB _);have h2:=hb (gt b k) (by rw [aqy (by omega)];exact jB _);unfold awi;simp only [decide_eq_true hlt,cond_true,ju,ikb n _ _ h1 h3 h4 h2];rw [ajb _ ⟨⟨by omega,hlt⟩,by omega,by omega⟩,je,wid (n:=(k:Int)+1) (by omega)];by_cases e:gt a k=gt b k <;> simp [e]
  ·unfold awi;simp only [j9,decide_false,cond_false]
 ·have e1:((a.length:Int) != (b.length:Int))=true:=by simp;omega
  have e2:¬ a=b:=fun e=>h (by rw [e]);rw [e1];simp [e2]
theorem sEq (n:Nat) (a b:List Int) (hn:a.length < n) (hl:a.length≤1000000):aq5 n a b=some (decide (a=b)):=by
 unfold aq5;by_cases h:a.length=b.length
 ·have e1:((a.length:Int) != (b.length:Int))=false:=by rw [h];simp
  rw [e1];have key:=czk a b h (fun (x:Int)=>aw4 n a b (a.length:Int) x) (fun k hk=>?_) ?_ (n:=n) hn
  ·simp only [cond_false];rw [key,je];by_cases e:a=b <;> simp [e,azd]
  ·have hlt:((k:Nat):Int) < (a.length:Int):=by omega
   unfold aw4;simp only [decide_eq_true hlt,cond_true,ju];rw [ajb _ ⟨⟨by omega,hlt⟩,by omega,by omega⟩,wid (n:=(k:Int)+1) (by omega)];by_cases e:gt a k=gt b k
   ·simp [e]
   ·have e1:(gt a k != gt b k)=true:=by simpa using e
    rw [e1];simp [e]
  ·unfold aw4;simp only [j9,decide_false,cond_false]
 ·have e1:((a.length:Int) != (b.length:Int))=true:=by simp;omega
  have e2:¬ a=b:=fun e=>h (by rw [e]);rw [e1];simp [e2]
theorem ikf (n:Nat) (x y:TRec) (hn:1000000 < n) (hk:x.Key.length≤1000000) (hd:x.Data.length≤1000000):bkh n x y=some (decide (x=y)):=by
 obtain ⟨x1,x2,x3,x4⟩:=x;obtain ⟨y1,y2,y3,y4⟩:=y;unfold bkh;dsimp only at hk hd ⊢;rw [sEq n x2 y2 (by omega) hk,sEq n x3 y3 (by omega) hd];rw [ajb _ ⟨fun _=>rfl,fun _=>rfl⟩];simp only [j7,dqi];congr 1;rw [J7];simp only [jf,beq_iff_eq,decide_eq_true_eq,TRec.mk.injEq];constructor
 ·rintro ⟨⟨⟨h1,h2⟩,h3⟩,h4⟩;exact ⟨h1,h3,h4,h2⟩
 ·rintro ⟨h1,h2,h3,h4⟩;exact ⟨⟨⟨h1,h4⟩,h2⟩,h3⟩
theorem eqF (n:Nat) (a b:List TRec) (hn:1000000 < n) (hl:a.length≤1000000) (ha:∀ r∈a,r.Key.length≤1000000∧r.Data.length≤1000000):aqf n a b=some (decide (a=b)):=by
 unfold aqf;by_cases h:a.length=b.length
 ·have e1:((a.length:Int) != (b.length:Int))=false:=by rw [h];simp
  rw [e1];have key:=czk a b h (fun (x:Int)=>aq3 n b a (a.length:Int) x) (fun k hk=>?_) ?_ (n:=n) (by omega)
  ·simp only [cond_false];rw [key,je];by_cases e:a=b <;> simp [e,aqk]
  ·have hlt:((k:Nat):Int) < (a.length:Int):=by omega
   have h1:=ha (gt a k) (by rw [aqy hk];exact jB _);unfold aq3;simp only [decide_eq_true hlt,cond_true,ju,ikf n _ _ hn h1.1 h1.2];rw [ajb _ ⟨by omega,hlt⟩,ajb _ ⟨by omega,by omega⟩,je,wid (n:=(k:Int)+1) (by omega)];by_cases e:gt a k=gt b k <;> simp [e]
  ·unfold aq3;simp only [j9,decide_false,cond_false]
 ·have e1:((a.length:Int) != (b.length:Int))=true:=by simp;omega
  have e2:¬ a=b:=fun e=>h (by rw [e]);rw [e1];simp [e2]
def badT (t:List TRec) (k:Nat):Bool:=!(decide ((gt t k).R ≥ 1) && decide ((gt t k).R≤255) && decide (((gt t k).Key.length:Int)≤255)) || (decide (0 < k) && decide ((gt t k).R≤(gt t (k - 1)).R))
def vT (t:List TRec):Bool:=!(Jc t.length).any (badT t) && decide (sumC (t.map fjc)≤2048)
theorem iwz (n:Nat) (t:List TRec) (hn:t.length < n) (hl:t.length≤1000000):bkc n t=some (vT t):=by
 have key:=bqb (Jc t.length) (badT t) (.inl false:Bool ⊕ Unit) (.inr ()) (body:=fun (x:Int)=>ayv n t (t.length:Int) x) (n:=n) (fun k hk=>by
  rw [JY] at hk;have hlt:((k:Nat):Int) < (t.length:Int):=by omega
  unfold ayv;simp only [decide_eq_true hlt,cond_true,ju,cq7,List.getElem_range]
  rw [ajb _ ⟨by omega,hlt⟩,je,ajb _ (by
   intro hc;simp only [jf,decide_eq_true_eq] at hc
   rw [wid (n:=(k:Int) - 1) (by omega)];omega)]
  have eo:(if decide ((k:Int) > 0)=true then decide ((gt t k).R≤(gt t (ja .i64 ((k:Int) - 1)).toNat).R) else false)=(decide (0 < k) && decide ((gt t k).R≤(gt t (k - 1)).R)):=by
   rw [dqi];by_cases h0:0 < k
   ·have e:(ja .i64 ((k:Int) - 1)).toNat=k - 1:=by rw [wid (by omega)];omega
    rw [e,decide_eq_true (by omega:(k:Int) > 0),decide_eq_true h0]
   ·rw [decide_eq_false (by omega:¬ (k:Int) > 0),decide_eq_false h0];rfl
  rw [eo,cqx,dqi,dqi,wid (n:=(k:Int)+1) (by omega)];show (bif badT t k then _ else _)=_
  cases badT t k <;> rfl) (by
  rw [JY];unfold ayv
  simp only [j9,decide_false,cond_false]) (by rw [JY];exact hn)
 unfold bkc;rw [key,je];unfold vT;cases (Jc t.length).any (badT t) with
 | true=>rfl
 | false=>rfl
theorem ikp (n:Nat) (a b:List TRec) (hn:1000000 < n) (hl:a.length≤1000000) (ha:∀ r∈a,r.Key.length≤1000000∧r.Data.length≤1000000):ck6 n a b=some (vT a && decide (a=b)):=by
 unfold ck6;rw [iwz n a (by omega) hl,eqF n a b hn hl ha,je];cases hv:vT a with
 | false=>rfl
 | true =>
  simp only [cond_true];rw [ajb _ trivial];rfl
theorem eqFF (n:Nat) (a b:List (List TRec)) (hn:1000000 < n) (hl:a.length≤1000000) (ha:∀ t∈a,t.length≤1000000∧∀ r∈t,r.Key.length≤1000000∧r.Data.length≤1000000) (hb:∀ t∈b,vT t=true):aqh n a b=some (decide (a=b)):=by
 unfold aqh;by_cases h:a.length=b.length
 ·have e1:((a.length:Int) != (b.length:Int))=false:=by rw [h];simp
  rw [e1];have key:=czk a b h (fun (x:Int)=>aq4 n b a (a.length:Int) x) (fun k hk=>?_) ?_ (n:=n) (by omega)
  ·simp only [cond_false];rw [key,je];by_cases e:a=b <;> simp [e,aqm]
  ·have hlt:((k:Nat):Int) < (a.length:Int):=by omega
   have h1:=ha (gt a k) (by rw [aqy hk];exact jB _);have h2:=hb (gt b k) (by rw [aqy (by omega)];exact jB _);unfold aq4;simp only [decide_eq_true hlt,cond_true,ju,ikp n _ _ hn h1.1 h1.2];rw [ajb _ ⟨by omega,hlt⟩,ajb _ ⟨by omega,by omega⟩,je,wid (n:=(k:Int)+1) (by omega)];by_cases e:gt a k=gt b k
   ·simp [e,h2]
   ·simp [e]
  ·unfold aq4;simp only [j9,decide_false,cond_false]
 ·have e1:((a.length:Int) != (b.length:Int))=true:=by simp;omega
  have e2:¬ a=b:=fun e=>h (by rw [e]);rw [e1];simp [e2]
end Go.Proofs.YtijnkhcfondehaaGreatDoor
/-
 ch. 21: the tracks of a table are valid; Decode.
-/
namespace Go.Proofs.YtijnkhcfondehaaGreatDoor
open Go.AE
theorem iza:∀ k:Fin 256,32≤k.val∧k.val≤126→0≤cdI ((k.val:Nat):Int)∧cdI ((k.val:Nat):Int) < 256:=by decide +kernel
theorem ik8 {b:UInt8} (h:okC b=true):0≤cd b∧cd b < 256:=iza ⟨b.toNat,b.toNat_lt⟩ (by simpa [okC] using h)
theorem bjv {a b:List Int} (ha:byL a) (hb:byL b):byL (a ++ b):=fun x hx=>(List.mem_append.1 hx).elim (ha x) (hb x)
theorem eq5 {s:List UInt8} (h:s.all okC=true) (K:Nat):byL (txt s K):=by
 refine bjv (fun x hx=>?_) (fun x hx=>?_)
 ·obtain ⟨b,hb,rfl⟩:=J2.1 hx;exact ik8 (jK.1 h b hb)
 ·obtain ⟨_,rfl⟩:=List.mem_replicate.1 hx;decide
theorem wu8 (x:Int):0≤ja .u8 x∧ja .u8 x < 256:=by
 have:ja .u8 x=x % 256:=by simp [ja,jj,Jz]
 omega
theorem dzp (k:Int):byL (h2 k):=by
 intro x hx;simp only [h2,jY,List.not_mem_nil,or_false] at hx;rcases hx with rfl | rfl <;> exact wu8 _
theorem gy3 (d:aj8):byL (eyy d):=by
 unfold eyy cwg gwt;refine bjv (bjv (bjv (bjv (bjv (bjv (bjv ?_ (dzp _)) (dzp _)) (dzp _)) (dzp _)) ?_) ?_) ?_
 ·intro x hx;simp only [jY,List.not_mem_nil,or_false] at hx;rcases hx with rfl | rfl | rfl | rfl
  ·exact wu8 _
  ·exact wu8 _
  ·unfold fqo;split <;> split <;> decide
  ·exact wu8 _
 ·intro x hx;simp only [jY,List.not_mem_nil,or_false] at hx;subst hx;exact wu8 _
 ·intro x hx;simp only [exb,JK] at hx;obtain ⟨e,_,hx⟩:=hx;exact bjv (dzp _) (dzp _) x hx
 ·intro x hx;obtain ⟨_,rfl⟩:=List.mem_replicate.1 hx;decide
theorem hqo (d:aj8) (h:d.Extents.length≤8):(eyy d).length=45:=by
 simp only [eyy,ji,dwd,ejq,jW];omega
theorem hw5 {v:aja} (hv:OkV v):(volB v).length=80:=by
 have l4:=bqy [86,79,76,49] 4 (by decide);have l6:=bqy v.Serial 6 hv.slen;have l64:=bqy [] 64 (by decide);simp only [volB,ji,l4,l6,l64,ak0]
theorem hwx {v:aja} (hv:OkV v):byL (volB v):=by
 unfold volB;exact bjv (bjv (bjv (bjv (bjv (eq5 (by decide) _) (eq5 hv.ser _)) (dzp _)) (dzp _)) (dzp _)) (eq5 (by decide) _)
theorem ijo {S i:Nat} {v:aja} {k:Nat} (hk:k < (((recs v).drop (14 * i)).take 14).length):gt (((recs v).drop (14 * i)).take 14) k=rcP ((k+1:Nat):Int) (gt v.Sets (14 * i+k))∧14 * i+k < v.Sets.length∧k < 14:=by
 have h1:k < 14:=by rw [jk] at hk;omega
 have h2:14 * i+k < (recs v).length:=by rw [jk,jE] at hk;omega
 have h3:14 * i+k < v.Sets.length:=by rw [dqs] at h2;exact h2
 refine ⟨?_,h3,h1⟩;rw [aqy hk,List.getElem_take,List.getElem_drop,ey7 h2,show (14 * i+k) % 14+1=k+1 by omega]
theorem iju {α:Type} [Inhabited α] {l:List α} {x:α} (h:x∈l):∃ k,k < l.length∧x=gt l k:=by
 obtain ⟨k,hk,e⟩:=List.mem_iff_getElem.1 h;exact ⟨k,hk,by rw [aqy hk,e]⟩
theorem izq:∀ k:Fin 15,decide (sumC (jt k.val 137)≤2048)=true:=by decide +kernel
theorem iy0 {v:aja} (hv:OkV v) (i:Nat):vT (((recs v).drop (14 * i)).take 14)=true:=by
 obtain ⟨t,ht⟩:∃ t,t=((recs v).drop (14 * i)).take 14:=⟨_,rfl⟩
 have hel:∀ k,k < t.length→gt t k=rcP ((k+1:Nat):Int) (gt v.Sets (14 * i+k))∧14 * i+k < v.Sets.length∧k < 14:=fun k hk=>by
  subst ht;exact ijo (S:=0) hk
 have hlen:t.length≤14:=by subst ht;rw [jk];omega
 rw [← ht];clear ht
 have hc:t.map fjc=jt t.length 137:=by
  rw [List.eq_replicate_iff];refine ⟨jH _,fun c hc=>?_⟩;obtain ⟨r,hr,rfl⟩:=J2.1 hc;obtain ⟨k,hk,rfl⟩:=iju hr;obtain ⟨e,h1,h2⟩:=hel k hk;have hd:=hv.lbl _ h1;rw [e,fjc];show fw9 (txt (gt v.Sets (14 * i+k)).Name 44).length (eyy (gt v.Sets (14 * i+k))).length=137;rw [bqy _ _ hd.nlen,hqo _ hd.ext];decide +kernel
 unfold vT;rw [hc,izq ⟨t.length,by omega⟩,Bool.and_true,Jb,J5];intro k hk;rw [J3] at hk;obtain ⟨e,h1,h2⟩:=hel k hk;have hd:=hv.lbl _ h1;have hkl:(gt t k).Key.length=44:=by rw [e];exact bqy _ _ hd.nlen
 have hR:(gt t k).R=((k+1:Nat):Int):=by rw [e];rfl
 unfold badT;rw [hkl,hR];simp only [JM,Bool.or_eq_false_iff,Bool.not_eq_false',jf,decide_eq_true_eq,Bool.and_eq_false_iff,decide_eq_false_iff_not];refine ⟨⟨⟨by omega,by omega⟩,by omega⟩,?_⟩;by_cases h0:0 < k
 ·right;have hR':(gt t (k - 1)).R=((k - 1+1:Nat):Int):=by rw [(hel (k - 1) (by omega)).1];rfl
  rw [hR'];omega
 ·left;exact h0
theorem izr {v:aja} (hv:OkV v):vT [vol v]=true:=by
 have l4:=bqy [86,79,76,49] 4 (by decide)
 have hc:[vol v].map fjc=[132]:=by
  show [fw9 (txt [86,79,76,49] 4).length (volB v).length]=[132];rw [l4,hw5 hv];decide +kernel
 unfold vT;rw [hc]
 have hb:badT [vol v] 0=false:=by
  unfold badT;show (!(decide ((3:Int) ≥ 1) && decide ((3:Int)≤255) && decide (((txt [86,79,76,49] 4).length:Int)≤255)) || (decide (0 < 0) && _))=false;rw [l4];rfl
 have:(Jc [vol v].length).any (badT [vol v])=false:=by
  rw [J5];intro k hk;simp only [jx,jP,J3] at hk;obtain rfl:k=0:=by omega
  rw [hb];simp
 rw [this];decide +kernel
theorem fyd {v:aja} {t:List TRec} (h:t∈encT v):t=[vol v]∨∃ i,t=((recs v).drop (14 * i)).take 14:=by
 simp only [encT,jY,tr,J2] at h;rcases h with h | ⟨i,_,h⟩
 ·exact .inl h
 ·exact .inr ⟨i,h.symm⟩
theorem izy {v:aja} (hv:OkV v):∀ t∈encT v,vT t=true:=by
 intro t ht;rcases fyd ht with rfl | ⟨i,rfl⟩
 ·exact izr hv
 ·exact iy0 hv i
theorem iwh {v:aja} (hv:OkV v):∀ t∈encT v,∀ r∈t,byR r:=by
 intro t ht r hr;rcases fyd ht with rfl | ⟨i,rfl⟩
 ·rw [JS] at hr;subst hr;exact ⟨eq5 (by decide) _,hwx hv⟩
 ·obtain ⟨k,hk,rfl⟩:=iju hr;obtain ⟨e,h1,h2⟩:=ijo (S:=0) hk;rw [e];exact ⟨eq5 (hv.lbl _ h1).name _,gy3 _⟩
theorem fyu (l:List Int):(czj l).length≤l.length:=by
 have:=eji l l.length
 simp only [czj,decM,jH,jk];omega
theorem hwe {l:List (List TRec)} (h:∀ t∈l,t.length≤20):(l.flatMap labs).length≤20 * l.length:=by
 induction l with
 | nil=>simp
 | cons t l ih =>
  have h1:=h t List.mem_cons_self;have h2:=ih fun x hx=>h x (J4 _ hx);rw [JG,ji,eyj,jx];omega
theorem fjd {l:List (List TRec)} (hl:okLL l) (hg:noG l=false):ej6 (gV l):=by
 obtain ⟨hb,ha⟩:=(Bool.or_eq_false_iff).1 hg;obtain ⟨h1,h2,h3⟩:=eyr hb;refine ⟨?_,?_,fun d hd=>?_⟩
 ·show ((l.drop 1).flatMap labs).length≤300
  have:=hwe (l:=l.drop 1) fun t ht=>(hl.2 t (JU ht)).1
  have h12:=hl.1;rw [jE] at this;omega
 ·show (czj (List.drop 4 (List.take 10 (gt (gt l 0) 0).Data))).length≤400
  have:=fyu (List.drop 4 (List.take 10 (gt (gt l 0) 0).Data))
  simp only [jE,jk] at this;omega
 ·have hd':d∈(l.drop 1).flatMap labs:=hd;obtain ⟨t,ht,hd2⟩:=JK.1 hd';obtain ⟨r,hr,hd3⟩:=JK.1 (show d∈t.flatMap fun r=>[labM r] from hd2);rw [JS] at hd3;subst hd3;have hm:=(hl.2 t (JU ht)).2 r hr
  have hbr:badR r=false:=by
   have:=J5.1 ha t ht
   rw [JM] at this
   have:=J5.1 this r hr
   simpa using this
  refine ⟨?_,?_⟩
  ·show (czj r.Key).length≤400
   have:=fyu r.Key;omega
  ·show (exM r.Data).length≤20;rw [dk1];simp only [badR,Bool.or_eq_false_iff,decide_eq_false_iff_not] at hbr;omega
def decV (l:List (List TRec)):aja×Int:=if noG l=false∧rV (gV l)=true∧l=encT (gV l) then (gV l,0) else (zV,5)
theorem hz8 {l:List (List TRec)} (hl:okLL l):∀ t∈l,t.length≤1000000∧∀ r∈t,r.Key.length≤1000000∧r.Data.length≤1000000:=fun t ht =>
 ⟨by have:=(hl.2 t ht).1;omega,fun r hr=>by have:=(hl.2 t ht).2 r hr;omega⟩
theorem gwk (n:Nat) (hn:N0≤n) (l:List (List TRec)) (hl:okLL l):bw3 n l=some (decV l):=by
 have hn0:4194304≤n:=hn;rw [gw4 n hn l hl];unfold decV;cases hg:noG l with
 | true=>simp
 | false =>
  simp only [jm,if_false,true_and];unfold bj0;have hE:bj8 n (⟨(gV l).Serial,(gV l).Cyls,(gV l).Heads,(gV l).Size,(gV l).Sets⟩:aja)=_:=hjf n hn (gV l) (fjd hl hg);rw [hE,je];cases hr:rV (gV l) with
  | false=>simp;rfl
  | true =>
   have hv:=fyc hr;simp only [if_true,true_and];rw [show (((encT (gV l),(0:Int)).2 != 0))=false from rfl];simp only [cond_false,j5];rw [ajb _ trivial,eqFF n l (encT (gV l)) (by omega) (by have:=hl.1;omega) (hz8 hl) (izy hv),je];by_cases e:l=encT (gV l)
   ·rw [if_pos e,decide_eq_true e];rfl
   ·rw [if_neg e,decide_eq_false e];rfl
theorem fzz (n:Nat) (hn:N0≤n) (l:List (List TRec)) (hl:okLL l):bwx n l=some (decV l):=by
 have hn0:4194304≤n:=hn;unfold bwx;rw [hk6 n hn l hl,je];unfold decV;cases hg:noG l with
 | true=>simp;rfl
 | false =>
  simp only [jm,if_false,true_and,jR,cond_false];rw [gw0 n hn (gV l) (fjd hl hg),je];cases hr:rV (gV l) with
  | false=>simp;rfl
  | true =>
   have hv:=fyc hr;simp only [if_true,true_and];rw [show (((encT (gV l),(0:Int)).2 != 0))=false from rfl];simp only [cond_false,j5];rw [ajb _ trivial,fy8 n l (encT (gV l)) (by have:=hl.1;omega) (by have:=hl.1;omega) (fun t ht=>⟨by have:=(hl.2 t ht).1;omega,by have:=(hl.2 t ht).1;omega,fun r hr=>⟨((hl.2 t ht).2 r hr).1,((hl.2 t ht).2 r hr).2.1⟩⟩) (iwh hv),je];by_cases e:l=encT (gV l)
   ·rw [if_pos e,decide_eq_true e];rfl
   ·rw [if_neg e,decide_eq_false e];rfl
end Go.Proofs.YtijnkhcfondehaaGreatDoor
/-
 ch. 21: the law of decoding.
-/
namespace Go.Proofs.YtijnkhcfondehaaGreatDoor
open Go.AE
theorem ijl {l:List Int} (h:Go.AE.Can jd (.slice 5) (.slice (List.map ajj l))):byL l:=by
 intro x hx;have h0:=(fkz ty5 ajj h x hx).2 0 (by decide);have h1:Go.AE.Can jd (Kd.int .u8) (C.int x):=h0;cases h1 with
 | int _ _ hr =>
  have e1:IntKind.u8.min=0:=by decide
  have e2:IntKind.u8.max=255:=by decide
  simp only [InR,e1,e2] at hr;omega
theorem iwc {l:List (List TRec)} (h:Go.AE.Can jd (.slice 84) (.slice (List.map ajh l))):∀ t∈l,∀ r∈t,byR r:=by
 intro t ht r hr;have h0:Go.AE.Can jd (.slice 87) (.slice (List.map ajr t)):=(fkz ty84 ajh h t ht).2 0 (by decide);have h1:=(fkz ty87 ajr h0 r hr).2;have h2:Go.AE.Can jd (.slice 5) (.slice (List.map ajj r.Key)):=h1 1 (by decide);have h3:Go.AE.Can jd (.slice 5) (.slice (List.map ajj r.Data)):=h1 2 (by decide);exact ⟨ijl h2,ijl h3⟩
def eqr (r:TRec):Bool:=decide ((r.Key.length:Int) > 300) || decide ((r.Data.length:Int) > 300)
def fqq (t:List TRec):Bool:=decide ((t.length:Int) > 20) || t.any eqr
theorem hzt (n:Nat) (hn:N0≤n) (l:List (List TRec)) (i:Nat) (hi:i < l.length) (h20:¬ ((gt l i).length:Int) > 20) :
  ajg (fun (x:Int)=>aw6 n l (i:Int) x) n 0=some (if (gt l i).any eqr=true then .inl true else .inr ()):=by
 have hn0:4194304≤n:=hn;have hki:((i:Nat):Int) < (l.length:Int):=by omega
 refine bqb (gt l i) eqr _ _ (fun k hk=>?_) ?_ (by omega)
 ·have hlt:((k:Nat):Int) < ((gt l i).length:Int):=by omega
  unfold aw6;simp only [ju];rw [ajb _ ⟨by omega,hki⟩,decide_eq_true hlt,cond_true,ajb _ ⟨⟨by omega,hki⟩,⟨by omega,hlt⟩,fun _=>⟨by omega,hki⟩,fun _=>⟨by omega,hlt⟩⟩,cqx,wid (n:=(k:Int)+1) (by omega),← aqy hk];show (bif eqr (gt (gt l i) k) then _ else _)=_;cases eqr (gt (gt l i) k) <;> rfl
 ·unfold aw6;simp only [ju,j9,decide_false,cond_false];rw [ajb _ ⟨by omega,hki⟩]
theorem gk3 (n:Nat) (hn:N0≤n) (l:List (List TRec)) (h12:¬ (l.length:Int) > 12) :
  ajg (fun (x:Int)=>aw5 n l x) n 0=some (if l.any fqq=true then .inl true else .inr ()):=by
 have hn0:4194304≤n:=hn;refine bqb l fqq _ _ (fun k hk=>?_) ?_ (by omega)
 ·have hlt:((k:Nat):Int) < (l.length:Int):=by omega
  unfold aw5;simp only [ju];rw [decide_eq_true hlt,cond_true,ajb _ ⟨by omega,hlt⟩];unfold fqq;rw [← aqy hk];by_cases h20:((gt l k).length:Int) > 20
  ·rw [decide_eq_true h20];rfl
  ·rw [decide_eq_false h20,hzt n hn l k hk h20];simp only [cond_false,je,JW];cases (gt l k).any eqr with
   | true=>rfl
   | false =>
    simp only [jm,if_false];unfold azb;rw [wid (n:=(k:Int)+1) (by omega)];rfl
 ·unfold aw5;simp only [j9,decide_false,cond_false]
theorem iwa:ej6 zV:=⟨by simp [zV],by simp [zV],by simp [zV]⟩
theorem gqk {l:List (List TRec)} (hl:okLL l):ej6 (decV l).1:=by
 unfold decV
 split
 ·rename_i h;exact fjd hl h.1
 ·exact iwa
theorem dq3 (x0:List (List TRec)) (hc:∀ i,i < 1→CanL jd (([(false,[.slice 84])]:List (Bool×List Kd)).getD i (false,[])).2 (([[.slice (List.map ajh x0)]]:List (List C)).getD i []))
  (hb:cbss [[.slice (List.map ajh x0)]]≤2097152):aye N0 x0=some true:=by
 have hn:=jA N0;have h0:Go.AE.Can jd (.slice 84) (.slice (List.map ajh x0)):=(hc 0 (by decide)).2 0 (by decide);have hby:=iwc h0;clear hc hb h0;unfold aye;rw [hwh,je];simp only [jR,cond_false];by_cases h12:(x0.length:Int) > 12
 ·rw [decide_eq_true h12];rfl
 ·rw [decide_eq_false h12,cond_false,gk3 N0 hn x0 h12,je];cases hh:x0.any fqq with
  | true=>rfl
  | false =>
   simp only [jm,if_false]
   have hl:okLL x0:=by
    refine ⟨by omega,fun t ht=>?_⟩;have h1:=J5.1 hh t ht;simp only [fqq,Jq,decide_eq_true_eq,not_or,List.any_eq_true,not_exists,not_and] at h1;refine ⟨by omega,fun r hr=>?_⟩;have h2:=h1.2 r hr;simp only [eqr,Jq,decide_eq_true_eq,not_or] at h2;exact ⟨(hby t ht r hr).1,(hby t ht r hr).2,by omega,by omega⟩
   unfold azc;have hL:=gqk hl;rw [gwk N0 hn x0 hl,fzz N0 hn x0 hl,je,je];simp only [beq_self_eq_true,cond_true];rw [ajb _ trivial,izz N0 hn _ hL,je,iqf N0 hn _ hL];rfl
end Go.Proofs.YtijnkhcfondehaaGreatDoor
