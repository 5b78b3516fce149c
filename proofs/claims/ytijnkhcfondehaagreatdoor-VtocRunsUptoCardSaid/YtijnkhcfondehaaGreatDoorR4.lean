/- Text. -/
import Derived.Test.YtijnkhcfondehaaGreatDoorE
set_option linter.unusedSimpArgs false
set_option linter.unusedVariables false
set_option maxHeartbeats 8000000
set_option linter.unusedVariables false
set_option linter.unusedSimpArgs false
set_option maxRecDepth 100000
namespace Go.Proofs.YtijnkhcfondehaaGreatDoor
open Go.AE
theorem dropWhile_nil {p:UInt8→Bool}:∀ {l:List UInt8},l.dropWhile p=[]↔∀ x∈l,p x=true
 | []=>by simp
 | x :: l=>by
  rw [List.dropWhile_cons]
  cases h:p x with
  | true=>simp [dropWhile_nil (l:=l),h]
  | false=>simp [h]
theorem dj4 {p:UInt8→Bool}:∀ {l:List UInt8} {x:UInt8} {t:List UInt8},l.dropWhile p=x :: t→p x=false
 | [],x,t,h=>by simp at h
 | y :: l,x,t,h=>by
  rw [List.dropWhile_cons] at h
  cases hy:p y with
  | true=>rw [hy] at h;exact dj4 (by simpa using h)
  | false =>
   rw [hy] at h
   simp only [Bool.false_eq_true,if_false,List.cons.injEq] at h
   rw [← h.1];exact hy
theorem gzg (l cs:List UInt8):Go.Lib.trimS l cs=[]↔l.all (cs.contains ·)=true:=by
 have hr:Go.Lib.trimRightS l cs=[]↔l.all (cs.contains ·)=true:=by
  unfold Go.Lib.trimRightS
  rw [List.reverse_eq_nil_iff,dropWhile_nil,List.all_eq_true]
  simp
 rw [← hr]
 unfold Go.Lib.trimS Go.Lib.trimLeftS
 rw [dropWhile_nil]
 constructor
 ·intro h
  unfold Go.Lib.trimRightS at h ⊢
  rw [List.reverse_eq_nil_iff]
  cases hd:List.dropWhile (fun x=>cs.contains x) l.reverse with
  | nil=>rfl
  | cons x t =>
   exfalso
   have h1:=h x (by rw [hd];simp)
   have h2:=dj4 hd
   rw [h1] at h2;cases h2
 ·intro h x hx
  rw [h] at hx;cases hx
theorem gzk (l cs:List UInt8):(Go.Lib.trimS l cs != []) = !l.all (cs.contains ·):=by
 have h1:=gzg l cs
 cases h3:l.all (cs.contains ·) with
 | true=>simpa using h1.2 h3
 | false =>
  have:¬ Go.Lib.trimS l cs=[]:=fun e=>by rw [h1.1 e] at h3;cases h3
  simpa using this
def letB (b:UInt8):Bool:=if (decide (((b.toNat:Nat):Int) ≥ 65))=true then (decide (((b.toNat:Nat):Int)≤90)) else false
def digB (b:UInt8):Bool:=if (decide (((b.toNat:Nat):Int) ≥ 48))=true then (decide (((b.toNat:Nat):Int)≤57)) else false
def othB (b:UInt8):Bool:=if (if (((b.toNat:Nat):Int) == 64)=true then true else (((b.toNat:Nat):Int) == 35))=true then true else (((b.toNat:Nat):Int) == 36)
def chB (b:UInt8):Bool:=letB b || digB b || othB b
def gkd:List UInt8:=[65,66,67,68,69,70,71,72,73,74,75,76,77,78,79,80,81,82,83,84,85,86,87,88,89,90,48,49,50,51,52,53,54,55,56,57,64,35,36]
def gkr:List UInt8:=[65,66,67,68,69,70,71,72,73,74,75,76,77,78,79,80,81,82,83,84,85,86,87,88,89,90,48,49,50,51,52,53,54,55,56,57]
theorem eqp (b:UInt8):gkd.contains b=chB b:=by
 have h:∀ k:Fin 256,gkd.contains (UInt8.ofNat k.val)=chB (UInt8.ofNat k.val):=by decide
 have:=h ⟨b.toNat,b.toNat_lt⟩
 simpa using this
theorem eqe (b:UInt8):gkr.contains b=(letB b || digB b):=by
 have h:∀ k:Fin 256,gkr.contains (UInt8.ofNat k.val)=(letB (UInt8.ofNat k.val) || digB (UInt8.ofNat k.val)):=by decide
 have:=h ⟨b.toNat,b.toNat_lt⟩
 simpa using this
theorem hwf (n:Nat) (l:List UInt8):∃ t,aqu n l gkd=some t∧(t != []) = !l.all chB:=by
 refine ⟨Go.Lib.trimS l gkd,?_,?_⟩
 ·rw [aqu,aj9 _ (by decide)]
 ·rw [gzk];congr 2;funext b;exact eqp b
theorem hj6 (n:Nat) (l:List UInt8):∃ t,aqu n l gkr=some t∧(t != []) = !l.all (fun b=>letB b || digB b):=by
 refine ⟨Go.Lib.trimS l gkr,?_,?_⟩
 ·rw [aqu,aj9 _ (by decide)]
 ·rw [gzk];congr 2;funext b;exact eqe b
def smp (p:List UInt8):Bool:=decide (1≤p.length) && decide (p.length≤8) && (p.all chB && !(match p with | []=>false | b :: _=>digB b))
def parts:List UInt8→List (List UInt8)
 | []=>[[]]
 | b :: l=>if b=46 then [] :: parts l else match parts l with
  | p :: ps=>(b :: p) :: ps
  | []=>[[b]]
theorem ekx:∀ s:List UInt8,parts s≠[]
 | []=>by simp [parts]
 | b :: l=>by
  unfold parts
  split
  ·simp
  ·split <;> simp
theorem dwz:∀ {s:List UInt8},46 ∉ s→parts s=[s]
 | [],_=>rfl
 | b :: l,h=>by
  have hb:b≠46:=fun e=>h (by simp [e])
  have hl:46 ∉ l:=fun e=>h (by simp [e])
  rw [parts,if_neg hb,dwz hl]
theorem eyh:∀ {a:List UInt8} (t:List UInt8),46 ∉ a→parts (a ++ 46 :: t)=a :: parts t
 | [],t,_=>by simp [parts]
 | b :: l,t,h=>by
  have hb:b≠46:=fun e=>h (by simp [e])
  have hl:46 ∉ l:=fun e=>h (by simp [e])
  rw [List.cons_append,parts,if_neg hb,eyh t hl]
theorem ez4:∀ {s:List UInt8},46 ∉ s→Go.Lib.indexByte s 46 = -1
 | [],_=>rfl
 | b :: l,h=>by
  have hb:b≠46:=fun e=>h (by simp [e])
  have hl:46 ∉ l:=fun e=>h (by simp [e])
  rw [Go.Lib.indexByte,ez4 hl]
  simp [hb]
theorem fqp:∀ {a:List UInt8} (t:List UInt8),46 ∉ a→Go.Lib.indexByte (a ++ 46 :: t) 46=(a.length:Int)
 | [],t,_=>by simp [Go.Lib.indexByte]
 | b :: l,t,h=>by
  have hb:b≠46:=fun e=>h (by simp [e])
  have hl:46 ∉ l:=fun e=>h (by simp [e])
  rw [List.cons_append,Go.Lib.indexByte,fqp t hl]
  have:¬ ((l.length:Int) = -1):=by omega
  simp [hb,this]
theorem gyd:∀ s:List UInt8,46 ∉ s∨∃ a t,s=a ++ 46 :: t∧46 ∉ a
 | []=>.inl (by simp)
 | b :: l=>by
  by_cases hb:b=46
  ·exact .inr ⟨[],l,by simp [hb],by simp⟩
  ·rcases gyd l with h | ⟨a,t,rfl,ha⟩
   ·exact .inl (by simp [h,Ne.symm hb])
   ·exact .inr ⟨b :: a,t,by simp,by simp [ha,Ne.symm hb]⟩
theorem dk6:∀ (k:Nat) (s:List UInt8),s.count 46≤k→Go.Lib.splitK [46] 0 k s=parts s
 | 0,s,h=>by
  have:46 ∉ s:=fun hm=>by have:=List.count_pos_iff.2 hm;omega
  rw [dwz this];rfl
 | k+1,s,h=>by
  rcases gyd s with hn | ⟨a,t,rfl,ha⟩
  ·rw [Go.Lib.splitK,Go.Lib.index_one,ez4 hn,dwz hn];rfl
  ·rw [Go.Lib.splitK,Go.Lib.index_one,fqp t ha,eyh t ha]
   have h1:¬ (((a.length:Nat):Int) = -1):=by omega
   have h2:t.count 46≤k:=by
    rw [List.count_append,List.count_cons_self] at h;omega
   simp only [beq_iff_eq,h1,if_false,Int.toNat_natCast,Nat.add_zero,List.take_left,List.length_singleton]
   have:(a ++ 46 :: t).drop (a.length+1)=t:=by
    rw [show a ++ 46 :: t=(a ++ [46]) ++ t by simp,show a.length+1=(a ++ [46]).length by simp,List.drop_left]
   rw [this,dk6 k t h2]
theorem fwq (n:Nat) (s:List UInt8) (h:s.length < 4294967281):strings_Split n s [46]=some (parts s):=by
 rw [strings_Split,aj9 _ ⟨h,rfl⟩]
 unfold Go.Lib.split
 rw [dk6 _ _ (by rw [Go.Lib.count_one];exact Nat.le_refl _)]
theorem fj9:∀ s:List UInt8,(parts s).length≤s.length+1
 | []=>by simp [parts]
 | b :: l=>by
  have:=fj9 l
  unfold parts
  split
  ·simp only [List.length_cons];omega
  ·split
   ·rename_i p ps hp;rw [hp] at this;simp only [List.length_cons] at this ⊢;omega
   ·simp
def djb (s:List UInt8):Bool:=decide (s.length≤44) && (parts s).all smp
theorem gkl {s p:List UInt8} (h:p∈parts s):p.length≤s.length:=by
 induction s generalizing p with
 | nil=>simp [parts] at h;subst h;simp
 | cons b l ih =>
  unfold parts at h
  split at h
  ·rcases List.mem_cons.1 h with rfl | h
   ·simp
   ·have:=ih h;simp only [List.length_cons];omega
  ·split at h
   ·rename_i q ps hp
    rcases List.mem_cons.1 h with rfl | h
    ·have:=ih (p:=q) (by rw [hp];simp);simp only [List.length_cons];omega
    ·have:=ih (p:=p) (by rw [hp];simp [h]);simp only [List.length_cons];omega
   ·simp at h;subst h;simp
theorem fz8 (n:Nat) (s:List UInt8) (hn:N0≤n):byo n s=some (djb s):=by
 have hn0:4194304≤n:=hn
 unfold byo djb
 by_cases h44:s.length≤44
 ·have h1:decide ((s.length:Int) > 44)=false:=decide_eq_false (by omega)
  have h2:decide (s.length≤44)=true:=decide_eq_true h44
  rw [h1,cond_false,fwq n s (by omega),h2,Bool.true_and,Option.bind_some]
  have hpl:=fj9 s
  have key:ajj (fun (x:Int)=>bzv n (parts s) (((parts s).length:Nat):Int) x) n 0=some (if (parts s).any (fun p=>!smp p)=true then .inl false else .inr ()):=by
   refine cjd (parts s) (fun p=>!smp p) _ _ (fun k hk=>?_) ?_ (by omega)
   ·have hlt:((k:Nat):Int) < (((parts s).length:Nat):Int):=by omega
    have h0:(0:Int)≤(k:Int):=by omega
    unfold bzv
    have hpk:=gkl (List.getElem_mem hk)
    simp only [decide_eq_true hlt,cond_true,Int.toNat_natCast,aql hk]
    rw [aj9 _ ⟨⟨h0,hlt⟩,hk⟩]
    generalize (parts s)[k]=p at hpk ⊢
    rw [wid (n:=(k:Int)+1) (by omega)]
    obtain ⟨t,ht1,ht2⟩:=hwf n p
    have ht1':aqu n p [65,66,67,68,69,70,71,72,73,74,75,76,77,78,79,80,81,82,83,84,85,86,87,88,89,90,48,49,50,51,52,53,54,55,56,57,64,35,36]=some t:=ht1
    rw [ht1']
    cases p with
    | nil=>simp [smp,gd]
    | cons b q =>
     have e1:decide (((b :: q).length:Int) < 1)=false:=decide_eq_false (by simp only [List.length_cons];omega)
     have e0:(0:Int) < ((b :: q).length:Int):=by simp only [List.length_cons];omega
     simp only [e1,e0,implies_true,and_self,Bool.false_eq_true,if_false,List.getD_cons_zero,Option.bind_some,ht2]
     rw [aj9 _ trivial]
     have e5:decide (1≤(b :: q).length)=true:=decide_eq_true (by simp only [List.length_cons];omega)
     have e6:decide (((b :: q).length:Int) > 8) = !decide ((b :: q).length≤8):=by
      by_cases h:(b :: q).length≤8
      ·rw [decide_eq_true h,decide_eq_false (by omega)];rfl
      ·rw [decide_eq_false h,decide_eq_true (by omega)];rfl
     have e7:(if (decide (((b.toNat:Nat):Int) ≥ 48))=true then (decide (((b.toNat:Nat):Int)≤57)) else false)=digB b:=rfl
     simp only [e6,e7,smp,e5,Bool.true_and]
     cases decide ((b :: q).length≤8) <;> cases digB b <;> cases (b :: q).all chB <;> rfl
   ·unfold bzv
    simp only [Int.lt_irrefl,decide_false,cond_false]
  rw [key,Option.bind_some]
  have ha:(parts s).any (fun p=>!smp p) = !(parts s).all smp:=by
   rw [List.all_eq_not_any_not];simp
  rw [ha]
  cases (parts s).all smp <;> rfl
 ·have h1:decide ((s.length:Int) > 44)=true:=decide_eq_true (by omega)
  have h2:decide (s.length≤44)=false:=decide_eq_false h44
  rw [h1,h2];rfl
theorem ewa (n:Nat) (b:UInt8):bzx n (((b.toNat:Nat):Int))=some (letB b):=rfl
theorem fq3 (n:Nat) (b:UInt8):bjz n (((b.toNat:Nat):Int))=some (digB b):=rfl
theorem fqn (n:Nat) (p:List UInt8) (hn:p.length < n) (hp:p.length≤1099511627776):bzm n p=some (smp p):=by
 unfold bzm
 have key:=ak9 (σ:=Nat) (body:=fun (x:Int)=>ak4 n p x) p (fun k _=>(k:Int)) (fun s b=>if (!letB b && !othB b && (s == 0 || !digB b))=true then .inr (.inl false) else .inl (s+1)) (fun _=>.inr ()) (fun k s=>s=k) (s:=0) rfl
  (fun k hk s hI=>by
   subst hI
   have hlt:((s:Nat):Int) < (p.length:Int):=by omega
   have h0:(0:Int)≤(s:Int):=by omega
   have hg:p.getD s 0=p[s]:=by simp [List.getD_eq_getElem?_getD,hk]
   unfold ak4
   simp only [decide_eq_true hlt,cond_true,Int.toNat_natCast,hg,h0,hlt,and_self,implies_true]
   rw [aj9 _ trivial,aj9 _ trivial]
   generalize p[s]=b
   rw [ewa,Option.bind_some]
   simp only [fq3,Option.isSome_some,Option.getD_some,implies_true,true_and]
   have eo:(if (if (((b.toNat:Nat):Int) == 64)=true then true else (((b.toNat:Nat):Int) == 35))=true then true else (((b.toNat:Nat):Int) == 36))=othB b:=rfl
   have ez:(((s:Nat):Int) == 0)=(s == 0):=by
    by_cases h:s=0
    ·subst h;rfl
    ·have:¬ ((s:Int)=0):=by omega
     rw [beq_eq_false_iff_ne.2 this,beq_eq_false_iff_ne.2 h]
   rw [eo,ez,wid (n:=(s:Int)+1) (by omega)]
   rw [aj9 _ (by intro h;simpa using h)]
   cases letB b <;> cases othB b <;> cases (s == 0) <;> cases digB b <;> rfl)
  (fun k hk s hI s' he=>by
   subst hI
   split at he
   ·cases he
   ·simp only [Sum.inl.injEq] at he;omega)
  (fun s hs=>by
   subst hs
   unfold ak4
   simp only [Int.lt_irrefl,decide_false,cond_false]) hn
 have key':ajj (fun (x:Int)=>ak4 n p x) n 0=_:=key
 rw [key',Option.bind_some]
 have tail:∀ (q:List UInt8) (s:Nat),s≠0→runL (fun (s:Nat) b=>if (!letB b && !othB b && (s == 0 || !digB b))=true then (.inr (.inl false):Nat ⊕ (Bool ⊕ Unit)) else .inl (s+1)) (fun _=>.inr ()) q s=cond (q.all chB) (.inr ()) (.inl false):=by
  intro q
  induction q with
  | nil=>intro s _;rfl
  | cons b q ih =>
   intro s hs
   have hz:(s == 0)=false:=by simpa using hs
   have hih:=ih (s+1) (by omega)
   simp only [runL,hz,Bool.false_or,List.all_cons]
   have e:(!letB b && !othB b && !digB b) = !chB b:=by unfold chB;cases letB b <;> cases othB b <;> cases digB b <;> rfl
   rw [e]
   rcases Bool.eq_false_or_eq_true (chB b) with h | h
   ·rw [h];simpa using hih
   ·rw [h];rfl
 cases p with
 | nil=>simp [runL,akg,smp]
 | cons b q =>
  have ht:=tail q 1 (by omega)
  simp only [runL,beq_self_eq_true,Bool.true_or,Bool.and_true]
  have el:decide (1≤(b :: q).length)=true:=decide_eq_true (by simp only [List.length_cons];omega)
  have el1:decide (((b :: q).length:Int) ≥ 1)=true:=decide_eq_true (by simp only [List.length_cons];omega)
  have el2:decide (((b :: q).length:Int)≤8)=decide ((b :: q).length≤8):=by
   by_cases h:(b :: q).length≤8
   ·rw [decide_eq_true h,decide_eq_true (by omega)]
   ·rw [decide_eq_false h,decide_eq_false (by omega)]
  have ek:akg n (b :: q)=some (decide ((b :: q).length≤8)):=by simp only [akg,el1,el2,if_true]
  have hx:∀ b:UInt8,(letB b || othB b)=true→digB b=false:=by
   intro b
   have h:∀ k:Fin 256,(letB (UInt8.ofNat k.val) || othB (UInt8.ofNat k.val))=true→digB (UInt8.ofNat k.val)=false:=by decide
   have:=h ⟨b.toNat,b.toNat_lt⟩
   simpa using this
  have hxb:=hx b
  simp only [smp,el,Bool.true_and,List.all_cons]
  cases hl:letB b <;> cases ho:othB b <;> simp only [hl,ho,Bool.not_false,Bool.not_true,Bool.and_self,Bool.and_false,Bool.false_and,Bool.or_false,Bool.or_true,Bool.false_or,Bool.true_or,if_true,Bool.false_eq_true,if_false] at hxb ⊢
  ·unfold chB
   rw [hl,ho]
   cases digB b <;> simp
  all_goals
   have hd:=hxb trivial
   have hc:chB b=true:=by unfold chB;rw [hl,ho];simp
   simp only [Nat.zero_add,ht,ek,hc,hd,Bool.true_and,Bool.not_false,Bool.and_true]
   cases q.all chB <;> simp
end Go.Proofs.YtijnkhcfondehaaGreatDoor
/-
 ch. 21: names by the specification; serials, empty tables.
-/
set_option maxHeartbeats 8000000
set_option linter.unusedVariables false
set_option linter.unusedSimpArgs false
set_option maxRecDepth 100000
namespace Go.Proofs.YtijnkhcfondehaaGreatDoor
open Go.AE
def goN:List UInt8→List UInt8→Bool
 | cur,[]=>smp cur
 | cur,b :: r=>if b=46 then smp cur && goN [] r else goN (cur ++ [b]) r
theorem ejp:∀ (r cur:List UInt8),goN cur r=match parts r with | p :: ps=>smp (cur ++ p) && ps.all smp | []=>false
 | [],cur=>by simp [goN,parts]
 | b :: r,cur=>by
  rw [goN,parts]
  by_cases hb:b=46
  ·rw [if_pos hb,if_pos hb,ejp r []]
   simp only [List.append_nil,List.nil_append]
   cases hp:parts r with
   | nil=>exact absurd hp (ekx r)
   | cons p ps=>simp
  ·rw [if_neg hb,if_neg hb,ejp r (cur ++ [b])]
   cases hp:parts r with
   | nil=>exact absurd hp (ekx r)
   | cons p ps=>simp
theorem hjt (s:List UInt8):goN [] s=(parts s).all smp:=by
 rw [ejp]
 cases hp:parts s with
 | nil=>exact absurd hp (ekx s)
 | cons p ps=>simp
theorem ekf (n:Nat) (s:List UInt8) (hn:N0≤n) (hs:s.length≤2097152):∀ (j f i m:Nat),i+j=s.length→f≤i→j+1 < m →
  ajj (fun (x:Int×Int)=>awe n s x.1 x.2) m ((f:Int),(i:Int))=some (if goN (List.drop f (List.take i s)) (s.drop i)=true then .inr () else .inl false)
 | 0,f,i,m,hj,hf,hm=>by
  have hn0:4194304≤n:=hn
  have hi:i=s.length:=by omega
  obtain ⟨m,rfl⟩:∃ q,m=q+1+1:=⟨m - 2,by omega⟩
  have h1:decide ((i:Int)≤(s.length:Int))=true:=decide_eq_true (by omega)
  have h2:((i:Int) == (s.length:Int))=true:=by simp;omega
  have hd:s.drop i=[]:=List.drop_eq_nil_of_le (by omega)
  have hb:awe n s (f:Int) (i:Int)=some (if smp (List.drop f (List.take i s))=true then .inl (((i+1:Nat):Int),((i+1:Nat):Int)) else .inr (.inl false)):=by
   unfold awe
   rw [h1,cond_true,h2]
   simp only [Bool.not_true,Bool.false_eq_true,false_implies,if_true,cond_true,Int.toNat_natCast]
   rw [aj9 _ trivial,aj9 _ (by omega),fqn n _ (by simp only [List.length_drop,List.length_take];omega) (by simp only [List.length_drop,List.length_take];omega),Option.bind_some]
   rw [wid (n:=(i:Int)+1) (by omega)]
   simp only [akv,wid (n:=(i:Int)+1) (by omega)]
   cases smp (List.drop f (List.take i s)) <;> rfl
  rw [hd,goN]
  cases hsm:smp (List.drop f (List.take i s)) with
  | false =>
   rw [hsm] at hb
   rw [ajk (y:=.inl false) (by simpa using hb)];simp
  | true =>
   rw [hsm] at hb
   rw [aju (x':=(((i+1:Nat):Int),((i+1:Nat):Int))) (by simpa using hb)]
   have he:awe n s ((i+1:Nat):Int) ((i+1:Nat):Int)=some (.inr (.inr ())):=by
    unfold awe
    rw [decide_eq_false (by omega),cond_false]
   rw [ajk he];simp
 | j+1,f,i,m,hj,hf,hm=>by
  have hn0:4194304≤n:=hn
  obtain ⟨m,rfl⟩:∃ q,m=q+1:=⟨m - 1,by omega⟩
  have hlt:i < s.length:=by omega
  have h1:decide ((i:Int)≤(s.length:Int))=true:=decide_eq_true (by omega)
  have h2:((i:Int) == (s.length:Int))=false:=by simp;omega
  have hd:s.drop i=s[i] :: s.drop (i+1):=List.drop_eq_getElem_cons hlt
  have hg:s.getD i 0=s[i]:=by simp [List.getD_eq_getElem?_getD,hlt]
  have ht:List.take (i+1) s=List.take i s ++ [s[i]]:=by rw [List.take_add_one];simp [hlt]
  have e46:((((s[i]).toNat:Nat):Int) == 46)=decide (s[i]=46):=by
   generalize s[i]=b
   have h:∀ k:Fin 256,((((UInt8.ofNat k.val).toNat:Nat):Int) == 46)=decide ((UInt8.ofNat k.val)=46):=by decide
   have:=h ⟨b.toNat,b.toNat_lt⟩
   simpa using this
  have hb:awe n s (f:Int) (i:Int)=some (if s[i]=46 then (if smp (List.drop f (List.take i s))=true then .inl (((i+1:Nat):Int),((i+1:Nat):Int)) else .inr (.inl false)) else .inl ((f:Int),((i+1:Nat):Int))):=by
   unfold awe
   rw [h1,cond_true,h2]
   simp only [Bool.not_false,Bool.false_eq_true,if_false,Int.toNat_natCast,hg,e46]
   rw [aj9 _ (fun _=>by omega)]
   by_cases hc:s[i]=46
   ·rw [if_pos hc,decide_eq_true hc,cond_true]
    rw [aj9 _ (by omega),fqn n _ (by simp only [List.length_drop,List.length_take];omega) (by simp only [List.length_drop,List.length_take];omega),Option.bind_some]
    rw [wid (n:=(i:Int)+1) (by omega)]
    simp only [akv,wid (n:=(i:Int)+1) (by omega)]
    cases smp (List.drop f (List.take i s)) <;> rfl
   ·rw [if_neg hc,decide_eq_false hc,cond_false]
    simp only [akv,wid (n:=(i:Int)+1) (by omega)]
    rfl
  rw [hd,goN]
  by_cases hc:s[i]=46
  ·rw [if_pos hc] at hb ⊢
   cases hsm:smp (List.drop f (List.take i s)) with
   | false =>
    rw [hsm] at hb
    rw [ajk (y:=.inl false) (by simpa using hb)];simp
   | true =>
    rw [hsm] at hb
    rw [aju (x':=(((i+1:Nat):Int),((i+1:Nat):Int))) (by simpa using hb),ekf n s hn hs j (i+1) (i+1) m (by omega) (by omega) (by omega)]
    have:List.drop (i+1) (List.take (i+1) s)=[]:=List.drop_eq_nil_of_le (by rw [List.length_take];omega)
    rw [this];simp
  ·rw [if_neg hc] at hb ⊢
   rw [aju (x':=((f:Int),((i+1:Nat):Int))) hb,ekf n s hn hs j f (i+1) m (by omega) (by omega) (by omega),ht]
   have:List.drop f (List.take i s ++ [s[i]])=List.drop f (List.take i s) ++ [s[i]]:=by
    rw [List.drop_append_of_le_length (by rw [List.length_take];omega)]
   rw [this]
theorem ezx (n:Nat) (s:List UInt8) (hn:N0≤n) (hs:s.length≤2097152):bwy n s=some (djb s):=by
 have hn0:4194304≤n:=hn
 unfold bwy djb
 have:=ekf n s hn hs s.length 0 0 n (by omega) (by omega) (by omega)
 simp only [List.take_zero,List.drop_nil,List.drop_zero,hjt] at this
 have this':ajj (fun (x:Int×Int)=>awe n s x.1 x.2) n (0,0)=some (if (parts s).all smp=true then .inr () else .inl false):=this
 rw [this',Option.bind_some]
 have e:decide ((s.length:Int)≤44)=decide (s.length≤44):=by
  by_cases h:s.length≤44
  ·rw [decide_eq_true h,decide_eq_true (by omega)]
  ·rw [decide_eq_false h,decide_eq_false (by omega)]
 cases (parts s).all smp with
 | true=>simp only [if_true,bkm,e,Bool.and_true]
 | false=>simp
def serB (s:List UInt8):Bool:=decide (1≤s.length) && decide (s.length≤6) && s.all (fun b=>letB b || digB b)
def inB (x lo hi:Int):Bool:=decide (lo≤x) && decide (x≤hi)
theorem fym (n:Nat) (x lo hi:Int):aqa n x lo hi=some (inB x lo hi):=by
 unfold aqa inB
 by_cases h:lo≤x
 ·simp [h]
 ·simp [h]
theorem fjp (n:Nat) (x lo hi:Int):ajl n x lo hi=some (inB x lo hi):=by
 unfold ajl inB
 by_cases h:lo≤x
 ·have:x ≥ lo:=h
  simp [h,this]
 ·have:¬ (x ≥ lo):=h
  simp [h,this]
theorem fz1 (s:List UInt8):inB (s.length:Int) 1 6=(decide (1≤s.length) && decide (s.length≤6)):=by
 unfold inB
 congr 1 <;> (apply decide_eq_decide.2;omega)
theorem gqd (n:Nat) (s:List UInt8) (hn:s.length < n) (hs:s.length≤2097152):bk3 n s=some (serB s):=by
 unfold bk3
 have key:ajj (fun (x:Int)=>ayk n s x) n 0=some (if s.any (fun b=>!(letB b || digB b))=true then .inl false else .inr ()):=by
  refine cjd s (fun b=>!(letB b || digB b)) _ _ (fun k hk=>?_) ?_ hn
  ·have hlt:((k:Nat):Int) < (s.length:Int):=by omega
   have h0:(0:Int)≤(k:Int):=by omega
   have hg:s.getD k 0=s[k]:=by simp [List.getD_eq_getElem?_getD,hk]
   unfold ayk
   simp only [decide_eq_true hlt,cond_true,Int.toNat_natCast,hg,h0,hlt,and_self,implies_true]
   rw [aj9 _ trivial,ewa,Option.bind_some,fq3]
   simp only [Option.isSome_some,Option.getD_some,implies_true,and_self]
   rw [aj9 _ trivial,wid (n:=(k:Int)+1) (by omega)]
   cases letB s[k] <;> cases digB s[k] <;> rfl
  ·unfold ayk
   simp only [Int.lt_irrefl,decide_false,cond_false]
 rw [key,Option.bind_some]
 have ha:s.any (fun b=>!(letB b || digB b)) = !s.all (fun b=>letB b || digB b):=by rw [List.all_eq_not_any_not];simp
 rw [ha]
 unfold serB
 cases s.all (fun b=>letB b || digB b) with
 | false=>simp
 | true=>simp only [Bool.not_true,Bool.false_eq_true,if_false,bwa,fjp,Option.bind_some,fz1,Bool.and_true]
def djp (s:List UInt8) (c h z:Int):Bool:=serB s && inB c 1 64 && inB h 1 8 && inB z 1 (IntKind.wrap .i64 (IntKind.wrap .i64 (c * h) - 1))
theorem fkn {s:List UInt8} {c h z:Int} (hh:djp s c h z=true):1≤z∧z≤511:=by
 simp only [djp,inB,Bool.and_eq_true,decide_eq_true_eq] at hh
 obtain ⟨⟨⟨_,h1,h2⟩,h3,h4⟩,h5,h6⟩:=hh
 have e1:1≤c * h:=by
  have:0 < c * h:=Int.mul_pos (by omega) (by omega)
  omega
 have e2:c * h≤512:=by
  have a:c * h≤64 * h:=Int.mul_le_mul_of_nonneg_right h2 (by omega)
  omega
 rw [wid (n:=c * h) (by omega),wid (n:=c * h - 1) (by omega)] at h6
 omega
theorem gwo (n:Nat) (hn:N0≤n) (s:List UInt8) (c h z:Int) (hs:s.length≤2097152):awq n ⟨s,c,h,z,[]⟩=some (if djp s c h z=true then 0 else 5):=by
 have hn0:4194304≤n:=hn
 unfold awq
 obtain ⟨t,ht1,ht2⟩:=hj6 n s
 have ht1':aqu n s [65,66,67,68,69,70,71,72,73,74,75,76,77,78,79,80,81,82,83,84,85,86,87,88,89,90,48,49,50,51,52,53,54,55,56,57]=some t:=ht1
 simp only [fym,Option.bind_some,ht1',Option.isSome_some,Option.getD_some,implies_true,and_self,ht2,fz1]
 rw [aj9 _ trivial]
 have e1:(if (!(decide (1≤s.length) && decide (s.length≤6)))=true then true else !s.all fun b=>letB b || digB b) = !serB s:=by
  unfold serB
  cases (decide (1≤s.length) && decide (s.length≤6)) <;> simp
 rw [e1]
 cases hser:serB s with
 | false=>simp [djp,hser]
 | true =>
  simp only [Bool.not_true,cond_false]
  rw [aj9 _ trivial]
  have e2:(if (if (!inB c 1 64)=true then true else !inB h 1 8)=true then true else !inB z 1 (IntKind.wrap .i64 (IntKind.wrap .i64 (c * h) - 1))) = !djp s c h z:=by
   unfold djp;rw [hser]
   cases inB c 1 64 <;> cases inB h 1 8 <;> simp
  rw [e2]
  cases hh:djp s c h z with
  | false=>simp
  | true =>
   obtain ⟨z1,z2⟩:=fkn hh
   simp only [Bool.not_true,cond_false,if_true]
   have w1:IntKind.wrap .i64 (14 * z)=14 * z:=wid (by omega)
   have w2:IntKind.wrap .i64 (z+1)=z+1:=wid (by omega)
   rw [w1,w2]
   have e3:decide ((([]:List aj4).length:Int) > (if 14 * z < 64 then 14 * z else 64))=false:=by
    refine decide_eq_false ?_
    simp only [List.length_nil]
    split <;> omega
   rw [e3,cond_false]
   have hl:ajj (fun (x:(List aj0)×Int)=>awc n ⟨s,c,h,z,[]⟩ ((([]:List aj4).length:Nat):Int) x.1 x.2) n ([(⟨0,z+1⟩:aj0)],0)=some (.inr [(⟨0,z+1⟩:aj0)]):=by
    obtain ⟨m,rfl⟩:∃ m,n=m+1:=⟨n - 1,by omega⟩
    refine ajk ?_
    simp [awc]
   have hv:(trkF [] [(⟨0,z+1⟩:aj0)]).isSome=true:=by
    rw [awr]
    refine ⟨?_,?_⟩
    ·have:val ⟨0,z+1⟩=true:=(ajw _).2 ⟨by simp,by simp only;omega,by simp,by simp only;omega⟩
     simp [this]
    ·rw [awi]
     simp only [trks,List.flatMap_nil,List.append_nil]
     exact dyb _
   have hl':ajj (fun (x:(List aj0)×Int)=>awc n ⟨s,c,h,z,[]⟩ (([]:List aj4).length:Int) x.1 x.2) n ([(⟨0,z+1⟩:aj0)],0)=some (.inr [(⟨0,z+1⟩:aj0)]):=hl
   rw [hl',Option.bind_some]
   simp only [bwe,cku n hn [(⟨0,z+1⟩:aj0)] (by simp),hv,Option.bind_some,Bool.not_true,cond_false]
theorem gk0:byu N0=some true:=by decide +kernel
end Go.Proofs.YtijnkhcfondehaaGreatDoor
/-
 ch. 21: valid tables, by the program and by the specification.
-/
set_option maxHeartbeats 8000000
set_option linter.unusedVariables false
set_option linter.unusedSimpArgs false
set_option maxRecDepth 100000
namespace Go.Proofs.YtijnkhcfondehaaGreatDoor
open Go.AE
def dscB (d:TDcb):Bool:=inB d.Org 1 3 && inB d.Format 1 3 && inB d.Lrecl 0 1024 && inB d.Blksize 0 1024 && inB d.KeyPos 0 1024 && inB d.KeyLen 0 64
theorem fw1 (n:Nat) (d:TDcb):aqm n d=some (dscB d):=by
 simp only [aqm,fym,Option.bind_some,Option.isSome_some,Option.getD_some,implies_true,and_self,ew5]
 rw [aj9 _ trivial];rfl
theorem ezr (n:Nat) (d:TDcb):aq0 n d=some (dscB d):=by
 simp only [aq0,fjp,Option.bind_some,Option.isSome_some,Option.getD_some,implies_true,and_self,ew5]
 rw [aj9 _ trivial];rfl
def exts (l:List aj4):List aj0:=l.flatMap (·.Extents)
def capV (v:aj5):Int:=IntKind.wrap .i64 (v.Cyls * v.Heads)
def dwc (v:aj5) (x:aj0):Bool:=decide (IntKind.wrap .i64 (x.At+x.Len) > capV v)
def pLbl (v:aj5) (d:aj4):Bool:=djb d.Name && dscB d.Dcb && inB (d.Extents.length:Int) 1 8 && (trkF [] d.Extents).isSome && !d.Extents.any (dwc v) && inB d.Used 0 (((trkO d.Extents).length:Nat):Int)
def rLbl (v:aj5) (d:aj4):Bool:=!d.Extents.any (fun x=>decide (x.At≤v.Size) || dwc v x) && (djb d.Name && dscB d.Dcb && inB (d.Extents.length:Int) 1 8 && (trkF [] d.Extents).isSome && inB d.Used 0 (((trkO d.Extents).length:Nat):Int))
theorem aql {α:Type} [Inhabited α] {l:List α} {k:Nat} (h:k < l.length):gt l k=l[k]:=by simp [gt,List.getD_eq_getElem?_getD,h]
theorem hjl (n:Nat) (hn:N0≤n) (v:aj5) (d:aj4) (hd:d.Extents.length≤1048576):ayg n v d=some (pLbl v d):=by
 have hn0:4194304≤n:=hn
 unfold ayg
 simp only [fz8 n _ hn,fw1,fym,cku n hn d.Extents (by omega),Option.bind_some,Option.isSome_some,Option.getD_some,implies_true,and_self]
 rw [aj9 _ trivial]
 have e1:(if (if (if (!djb d.Name)=true then true else !dscB d.Dcb)=true then true else !inB (d.Extents.length:Int) 1 8)=true then true else !(trkF [] d.Extents).isSome) = !(djb d.Name && dscB d.Dcb && inB (d.Extents.length:Int) 1 8 && (trkF [] d.Extents).isSome):=by
  simp only [dzj,Bool.not_and]
 rw [e1]
 unfold pLbl
 cases (djb d.Name && dscB d.Dcb && inB (d.Extents.length:Int) 1 8 && (trkF [] d.Extents).isSome) with
 | false=>simp
 | true =>
  simp only [Bool.not_true,cond_false,Bool.true_and]
  have key:ajj (fun (x:Int)=>azj n v d (d.Extents.length:Int) x) n 0=some (if d.Extents.any (dwc v)=true then .inl false else .inr ()):=by
   refine cjd d.Extents (dwc v) _ _ (fun k hk=>?_) ?_ (by omega)
   ·have hlt:((k:Nat):Int) < (d.Extents.length:Int):=by omega
    unfold azj
    rw [decide_eq_true hlt,cond_true,aj9 _ ⟨by omega,hlt⟩,Int.toNat_natCast,aql hk,wid (n:=(k:Int)+1) (by omega)]
    show (bif dwc v d.Extents[k] then _ else _)=_
    cases dwc v d.Extents[k] <;> rfl
   ·unfold azj
    simp only [Int.lt_irrefl,decide_false,cond_false]
  rw [key,Option.bind_some]
  cases d.Extents.any (dwc v) with
  | true=>simp
  | false=>simp only [Bool.false_eq_true,if_false,aya,fkm n hn d.Extents (by omega),fym,Option.bind_some,Bool.not_false,Bool.true_and]
theorem gya (n:Nat) (hn:N0≤n) (v:aj5) (d:aj4) (hd:d.Extents.length≤1048576) (hs:d.Name.length≤2097152):cj0 n v d=some (rLbl v d):=by
 have hn0:4194304≤n:=hn
 unfold cj0
 have key:ajj (fun (x:Int)=>bjo n v d x) n 0=some (if d.Extents.any (fun x=>decide (x.At≤v.Size) || dwc v x)=true then .inl false else .inr ()):=by
  refine cjd d.Extents (fun x=>decide (x.At≤v.Size) || dwc v x) _ _ (fun k hk=>?_) ?_ (by omega)
  ·have hlt:((k:Nat):Int) < (d.Extents.length:Int):=by omega
   unfold bjo
   rw [decide_eq_true hlt,cond_true,aj9 _ ⟨by omega,hlt⟩,Int.toNat_natCast,aql hk,wid (n:=(k:Int)+1) (by omega),dzj]
   show (bif (decide (d.Extents[k].At≤v.Size) || dwc v d.Extents[k]) then _ else _)=_
   cases (decide (d.Extents[k].At≤v.Size) || dwc v d.Extents[k]) <;> rfl
  ·unfold bjo
   simp only [Int.lt_irrefl,decide_false,cond_false]
 rw [key,Option.bind_some]
 unfold rLbl
 cases d.Extents.any (fun x=>decide (x.At≤v.Size) || dwc v x) with
 | true=>simp
 | false =>
  simp only [Bool.false_eq_true,if_false,bzh,ezx n _ hn hs,ezr,fjp,cqb n hn d.Extents (by omega),fqd n hn d.Extents (by omega),Option.bind_some,Option.isSome_some,Option.getD_some,implies_true,and_self,Bool.not_false,Bool.true_and]
  rw [aj9 _ trivial]
  simp only [ew5]
def ordB (l:List aj4) (k:Nat):Bool:=decide (0 < k) && !Op.bytesLess (gt l (k - 1)).Name (gt l k).Name
def pBad (v:aj5) (k:Nat):Bool:=!pLbl v (gt v.Sets k) || ordB v.Sets k
def rBad (v:aj5) (k:Nat):Bool:=!rLbl v (gt v.Sets k) || ordB v.Sets k
def ay7 (v:aj5):Prop:=v.Sets.length≤70∧v.Serial.length≤100∧∀ d∈v.Sets,d.Name.length≤100∧d.Extents.length≤20
theorem gqx (d:aj4) (l:List aj4):exts (d :: l)=d.Extents ++ exts l:=rfl
theorem gkw (a b:List aj4):exts (a ++ b)=exts a ++ exts b:=by simp [exts]
theorem cqy:∀ {l:List aj4},(∀ d∈l,d.Name.length≤100∧d.Extents.length≤20)→(exts l).length≤20 * l.length
 | [],_=>by simp [exts]
 | d :: l,h=>by
  have h1:=(h d (by simp)).2
  have h2:=cqy (l:=l) fun x hx=>h x (by simp [hx])
  rw [gqx,List.length_append,List.length_cons];omega
theorem ejq {l:List aj4} {k:Nat} (h:k < l.length):exts (l.take (k+1))=exts (l.take k) ++ (gt l k).Extents:=by
 rw [List.take_add_one,gkw,aql h]
 simp [h,exts]
theorem ez8 (n:Nat) (hn:N0≤n) (v:aj5) (hv:ay7 v) (u0:List aj0) (hu:u0.length≤1):∀ j k m,k+j=v.Sets.length→j < m →
  ajj (fun (x:(List aj0)×Int)=>awc n v (v.Sets.length:Int) x.1 x.2) m (u0 ++ exts (v.Sets.take k),(k:Int))=some (if (List.range' k j).any (pBad v)=true then .inl 5 else .inr (u0 ++ exts v.Sets))
 | 0,k,m,hj,hm=>by
  obtain ⟨m,rfl⟩:∃ q,m=q+1:=⟨m - 1,by omega⟩
  have hk:k=v.Sets.length:=by omega
  subst hk
  refine (ajk (y:=.inr (u0 ++ exts v.Sets)) ?_).trans (by simp)
  unfold awc
  simp only [Int.lt_irrefl,decide_false,cond_false,List.take_length]
 | j+1,k,m,hj,hm=>by
  obtain ⟨h1,h2,h3⟩:=hv
  obtain ⟨m,rfl⟩:∃ q,m=q+1:=⟨m - 1,by omega⟩
  have hk:k < v.Sets.length:=by omega
  have hlt:((k:Nat):Int) < (v.Sets.length:Int):=by omega
  have hmem:gt v.Sets k∈v.Sets:=by rw [aql hk];exact List.getElem_mem hk
  have hx:=(h3 _ hmem).2
  have hb:awc n v (v.Sets.length:Int) (u0 ++ exts (v.Sets.take k)) (k:Int)=some (if pBad v k=true then .inr (.inl 5) else .inl (u0 ++ exts (v.Sets.take (k+1)),((k+1:Nat):Int))):=by
   unfold awc
   have hel:=cqy (l:=v.Sets.take k) fun d hd=>h3 d (List.mem_of_mem_take hd)
   rw [List.length_take] at hel
   have hap:(u0 ++ exts (v.Sets.take k)).length+(gt v.Sets k).Extents.length≤2147483648:=by rw [List.length_append];omega
   simp only [decide_eq_true hlt,cond_true,Int.toNat_natCast,hjl n hn v _ (Nat.le_trans hx (by decide)),Option.bind_some]
   rw [aj9 _ ⟨by omega,hlt⟩,aj9 _ (by
    intro hc
    simp only [Bool.and_eq_true,decide_eq_true_eq] at hc
    rw [wid (n:=(k:Int) - 1) (by omega)];omega)]
   have eo:(if decide ((k:Int) > 0)=true then !Op.bytesLess (gt v.Sets (IntKind.wrap .i64 ((k:Int) - 1)).toNat).Name (gt v.Sets k).Name else false)=ordB v.Sets k:=by
    unfold ordB
    rw [ew5]
    by_cases h0:0 < k
    ·have:(k:Int) > 0:=by omega
     have e:(IntKind.wrap .i64 ((k:Int) - 1)).toNat=k - 1:=by rw [wid (by omega)];omega
     rw [e,decide_eq_true this,decide_eq_true h0]
    ·have:¬ ((k:Int) > 0):=by omega
     rw [decide_eq_false this,decide_eq_false h0];rfl
   rw [eo,dzj,aj9 _ hap,wid (n:=(k:Int)+1) (by omega),ejq hk]
   show (bif pBad v k then _ else _)=_
   rw [← List.append_assoc]
   cases pBad v k <;> rfl
  rw [List.range'_succ,List.any_cons]
  cases hp:pBad v k with
  | true =>
   rw [hp] at hb
   rw [ajk (y:=.inl 5) (by simpa using hb)];simp
  | false =>
   rw [hp] at hb
   rw [aju (x':=(u0 ++ exts (v.Sets.take (k+1)),((k+1:Nat):Int))) (by simpa using hb),ez8 n hn v ⟨h1,h2,h3⟩ u0 hu j (k+1) m (by omega) (by omega),Bool.false_or]
theorem dzp (n:Nat) (hn:N0≤n) (v:aj5) (hv:ay7 v):∀ j k m,k+j=v.Sets.length→j < m →
  ajj (fun (x:Int)=>azx n v x) m (k:Int)=some (if (List.range' k j).any (rBad v)=true then .inl false else .inr ())
 | 0,k,m,hj,hm=>by
  obtain ⟨m,rfl⟩:∃ q,m=q+1:=⟨m - 1,by omega⟩
  have hk:k=v.Sets.length:=by omega
  subst hk
  refine (ajk (y:=.inr ()) ?_).trans (by simp)
  unfold azx
  simp only [Int.lt_irrefl,decide_false,cond_false]
 | j+1,k,m,hj,hm=>by
  obtain ⟨h1,h2,h3⟩:=hv
  obtain ⟨m,rfl⟩:∃ q,m=q+1:=⟨m - 1,by omega⟩
  have hk:k < v.Sets.length:=by omega
  have hlt:((k:Nat):Int) < (v.Sets.length:Int):=by omega
  have hmem:gt v.Sets k∈v.Sets:=by rw [aql hk];exact List.getElem_mem hk
  have hx:=h3 _ hmem
  have hb:azx n v (k:Int)=some (if rBad v k=true then .inr (.inl false) else .inl ((k+1:Nat):Int)):=by
   unfold azx
   simp only [decide_eq_true hlt,cond_true,Int.toNat_natCast,gya n hn v _ (Nat.le_trans hx.2 (by decide)) (Nat.le_trans hx.1 (by decide)),Option.bind_some]
   rw [aj9 _ ⟨by omega,hlt⟩,aj9 _ (by
    refine ⟨fun hc=>?_,fun _=>⟨by omega,hlt⟩⟩
    simp only [Bool.and_eq_true,decide_eq_true_eq] at hc
    rw [wid (n:=(k:Int) - 1) (by omega)];omega)]
   have eo:(if decide ((k:Int) > 0)=true then !Op.bytesLess (gt v.Sets (IntKind.wrap .i64 ((k:Int) - 1)).toNat).Name (gt v.Sets k).Name else false)=ordB v.Sets k:=by
    unfold ordB
    rw [ew5]
    by_cases h0:0 < k
    ·have:(k:Int) > 0:=by omega
     have e:(IntKind.wrap .i64 ((k:Int) - 1)).toNat=k - 1:=by rw [wid (by omega)];omega
     rw [e,decide_eq_true this,decide_eq_true h0]
    ·have:¬ ((k:Int) > 0):=by omega
     rw [decide_eq_false this,decide_eq_false h0];rfl
   rw [eo,dzj,wid (n:=(k:Int)+1) (by omega)]
   show (bif rBad v k then _ else _)=_
   cases rBad v k <;> rfl
  rw [List.range'_succ,List.any_cons]
  cases hp:rBad v k with
  | true =>
   rw [hp] at hb
   rw [ajk (y:=.inl false) (by simpa using hb)];simp
  | false =>
   rw [hp] at hb
   rw [aju (x':=((k+1:Nat):Int)) (by simpa using hb),dzp n hn v ⟨h1,h2,h3⟩ j (k+1) m (by omega) (by omega),Bool.false_or]
theorem all_eq (n:Nat) (hn:N0≤n) (v:aj5) (hv:ay7 v):cq9 n v=some (exts v.Sets):=by
 have hn0:4194304≤n:=hn
 obtain ⟨h1,h2,h3⟩:=hv
 have key:∀ j k m,k+j=v.Sets.length→j < m→ajj (fun (x:(List aj0)×Int)=>bqa n v x.1 x.2) m (exts (v.Sets.take k),(k:Int))=some (exts v.Sets):=by
  intro j
  induction j with
  | zero =>
   intro k m hj hm
   obtain ⟨m,rfl⟩:∃ q,m=q+1:=⟨m - 1,by omega⟩
   have hk:k=v.Sets.length:=by omega
   subst hk
   refine ajk ?_
   unfold bqa
   simp only [Int.lt_irrefl,decide_false,cond_false,List.take_length]
  | succ j ih =>
   intro k m hj hm
   obtain ⟨m,rfl⟩:∃ q,m=q+1:=⟨m - 1,by omega⟩
   have hk:k < v.Sets.length:=by omega
   have hlt:((k:Nat):Int) < (v.Sets.length:Int):=by omega
   have hmem:gt v.Sets k∈v.Sets:=by rw [aql hk];exact List.getElem_mem hk
   have hx:=(h3 _ hmem).2
   have hel:=cqy (l:=v.Sets.take k) fun d hd=>h3 d (List.mem_of_mem_take hd)
   rw [List.length_take] at hel
   refine (aju (x':=(exts (v.Sets.take (k+1)),((k+1:Nat):Int))) ?_).trans (ih (k+1) m (by omega) (by omega))
   unfold bqa
   simp only [decide_eq_true hlt,cond_true,Int.toNat_natCast]
   rw [aj9 _ ⟨⟨by omega,hlt⟩,by omega⟩,wid (n:=(k:Int)+1) (by omega),ejq hk]
   rfl
 have:=key v.Sets.length 0 n (by omega) (by omega)
 simp only [List.take_zero] at this
 have this':ajj (fun (x:(List aj0)×Int)=>bqa n v x.1 x.2) n ([],0)=some (exts v.Sets):=this
 simp only [cq9,this',Option.bind_some,cjj]
end Go.Proofs.YtijnkhcfondehaaGreatDoor
/-
 ch. 21: Check is Valid; Free.
-/
set_option maxHeartbeats 8000000
set_option linter.unusedVariables false
set_option linter.unusedSimpArgs false
set_option maxRecDepth 100000
namespace Go.Proofs.YtijnkhcfondehaaGreatDoor
open Go.AE
def head (v:aj5):Bool:=djp v.Serial v.Cyls v.Heads v.Size
def pV (v:aj5):Bool:=head v && !decide ((v.Sets.length:Int) > (if IntKind.wrap .i64 (14 * v.Size) < 64 then IntKind.wrap .i64 (14 * v.Size) else 64)) && !(List.range' 0 v.Sets.length).any (pBad v) && (trkF [] (⟨0,IntKind.wrap .i64 (v.Size+1)⟩ :: exts v.Sets)).isSome
def rV (v:aj5):Bool:=head v && !decide ((v.Sets.length:Int) > 64) && !decide ((v.Sets.length:Int) > IntKind.wrap .i64 (14 * v.Size)) && !(List.range' 0 v.Sets.length).any (rBad v) && (trkF [] (exts v.Sets)).isSome
theorem byr (n:Nat) (hn:N0≤n) (v:aj5) (hv:ay7 v):awq n v=some (if pV v=true then 0 else 5):=by
 have hn0:4194304≤n:=hn
 obtain ⟨h1,h2,h3⟩:=hv
 unfold awq
 obtain ⟨t,ht1,ht2⟩:=hj6 n v.Serial
 have ht1':aqu n v.Serial [65,66,67,68,69,70,71,72,73,74,75,76,77,78,79,80,81,82,83,84,85,86,87,88,89,90,48,49,50,51,52,53,54,55,56,57]=some t:=ht1
 simp only [fym,Option.bind_some,ht1',Option.isSome_some,Option.getD_some,implies_true,and_self,ht2,fz1]
 rw [aj9 _ trivial]
 have e1:(if (!(decide (1≤v.Serial.length) && decide (v.Serial.length≤6)))=true then true else !v.Serial.all fun b=>letB b || digB b) = !serB v.Serial:=by
  unfold serB
  cases (decide (1≤v.Serial.length) && decide (v.Serial.length≤6)) <;> simp
 rw [e1]
 unfold pV head
 cases hser:serB v.Serial with
 | false=>simp [djp,hser]
 | true =>
  simp only [Bool.not_true,cond_false]
  rw [aj9 _ trivial]
  have e2:(if (if (!inB v.Cyls 1 64)=true then true else !inB v.Heads 1 8)=true then true else !inB v.Size 1 (IntKind.wrap .i64 (IntKind.wrap .i64 (v.Cyls * v.Heads) - 1))) = !djp v.Serial v.Cyls v.Heads v.Size:=by
   unfold djp;rw [hser]
   cases inB v.Cyls 1 64 <;> cases inB v.Heads 1 8 <;> simp
  rw [e2]
  cases hh:djp v.Serial v.Cyls v.Heads v.Size with
  | false=>simp
  | true =>
   simp only [Bool.not_true,cond_false,Bool.true_and]
   cases hl:decide ((v.Sets.length:Int) > (if IntKind.wrap .i64 (14 * v.Size) < 64 then IntKind.wrap .i64 (14 * v.Size) else 64)) with
   | true=>simp
   | false =>
    simp only [cond_false,Bool.not_false,Bool.true_and]
    have key:=ez8 n hn v ⟨h1,h2,h3⟩ [⟨0,IntKind.wrap .i64 (v.Size+1)⟩] (by simp) v.Sets.length 0 n (by omega) (by omega)
    simp only [List.take_zero] at key
    have key':ajj (fun (x:(List aj0)×Int)=>awc n v (v.Sets.length:Int) x.1 x.2) n ([(⟨0,IntKind.wrap .i64 (v.Size+1)⟩:aj0)],0)=some (if (List.range' 0 v.Sets.length).any (pBad v)=true then .inl 5 else .inr ([(⟨0,IntKind.wrap .i64 (v.Size+1)⟩:aj0)] ++ exts v.Sets)):=key
    rw [key',Option.bind_some]
    cases (List.range' 0 v.Sets.length).any (pBad v) with
    | true=>simp
    | false =>
     have hel:=cqy h3
     have hle:((⟨0,IntKind.wrap .i64 (v.Size+1)⟩:aj0) :: exts v.Sets).length≤1073741824:=by rw [List.length_cons];omega
     simp only [Bool.false_eq_true,if_false,List.singleton_append,bwe,cku n hn _ hle,Option.bind_some,Bool.not_false,Bool.true_and]
     cases (trkF [] ((⟨0,IntKind.wrap .i64 (v.Size+1)⟩:aj0) :: exts v.Sets)).isSome <;> rfl
theorem ejk (n:Nat) (hn:N0≤n) (v:aj5) (hv:ay7 v):bq0 n v=some (rV v):=by
 have hn0:4194304≤n:=hn
 obtain ⟨h1,h2,h3⟩:=hv
 unfold bq0
 simp only [gqd n v.Serial (by omega) (by omega),fjp,Option.bind_some,Option.isSome_some,Option.getD_some,implies_true,and_self]
 rw [aj9 _ trivial]
 have e2:(if (if (if (!serB v.Serial)=true then true else !inB v.Cyls 1 64)=true then true else !inB v.Heads 1 8)=true then true else !inB v.Size 1 (IntKind.wrap .i64 (IntKind.wrap .i64 (v.Cyls * v.Heads) - 1))) = !head v:=by
  unfold head djp
  cases serB v.Serial <;> cases inB v.Cyls 1 64 <;> cases inB v.Heads 1 8 <;> simp
 rw [e2]
 unfold rV
 cases hh:head v with
 | false=>simp
 | true =>
  simp only [Bool.not_true,Bool.false_eq_true,if_false,Bool.true_and,dzj]
  cases hl:decide ((v.Sets.length:Int) > 64) with
  | true=>simp
  | false =>
   simp only [Bool.false_or,Bool.not_false,Bool.true_and]
   cases hl2:decide ((v.Sets.length:Int) > IntKind.wrap .i64 (14 * v.Size)) with
   | true=>simp
   | false =>
    simp only [cond_false,Bool.not_false,Bool.true_and]
    have key:=dzp n hn v ⟨h1,h2,h3⟩ v.Sets.length 0 n (by omega) (by omega)
    have key':ajj (fun (x:Int)=>azx n v x) n 0=some (if (List.range' 0 v.Sets.length).any (rBad v)=true then .inl false else .inr ()):=key
    rw [key',Option.bind_some]
    cases (List.range' 0 v.Sets.length).any (rBad v) with
    | true=>simp
    | false =>
     have hel:=cqy h3
     simp only [Bool.false_eq_true,if_false,bz9,all_eq n hn v ⟨h1,h2,h3⟩,cqb n hn (exts v.Sets) (by omega),Option.bind_some,Bool.not_false,Bool.true_and]
theorem fyg {S:Int} (hS:0≤S∧S≤511) (A:List aj0):(trkF [] (⟨0,S+1⟩ :: A)).isSome=true↔(trkF [] A).isSome=true∧∀ x∈A,S < x.At:=by
 rw [awr,awr,awi,List.all_cons,Bool.and_eq_true,List.nodup_append]
 have hv0:val ⟨0,S+1⟩=true:=(ajw _).2 ⟨by simp,by simp only;omega,by simp,by simp only;omega⟩
 constructor
 ·rintro ⟨⟨_,h1⟩,_,h2,h3⟩
  refine ⟨⟨h1,h2⟩,fun x hx=>?_⟩
  have hvx:=(ajw x).1 (List.all_eq_true.1 h1 x hx)
  have hm:x.At∈trks A:=List.mem_flatMap.2 ⟨x,hx,ayr.2 ⟨by omega,by omega⟩⟩
  by_cases hc:S < x.At
  ·exact hc
  ·exact absurd rfl (h3 x.At (ayr.2 ⟨by simp only;omega,by simp only;omega⟩) x.At hm)
 ·rintro ⟨⟨h1,h2⟩,h3⟩
  refine ⟨⟨hv0,h1⟩,dyb _,h2,fun a ha b hb e=>?_⟩
  subst e
  obtain ⟨x,hx,hb⟩:=List.mem_flatMap.1 hb
  have:=h3 x hx
  have h4:=ayr.1 ha
  have h5:=ayr.1 hb
  simp only at h4
  omega
theorem fjb {p:Nat→Bool} {m:Nat}:(List.range' 0 m).any p=false↔∀ k,k < m→p k=false:=by
 rw [List.any_eq_false]
 constructor
 ·intro h k hk
  have:=h k (by simp [List.mem_range',hk])
  simpa using this
 ·intro h k hk
  have:k < m:=by simpa [List.mem_range'] using hk
  simp [h k this]
theorem gkx {v:aj5} {k:Nat}:pBad v k=false↔pLbl v (gt v.Sets k)=true∧ordB v.Sets k=false:=by
 unfold pBad;cases pLbl v (gt v.Sets k) <;> cases ordB v.Sets k <;> simp
theorem gk9 {v:aj5} {d:aj4}:rLbl v d=true↔pLbl v d=true∧∀ x∈d.Extents,v.Size < x.At:=by
 have e:d.Extents.any (fun x=>decide (x.At≤v.Size) || dwc v x)=false↔d.Extents.any (dwc v)=false∧∀ x∈d.Extents,v.Size < x.At:=by
  simp only [List.any_eq_false,Bool.or_eq_true,decide_eq_true_eq,not_or]
  constructor
  ·intro h;exact ⟨fun x hx=>(h x hx).2,fun x hx=>by have:=(h x hx).1;omega⟩
  ·rintro ⟨h1,h2⟩ x hx;exact ⟨by have:=h2 x hx;omega,h1 x hx⟩
 unfold rLbl pLbl
 simp only [Bool.and_eq_true,Bool.not_eq_true',e]
 constructor
 ·rintro ⟨⟨h1,h2⟩,⟨⟨⟨h3,h4⟩,h5⟩,h6⟩,h7⟩;exact ⟨⟨⟨⟨⟨⟨h3,h4⟩,h5⟩,h6⟩,h1⟩,h7⟩,h2⟩
 ·rintro ⟨⟨⟨⟨⟨⟨h3,h4⟩,h5⟩,h6⟩,h1⟩,h7⟩,h2⟩;exact ⟨⟨h1,h2⟩,⟨⟨⟨h3,h4⟩,h5⟩,h6⟩,h7⟩
theorem fke {v:aj5} {k:Nat}:rBad v k=false↔(pLbl v (gt v.Sets k)=true∧∀ x∈(gt v.Sets k).Extents,v.Size < x.At)∧ordB v.Sets k=false:=by
 rw [← gk9]
 unfold rBad;cases rLbl v (gt v.Sets k) <;> cases ordB v.Sets k <;> simp
theorem fzy {l:List aj4} {x:aj0}:x∈exts l↔∃ k,k < l.length∧x∈(gt l k).Extents:=by
 unfold exts
 rw [List.mem_flatMap]
 constructor
 ·rintro ⟨d,hd,hx⟩
  obtain ⟨k,hk,rfl⟩:=List.getElem_of_mem hd
  exact ⟨k,hk,by rw [aql hk];exact hx⟩
 ·rintro ⟨k,hk,hx⟩
  exact ⟨_,List.getElem_mem hk,by rw [← aql hk];exact hx⟩
theorem fwi (v:aj5):pV v=rV v:=by
 unfold pV rV
 cases hh:head v with
 | false=>simp
 | true =>
  obtain ⟨z1,z2⟩:=fkn hh
  have w1:IntKind.wrap .i64 (14 * v.Size)=14 * v.Size:=wid (by omega)
  have w2:IntKind.wrap .i64 (v.Size+1)=v.Size+1:=wid (by omega)
  rw [Bool.eq_iff_iff,w1,w2]
  simp only [Bool.true_and,Bool.and_eq_true,Bool.not_eq_true',decide_eq_false_iff_not,fjb,gkx,fke,fyg (S:=v.Size) ⟨by omega,by omega⟩]
  have em:¬ ((v.Sets.length:Int) > if 14 * v.Size < 64 then 14 * v.Size else 64)↔¬ ((v.Sets.length:Int) > 64)∧¬ ((v.Sets.length:Int) > 14 * v.Size):=by
   split <;> omega
  rw [em]
  constructor
  ·rintro ⟨⟨⟨h1,h2⟩,h3⟩,h4,h5⟩
   exact ⟨⟨⟨h1,h2⟩,fun k hk=>⟨⟨(h3 k hk).1,fun x hx=>h5 x (fzy.2 ⟨k,hk,hx⟩)⟩,(h3 k hk).2⟩⟩,h4⟩
  ·rintro ⟨⟨⟨h1,h2⟩,h3⟩,h4⟩
   refine ⟨⟨⟨h1,h2⟩,fun k hk=>⟨(h3 k hk).1.1,(h3 k hk).2⟩⟩,h4,fun x hx=>?_⟩
   obtain ⟨k,hk,hx⟩:=fzy.1 hx
   exact (h3 k hk).1.2 x hx
theorem gyn {v:aj5}:rV v=true↔head v=true∧v.Sets.length≤64∧(v.Sets.length:Int)≤14 * v.Size∧(∀ k,k < v.Sets.length→(pLbl v (gt v.Sets k)=true∧∀ x∈(gt v.Sets k).Extents,v.Size < x.At)∧ordB v.Sets k=false)∧(trkF [] (exts v.Sets)).isSome=true:=by
 unfold rV
 cases hh:head v with
 | false=>simp
 | true =>
  obtain ⟨z1,z2⟩:=fkn hh
  have w1:IntKind.wrap .i64 (14 * v.Size)=14 * v.Size:=wid (by omega)
  rw [w1]
  simp only [Bool.true_and,Bool.and_eq_true,Bool.not_eq_true',decide_eq_false_iff_not,fjb,fke,true_and]
  constructor
  ·rintro ⟨⟨⟨h1,h2⟩,h3⟩,h4⟩;exact ⟨by omega,by omega,h3,h4⟩
  ·rintro ⟨h1,h2,h3,h4⟩;exact ⟨⟨⟨by omega,by omega⟩,h3⟩,h4⟩
theorem gk2 {s t:List Int} (h:∀ k,k∈s↔k∈t):mark s=mark t:=by
 unfold mark
 refine List.map_congr_left fun k _=>?_
 exact decide_eq_decide.2 (h k)
theorem ej8 {a b:List aj0} (h:a.Perm b):(trkF [] a).isSome=(trkF [] b).isSome:=by
 rw [Bool.eq_iff_iff,awr,awr,ekh h,(ck2 h).nodup_iff]
theorem fkx (n:Nat) (hn:N0≤n) {a b:List aj0} (h:a.Perm b) (m:Int) (ha:a.length≤2097152):bqj n a m=bqj n b m:=by
 have hb:b.length≤2097152:=by rw [← h.length_eq];exact ha
 unfold bqj
 rw [cqb n hn a ha,cqb n hn b hb,ej8 h,Option.bind_some,Option.bind_some]
 cases hv:(trkF [] b).isSome with
 | false=>simp
 | true =>
  have hva:(trkF [] a).isSome=true:=by rw [ej8 h];exact hv
  rw [fzo n a hn ha,fzo n b hn hb,ezz hva,ezz hv,gk2 (fun k=>(ck2 h).mem_iff)]
theorem fy3 (n:Nat) (hn:N0≤n) (v:aj5) (hv:ay7 v) (u0:List aj0) (hu:u0.length≤1):∀ j k m,k+j=v.Sets.length→j < m →
  ajj (fun (x:(List aj0)×Int)=>bqc n v (v.Sets.length:Int) x.1 x.2) m (u0 ++ exts (v.Sets.take k),(k:Int))=some (u0 ++ exts v.Sets):=by
 obtain ⟨h1,h2,h3⟩:=hv
 intro j
 induction j with
 | zero =>
  intro k m hj hm
  obtain ⟨m,rfl⟩:∃ q,m=q+1:=⟨m - 1,by omega⟩
  have hk:k=v.Sets.length:=by omega
  subst hk
  refine ajk ?_
  unfold bqc
  simp only [Int.lt_irrefl,decide_false,cond_false,List.take_length]
 | succ j ih =>
  intro k m hj hm
  obtain ⟨m,rfl⟩:∃ q,m=q+1:=⟨m - 1,by omega⟩
  have hk:k < v.Sets.length:=by omega
  have hlt:((k:Nat):Int) < (v.Sets.length:Int):=by omega
  have hmem:gt v.Sets k∈v.Sets:=by rw [aql hk];exact List.getElem_mem hk
  have hx:=(h3 _ hmem).2
  have hel:=cqy (l:=v.Sets.take k) fun d hd=>h3 d (List.mem_of_mem_take hd)
  rw [List.length_take] at hel
  refine (aju (x':=(u0 ++ exts (v.Sets.take (k+1)),((k+1:Nat):Int))) ?_).trans (ih (k+1) m (by omega) (by omega))
  unfold bqc
  simp only [decide_eq_true hlt,cond_true,Int.toNat_natCast]
  rw [aj9 _ ⟨by omega,hlt⟩,aj9 _ (by rw [List.length_append];omega),wid (n:=(k:Int)+1) (by omega),ejq hk,List.append_assoc]
  rfl
theorem ek2 (n:Nat) (hn:N0≤n) (v:aj5) (hv:ay7 v):∃ R,bwb n v=some R∧bqm n v=some R∧R.length≤512:=by
 have hn0:4194304≤n:=hn
 have hel:=cqy hv.2.2
 have h70:=hv.1
 unfold bwb bqm
 rw [byr n hn v hv,ejk n hn v hv,fwi,Option.bind_some,Option.bind_some]
 cases hr:rV v with
 | false=>exact ⟨[],rfl,rfl,by simp⟩
 | true =>
  simp only [if_true,bne_self_eq_false,cond_false,Bool.not_true]
  have key:=fy3 n hn v hv [⟨0,IntKind.wrap .i64 (v.Size+1)⟩] (by simp) v.Sets.length 0 n (by omega) (by have:=hv.1;omega)
  simp only [List.take_zero] at key
  have key':ajj (fun (x:(List aj0)×Int)=>bqc n v (v.Sets.length:Int) x.1 x.2) n ([(⟨0,IntKind.wrap .i64 (v.Size+1)⟩:aj0)],0)=some ([(⟨0,IntKind.wrap .i64 (v.Size+1)⟩:aj0)] ++ exts v.Sets):=key
  have hle:((⟨0,IntKind.wrap .i64 (v.Size+1)⟩:aj0) :: exts v.Sets).length≤2097152:=by rw [List.length_cons];omega
  obtain ⟨R,hR1,hR2,hR3⟩:=hqe n hn ((⟨0,IntKind.wrap .i64 (v.Size+1)⟩:aj0) :: exts v.Sets) (IntKind.wrap .i64 (v.Cyls * v.Heads)) hle
  have hp:((⟨0,IntKind.wrap .i64 (v.Size+1)⟩:aj0) :: exts v.Sets).Perm (exts v.Sets ++ [⟨0,IntKind.wrap .i64 (v.Size+1)⟩]):=List.perm_append_comm (l₁:=[_])
  rw [fkx n hn hp _ hle] at hR2
  refine ⟨R,?_,?_,hR3⟩
  ·rw [key',Option.bind_some,List.singleton_append,cje,hR1,Option.bind_some]
  ·rw [all_eq n hn v hv,Option.bind_some,aj9 _ (by omega),hR2,Option.bind_some]
end Go.Proofs.YtijnkhcfondehaaGreatDoor
/-
 ch. 21: the order of names; where a label stands; copies.
-/
set_option maxHeartbeats 8000000
set_option linter.unusedVariables false
set_option linter.unusedSimpArgs false
set_option maxRecDepth 100000
namespace Go.Proofs.YtijnkhcfondehaaGreatDoor
open Go.AE
theorem bzq (x:List UInt8):Op.bytesLess x x=false:=by
 rw [Go.Proofs.bytesLess_eq];simp [List.lt_irrefl]
theorem ckt {x y z:List UInt8} (h1:Op.bytesLess x y=true) (h2:Op.bytesLess y z=true):Op.bytesLess x z=true:=by
 rw [Go.Proofs.bytesLess_eq,decide_eq_true_eq] at *
 exact List.lt_trans h1 h2
theorem dkz (x y:List UInt8):Op.bytesLess x y=true∨x=y∨Op.bytesLess y x=true:=by
 simp only [Go.Proofs.bytesLess_eq,decide_eq_true_eq]
 rcases Std.lt_trichotomy x y with h | h | h
 ·exact .inl h
 ·exact .inr (.inl h)
 ·exact .inr (.inr h)
theorem fji {x y:List UInt8} (h:Op.bytesLess x y=true):x≠y:=by
 rintro rfl;rw [bzq] at h;cases h
theorem ezt {x y:List UInt8} (h:Op.bytesLess x y=true):Op.bytesLess y x=false:=by
 cases h2:Op.bytesLess y x with
 | false=>rfl
 | true=>have:=ckt h h2;rw [bzq] at this;cases this
theorem dky (x y:List UInt8):cmpS x y < 0↔Op.bytesLess x y=true:=by
 unfold cmpS
 by_cases h:Op.bytesLess x y=true
 ·simp [h]
 ·by_cases h2:x=y
  ·subst h2;simp [bzq]
  ·simp [h,h2]
theorem gq2 (x y:List UInt8):cmpS x y=0↔x=y:=by
 unfold cmpS
 by_cases h:Op.bytesLess x y=true
 ·simp only [h,if_true];exact ⟨fun e=>by omega,fun e=>absurd e (fji h)⟩
 ·by_cases h2:x=y
  ·subst h2;simp [bzq]
  ·simp [h,h2]
abbrev wlt (a b:aj4):Prop:=Op.bytesLess a.Name b.Name=true
theorem eks:∀ {a b:List aj4},a.Pairwise wlt→b.Pairwise wlt→(∀ v,v∈a↔v∈b)→a=b
 | [],[],_,_,_=>rfl
 | [],y :: b,_,_,h=>absurd ((h y).2 List.mem_cons_self) (by simp)
 | x :: a,[],_,_,h=>absurd ((h x).1 List.mem_cons_self) (by simp)
 | x :: a,y :: b,ha,hb,h=>by
  have ha':=List.pairwise_cons.1 ha
  have hb':=List.pairwise_cons.1 hb
  have hxy:x=y:=by
   rcases List.mem_cons.1 ((h x).1 List.mem_cons_self) with e | hx
   ·exact e
   ·rcases List.mem_cons.1 ((h y).2 List.mem_cons_self) with e | hy
    ·exact e.symm
    ·have h1:=hb'.1 x hx
     have h2:=ha'.1 y hy
     have:=ezt h1
     rw [h2] at this;cases this
  subst hxy
  congr 1
  refine eks ha'.2 hb'.2 fun v=>?_
  constructor
  ·intro hv
   rcases List.mem_cons.1 ((h v).1 (List.mem_cons_of_mem _ hv)) with e | h1
   ·subst e;have:=ha'.1 v hv;rw [wlt,bzq] at this;cases this
   ·exact h1
  ·intro hv
   rcases List.mem_cons.1 ((h v).2 (List.mem_cons_of_mem _ hv)) with e | h1
   ·subst e;have:=hb'.1 v hv;rw [wlt,bzq] at this;cases this
   ·exact h1
theorem hqc {l:List aj4}:(∀ k,k < l.length→ordB l k=false)↔l.Pairwise wlt:=by
 constructor
 ·intro h
  have step:∀ k,0 < k→k < l.length→wlt (gt l (k - 1)) (gt l k):=by
   intro k h0 hk
   have:=h k hk
   unfold ordB at this
   rw [decide_eq_true h0,Bool.true_and] at this
   show Op.bytesLess _ _=true
   cases hb:Op.bytesLess (gt l (k - 1)).Name (gt l k).Name with
   | true=>rfl
   | false=>rw [hb] at this;cases this
  have far:∀ d i,i+d+1 < l.length→wlt (gt l i) (gt l (i+d+1)):=by
   intro d
   induction d with
   | zero=>intro i hi;have:=step (i+1) (by omega) (by omega);simpa using this
   | succ d ih =>
    intro i hi
    have h1:=ih i (by omega)
    have h2:=step (i+(d+1)+1) (by omega) hi
    have e:i+(d+1)+1 - 1=i+d+1:=by omega
    rw [e] at h2
    exact ckt h1 h2
  rw [List.pairwise_iff_getElem]
  intro i j hi hj hij
  have:=far (j - i - 1) i (by omega)
  have e:i+(j - i - 1)+1=j:=by omega
  rw [e,aql hi,aql hj] at this
  exact this
 ·intro h k hk
  unfold ordB
  by_cases h0:0 < k
  ·rw [List.pairwise_iff_getElem] at h
   have:=h (k - 1) k (by omega) hk (by omega)
   rw [aql hk,aql (by omega:k - 1 < l.length)]
   rw [wlt] at this
   rw [this];simp
  ·rw [decide_eq_false h0];rfl
def lowN (l:List aj4) (name:List UInt8):Nat:=(l.takeWhile fun d=>Op.bytesLess d.Name name).length
theorem gzd (l:List aj4) (name:List UInt8):lowN l name≤l.length:=by
 unfold lowN;exact List.Sublist.length_le (List.takeWhile_sublist _)
theorem cks {l:List aj4} {name:List UInt8}:∀ k,k < lowN l name→Op.bytesLess (gt l k).Name name=true:=by
 induction l with
 | nil=>intro k hk;simp [lowN] at hk
 | cons d l ih =>
  intro k hk
  unfold lowN at hk
  rw [List.takeWhile_cons] at hk
  by_cases hd:Op.bytesLess d.Name name=true
  ·rw [if_pos hd,List.length_cons] at hk
   cases k with
   | zero=>simpa [gt] using hd
   | succ k=>have:=ih k (by unfold lowN;omega);simpa [gt] using this
  ·rw [if_neg hd] at hk;simp at hk
theorem fz9 {l:List aj4} {name:List UInt8} (h:lowN l name < l.length):Op.bytesLess (gt l (lowN l name)).Name name=false:=by
 induction l with
 | nil=>simp at h
 | cons d l ih =>
  unfold lowN at h ⊢
  rw [List.takeWhile_cons] at h ⊢
  by_cases hd:Op.bytesLess d.Name name=true
  ·rw [if_pos hd,List.length_cons] at h ⊢
   have:=ih (by unfold lowN;simpa using h)
   simpa [gt,lowN] using this
  ·rw [if_neg hd];simpa [gt] using hd
theorem fy9 {l:List aj4} {name:List UInt8} (hs:l.Pairwise wlt) {k:Nat} (h1:lowN l name≤k) (h2:k < l.length):Op.bytesLess (gt l k).Name name=false:=by
 rcases Nat.lt_or_ge (lowN l name) k with hlt | hge
 ·have h3:=fz9 (name:=name) (by omega:lowN l name < l.length)
  rw [List.pairwise_iff_getElem] at hs
  have h4:=hs (lowN l name) k (by omega) h2 hlt
  rw [← aql,← aql] at h4
  cases h5:Op.bytesLess (gt l k).Name name with
  | false=>rfl
  | true=>have:=ckt h4 h5;rw [h3] at this;cases this
 ·have:k=lowN l name:=by omega
  subst this;exact fz9 h2
def hasN (l:List aj4) (name:List UInt8):Bool:=l.any fun d=>d.Name == name
theorem ek3 {l:List aj4} {name:List UInt8} (hs:l.Pairwise wlt):hasN l name=true↔lowN l name < l.length∧(gt l (lowN l name)).Name=name:=by
 unfold hasN
 rw [List.any_eq_true]
 constructor
 ·rintro ⟨d,hd,he⟩
  obtain ⟨k,hk,rfl⟩:=List.getElem_of_mem hd
  have he:l[k].Name=name:=by simpa using he
  rw [← aql hk] at he
  have h1:lowN l name≤k:=by
   rcases Nat.lt_or_ge k (lowN l name) with h | h
   ·have:=cks k h;rw [he,bzq] at this;cases this
   ·exact h
  rcases Nat.lt_or_ge (lowN l name) k with h | h
  ·have h3:=fz9 (name:=name) (by omega:lowN l name < l.length)
   have hs':=List.pairwise_iff_getElem.1 hs (lowN l name) k (by omega) hk h
   rw [← aql,← aql hk] at hs'
   rw [wlt,he,h3] at hs';cases hs'
  ·have:k=lowN l name:=by omega
   subst this;exact ⟨hk,he⟩
 ·rintro ⟨h1,h2⟩
  exact ⟨_,List.getElem_mem h1,by rw [← aql h1,h2];simp⟩
theorem hqw (i j:Nat) (h:i+j≤100000):IntKind.wrap .i64 ((Int.fdiv (IntKind.wrap .u64 ((IntKind.wrap .i64 ((i:Int)+(j:Int))))) (2 ^ min 1 (IntKind.bits .u64))))=(((i+j) / 2:Nat):Int):=by
 rw [wid (n:=(i:Int)+(j:Int)) (by omega)]
 have e1:IntKind.wrap .u64 ((i:Int)+(j:Int))=(i:Int)+(j:Int):=by
  simp only [IntKind.wrap]
  have:IntKind.u64.bits=64:=rfl
  rw [this]
  simp [IntKind.signed]
  omega
 have e2:((2:Int) ^ min 1 (IntKind.bits .u64))=2:=by decide
 rw [e1,e2]
 have e3:Int.fdiv ((i:Int)+(j:Int)) 2=(((i+j) / 2:Nat):Int):=by
  rw [Int.fdiv_eq_ediv_of_nonneg _ (by omega)];omega
 rw [e3]
 exact wid (by omega)
theorem hql (n:Nat) (l:List aj4) (name:List UInt8) (hs:l.Pairwise wlt) (hl:l.length≤1000):∀ d i j m,j - i=d→d < m→i≤lowN l name→lowN l name≤j→j≤l.length →
  ajj (fun (x:Int×Int)=>ajh n l name (l.length:Int) x.1 x.2) m ((i:Int),(j:Int))=some ((lowN l name:Nat):Int):=by
 intro d
 induction d using Nat.strongRecOn with
 | ind d ih =>
  intro i j m hd hm h1 h2 h3
  obtain ⟨m,rfl⟩:∃ q,m=q+1:=⟨m - 1,by omega⟩
  by_cases hij:i < j
  ·have hlt:((i:Nat):Int) < (j:Int):=by omega
   have hmid:=hqw i j (by omega)
   have hml:(i+j) / 2 < l.length:=by omega
   have hb:ajh n l name (l.length:Int) (i:Int) (j:Int)=some (if Op.bytesLess (gt l ((i+j) / 2)).Name name=true then .inl ((((i+j) / 2+1:Nat):Int),(j:Int)) else .inl ((i:Int),(((i+j) / 2:Nat):Int))):=by
    unfold ajh
    simp only [decide_eq_true hlt,cond_true,hmid,Int.toNat_natCast,aqz,strings_Compare,Option.bind_some]
    rw [aj9 _ (by omega),wid (n:=(((i+j) / 2:Nat):Int)+1) (by omega)]
    by_cases hc:Op.bytesLess (gt l ((i+j) / 2)).Name name=true
    ·rw [decide_eq_true ((dky _ _).2 hc),if_pos hc];rfl
    ·rw [decide_eq_false (fun h=>hc ((dky _ _).1 h)),if_neg hc];rfl
   by_cases hc:Op.bytesLess (gt l ((i+j) / 2)).Name name=true
   ·rw [if_pos hc] at hb
    have hlo:(i+j) / 2 < lowN l name:=by
     rcases Nat.lt_or_ge ((i+j) / 2) (lowN l name) with h | h
     ·exact h
     ·have:=fy9 hs h hml;rw [hc] at this;cases this
    exact (aju hb).trans (ih (j - ((i+j) / 2+1)) (by omega) _ _ m rfl (by omega) (by omega) h2 h3)
   ·rw [if_neg hc] at hb
    have hlo:lowN l name≤(i+j) / 2:=by
     rcases Nat.lt_or_ge ((i+j) / 2) (lowN l name) with h | h
     ·exact absurd (cks _ h) hc
     ·exact h
    exact (aju hb).trans (ih ((i+j) / 2 - i) (by omega) _ _ m rfl (by omega) h1 hlo (by omega))
  ·have:i=lowN l name:=by omega
   refine ajk ?_
   unfold ajh
   rw [decide_eq_false (by omega),cond_false,this]
theorem cw7 (n:Nat) (hn:N0≤n) (v:aj5) (name:List UInt8) (hs:v.Sets.Pairwise wlt) (hl:v.Sets.length≤1000):ajy n v name=some (((lowN v.Sets name:Nat):Int),hasN v.Sets name):=by
 have hn0:4194304≤n:=hn
 have hle:=gzd v.Sets name
 have key:ajj (fun (x:Int×Int)=>ajh n v.Sets name (v.Sets.length:Int) x.1 x.2) n (0,(v.Sets.length:Int))=some ((lowN v.Sets name:Nat):Int):=hql n v.Sets name hs hl v.Sets.length 0 v.Sets.length n (by omega) (by omega) (by omega) hle (Nat.le_refl _)
 simp only [ajy,aqh,key,Option.bind_some,aq8,aqz,strings_Compare,Option.isSome_some,Option.getD_some,implies_true,and_true,Int.toNat_natCast]
 rw [aj9 _ (fun h=>by have:=of_decide_eq_true h;omega),Option.bind_some]
 congr 2
 rw [ew5,Bool.eq_iff_iff,ek3 hs]
 simp only [Bool.and_eq_true,decide_eq_true_eq,beq_iff_eq,gq2]
 constructor
 ·rintro ⟨h1,h2⟩;exact ⟨by omega,h2⟩
 ·rintro ⟨h1,h2⟩;exact ⟨by omega,h2⟩
theorem ewg (n:Nat) (v:aj5) (name:List UInt8) (p:Nat) (hp:∀ k,k < p→(gt v.Sets k).Name≠name) (hl:v.Sets.length≤1000) (hpl:p≤v.Sets.length):∀ j k m,k+j=p→j < m →
  ajj (fun (x:Int)=>aqn n name v x) m (k:Int)=ajj (fun (x:Int)=>aqn n name v x) (m - j) (p:Int):=by
 intro j
 induction j with
 | zero =>
  intro k m hj hm
  have:k=p:=by omega
  subst this;rfl
 | succ j ih =>
  intro k m hj hm
  obtain ⟨m,rfl⟩:∃ q,m=q+1:=⟨m - 1,by omega⟩
  have hlt:((k:Nat):Int) < (v.Sets.length:Int):=by omega
  refine (aju (x':=((k+1:Nat):Int)) ?_).trans ((ih (k+1) m (by omega) (by omega)).trans (by congr 1;omega))
  unfold aqn
  simp only [decide_eq_true hlt,cond_true,Int.toNat_natCast]
  have hne:=hp k (by omega)
  rw [aj9 _ ⟨by omega,hlt⟩,wid (n:=(k:Int)+1) (by omega),beq_eq_false_iff_ne.2 hne]
  rfl
theorem cw6 (n:Nat) (hn:N0≤n) (v:aj5) (name:List UInt8) (hs:v.Sets.Pairwise wlt) (hl:v.Sets.length≤1000):aws n v name=some (if hasN v.Sets name=true then ((lowN v.Sets name:Nat):Int) else -1):=by
 have hn0:4194304≤n:=hn
 cases hh:hasN v.Sets name with
 | true =>
  obtain ⟨h1,h2⟩:=(ek3 hs).1 hh
  have key:=ewg n v name (lowN v.Sets name) (fun k hk=>fji (cks k hk)) hl (by omega) (lowN v.Sets name) 0 n (by omega) (by omega)
  obtain ⟨m,hm⟩:∃ q,n - lowN v.Sets name=q+1:=⟨n - lowN v.Sets name - 1,by omega⟩
  have hlt:((lowN v.Sets name:Nat):Int) < (v.Sets.length:Int):=by omega
  have hd:ajj (fun (x:Int)=>aqn n name v x) (m+1) ((lowN v.Sets name:Nat):Int)=some (.inl ((lowN v.Sets name:Nat):Int)):=by
   refine ajk ?_
   unfold aqn
   simp only [decide_eq_true hlt,cond_true,Int.toNat_natCast]
   rw [aj9 _ ⟨by omega,hlt⟩,h2,beq_self_eq_true]
   rfl
  rw [hm,hd] at key
  have key':ajj (fun (x:Int)=>aqn n name v x) n 0=some (.inl ((lowN v.Sets name:Nat):Int)):=key
  simp only [aws,key',Option.bind_some,if_true]
 | false =>
  have hno:∀ k,k < v.Sets.length→(gt v.Sets k).Name≠name:=by
   intro k hk e
   have:hasN v.Sets name=true:=by
    unfold hasN;rw [List.any_eq_true]
    exact ⟨_,List.getElem_mem hk,by rw [← aql hk,e];simp⟩
   rw [hh] at this;cases this
  have key:=ewg n v name v.Sets.length hno hl (Nat.le_refl _) v.Sets.length 0 n (by omega) (by omega)
  obtain ⟨m,hm⟩:∃ q,n - v.Sets.length=q+1:=⟨n - v.Sets.length - 1,by omega⟩
  have hd:ajj (fun (x:Int)=>aqn n name v x) (m+1) (v.Sets.length:Int)=some (.inr ()):=by
   refine ajk ?_
   unfold aqn
   simp only [Int.lt_irrefl,decide_false,cond_false]
  rw [hm,hd] at key
  have key':ajj (fun (x:Int)=>aqn n name v x) n 0=some (.inr ()):=key
  simp only [aws,key',Option.bind_some,bzb,Bool.false_eq_true,if_false]
theorem cq3 (n:Nat) (hn:N0≤n) (v:aj5) (hv:ay7 v):ajt n v=some v:=by
 have hn0:4194304≤n:=hn
 obtain ⟨h1,h2,h3⟩:=hv
 have key:∀ j k m,k+j=v.Sets.length→j < m→ajj (fun (x:(List aj4)×Int)=>aqi n v (v.Sets.length:Int) x.1 x.2) m (v.Sets.take k ++ ak0 j (⟨[],(⟨0,0,false,false,0,0,0,0⟩:TDcb),[],0⟩:aj4),(k:Int))=some v.Sets:=by
  intro j
  induction j with
  | zero =>
   intro k m hj hm
   obtain ⟨m,rfl⟩:∃ q,m=q+1:=⟨m - 1,by omega⟩
   have hk:k=v.Sets.length:=by omega
   subst hk
   refine ajk ?_
   unfold aqi
   simp [ak0]
  | succ j ih =>
   intro k m hj hm
   obtain ⟨m,rfl⟩:∃ q,m=q+1:=⟨m - 1,by omega⟩
   have hk:k < v.Sets.length:=by omega
   have hlt:((k:Nat):Int) < (v.Sets.length:Int):=by omega
   have hmem:gt v.Sets k∈v.Sets:=by rw [aql hk];exact List.getElem_mem hk
   have hx:=(h3 _ hmem).2
   have hll:(v.Sets.take k ++ ak0 (j+1) (⟨[],(⟨0,0,false,false,0,0,0,0⟩:TDcb),[],0⟩:aj4)).length=v.Sets.length:=by
    rw [List.length_append,List.length_take,bye];omega
   refine (aju (x':=(v.Sets.take (k+1) ++ ak0 j (⟨[],(⟨0,0,false,false,0,0,0,0⟩:TDcb),[],0⟩:aj4),((k+1:Nat):Int))) ?_).trans (ih (k+1) m (by omega) (by omega))
   unfold aqi
   simp only [decide_eq_true hlt,cond_true,Int.toNat_natCast,dkw n _ (Nat.le_trans hx (by decide)),Option.bind_some]
   rw [aj9 _ ⟨by omega,hlt⟩,aj9 _ (by rw [hll];exact ⟨⟨by omega,hlt⟩,hk⟩),wid (n:=(k:Int)+1) (by omega)]
   have e:List.set (v.Sets.take k ++ ak0 (j+1) (⟨[],(⟨0,0,false,false,0,0,0,0⟩:TDcb),[],0⟩:aj4)) k (⟨(gt v.Sets k).Name,((gt v.Sets k).Dcb),(gt v.Sets k).Extents,(gt v.Sets k).Used⟩:aj4)=v.Sets.take (k+1) ++ ak0 j (⟨[],(⟨0,0,false,false,0,0,0,0⟩:TDcb),[],0⟩:aj4):=by
    show List.set _ k (gt v.Sets k)=_
    have hlk:(v.Sets.take k).length=k:=by rw [List.length_take];omega
    have ht:v.Sets.take (k+1)=v.Sets.take k ++ [v.Sets[k]]:=by
     rw [List.take_add_one,List.getElem?_eq_getElem hk];rfl
    rw [List.set_append_right _ _ (by omega),hlk,Nat.sub_self,ht,aql hk,List.append_assoc]
    rfl
   rw [e];rfl
 have hz:=key v.Sets.length 0 n (by omega) (by omega)
 simp only [List.take_zero,List.nil_append] at hz
 have hz':ajj (fun (x:(List aj4)×Int)=>aqi n v (v.Sets.length:Int) x.1 x.2) n ((ak0 (Int.toNat (v.Sets.length:Int)) (⟨[],(⟨0,0,false,false,0,0,0,0⟩:TDcb),[],0⟩:aj4)),0)=some v.Sets:=by
  rw [Int.toNat_natCast];exact hz
 unfold ajt
 rw [wid (n:=(v.Sets.length:Int)+1) (by omega),aj9 _ (by omega),hz',Option.bind_some]
 rfl
end Go.Proofs.YtijnkhcfondehaaGreatDoor
/-
 ch. 21: tables with a label in another's place, tables without a label.
-/
set_option maxHeartbeats 8000000
set_option linter.unusedVariables false
set_option linter.unusedSimpArgs false
set_option maxRecDepth 100000
namespace Go.Proofs.YtijnkhcfondehaaGreatDoor
open Go.AE
def wo (name:List UInt8) (l:List aj4):List aj4:=l.filter fun d=>d.Name != name
theorem fzd (name:List UInt8) (l:List aj4):(wo name l).length≤l.length:=List.length_filter_le _ _
theorem ewv {name:List UInt8} {l:List aj4} {d:aj4}:d∈wo name l↔d∈l∧d.Name≠name:=by
 unfold wo;rw [List.mem_filter];simp
theorem eww (n:Nat) (hn:N0≤n) (v:aj5) (name:List UInt8) (hl:v.Sets.length≤1000):ayz n v name=some ⟨v.Serial,v.Cyls,v.Heads,v.Size,wo name v.Sets⟩:=by
 have hn0:4194304≤n:=hn
 have key:∀ j k m,k+j=v.Sets.length→j < m→ajj (fun (x:(List aj4)×Int)=>aza n name v x.1 x.2) m (wo name (v.Sets.take k),(k:Int))=some (wo name v.Sets):=by
  intro j
  induction j with
  | zero =>
   intro k m hj hm
   obtain ⟨m,rfl⟩:∃ q,m=q+1:=⟨m - 1,by omega⟩
   have hk:k=v.Sets.length:=by omega
   subst hk
   refine ajk ?_
   unfold aza
   simp only [Int.lt_irrefl,decide_false,cond_false,List.take_length]
  | succ j ih =>
   intro k m hj hm
   obtain ⟨m,rfl⟩:∃ q,m=q+1:=⟨m - 1,by omega⟩
   have hk:k < v.Sets.length:=by omega
   have hlt:((k:Nat):Int) < (v.Sets.length:Int):=by omega
   have hle:=fzd name (v.Sets.take k)
   rw [List.length_take] at hle
   have ht:v.Sets.take (k+1)=v.Sets.take k ++ [gt v.Sets k]:=by
    rw [List.take_add_one,List.getElem?_eq_getElem hk,aql hk];rfl
   refine (aju (x':=(wo name (v.Sets.take (k+1)),((k+1:Nat):Int))) ?_).trans (ih (k+1) m (by omega) (by omega))
   unfold aza
   simp only [decide_eq_true hlt,cond_true,Int.toNat_natCast,aky]
   rw [aj9 _ ⟨by omega,hlt⟩,aj9 _ ⟨⟨by omega,hlt⟩,by omega⟩,wid (n:=(k:Int)+1) (by omega),ht]
   have e:wo name (v.Sets.take k ++ [gt v.Sets k])=wo name (v.Sets.take k) ++ (if ((gt v.Sets k).Name != name)=true then [gt v.Sets k] else []):=by
    unfold wo;rw [List.filter_append];congr 1
    rw [List.filter_cons,List.filter_nil]
   rw [e]
   cases (gt v.Sets k).Name != name <;> simp
 have hz:=key v.Sets.length 0 n (by omega) (by omega)
 have hz':ajj (fun (x:(List aj4)×Int)=>aza n name v x.1 x.2) n ([],0)=some (wo name v.Sets):=hz
 simp only [ayz,hz',Option.bind_some,bjt]
def ins (d:aj4):List aj4→List aj4
 | []=>[d]
 | x :: r=>if Op.bytesLess d.Name x.Name=true then d :: x :: r else x :: ins d r
def insP (d:aj4):List aj4→List aj4×Bool
 | []=>([],false)
 | x :: r=>if Op.bytesLess d.Name x.Name=true then (d :: x :: r,true) else (x :: (insP d r).1,(insP d r).2)
theorem hjn (d:aj4):∀ l,ins d l=if (insP d l).2=true then (insP d l).1 else (insP d l).1 ++ [d]
 | []=>rfl
 | x :: r=>by
  rw [ins,insP]
  by_cases h:Op.bytesLess d.Name x.Name=true
  ·rw [if_pos h,if_pos h];rfl
  ·rw [if_neg h,if_neg h,hjn d r]
   simp only
   split <;> simp
theorem ejy {d x:aj4}:∀ {l:List aj4},x∈ins d l↔x=d∨x∈l
 | []=>by simp [ins]
 | y :: r=>by
  rw [ins]
  split
  ·simp
  ·rw [List.mem_cons,ejy,List.mem_cons]
   constructor
   ·rintro (h | h | h)
    ·exact .inr (.inl h)
    ·exact .inl h
    ·exact .inr (.inr h)
   ·rintro (h | h | h)
    ·exact .inr (.inl h)
    ·exact .inl h
    ·exact .inr (.inr h)
theorem fza (d:aj4):∀ l,(ins d l).length=l.length+1
 | []=>rfl
 | x :: r=>by
  rw [ins];split
  ·rfl
  ·rw [List.length_cons,fza d r,List.length_cons]
theorem dz5 {d:aj4}:∀ {l:List aj4},l.Pairwise wlt→(∀ x∈l,x.Name≠d.Name)→(ins d l).Pairwise wlt
 | [],_,_=>by simp [ins]
 | y :: r,hs,hd=>by
  have hs':=List.pairwise_cons.1 hs
  rw [ins]
  split
  ·rename_i h
   refine List.pairwise_cons.2 ⟨fun x hx=>?_,hs⟩
   rcases List.mem_cons.1 hx with rfl | hx
   ·exact h
   ·exact ckt h (hs'.1 x hx)
  ·rename_i h
   refine List.pairwise_cons.2 ⟨fun x hx=>?_,dz5 hs'.2 fun x hx=>hd x (List.mem_cons_of_mem _ hx)⟩
   rcases ejy.1 hx with rfl | hx
   ·rcases dkz y.Name x.Name with h1 | h1 | h1
    ·exact h1
    ·exact absurd h1 (hd y List.mem_cons_self)
    ·exact absurd h1 h
   ·exact hs'.1 x hx
theorem gjn {d:aj4}:∀ {l:List aj4},(∀ x∈l,x.Name≠d.Name)→ins d l=l.take (lowN l d.Name) ++ [d] ++ l.drop (lowN l d.Name)
 | [],_=>rfl
 | y :: r,hd=>by
  have hne:=hd y List.mem_cons_self
  rw [ins]
  unfold lowN
  rw [List.takeWhile_cons]
  rcases dkz y.Name d.Name with h1 | h1 | h1
  ·rw [if_neg (by rw [ezt h1];simp),if_pos h1,List.length_cons,List.take_succ_cons,List.drop_succ_cons,gjn fun x hx=>hd x (List.mem_cons_of_mem _ hx)]
   rfl
  ·exact absurd h1 hne
  ·rw [if_pos h1,if_neg (by rw [ezt h1];simp)]
   rfl
theorem gqe (n:Nat) (d:aj4) (a:List UInt8) (b c e:Int) (w:List aj4) (hl:w.length≤1000):∀ j k m acc,k+j=w.length→j < m→acc.length≤k+1 →
  (ajj (fun (x:(List aj4)×Bool×Int)=>awf n d a b c e w x.1 x.2.1 x.2.2) m (acc,true,(k:Int))=some (acc ++ w.drop k,true)) ∧
  (acc.length≤k→ajj (fun (x:(List aj4)×Bool×Int)=>awf n d a b c e w x.1 x.2.1 x.2.2) m (acc,false,(k:Int))=some (acc ++ (insP d (w.drop k)).1,(insP d (w.drop k)).2)):=by
 intro j
 induction j with
 | zero =>
  intro k m acc hj hm ha
  obtain ⟨m,rfl⟩:∃ q,m=q+1:=⟨m - 1,by omega⟩
  have hk:k=w.length:=by omega
  subst hk
  rw [List.drop_length]
  refine ⟨ajk ?_,fun _=>ajk ?_⟩
  ·unfold awf
   simp only [Int.lt_irrefl,decide_false,cond_false,List.append_nil]
  ·unfold awf
   simp only [Int.lt_irrefl,decide_false,cond_false,List.append_nil,insP]
 | succ j ih =>
  intro k m acc hj hm ha
  obtain ⟨m,rfl⟩:∃ q,m=q+1:=⟨m - 1,by omega⟩
  have hk:k < w.length:=by omega
  have hlt:((k:Nat):Int) < (w.length:Int):=by omega
  have hd:w.drop k=gt w k :: w.drop (k+1):=by rw [aql hk];exact List.drop_eq_getElem_cons hk
  rw [hd]
  have hw:=wid (n:=(k:Int)+1) (by omega)
  refine ⟨?_,fun ha'=>?_⟩
  ·refine (aju (x':=(acc ++ [gt w k],true,((k+1:Nat):Int))) ?_).trans (((ih (k+1) m (acc ++ [gt w k]) (by omega) (by omega) (by simp;omega)).1).trans (by simp))
   unfold awf
   simp only [decide_eq_true hlt,cond_true,cond_false,Int.toNat_natCast,akt,ayu,Bool.not_true,Bool.false_eq_true,false_implies,if_false,and_self]
   rw [aj9 _ trivial,aj9 _ ⟨⟨by omega,hlt⟩,hk,by omega⟩,hw]
   rfl
  ·rw [insP]
   by_cases hc:Op.bytesLess d.Name (gt w k).Name=true
   ·rw [if_pos hc]
    refine (aju (x':=(acc ++ [d] ++ [gt w k],true,((k+1:Nat):Int))) ?_).trans (((ih (k+1) m (acc ++ [d] ++ [gt w k]) (by omega) (by omega) (by simp;omega)).1).trans (by simp))
    unfold awf
    simp only [decide_eq_true hlt,cond_true,cond_false,Int.toNat_natCast,akt,ayu,Bool.not_false,if_true,hc,true_implies]
    rw [aj9 _ ⟨⟨by omega,hlt⟩,hk⟩,aj9 _ (by omega),aj9 _ ⟨⟨by omega,hlt⟩,hk,by simp;omega⟩,hw]
    rfl
   ·rw [if_neg hc]
    refine (aju (x':=(acc ++ [gt w k],false,((k+1:Nat):Int))) ?_).trans (((ih (k+1) m (acc ++ [gt w k]) (by omega) (by omega) (by simp;omega)).2 (by simp;omega)).trans (by simp))
    unfold awf
    have hc':Op.bytesLess d.Name (gt w k).Name=false:=by simpa using hc
    simp only [decide_eq_true hlt,cond_true,cond_false,Int.toNat_natCast,akt,ayu,Bool.not_false,if_true,hc',true_implies]
    rw [aj9 _ ⟨⟨by omega,hlt⟩,hk⟩,aj9 _ ⟨⟨by omega,hlt⟩,hk,by omega⟩,hw]
    rfl
theorem fw9 (n:Nat) (hn:N0≤n) (v:aj5) (name:List UInt8) (d:aj4) (hl:v.Sets.length≤1000):ay4 n v name d=some ⟨v.Serial,v.Cyls,v.Heads,v.Size,ins d (wo name v.Sets)⟩:=by
 have hn0:4194304≤n:=hn
 have hle:=fzd name v.Sets
 simp only [ay4,eww n hn v name hl,Option.bind_some]
 have key:=(gqe n d v.Serial v.Cyls v.Heads v.Size (wo name v.Sets) (by omega) (wo name v.Sets).length 0 n [] (by omega) (by omega) (by simp)).2 (by simp)
 simp only [List.drop_zero,List.nil_append] at key
 have key':ajj (fun (x:(List aj4)×Bool×Int)=>awf n d v.Serial v.Cyls v.Heads v.Size (wo name v.Sets) x.1 x.2.1 x.2.2) n ([],false,0)=some ((insP d (wo name v.Sets)).1,(insP d (wo name v.Sets)).2):=key
 rw [key',Option.bind_some,hjn]
 have hpl:(insP d (wo name v.Sets)).1.length+1≤2147483648:=by
  have h1:=fza d (wo name v.Sets)
  rw [hjn] at h1
  split at h1
  ·omega
  ·rw [List.length_append] at h1;simp at h1;omega
 unfold bkf
 cases (insP d (wo name v.Sets)).2 with
 | true=>rfl
 | false =>
  simp only [Bool.not_false,cond_true,Bool.false_eq_true,if_false]
  rw [aj9 _ hpl];rfl
theorem hqa {l:List aj4} {k:Nat} {d:aj4} (hs:l.Pairwise wlt) (hk:k < l.length) (hd:d.Name=(gt l k).Name):l.set k d=ins d (wo d.Name l):=by
 have hp:=List.pairwise_iff_getElem.1 hs
 have hmem:∀ x,x∈l.set k d↔x=d∨(x∈l∧x.Name≠d.Name):=by
  intro x
  constructor
  ·intro hx
   obtain ⟨i,hi,rfl⟩:=List.getElem_of_mem hx
   rw [List.length_set] at hi
   by_cases e:i=k
   ·subst e;left;simp
   ·right
    rw [List.getElem_set_ne (Ne.symm e)]
    refine ⟨List.getElem_mem hi,fun he=>?_⟩
    rw [hd,aql hk] at he
    rcases Nat.lt_or_ge i k with h | h
    ·exact fji (hp i k hi hk h) he
    ·exact fji (hp k i hk hi (by omega)) he.symm
  ·rintro (rfl | ⟨hx,hne⟩)
   ·exact List.mem_iff_getElem.2 ⟨k,by simpa using hk,by simp⟩
   ·obtain ⟨i,hi,rfl⟩:=List.getElem_of_mem hx
    have e:k≠i:=by rintro rfl;rw [hd,aql hk] at hne;exact hne rfl
    exact List.mem_iff_getElem.2 ⟨i,by simpa using hi,List.getElem_set_ne e _⟩
 refine eks ?_ (dz5 (hs.filter _) fun x hx=>(ewv.1 hx).2) fun x=>?_
 ·rw [List.pairwise_iff_getElem]
  intro i j hi hj hij
  rw [List.length_set] at hi hj
  have h0:=hp i j hi hj hij
  rw [wlt,List.getElem_set,List.getElem_set]
  rw [aql hk] at hd
  by_cases e1:k=i <;> by_cases e2:k=j
  ·omega
  ·subst e1;rw [if_pos rfl,if_neg e2,hd];exact h0
  ·subst e2;rw [if_neg e1,if_pos rfl,hd];exact h0
  ·rw [if_neg e1,if_neg e2];exact h0
 ·rw [hmem,ejy,ewv]
end Go.Proofs.YtijnkhcfondehaaGreatDoor
