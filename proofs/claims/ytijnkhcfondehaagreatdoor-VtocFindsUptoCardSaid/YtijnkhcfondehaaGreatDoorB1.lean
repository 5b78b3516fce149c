/- Text. -/
import Derived.Test.YtijnkhcfondehaaGreatDoorE
import Derived.Test.YtijnkhcfondehaaGreatDoorFL
set_option linter.unusedSimpArgs false
set_option linter.unusedVariables false
set_option maxHeartbeats 8000000
set_option linter.unusedVariables false
set_option linter.unusedSimpArgs false
set_option maxRecDepth 100000
namespace Go.Proofs.YtijnkhcfondehaaGreatDoor
open Go.AE
theorem dropWhile_nil {p:UInt8→Bool}:∀ {l:List UInt8},l.dropWhile p=[]↔∀ x∈l,p x=true
  | []=>by simp
  | x :: l=>by
    rw [List.dropWhile_cons]
    cases h:p x with
    | true=>simp [dropWhile_nil (l:=l),h]
    | false=>simp [h]
theorem dropWhile_head {p:UInt8→Bool}:∀ {l:List UInt8} {x:UInt8} {t:List UInt8},l.dropWhile p=x :: t→p x=false
  | [],x,t,h=>by simp at h
  | y :: l,x,t,h=>by
    rw [List.dropWhile_cons] at h
    cases hy:p y with
    | true=>rw [hy] at h;exact dropWhile_head (by simpa using h)
    | false =>
      rw [hy] at h
      simp only [Bool.false_eq_true,if_false,List.cons.injEq] at h
      rw [← h.1];exact hy
theorem trimS_nil (l cs:List UInt8):Go.Lib.trimS l cs=[]↔l.all (cs.contains ·)=true:=by
  have hr:Go.Lib.trimRightS l cs=[]↔l.all (cs.contains ·)=true:=by
    unfold Go.Lib.trimRightS
    rw [List.reverse_eq_nil_iff,dropWhile_nil,List.all_eq_true]
    simp
  rw [← hr]
  unfold Go.Lib.trimS Go.Lib.trimLeftS
  rw [dropWhile_nil]
  constructor
  · intro h
    unfold Go.Lib.trimRightS at h ⊢
    rw [List.reverse_eq_nil_iff]
    cases hd:List.dropWhile (fun x=>cs.contains x) l.reverse with
    | nil=>rfl
    | cons x t =>
      exfalso
      have h1:=h x (by rw [hd];simp)
      have h2:=dropWhile_head hd
      rw [h1] at h2;cases h2
  · intro h x hx
    rw [h] at hx;cases hx
theorem trim_ne (l cs:List UInt8):(Go.Lib.trimS l cs != []) = !l.all (cs.contains ·):=by
  have h1:=trimS_nil l cs
  cases h3:l.all (cs.contains ·) with
  | true=>simpa using h1.2 h3
  | false =>
    have:¬ Go.Lib.trimS l cs=[]:=fun e=>by rw [h1.1 e] at h3;cases h3
    simpa using this
def letB (b:UInt8):Bool:=if (decide (((b.toNat:Nat):Int) ≥ 65))=true then (decide (((b.toNat:Nat):Int)≤90)) else false
def digB (b:UInt8):Bool:=if (decide (((b.toNat:Nat):Int) ≥ 48))=true then (decide (((b.toNat:Nat):Int)≤57)) else false
def othB (b:UInt8):Bool:=if (if (((b.toNat:Nat):Int) == 64)=true then true else (((b.toNat:Nat):Int) == 35))=true then true else (((b.toNat:Nat):Int) == 36)
def chB (b:UInt8):Bool:=letB b || digB b || othB b
def cut39:List UInt8:=[65,66,67,68,69,70,71,72,73,74,75,76,77,78,79,80,81,82,83,84,85,86,87,88,89,90,48,49,50,51,52,53,54,55,56,57,64,35,36]
def cut36:List UInt8:=[65,66,67,68,69,70,71,72,73,74,75,76,77,78,79,80,81,82,83,84,85,86,87,88,89,90,48,49,50,51,52,53,54,55,56,57]
theorem cut39_contains (b:UInt8):cut39.contains b=chB b:=by
  have h:∀ k:Fin 256,cut39.contains (UInt8.ofNat k.val)=chB (UInt8.ofNat k.val):=by decide
  have:=h ⟨b.toNat,b.toNat_lt⟩
  simpa using this
theorem cut36_contains (b:UInt8):cut36.contains b=(letB b || digB b):=by
  have h:∀ k:Fin 256,cut36.contains (UInt8.ofNat k.val)=(letB (UInt8.ofNat k.val) || digB (UInt8.ofNat k.val)):=by decide
  have:=h ⟨b.toNat,b.toNat_lt⟩
  simpa using this
theorem trim39 (n:Nat) (l:List UInt8):∃ t,strings_Trim n l cut39=some t∧(t != []) = !l.all chB:=by
  refine ⟨Go.Lib.trimS l cut39,?_,?_⟩
  · rw [strings_Trim,gd_pos _ (by decide)]
  · rw [trim_ne];congr 2;funext b;exact cut39_contains b
theorem trim36 (n:Nat) (l:List UInt8):∃ t,strings_Trim n l cut36=some t∧(t != []) = !l.all (fun b=>letB b || digB b):=by
  refine ⟨Go.Lib.trimS l cut36,?_,?_⟩
  · rw [strings_Trim,gd_pos _ (by decide)]
  · rw [trim_ne];congr 2;funext b;exact cut36_contains b
def smp (p:List UInt8):Bool:=decide (1≤p.length) && decide (p.length≤8) && (p.all chB && !(match p with | []=>false | b :: _=>digB b))
def parts:List UInt8→List (List UInt8)
  | []=>[[]]
  | b :: l=>if b=46 then [] :: parts l else match parts l with
    | p :: ps=>(b :: p) :: ps
    | []=>[[b]]
theorem parts_ne:∀ s:List UInt8,parts s≠[]
  | []=>by simp [parts]
  | b :: l=>by
    unfold parts
    split
    · simp
    · split <;> simp
theorem parts_none:∀ {s:List UInt8},46 ∉ s→parts s=[s]
  | [],_=>rfl
  | b :: l,h=>by
    have hb:b≠46:=fun e=>h (by simp [e])
    have hl:46 ∉ l:=fun e=>h (by simp [e])
    rw [parts,if_neg hb,parts_none hl]
theorem parts_app:∀ {a:List UInt8} (t:List UInt8),46 ∉ a→parts (a ++ 46 :: t)=a :: parts t
  | [],t,_=>by simp [parts]
  | b :: l,t,h=>by
    have hb:b≠46:=fun e=>h (by simp [e])
    have hl:46 ∉ l:=fun e=>h (by simp [e])
    rw [List.cons_append,parts,if_neg hb,parts_app t hl]
theorem ibyte_none:∀ {s:List UInt8},46 ∉ s→Go.Lib.indexByte s 46 = -1
  | [],_=>rfl
  | b :: l,h=>by
    have hb:b≠46:=fun e=>h (by simp [e])
    have hl:46 ∉ l:=fun e=>h (by simp [e])
    rw [Go.Lib.indexByte,ibyte_none hl]
    simp [hb]
theorem ibyte_app:∀ {a:List UInt8} (t:List UInt8),46 ∉ a→Go.Lib.indexByte (a ++ 46 :: t) 46=(a.length:Int)
  | [],t,_=>by simp [Go.Lib.indexByte]
  | b :: l,t,h=>by
    have hb:b≠46:=fun e=>h (by simp [e])
    have hl:46 ∉ l:=fun e=>h (by simp [e])
    rw [List.cons_append,Go.Lib.indexByte,ibyte_app t hl]
    have:¬ ((l.length:Int) = -1):=by omega
    simp [hb,this]
theorem at_dot:∀ s:List UInt8,46 ∉ s∨∃ a t,s=a ++ 46 :: t∧46 ∉ a
  | []=>.inl (by simp)
  | b :: l=>by
    by_cases hb:b=46
    · exact .inr ⟨[],l,by simp [hb],by simp⟩
    · rcases at_dot l with h | ⟨a,t,rfl,ha⟩
      · exact .inl (by simp [h,Ne.symm hb])
      · exact .inr ⟨b :: a,t,by simp,by simp [ha,Ne.symm hb]⟩
theorem splitK_parts:∀ (k:Nat) (s:List UInt8),s.count 46≤k→Go.Lib.splitK [46] 0 k s=parts s
  | 0,s,h=>by
    have:46 ∉ s:=fun hm=>by have:=List.count_pos_iff.2 hm;omega
    rw [parts_none this];rfl
  | k+1,s,h=>by
    rcases at_dot s with hn | ⟨a,t,rfl,ha⟩
    · rw [Go.Lib.splitK,Go.Lib.index_one,ibyte_none hn,parts_none hn];rfl
    · rw [Go.Lib.splitK,Go.Lib.index_one,ibyte_app t ha,parts_app t ha]
      have h1:¬ (((a.length:Nat):Int) = -1):=by omega
      have h2:t.count 46≤k:=by
        rw [List.count_append,List.count_cons_self] at h;omega
      simp only [beq_iff_eq,h1,if_false,Int.toNat_natCast,Nat.add_zero,List.take_left,List.length_singleton]
      have:(a ++ 46 :: t).drop (a.length+1)=t:=by
        rw [show a ++ 46 :: t=(a ++ [46]) ++ t by simp,show a.length+1=(a ++ [46]).length by simp,List.drop_left]
      rw [this,splitK_parts k t h2]
theorem split_parts (n:Nat) (s:List UInt8) (h:s.length < 4294967281):strings_Split n s [46]=some (parts s):=by
  rw [strings_Split,gd_pos _ ⟨h,rfl⟩]
  unfold Go.Lib.split
  rw [splitK_parts _ _ (by rw [Go.Lib.count_one];exact Nat.le_refl _)]
theorem parts_len:∀ s:List UInt8,(parts s).length≤s.length+1
  | []=>by simp [parts]
  | b :: l=>by
    have:=parts_len l
    unfold parts
    split
    · simp only [List.length_cons];omega
    · split
      · rename_i p ps hp;rw [hp] at this;simp only [List.length_cons] at this ⊢;omega
      · simp
def nameB (s:List UInt8):Bool:=decide (s.length≤44) && (parts s).all smp
theorem part_len {s p:List UInt8} (h:p∈parts s):p.length≤s.length:=by
  induction s generalizing p with
  | nil=>simp [parts] at h;subst h;simp
  | cons b l ih =>
    unfold parts at h
    split at h
    · rcases List.mem_cons.1 h with rfl | h
      · simp
      · have:=ih h;simp only [List.length_cons];omega
    · split at h
      · rename_i q ps hp
        rcases List.mem_cons.1 h with rfl | h
        · have:=ih (p:=q) (by rw [hp];simp);simp only [List.length_cons];omega
        · have:=ih (p:=p) (by rw [hp];simp [h]);simp only [List.length_cons];omega
      · simp at h;subst h;simp
theorem Name_eq (n:Nat) (s:List UInt8) (hn:N0≤n):vtoc_Name n s=some (nameB s):=by
  have hn0:4194304≤n:=hn
  unfold vtoc_Name nameB
  by_cases h44:s.length≤44
  · have h1:decide ((s.length:Int) > 44)=false:=decide_eq_false (by omega)
    have h2:decide (s.length≤44)=true:=decide_eq_true h44
    rw [h1,cond_false,split_parts n s (by omega),h2,Bool.true_and,Option.bind_some]
    have hpl:=parts_len s
    have key:loopF (fun (x:Int)=>vtoc_Name_b2 n (parts s) (((parts s).length:Nat):Int) x) n 0=some (if (parts s).any (fun p=>!smp p)=true then .inl false else .inr ()):=by
      refine loop_any (parts s) (fun p=>!smp p) _ _ (fun k hk=>?_) ?_ (by omega)
      · have hlt:((k:Nat):Int) < (((parts s).length:Nat):Int):=by omega
        have h0:(0:Int)≤(k:Int):=by omega
        unfold vtoc_Name_b2
        have hpk:=part_len (List.getElem_mem hk)
        simp only [decide_eq_true hlt,cond_true,Int.toNat_natCast,gt_lt hk]
        rw [gd_pos _ ⟨⟨h0,hlt⟩,hk⟩]
        generalize (parts s)[k]=p at hpk ⊢
        rw [wid (n:=(k:Int)+1) (by omega)]
        obtain ⟨t,ht1,ht2⟩:=trim39 n p
        have ht1':strings_Trim n p [65,66,67,68,69,70,71,72,73,74,75,76,77,78,79,80,81,82,83,84,85,86,87,88,89,90,48,49,50,51,52,53,54,55,56,57,64,35,36]=some t:=ht1
        rw [ht1']
        cases p with
        | nil=>simp [smp,gd]
        | cons b q =>
          have e1:decide (((b :: q).length:Int) < 1)=false:=decide_eq_false (by simp only [List.length_cons];omega)
          have e0:(0:Int) < ((b :: q).length:Int):=by simp only [List.length_cons];omega
          simp only [e1,e0,implies_true,and_self,Bool.false_eq_true,if_false,List.getD_cons_zero,Option.bind_some,ht2]
          rw [gd_pos _ trivial]
          have e5:decide (1≤(b :: q).length)=true:=decide_eq_true (by simp only [List.length_cons];omega)
          have e6:decide (((b :: q).length:Int) > 8) = !decide ((b :: q).length≤8):=by
            by_cases h:(b :: q).length≤8
            · rw [decide_eq_true h,decide_eq_false (by omega)];rfl
            · rw [decide_eq_false h,decide_eq_true (by omega)];rfl
          have e7:(if (decide (((b.toNat:Nat):Int) ≥ 48))=true then (decide (((b.toNat:Nat):Int)≤57)) else false)=digB b:=rfl
          simp only [e6,e7,smp,e5,Bool.true_and]
          cases decide ((b :: q).length≤8) <;> cases digB b <;> cases (b :: q).all chB <;> rfl
      · unfold vtoc_Name_b2
        simp only [Int.lt_irrefl,decide_false,cond_false]
    rw [key,Option.bind_some]
    have ha:(parts s).any (fun p=>!smp p) = !(parts s).all smp:=by
      rw [List.all_eq_not_any_not];simp
    rw [ha]
    cases (parts s).all smp <;> rfl
  · have h1:decide ((s.length:Int) > 44)=true:=decide_eq_true (by omega)
    have h2:decide (s.length≤44)=false:=decide_eq_false h44
    rw [h1,h2];rfl
theorem rletter_eq (n:Nat) (b:UInt8):ref21_letter n (((b.toNat:Nat):Int))=some (letB b):=rfl
theorem rdigit_eq (n:Nat) (b:UInt8):ref21_digit n (((b.toNat:Nat):Int))=some (digB b):=rfl
theorem simple_eq (n:Nat) (p:List UInt8) (hn:p.length < n) (hp:p.length≤1099511627776):ref21_simple n p=some (smp p):=by
  unfold ref21_simple
  have key:=loop_list (σ:=Nat) (body:=fun (x:Int)=>ref21_simple_b2 n p x) p (fun k _=>(k:Int)) (fun s b=>if (!letB b && !othB b && (s == 0 || !digB b))=true then .inr (.inl false) else .inl (s+1)) (fun _=>.inr ()) (fun k s=>s=k) (s:=0) rfl
    (fun k hk s hI=>by
      subst hI
      have hlt:((s:Nat):Int) < (p.length:Int):=by omega
      have h0:(0:Int)≤(s:Int):=by omega
      have hg:p.getD s 0=p[s]:=by simp [List.getD_eq_getElem?_getD,hk]
      unfold ref21_simple_b2
      simp only [decide_eq_true hlt,cond_true,Int.toNat_natCast,hg,h0,hlt,and_self,implies_true]
      rw [gd_pos _ trivial,gd_pos _ trivial]
      generalize p[s]=b
      rw [rletter_eq,Option.bind_some]
      simp only [rdigit_eq,Option.isSome_some,Option.getD_some,implies_true,true_and]
      have eo:(if (if (((b.toNat:Nat):Int) == 64)=true then true else (((b.toNat:Nat):Int) == 35))=true then true else (((b.toNat:Nat):Int) == 36))=othB b:=rfl
      have ez:(((s:Nat):Int) == 0)=(s == 0):=by
        by_cases h:s=0
        · subst h;rfl
        · have:¬ ((s:Int)=0):=by omega
          rw [beq_eq_false_iff_ne.2 this,beq_eq_false_iff_ne.2 h]
      rw [eo,ez,wid (n:=(s:Int)+1) (by omega)]
      rw [gd_pos _ (by intro h;simpa using h)]
      cases letB b <;> cases othB b <;> cases (s == 0) <;> cases digB b <;> rfl)
    (fun k hk s hI s' he=>by
      subst hI
      split at he
      · cases he
      · simp only [Sum.inl.injEq] at he;omega)
    (fun s hs=>by
      subst hs
      unfold ref21_simple_b2
      simp only [Int.lt_irrefl,decide_false,cond_false]) hn
  have key':loopF (fun (x:Int)=>ref21_simple_b2 n p x) n 0=_:=key
  rw [key',Option.bind_some]
  have tail:∀ (q:List UInt8) (s:Nat),s≠0→runL (fun (s:Nat) b=>if (!letB b && !othB b && (s == 0 || !digB b))=true then (.inr (.inl false):Nat ⊕ (Bool ⊕ Unit)) else .inl (s+1)) (fun _=>.inr ()) q s=cond (q.all chB) (.inr ()) (.inl false):=by
    intro q
    induction q with
    | nil=>intro s _;rfl
    | cons b q ih =>
      intro s hs
      have hz:(s == 0)=false:=by simpa using hs
      have hih:=ih (s+1) (by omega)
      simp only [runL,hz,Bool.false_or,List.all_cons]
      have e:(!letB b && !othB b && !digB b) = !chB b:=by unfold chB;cases letB b <;> cases othB b <;> cases digB b <;> rfl
      rw [e]
      rcases Bool.eq_false_or_eq_true (chB b) with h | h
      · rw [h];simpa using hih
      · rw [h];rfl
  cases p with
  | nil=>simp [runL,ref21_simple_k1,smp]
  | cons b q =>
    have ht:=tail q 1 (by omega)
    simp only [runL,beq_self_eq_true,Bool.true_or,Bool.and_true]
    have el:decide (1≤(b :: q).length)=true:=decide_eq_true (by simp only [List.length_cons];omega)
    have el1:decide (((b :: q).length:Int) ≥ 1)=true:=decide_eq_true (by simp only [List.length_cons];omega)
    have el2:decide (((b :: q).length:Int)≤8)=decide ((b :: q).length≤8):=by
      by_cases h:(b :: q).length≤8
      · rw [decide_eq_true h,decide_eq_true (by omega)]
      · rw [decide_eq_false h,decide_eq_false (by omega)]
    have ek:ref21_simple_k1 n (b :: q)=some (decide ((b :: q).length≤8)):=by simp only [ref21_simple_k1,el1,el2,if_true]
    have hx:∀ b:UInt8,(letB b || othB b)=true→digB b=false:=by
      intro b
      have h:∀ k:Fin 256,(letB (UInt8.ofNat k.val) || othB (UInt8.ofNat k.val))=true→digB (UInt8.ofNat k.val)=false:=by decide
      have:=h ⟨b.toNat,b.toNat_lt⟩
      simpa using this
    have hxb:=hx b
    simp only [smp,el,Bool.true_and,List.all_cons]
    cases hl:letB b <;> cases ho:othB b <;> simp only [hl,ho,Bool.not_false,Bool.not_true,Bool.and_self,Bool.and_false,Bool.false_and,Bool.or_false,Bool.or_true,Bool.false_or,Bool.true_or,if_true,Bool.false_eq_true,if_false] at hxb ⊢
    · unfold chB
      rw [hl,ho]
      cases digB b <;> simp
    all_goals
      have hd:=hxb trivial
      have hc:chB b=true:=by unfold chB;rw [hl,ho];simp
      simp only [Nat.zero_add,ht,ek,hc,hd,Bool.true_and,Bool.not_false,Bool.and_true]
      cases q.all chB <;> simp
end Go.Proofs.YtijnkhcfondehaaGreatDoor
/-
  ch. 21: names by the specification; serials, empty tables.
-/
set_option maxHeartbeats 8000000
set_option linter.unusedVariables false
set_option linter.unusedSimpArgs false
set_option maxRecDepth 100000
namespace Go.Proofs.YtijnkhcfondehaaGreatDoor
open Go.AE
def goN:List UInt8→List UInt8→Bool
  | cur,[]=>smp cur
  | cur,b :: r=>if b=46 then smp cur && goN [] r else goN (cur ++ [b]) r
theorem goN_parts:∀ (r cur:List UInt8),goN cur r=match parts r with | p :: ps=>smp (cur ++ p) && ps.all smp | []=>false
  | [],cur=>by simp [goN,parts]
  | b :: r,cur=>by
    rw [goN,parts]
    by_cases hb:b=46
    · rw [if_pos hb,if_pos hb,goN_parts r []]
      simp only [List.append_nil,List.nil_append]
      cases hp:parts r with
      | nil=>exact absurd hp (parts_ne r)
      | cons p ps=>simp
    · rw [if_neg hb,if_neg hb,goN_parts r (cur ++ [b])]
      cases hp:parts r with
      | nil=>exact absurd hp (parts_ne r)
      | cons p ps=>simp
theorem goN_all (s:List UInt8):goN [] s=(parts s).all smp:=by
  rw [goN_parts]
  cases hp:parts s with
  | nil=>exact absurd hp (parts_ne s)
  | cons p ps=>simp
theorem rname_go (n:Nat) (s:List UInt8) (hn:N0≤n) (hs:s.length≤2097152):∀ (j f i m:Nat),i+j=s.length→f≤i→j+1 < m →
    loopF (fun (x:Int×Int)=>ref21_Name_b2 n s x.1 x.2) m ((f:Int),(i:Int))=some (if goN (List.drop f (List.take i s)) (s.drop i)=true then .inr () else .inl false)
  | 0,f,i,m,hj,hf,hm=>by
    have hn0:4194304≤n:=hn
    have hi:i=s.length:=by omega
    obtain ⟨m,rfl⟩:∃ q,m=q+1+1:=⟨m - 2,by omega⟩
    have h1:decide ((i:Int)≤(s.length:Int))=true:=decide_eq_true (by omega)
    have h2:((i:Int) == (s.length:Int))=true:=by simp;omega
    have hd:s.drop i=[]:=List.drop_eq_nil_of_le (by omega)
    have hb:ref21_Name_b2 n s (f:Int) (i:Int)=some (if smp (List.drop f (List.take i s))=true then .inl (((i+1:Nat):Int),((i+1:Nat):Int)) else .inr (.inl false)):=by
      unfold ref21_Name_b2
      rw [h1,cond_true,h2]
      simp only [Bool.not_true,Bool.false_eq_true,false_implies,if_true,cond_true,Int.toNat_natCast]
      rw [gd_pos _ trivial,gd_pos _ (by omega),simple_eq n _ (by simp only [List.length_drop,List.length_take];omega) (by simp only [List.length_drop,List.length_take];omega),Option.bind_some]
      rw [wid (n:=(i:Int)+1) (by omega)]
      simp only [ref21_Name_k3,wid (n:=(i:Int)+1) (by omega)]
      cases smp (List.drop f (List.take i s)) <;> rfl
    rw [hd,goN]
    cases hsm:smp (List.drop f (List.take i s)) with
    | false =>
      rw [hsm] at hb
      rw [loopF_done (y:=.inl false) (by simpa using hb)];simp
    | true =>
      rw [hsm] at hb
      rw [loopF_step (x':=(((i+1:Nat):Int),((i+1:Nat):Int))) (by simpa using hb)]
      have he:ref21_Name_b2 n s ((i+1:Nat):Int) ((i+1:Nat):Int)=some (.inr (.inr ())):=by
        unfold ref21_Name_b2
        rw [decide_eq_false (by omega),cond_false]
      rw [loopF_done he];simp
  | j+1,f,i,m,hj,hf,hm=>by
    have hn0:4194304≤n:=hn
    obtain ⟨m,rfl⟩:∃ q,m=q+1:=⟨m - 1,by omega⟩
    have hlt:i < s.length:=by omega
    have h1:decide ((i:Int)≤(s.length:Int))=true:=decide_eq_true (by omega)
    have h2:((i:Int) == (s.length:Int))=false:=by simp;omega
    have hd:s.drop i=s[i] :: s.drop (i+1):=List.drop_eq_getElem_cons hlt
    have hg:s.getD i 0=s[i]:=by simp [List.getD_eq_getElem?_getD,hlt]
    have ht:List.take (i+1) s=List.take i s ++ [s[i]]:=by rw [List.take_add_one];simp [hlt]
    have e46:((((s[i]).toNat:Nat):Int) == 46)=decide (s[i]=46):=by
      generalize s[i]=b
      have h:∀ k:Fin 256,((((UInt8.ofNat k.val).toNat:Nat):Int) == 46)=decide ((UInt8.ofNat k.val)=46):=by decide
      have:=h ⟨b.toNat,b.toNat_lt⟩
      simpa using this
    have hb:ref21_Name_b2 n s (f:Int) (i:Int)=some (if s[i]=46 then (if smp (List.drop f (List.take i s))=true then .inl (((i+1:Nat):Int),((i+1:Nat):Int)) else .inr (.inl false)) else .inl ((f:Int),((i+1:Nat):Int))):=by
      unfold ref21_Name_b2
      rw [h1,cond_true,h2]
      simp only [Bool.not_false,Bool.false_eq_true,if_false,Int.toNat_natCast,hg,e46]
      rw [gd_pos _ (fun _=>by omega)]
      by_cases hc:s[i]=46
      · rw [if_pos hc,decide_eq_true hc,cond_true]
        rw [gd_pos _ (by omega),simple_eq n _ (by simp only [List.length_drop,List.length_take];omega) (by simp only [List.length_drop,List.length_take];omega),Option.bind_some]
        rw [wid (n:=(i:Int)+1) (by omega)]
        simp only [ref21_Name_k3,wid (n:=(i:Int)+1) (by omega)]
        cases smp (List.drop f (List.take i s)) <;> rfl
      · rw [if_neg hc,decide_eq_false hc,cond_false]
        simp only [ref21_Name_k3,wid (n:=(i:Int)+1) (by omega)]
        rfl
    rw [hd,goN]
    by_cases hc:s[i]=46
    · rw [if_pos hc] at hb ⊢
      cases hsm:smp (List.drop f (List.take i s)) with
      | false =>
        rw [hsm] at hb
        rw [loopF_done (y:=.inl false) (by simpa using hb)];simp
      | true =>
        rw [hsm] at hb
        rw [loopF_step (x':=(((i+1:Nat):Int),((i+1:Nat):Int))) (by simpa using hb),rname_go n s hn hs j (i+1) (i+1) m (by omega) (by omega) (by omega)]
        have:List.drop (i+1) (List.take (i+1) s)=[]:=List.drop_eq_nil_of_le (by rw [List.length_take];omega)
        rw [this];simp
    · rw [if_neg hc] at hb ⊢
      rw [loopF_step (x':=((f:Int),((i+1:Nat):Int))) hb,rname_go n s hn hs j f (i+1) m (by omega) (by omega) (by omega),ht]
      have:List.drop f (List.take i s ++ [s[i]])=List.drop f (List.take i s) ++ [s[i]]:=by
        rw [List.drop_append_of_le_length (by rw [List.length_take];omega)]
      rw [this]
theorem RName_eq (n:Nat) (s:List UInt8) (hn:N0≤n) (hs:s.length≤2097152):ref21_Name n s=some (nameB s):=by
  have hn0:4194304≤n:=hn
  unfold ref21_Name nameB
  have:=rname_go n s hn hs s.length 0 0 n (by omega) (by omega) (by omega)
  simp only [List.take_zero,List.drop_nil,List.drop_zero,goN_all] at this
  have this':loopF (fun (x:Int×Int)=>ref21_Name_b2 n s x.1 x.2) n (0,0)=some (if (parts s).all smp=true then .inr () else .inl false):=this
  rw [this',Option.bind_some]
  have e:decide ((s.length:Int)≤44)=decide (s.length≤44):=by
    by_cases h:s.length≤44
    · rw [decide_eq_true h,decide_eq_true (by omega)]
    · rw [decide_eq_false h,decide_eq_false (by omega)]
  cases (parts s).all smp with
  | true=>simp only [if_true,ref21_Name_k1,e,Bool.and_true]
  | false=>simp
def serB (s:List UInt8):Bool:=decide (1≤s.length) && decide (s.length≤6) && s.all (fun b=>letB b || digB b)
def inB (x lo hi:Int):Bool:=decide (lo≤x) && decide (x≤hi)
theorem in_eq (n:Nat) (x lo hi:Int):vtoc_in n x lo hi=some (inB x lo hi):=by
  unfold vtoc_in inB
  by_cases h:lo≤x
  · simp [h]
  · simp [h]
theorem rin_eq (n:Nat) (x lo hi:Int):ref21_in n x lo hi=some (inB x lo hi):=by
  unfold ref21_in inB
  by_cases h:lo≤x
  · have:x ≥ lo:=h
    simp [h,this]
  · have:¬ (x ≥ lo):=h
    simp [h,this]
theorem inB_len (s:List UInt8):inB (s.length:Int) 1 6=(decide (1≤s.length) && decide (s.length≤6)):=by
  unfold inB
  congr 1 <;> (apply decide_eq_decide.2;omega)
theorem serial_eq (n:Nat) (s:List UInt8) (hn:s.length < n) (hs:s.length≤2097152):ref21_serial n s=some (serB s):=by
  unfold ref21_serial
  have key:loopF (fun (x:Int)=>ref21_serial_b2 n s x) n 0=some (if s.any (fun b=>!(letB b || digB b))=true then .inl false else .inr ()):=by
    refine loop_any s (fun b=>!(letB b || digB b)) _ _ (fun k hk=>?_) ?_ hn
    · have hlt:((k:Nat):Int) < (s.length:Int):=by omega
      have h0:(0:Int)≤(k:Int):=by omega
      have hg:s.getD k 0=s[k]:=by simp [List.getD_eq_getElem?_getD,hk]
      unfold ref21_serial_b2
      simp only [decide_eq_true hlt,cond_true,Int.toNat_natCast,hg,h0,hlt,and_self,implies_true]
      rw [gd_pos _ trivial,rletter_eq,Option.bind_some,rdigit_eq]
      simp only [Option.isSome_some,Option.getD_some,implies_true,and_self]
      rw [gd_pos _ trivial,wid (n:=(k:Int)+1) (by omega)]
      cases letB s[k] <;> cases digB s[k] <;> rfl
    · unfold ref21_serial_b2
      simp only [Int.lt_irrefl,decide_false,cond_false]
  rw [key,Option.bind_some]
  have ha:s.any (fun b=>!(letB b || digB b)) = !s.all (fun b=>letB b || digB b):=by rw [List.all_eq_not_any_not];simp
  rw [ha]
  unfold serB
  cases s.all (fun b=>letB b || digB b) with
  | false=>simp
  | true=>simp only [Bool.not_true,Bool.false_eq_true,if_false,ref21_serial_k1,rin_eq,Option.bind_some,inB_len,Bool.and_true]
def headB (s:List UInt8) (c h z:Int):Bool:=serB s && inB c 1 64 && inB h 1 8 && inB z 1 (IntKind.wrap .i64 (IntKind.wrap .i64 (c * h) - 1))
theorem head_z {s:List UInt8} {c h z:Int} (hh:headB s c h z=true):1≤z∧z≤511:=by
  simp only [headB,inB,Bool.and_eq_true,decide_eq_true_eq] at hh
  obtain ⟨⟨⟨_,h1,h2⟩,h3,h4⟩,h5,h6⟩:=hh
  have e1:1≤c * h:=by
    have:0 < c * h:=Int.mul_pos (by omega) (by omega)
    omega
  have e2:c * h≤512:=by
    have a:c * h≤64 * h:=Int.mul_le_mul_of_nonneg_right h2 (by omega)
    omega
  rw [wid (n:=c * h) (by omega),wid (n:=c * h - 1) (by omega)] at h6
  omega
theorem works_N0:law21_works N0=some true:=by decide +kernel
end Go.Proofs.YtijnkhcfondehaaGreatDoor
/-
  ch. 21: valid tables, by the program and by the specification.
-/
set_option maxHeartbeats 8000000
set_option linter.unusedVariables false
set_option linter.unusedSimpArgs false
set_option maxRecDepth 100000
namespace Go.Proofs.YtijnkhcfondehaaGreatDoor
open Go.AE
def dscB (d:TDcb):Bool:=inB d.Org 1 3 && inB d.Format 1 3 && inB d.Lrecl 0 1024 && inB d.Blksize 0 1024 && inB d.KeyPos 0 1024 && inB d.KeyLen 0 64
theorem desc_eq (n:Nat) (d:TDcb):vtoc_described n d=some (dscB d):=by
  simp only [vtoc_described,in_eq,Option.bind_some,Option.isSome_some,Option.getD_some,implies_true,and_self,ite_ff]
  rw [gd_pos _ trivial];rfl
theorem rdesc_eq (n:Nat) (d:TDcb):ref21_Described n d=some (dscB d):=by
  simp only [ref21_Described,rin_eq,Option.bind_some,Option.isSome_some,Option.getD_some,implies_true,and_self,ite_ff]
  rw [gd_pos _ trivial];rfl
def exts (l:List TDscb):List TExtent:=l.flatMap (·.Extents)
def capV (v:TVtoc):Int:=IntKind.wrap .i64 (v.Cyls * v.Heads)
def overB (v:TVtoc) (x:TExtent):Bool:=decide (IntKind.wrap .i64 (x.At+x.Len) > capV v)
def pLbl (v:TVtoc) (d:TDscb):Bool:=nameB d.Name && dscB d.Dcb && inB (d.Extents.length:Int) 1 8 && (trkF [] d.Extents).isSome && !d.Extents.any (overB v) && inB d.Used 0 (((trkO d.Extents).length:Nat):Int)
def rLbl (v:TVtoc) (d:TDscb):Bool:=!d.Extents.any (fun x=>decide (x.At≤v.Size) || overB v x) && (nameB d.Name && dscB d.Dcb && inB (d.Extents.length:Int) 1 8 && (trkF [] d.Extents).isSome && inB d.Used 0 (((trkO d.Extents).length:Nat):Int))
theorem gt_lt {α:Type} [Inhabited α] {l:List α} {k:Nat} (h:k < l.length):gt l k=l[k]:=by simp [gt,List.getD_eq_getElem?_getD,h]
theorem fits_eq (n:Nat) (hn:N0≤n) (v:TVtoc) (d:TDscb) (hd:d.Extents.length≤1048576):vtoc_Vtoc__fits n v d=some (pLbl v d):=by
  have hn0:4194304≤n:=hn
  unfold vtoc_Vtoc__fits
  simp only [Name_eq n _ hn,desc_eq,in_eq,Valid_eq n hn d.Extents (by omega),Option.bind_some,Option.isSome_some,Option.getD_some,implies_true,and_self]
  rw [gd_pos _ trivial]
  have e1:(if (if (if (!nameB d.Name)=true then true else !dscB d.Dcb)=true then true else !inB (d.Extents.length:Int) 1 8)=true then true else !(trkF [] d.Extents).isSome) = !(nameB d.Name && dscB d.Dcb && inB (d.Extents.length:Int) 1 8 && (trkF [] d.Extents).isSome):=by
    simp only [ite_tt,Bool.not_and]
  rw [e1]
  unfold pLbl
  cases (nameB d.Name && dscB d.Dcb && inB (d.Extents.length:Int) 1 8 && (trkF [] d.Extents).isSome) with
  | false=>simp
  | true =>
    simp only [Bool.not_true,cond_false,Bool.true_and]
    have key:loopF (fun (x:Int)=>vtoc_Vtoc__fits_b2 n v d (d.Extents.length:Int) x) n 0=some (if d.Extents.any (overB v)=true then .inl false else .inr ()):=by
      refine loop_any d.Extents (overB v) _ _ (fun k hk=>?_) ?_ (by omega)
      · have hlt:((k:Nat):Int) < (d.Extents.length:Int):=by omega
        unfold vtoc_Vtoc__fits_b2
        rw [decide_eq_true hlt,cond_true,gd_pos _ ⟨by omega,hlt⟩,Int.toNat_natCast,gt_lt hk,wid (n:=(k:Int)+1) (by omega)]
        show (bif overB v d.Extents[k] then _ else _)=_
        cases overB v d.Extents[k] <;> rfl
      · unfold vtoc_Vtoc__fits_b2
        simp only [Int.lt_irrefl,decide_false,cond_false]
    rw [key,Option.bind_some]
    cases d.Extents.any (overB v) with
    | true=>simp
    | false=>simp only [Bool.false_eq_true,if_false,vtoc_Vtoc__fits_k1,Total_eq n hn d.Extents (by omega),in_eq,Option.bind_some,Bool.not_false,Bool.true_and]
theorem label_eq (n:Nat) (hn:N0≤n) (v:TVtoc) (d:TDscb) (hd:d.Extents.length≤1048576) (hs:d.Name.length≤2097152):ref21_label n v d=some (rLbl v d):=by
  have hn0:4194304≤n:=hn
  unfold ref21_label
  have key:loopF (fun (x:Int)=>ref21_label_b2 n v d x) n 0=some (if d.Extents.any (fun x=>decide (x.At≤v.Size) || overB v x)=true then .inl false else .inr ()):=by
    refine loop_any d.Extents (fun x=>decide (x.At≤v.Size) || overB v x) _ _ (fun k hk=>?_) ?_ (by omega)
    · have hlt:((k:Nat):Int) < (d.Extents.length:Int):=by omega
      unfold ref21_label_b2
      rw [decide_eq_true hlt,cond_true,gd_pos _ ⟨by omega,hlt⟩,Int.toNat_natCast,gt_lt hk,wid (n:=(k:Int)+1) (by omega),ite_tt]
      show (bif (decide (d.Extents[k].At≤v.Size) || overB v d.Extents[k]) then _ else _)=_
      cases (decide (d.Extents[k].At≤v.Size) || overB v d.Extents[k]) <;> rfl
    · unfold ref21_label_b2
      simp only [Int.lt_irrefl,decide_false,cond_false]
  rw [key,Option.bind_some]
  unfold rLbl
  cases d.Extents.any (fun x=>decide (x.At≤v.Size) || overB v x) with
  | true=>simp
  | false =>
    simp only [Bool.false_eq_true,if_false,ref21_label_k1,RName_eq n _ hn hs,rdesc_eq,rin_eq,RValid_eq n hn d.Extents (by omega),RTotal_eq n hn d.Extents (by omega),Option.bind_some,Option.isSome_some,Option.getD_some,implies_true,and_self,Bool.not_false,Bool.true_and]
    rw [gd_pos _ trivial]
    simp only [ite_ff]
def ordB (l:List TDscb) (k:Nat):Bool:=decide (0 < k) && !Op.bytesLess (gt l (k - 1)).Name (gt l k).Name
def pBad (v:TVtoc) (k:Nat):Bool:=!pLbl v (gt v.Sets k) || ordB v.Sets k
def rBad (v:TVtoc) (k:Nat):Bool:=!rLbl v (gt v.Sets k) || ordB v.Sets k
def light (v:TVtoc):Prop:=v.Sets.length≤70∧v.Serial.length≤100∧∀ d∈v.Sets,d.Name.length≤100∧d.Extents.length≤20
theorem exts_cons (d:TDscb) (l:List TDscb):exts (d :: l)=d.Extents ++ exts l:=rfl
theorem exts_app (a b:List TDscb):exts (a ++ b)=exts a ++ exts b:=by simp [exts]
theorem exts_len:∀ {l:List TDscb},(∀ d∈l,d.Name.length≤100∧d.Extents.length≤20)→(exts l).length≤20 * l.length
  | [],_=>by simp [exts]
  | d :: l,h=>by
    have h1:=(h d (by simp)).2
    have h2:=exts_len (l:=l) fun x hx=>h x (by simp [hx])
    rw [exts_cons,List.length_append,List.length_cons];omega
theorem exts_take {l:List TDscb} {k:Nat} (h:k < l.length):exts (l.take (k+1))=exts (l.take k) ++ (gt l k).Extents:=by
  rw [List.take_add_one,exts_app,gt_lt h]
  simp [h,exts]
theorem Check_loop (n:Nat) (hn:N0≤n) (v:TVtoc) (hv:light v) (u0:List TExtent) (hu:u0.length≤1):∀ j k m,k+j=v.Sets.length→j < m →
    loopF (fun (x:(List TExtent)×Int)=>vtoc_Check_b2 n v (v.Sets.length:Int) x.1 x.2) m (u0 ++ exts (v.Sets.take k),(k:Int))=some (if (List.range' k j).any (pBad v)=true then .inl 5 else .inr (u0 ++ exts v.Sets))
  | 0,k,m,hj,hm=>by
    obtain ⟨m,rfl⟩:∃ q,m=q+1:=⟨m - 1,by omega⟩
    have hk:k=v.Sets.length:=by omega
    subst hk
    refine (loopF_done (y:=.inr (u0 ++ exts v.Sets)) ?_).trans (by simp)
    unfold vtoc_Check_b2
    simp only [Int.lt_irrefl,decide_false,cond_false,List.take_length]
  | j+1,k,m,hj,hm=>by
    obtain ⟨h1,h2,h3⟩:=hv
    obtain ⟨m,rfl⟩:∃ q,m=q+1:=⟨m - 1,by omega⟩
    have hk:k < v.Sets.length:=by omega
    have hlt:((k:Nat):Int) < (v.Sets.length:Int):=by omega
    have hmem:gt v.Sets k∈v.Sets:=by rw [gt_lt hk];exact List.getElem_mem hk
    have hx:=(h3 _ hmem).2
    have hb:vtoc_Check_b2 n v (v.Sets.length:Int) (u0 ++ exts (v.Sets.take k)) (k:Int)=some (if pBad v k=true then .inr (.inl 5) else .inl (u0 ++ exts (v.Sets.take (k+1)),((k+1:Nat):Int))):=by
      unfold vtoc_Check_b2
      have hel:=exts_len (l:=v.Sets.take k) fun d hd=>h3 d (List.mem_of_mem_take hd)
      rw [List.length_take] at hel
      have hap:(u0 ++ exts (v.Sets.take k)).length+(gt v.Sets k).Extents.length≤2147483648:=by rw [List.length_append];omega
      simp only [decide_eq_true hlt,cond_true,Int.toNat_natCast,fits_eq n hn v _ (Nat.le_trans hx (by decide)),Option.bind_some]
      rw [gd_pos _ ⟨by omega,hlt⟩,gd_pos _ (by
        intro hc
        simp only [Bool.and_eq_true,decide_eq_true_eq] at hc
        rw [wid (n:=(k:Int) - 1) (by omega)];omega)]
      have eo:(if decide ((k:Int) > 0)=true then !Op.bytesLess (gt v.Sets (IntKind.wrap .i64 ((k:Int) - 1)).toNat).Name (gt v.Sets k).Name else false)=ordB v.Sets k:=by
        unfold ordB
        rw [ite_ff]
        by_cases h0:0 < k
        · have:(k:Int) > 0:=by omega
          have e:(IntKind.wrap .i64 ((k:Int) - 1)).toNat=k - 1:=by rw [wid (by omega)];omega
          rw [e,decide_eq_true this,decide_eq_true h0]
        · have:¬ ((k:Int) > 0):=by omega
          rw [decide_eq_false this,decide_eq_false h0];rfl
      rw [eo,ite_tt,gd_pos _ hap,wid (n:=(k:Int)+1) (by omega),exts_take hk]
      show (bif pBad v k then _ else _)=_
      rw [← List.append_assoc]
      cases pBad v k <;> rfl
    rw [List.range'_succ,List.any_cons]
    cases hp:pBad v k with
    | true =>
      rw [hp] at hb
      rw [loopF_done (y:=.inl 5) (by simpa using hb)];simp
    | false =>
      rw [hp] at hb
      rw [loopF_step (x':=(u0 ++ exts (v.Sets.take (k+1)),((k+1:Nat):Int))) (by simpa using hb),Check_loop n hn v ⟨h1,h2,h3⟩ u0 hu j (k+1) m (by omega) (by omega),Bool.false_or]
theorem Valid_loop21 (n:Nat) (hn:N0≤n) (v:TVtoc) (hv:light v):∀ j k m,k+j=v.Sets.length→j < m →
    loopF (fun (x:Int)=>ref21_Valid_b2 n v x) m (k:Int)=some (if (List.range' k j).any (rBad v)=true then .inl false else .inr ())
  | 0,k,m,hj,hm=>by
    obtain ⟨m,rfl⟩:∃ q,m=q+1:=⟨m - 1,by omega⟩
    have hk:k=v.Sets.length:=by omega
    subst hk
    refine (loopF_done (y:=.inr ()) ?_).trans (by simp)
    unfold ref21_Valid_b2
    simp only [Int.lt_irrefl,decide_false,cond_false]
  | j+1,k,m,hj,hm=>by
    obtain ⟨h1,h2,h3⟩:=hv
    obtain ⟨m,rfl⟩:∃ q,m=q+1:=⟨m - 1,by omega⟩
    have hk:k < v.Sets.length:=by omega
    have hlt:((k:Nat):Int) < (v.Sets.length:Int):=by omega
    have hmem:gt v.Sets k∈v.Sets:=by rw [gt_lt hk];exact List.getElem_mem hk
    have hx:=h3 _ hmem
    have hb:ref21_Valid_b2 n v (k:Int)=some (if rBad v k=true then .inr (.inl false) else .inl ((k+1:Nat):Int)):=by
      unfold ref21_Valid_b2
      simp only [decide_eq_true hlt,cond_true,Int.toNat_natCast,label_eq n hn v _ (Nat.le_trans hx.2 (by decide)) (Nat.le_trans hx.1 (by decide)),Option.bind_some]
      rw [gd_pos _ ⟨by omega,hlt⟩,gd_pos _ (by
        refine ⟨fun hc=>?_,fun _=>⟨by omega,hlt⟩⟩
        simp only [Bool.and_eq_true,decide_eq_true_eq] at hc
        rw [wid (n:=(k:Int) - 1) (by omega)];omega)]
      have eo:(if decide ((k:Int) > 0)=true then !Op.bytesLess (gt v.Sets (IntKind.wrap .i64 ((k:Int) - 1)).toNat).Name (gt v.Sets k).Name else false)=ordB v.Sets k:=by
        unfold ordB
        rw [ite_ff]
        by_cases h0:0 < k
        · have:(k:Int) > 0:=by omega
          have e:(IntKind.wrap .i64 ((k:Int) - 1)).toNat=k - 1:=by rw [wid (by omega)];omega
          rw [e,decide_eq_true this,decide_eq_true h0]
        · have:¬ ((k:Int) > 0):=by omega
          rw [decide_eq_false this,decide_eq_false h0];rfl
      rw [eo,ite_tt,wid (n:=(k:Int)+1) (by omega)]
      show (bif rBad v k then _ else _)=_
      cases rBad v k <;> rfl
    rw [List.range'_succ,List.any_cons]
    cases hp:rBad v k with
    | true =>
      rw [hp] at hb
      rw [loopF_done (y:=.inl false) (by simpa using hb)];simp
    | false =>
      rw [hp] at hb
      rw [loopF_step (x':=((k+1:Nat):Int)) (by simpa using hb),Valid_loop21 n hn v ⟨h1,h2,h3⟩ j (k+1) m (by omega) (by omega),Bool.false_or]
theorem all_eq (n:Nat) (hn:N0≤n) (v:TVtoc) (hv:light v):ref21_all n v=some (exts v.Sets):=by
  have hn0:4194304≤n:=hn
  obtain ⟨h1,h2,h3⟩:=hv
  have key:∀ j k m,k+j=v.Sets.length→j < m→loopF (fun (x:(List TExtent)×Int)=>ref21_all_b2 n v x.1 x.2) m (exts (v.Sets.take k),(k:Int))=some (exts v.Sets):=by
    intro j
    induction j with
    | zero =>
      intro k m hj hm
      obtain ⟨m,rfl⟩:∃ q,m=q+1:=⟨m - 1,by omega⟩
      have hk:k=v.Sets.length:=by omega
      subst hk
      refine loopF_done ?_
      unfold ref21_all_b2
      simp only [Int.lt_irrefl,decide_false,cond_false,List.take_length]
    | succ j ih =>
      intro k m hj hm
      obtain ⟨m,rfl⟩:∃ q,m=q+1:=⟨m - 1,by omega⟩
      have hk:k < v.Sets.length:=by omega
      have hlt:((k:Nat):Int) < (v.Sets.length:Int):=by omega
      have hmem:gt v.Sets k∈v.Sets:=by rw [gt_lt hk];exact List.getElem_mem hk
      have hx:=(h3 _ hmem).2
      have hel:=exts_len (l:=v.Sets.take k) fun d hd=>h3 d (List.mem_of_mem_take hd)
      rw [List.length_take] at hel
      refine (loopF_step (x':=(exts (v.Sets.take (k+1)),((k+1:Nat):Int))) ?_).trans (ih (k+1) m (by omega) (by omega))
      unfold ref21_all_b2
      simp only [decide_eq_true hlt,cond_true,Int.toNat_natCast]
      rw [gd_pos _ ⟨⟨by omega,hlt⟩,by omega⟩,wid (n:=(k:Int)+1) (by omega),exts_take hk]
      rfl
  have:=key v.Sets.length 0 n (by omega) (by omega)
  simp only [List.take_zero] at this
  have this':loopF (fun (x:(List TExtent)×Int)=>ref21_all_b2 n v x.1 x.2) n ([],0)=some (exts v.Sets):=this
  simp only [ref21_all,this',Option.bind_some,ref21_all_k1]
end Go.Proofs.YtijnkhcfondehaaGreatDoor
/-
  ch. 21: Check is Valid; Free.
-/
set_option maxHeartbeats 8000000
set_option linter.unusedVariables false
set_option linter.unusedSimpArgs false
set_option maxRecDepth 100000
namespace Go.Proofs.YtijnkhcfondehaaGreatDoor
open Go.AE
def head (v:TVtoc):Bool:=headB v.Serial v.Cyls v.Heads v.Size
def pV (v:TVtoc):Bool:=head v && !decide ((v.Sets.length:Int) > (if IntKind.wrap .i64 (14 * v.Size) < 64 then IntKind.wrap .i64 (14 * v.Size) else 64)) && !(List.range' 0 v.Sets.length).any (pBad v) && (trkF [] (⟨0,IntKind.wrap .i64 (v.Size+1)⟩ :: exts v.Sets)).isSome
def rV (v:TVtoc):Bool:=head v && !decide ((v.Sets.length:Int) > 64) && !decide ((v.Sets.length:Int) > IntKind.wrap .i64 (14 * v.Size)) && !(List.range' 0 v.Sets.length).any (rBad v) && (trkF [] (exts v.Sets)).isSome
theorem Check_all (n:Nat) (hn:N0≤n) (v:TVtoc) (hv:light v):vtoc_Check n v=some (if pV v=true then 0 else 5):=by
  have hn0:4194304≤n:=hn
  obtain ⟨h1,h2,h3⟩:=hv
  unfold vtoc_Check
  obtain ⟨t,ht1,ht2⟩:=trim36 n v.Serial
  have ht1':strings_Trim n v.Serial [65,66,67,68,69,70,71,72,73,74,75,76,77,78,79,80,81,82,83,84,85,86,87,88,89,90,48,49,50,51,52,53,54,55,56,57]=some t:=ht1
  simp only [in_eq,Option.bind_some,ht1',Option.isSome_some,Option.getD_some,implies_true,and_self,ht2,inB_len]
  rw [gd_pos _ trivial]
  have e1:(if (!(decide (1≤v.Serial.length) && decide (v.Serial.length≤6)))=true then true else !v.Serial.all fun b=>letB b || digB b) = !serB v.Serial:=by
    unfold serB
    cases (decide (1≤v.Serial.length) && decide (v.Serial.length≤6)) <;> simp
  rw [e1]
  unfold pV head
  cases hser:serB v.Serial with
  | false=>simp [headB,hser]
  | true =>
    simp only [Bool.not_true,cond_false]
    rw [gd_pos _ trivial]
    have e2:(if (if (!inB v.Cyls 1 64)=true then true else !inB v.Heads 1 8)=true then true else !inB v.Size 1 (IntKind.wrap .i64 (IntKind.wrap .i64 (v.Cyls * v.Heads) - 1))) = !headB v.Serial v.Cyls v.Heads v.Size:=by
      unfold headB;rw [hser]
      cases inB v.Cyls 1 64 <;> cases inB v.Heads 1 8 <;> simp
    rw [e2]
    cases hh:headB v.Serial v.Cyls v.Heads v.Size with
    | false=>simp
    | true =>
      simp only [Bool.not_true,cond_false,Bool.true_and]
      cases hl:decide ((v.Sets.length:Int) > (if IntKind.wrap .i64 (14 * v.Size) < 64 then IntKind.wrap .i64 (14 * v.Size) else 64)) with
      | true=>simp
      | false =>
        simp only [cond_false,Bool.not_false,Bool.true_and]
        have key:=Check_loop n hn v ⟨h1,h2,h3⟩ [⟨0,IntKind.wrap .i64 (v.Size+1)⟩] (by simp) v.Sets.length 0 n (by omega) (by omega)
        simp only [List.take_zero] at key
        have key':loopF (fun (x:(List TExtent)×Int)=>vtoc_Check_b2 n v (v.Sets.length:Int) x.1 x.2) n ([(⟨0,IntKind.wrap .i64 (v.Size+1)⟩:TExtent)],0)=some (if (List.range' 0 v.Sets.length).any (pBad v)=true then .inl 5 else .inr ([(⟨0,IntKind.wrap .i64 (v.Size+1)⟩:TExtent)] ++ exts v.Sets)):=key
        rw [key',Option.bind_some]
        cases (List.range' 0 v.Sets.length).any (pBad v) with
        | true=>simp
        | false =>
          have hel:=exts_len h3
          have hle:((⟨0,IntKind.wrap .i64 (v.Size+1)⟩:TExtent) :: exts v.Sets).length≤1073741824:=by rw [List.length_cons];omega
          simp only [Bool.false_eq_true,if_false,List.singleton_append,vtoc_Check_k1,Valid_eq n hn _ hle,Option.bind_some,Bool.not_false,Bool.true_and]
          cases (trkF [] ((⟨0,IntKind.wrap .i64 (v.Size+1)⟩:TExtent) :: exts v.Sets)).isSome <;> rfl
theorem Valid_all (n:Nat) (hn:N0≤n) (v:TVtoc) (hv:light v):ref21_Valid n v=some (rV v):=by
  have hn0:4194304≤n:=hn
  obtain ⟨h1,h2,h3⟩:=hv
  unfold ref21_Valid
  simp only [serial_eq n v.Serial (by omega) (by omega),rin_eq,Option.bind_some,Option.isSome_some,Option.getD_some,implies_true,and_self]
  rw [gd_pos _ trivial]
  have e2:(if (if (if (!serB v.Serial)=true then true else !inB v.Cyls 1 64)=true then true else !inB v.Heads 1 8)=true then true else !inB v.Size 1 (IntKind.wrap .i64 (IntKind.wrap .i64 (v.Cyls * v.Heads) - 1))) = !head v:=by
    unfold head headB
    cases serB v.Serial <;> cases inB v.Cyls 1 64 <;> cases inB v.Heads 1 8 <;> simp
  rw [e2]
  unfold rV
  cases hh:head v with
  | false=>simp
  | true =>
    simp only [Bool.not_true,Bool.false_eq_true,if_false,Bool.true_and,ite_tt]
    cases hl:decide ((v.Sets.length:Int) > 64) with
    | true=>simp
    | false =>
      simp only [Bool.false_or,Bool.not_false,Bool.true_and]
      cases hl2:decide ((v.Sets.length:Int) > IntKind.wrap .i64 (14 * v.Size)) with
      | true=>simp
      | false =>
        simp only [cond_false,Bool.not_false,Bool.true_and]
        have key:=Valid_loop21 n hn v ⟨h1,h2,h3⟩ v.Sets.length 0 n (by omega) (by omega)
        have key':loopF (fun (x:Int)=>ref21_Valid_b2 n v x) n 0=some (if (List.range' 0 v.Sets.length).any (rBad v)=true then .inl false else .inr ()):=key
        rw [key',Option.bind_some]
        cases (List.range' 0 v.Sets.length).any (rBad v) with
        | true=>simp
        | false =>
          have hel:=exts_len h3
          simp only [Bool.false_eq_true,if_false,ref21_Valid_k1,all_eq n hn v ⟨h1,h2,h3⟩,RValid_eq n hn (exts v.Sets) (by omega),Option.bind_some,Bool.not_false,Bool.true_and]
theorem behind_iff {S:Int} (hS:0≤S∧S≤511) (A:List TExtent):(trkF [] (⟨0,S+1⟩ :: A)).isSome=true↔(trkF [] A).isSome=true∧∀ x∈A,S < x.At:=by
  rw [trkF_isSome,trkF_isSome,trks_cons,List.all_cons,Bool.and_eq_true,List.nodup_append]
  have hv0:val ⟨0,S+1⟩=true:=(val_iff _).2 ⟨by simp,by simp only;omega,by simp,by simp only;omega⟩
  constructor
  · rintro ⟨⟨_,h1⟩,_,h2,h3⟩
    refine ⟨⟨h1,h2⟩,fun x hx=>?_⟩
    have hvx:=(val_iff x).1 (List.all_eq_true.1 h1 x hx)
    have hm:x.At∈trks A:=List.mem_flatMap.2 ⟨x,hx,trk_mem.2 ⟨by omega,by omega⟩⟩
    by_cases hc:S < x.At
    · exact hc
    · exact absurd rfl (h3 x.At (trk_mem.2 ⟨by simp only;omega,by simp only;omega⟩) x.At hm)
  · rintro ⟨⟨h1,h2⟩,h3⟩
    refine ⟨⟨hv0,h1⟩,trk_nodup _,h2,fun a ha b hb e=>?_⟩
    subst e
    obtain ⟨x,hx,hb⟩:=List.mem_flatMap.1 hb
    have:=h3 x hx
    have h4:=trk_mem.1 ha
    have h5:=trk_mem.1 hb
    simp only at h4
    omega
theorem any_range {p:Nat→Bool} {m:Nat}:(List.range' 0 m).any p=false↔∀ k,k < m→p k=false:=by
  rw [List.any_eq_false]
  constructor
  · intro h k hk
    have:=h k (by simp [List.mem_range',hk])
    simpa using this
  · intro h k hk
    have:k < m:=by simpa [List.mem_range'] using hk
    simp [h k this]
theorem pBad_iff {v:TVtoc} {k:Nat}:pBad v k=false↔pLbl v (gt v.Sets k)=true∧ordB v.Sets k=false:=by
  unfold pBad;cases pLbl v (gt v.Sets k) <;> cases ordB v.Sets k <;> simp
theorem rLbl_iff {v:TVtoc} {d:TDscb}:rLbl v d=true↔pLbl v d=true∧∀ x∈d.Extents,v.Size < x.At:=by
  have e:d.Extents.any (fun x=>decide (x.At≤v.Size) || overB v x)=false↔d.Extents.any (overB v)=false∧∀ x∈d.Extents,v.Size < x.At:=by
    simp only [List.any_eq_false,Bool.or_eq_true,decide_eq_true_eq,not_or]
    constructor
    · intro h;exact ⟨fun x hx=>(h x hx).2,fun x hx=>by have:=(h x hx).1;omega⟩
    · rintro ⟨h1,h2⟩ x hx;exact ⟨by have:=h2 x hx;omega,h1 x hx⟩
  unfold rLbl pLbl
  simp only [Bool.and_eq_true,Bool.not_eq_true',e]
  constructor
  · rintro ⟨⟨h1,h2⟩,⟨⟨⟨h3,h4⟩,h5⟩,h6⟩,h7⟩;exact ⟨⟨⟨⟨⟨⟨h3,h4⟩,h5⟩,h6⟩,h1⟩,h7⟩,h2⟩
  · rintro ⟨⟨⟨⟨⟨⟨h3,h4⟩,h5⟩,h6⟩,h1⟩,h7⟩,h2⟩;exact ⟨⟨h1,h2⟩,⟨⟨⟨h3,h4⟩,h5⟩,h6⟩,h7⟩
theorem rBad_iff {v:TVtoc} {k:Nat}:rBad v k=false↔(pLbl v (gt v.Sets k)=true∧∀ x∈(gt v.Sets k).Extents,v.Size < x.At)∧ordB v.Sets k=false:=by
  rw [← rLbl_iff]
  unfold rBad;cases rLbl v (gt v.Sets k) <;> cases ordB v.Sets k <;> simp
theorem mem_exts {l:List TDscb} {x:TExtent}:x∈exts l↔∃ k,k < l.length∧x∈(gt l k).Extents:=by
  unfold exts
  rw [List.mem_flatMap]
  constructor
  · rintro ⟨d,hd,hx⟩
    obtain ⟨k,hk,rfl⟩:=List.getElem_of_mem hd
    exact ⟨k,hk,by rw [gt_lt hk];exact hx⟩
  · rintro ⟨k,hk,hx⟩
    exact ⟨_,List.getElem_mem hk,by rw [← gt_lt hk];exact hx⟩
theorem pV_rV (v:TVtoc):pV v=rV v:=by
  unfold pV rV
  cases hh:head v with
  | false=>simp
  | true =>
    obtain ⟨z1,z2⟩:=head_z hh
    have w1:IntKind.wrap .i64 (14 * v.Size)=14 * v.Size:=wid (by omega)
    have w2:IntKind.wrap .i64 (v.Size+1)=v.Size+1:=wid (by omega)
    rw [Bool.eq_iff_iff,w1,w2]
    simp only [Bool.true_and,Bool.and_eq_true,Bool.not_eq_true',decide_eq_false_iff_not,any_range,pBad_iff,rBad_iff,behind_iff (S:=v.Size) ⟨by omega,by omega⟩]
    have em:¬ ((v.Sets.length:Int) > if 14 * v.Size < 64 then 14 * v.Size else 64)↔¬ ((v.Sets.length:Int) > 64)∧¬ ((v.Sets.length:Int) > 14 * v.Size):=by
      split <;> omega
    rw [em]
    constructor
    · rintro ⟨⟨⟨h1,h2⟩,h3⟩,h4,h5⟩
      exact ⟨⟨⟨h1,h2⟩,fun k hk=>⟨⟨(h3 k hk).1,fun x hx=>h5 x (mem_exts.2 ⟨k,hk,hx⟩)⟩,(h3 k hk).2⟩⟩,h4⟩
    · rintro ⟨⟨⟨h1,h2⟩,h3⟩,h4⟩
      refine ⟨⟨⟨h1,h2⟩,fun k hk=>⟨(h3 k hk).1.1,(h3 k hk).2⟩⟩,h4,fun x hx=>?_⟩
      obtain ⟨k,hk,hx⟩:=mem_exts.1 hx
      exact (h3 k hk).1.2 x hx
theorem rV_iff {v:TVtoc}:rV v=true↔head v=true∧v.Sets.length≤64∧(v.Sets.length:Int)≤14 * v.Size∧(∀ k,k < v.Sets.length→(pLbl v (gt v.Sets k)=true∧∀ x∈(gt v.Sets k).Extents,v.Size < x.At)∧ordB v.Sets k=false)∧(trkF [] (exts v.Sets)).isSome=true:=by
  unfold rV
  cases hh:head v with
  | false=>simp
  | true =>
    obtain ⟨z1,z2⟩:=head_z hh
    have w1:IntKind.wrap .i64 (14 * v.Size)=14 * v.Size:=wid (by omega)
    rw [w1]
    simp only [Bool.true_and,Bool.and_eq_true,Bool.not_eq_true',decide_eq_false_iff_not,any_range,rBad_iff,true_and]
    constructor
    · rintro ⟨⟨⟨h1,h2⟩,h3⟩,h4⟩;exact ⟨by omega,by omega,h3,h4⟩
    · rintro ⟨h1,h2,h3,h4⟩;exact ⟨⟨⟨by omega,by omega⟩,h3⟩,h4⟩
end Go.Proofs.YtijnkhcfondehaaGreatDoor
/-
  ch. 21: the order of names; where a label stands; copies.
-/
set_option maxHeartbeats 8000000
set_option linter.unusedVariables false
set_option linter.unusedSimpArgs false
set_option maxRecDepth 100000
namespace Go.Proofs.YtijnkhcfondehaaGreatDoor
open Go.AE
theorem bl_irrefl (x:List UInt8):Op.bytesLess x x=false:=by
  rw [Go.Proofs.bytesLess_eq];simp [List.lt_irrefl]
theorem bl_trans {x y z:List UInt8} (h1:Op.bytesLess x y=true) (h2:Op.bytesLess y z=true):Op.bytesLess x z=true:=by
  rw [Go.Proofs.bytesLess_eq,decide_eq_true_eq] at *
  exact List.lt_trans h1 h2
theorem bl_ne {x y:List UInt8} (h:Op.bytesLess x y=true):x≠y:=by
  rintro rfl;rw [bl_irrefl] at h;cases h
theorem cmpS_neg (x y:List UInt8):cmpS x y < 0↔Op.bytesLess x y=true:=by
  unfold cmpS
  by_cases h:Op.bytesLess x y=true
  · simp [h]
  · by_cases h2:x=y
    · subst h2;simp [bl_irrefl]
    · simp [h,h2]
theorem cmpS_zero (x y:List UInt8):cmpS x y=0↔x=y:=by
  unfold cmpS
  by_cases h:Op.bytesLess x y=true
  · simp only [h,if_true];exact ⟨fun e=>by omega,fun e=>absurd e (bl_ne h)⟩
  · by_cases h2:x=y
    · subst h2;simp [bl_irrefl]
    · simp [h,h2]
abbrev wlt (a b:TDscb):Prop:=Op.bytesLess a.Name b.Name=true
theorem ord_iff {l:List TDscb}:(∀ k,k < l.length→ordB l k=false)↔l.Pairwise wlt:=by
  constructor
  · intro h
    have step:∀ k,0 < k→k < l.length→wlt (gt l (k - 1)) (gt l k):=by
      intro k h0 hk
      have:=h k hk
      unfold ordB at this
      rw [decide_eq_true h0,Bool.true_and] at this
      show Op.bytesLess _ _=true
      cases hb:Op.bytesLess (gt l (k - 1)).Name (gt l k).Name with
      | true=>rfl
      | false=>rw [hb] at this;cases this
    have far:∀ d i,i+d+1 < l.length→wlt (gt l i) (gt l (i+d+1)):=by
      intro d
      induction d with
      | zero=>intro i hi;have:=step (i+1) (by omega) (by omega);simpa using this
      | succ d ih =>
        intro i hi
        have h1:=ih i (by omega)
        have h2:=step (i+(d+1)+1) (by omega) hi
        have e:i+(d+1)+1 - 1=i+d+1:=by omega
        rw [e] at h2
        exact bl_trans h1 h2
    rw [List.pairwise_iff_getElem]
    intro i j hi hj hij
    have:=far (j - i - 1) i (by omega)
    have e:i+(j - i - 1)+1=j:=by omega
    rw [e,gt_lt hi,gt_lt hj] at this
    exact this
  · intro h k hk
    unfold ordB
    by_cases h0:0 < k
    · rw [List.pairwise_iff_getElem] at h
      have:=h (k - 1) k (by omega) hk (by omega)
      rw [gt_lt hk,gt_lt (by omega:k - 1 < l.length)]
      rw [wlt] at this
      rw [this];simp
    · rw [decide_eq_false h0];rfl
def lowN (l:List TDscb) (name:List UInt8):Nat:=(l.takeWhile fun d=>Op.bytesLess d.Name name).length
theorem lowN_le (l:List TDscb) (name:List UInt8):lowN l name≤l.length:=by
  unfold lowN;exact List.Sublist.length_le (List.takeWhile_sublist _)
theorem lowN_below {l:List TDscb} {name:List UInt8}:∀ k,k < lowN l name→Op.bytesLess (gt l k).Name name=true:=by
  induction l with
  | nil=>intro k hk;simp [lowN] at hk
  | cons d l ih =>
    intro k hk
    unfold lowN at hk
    rw [List.takeWhile_cons] at hk
    by_cases hd:Op.bytesLess d.Name name=true
    · rw [if_pos hd,List.length_cons] at hk
      cases k with
      | zero=>simpa [gt] using hd
      | succ k=>have:=ih k (by unfold lowN;omega);simpa [gt] using this
    · rw [if_neg hd] at hk;simp at hk
theorem lowN_at {l:List TDscb} {name:List UInt8} (h:lowN l name < l.length):Op.bytesLess (gt l (lowN l name)).Name name=false:=by
  induction l with
  | nil=>simp at h
  | cons d l ih =>
    unfold lowN at h ⊢
    rw [List.takeWhile_cons] at h ⊢
    by_cases hd:Op.bytesLess d.Name name=true
    · rw [if_pos hd,List.length_cons] at h ⊢
      have:=ih (by unfold lowN;simpa using h)
      simpa [gt,lowN] using this
    · rw [if_neg hd];simpa [gt] using hd
theorem lowN_above {l:List TDscb} {name:List UInt8} (hs:l.Pairwise wlt) {k:Nat} (h1:lowN l name≤k) (h2:k < l.length):Op.bytesLess (gt l k).Name name=false:=by
  rcases Nat.lt_or_ge (lowN l name) k with hlt | hge
  · have h3:=lowN_at (name:=name) (by omega:lowN l name < l.length)
    rw [List.pairwise_iff_getElem] at hs
    have h4:=hs (lowN l name) k (by omega) h2 hlt
    rw [← gt_lt,← gt_lt] at h4
    cases h5:Op.bytesLess (gt l k).Name name with
    | false=>rfl
    | true=>have:=bl_trans h4 h5;rw [h3] at this;cases this
  · have:k=lowN l name:=by omega
    subst this;exact lowN_at h2
def hasN (l:List TDscb) (name:List UInt8):Bool:=l.any fun d=>d.Name == name
theorem hasN_low {l:List TDscb} {name:List UInt8} (hs:l.Pairwise wlt):hasN l name=true↔lowN l name < l.length∧(gt l (lowN l name)).Name=name:=by
  unfold hasN
  rw [List.any_eq_true]
  constructor
  · rintro ⟨d,hd,he⟩
    obtain ⟨k,hk,rfl⟩:=List.getElem_of_mem hd
    have he:l[k].Name=name:=by simpa using he
    rw [← gt_lt hk] at he
    have h1:lowN l name≤k:=by
      rcases Nat.lt_or_ge k (lowN l name) with h | h
      · have:=lowN_below k h;rw [he,bl_irrefl] at this;cases this
      · exact h
    rcases Nat.lt_or_ge (lowN l name) k with h | h
    · have h3:=lowN_at (name:=name) (by omega:lowN l name < l.length)
      have hs':=List.pairwise_iff_getElem.1 hs (lowN l name) k (by omega) hk h
      rw [← gt_lt,← gt_lt hk] at hs'
      rw [wlt,he,h3] at hs';cases hs'
    · have:k=lowN l name:=by omega
      subst this;exact ⟨hk,he⟩
  · rintro ⟨h1,h2⟩
    exact ⟨_,List.getElem_mem h1,by rw [← gt_lt h1,h2];simp⟩
theorem mid_eq (i j:Nat) (h:i+j≤100000):IntKind.wrap .i64 ((Int.fdiv (IntKind.wrap .u64 ((IntKind.wrap .i64 ((i:Int)+(j:Int))))) (2 ^ min 1 (IntKind.bits .u64))))=(((i+j) / 2:Nat):Int):=by
  rw [wid (n:=(i:Int)+(j:Int)) (by omega)]
  have e1:IntKind.wrap .u64 ((i:Int)+(j:Int))=(i:Int)+(j:Int):=by
    simp only [IntKind.wrap]
    have:IntKind.u64.bits=64:=rfl
    rw [this]
    simp [IntKind.signed]
    omega
  have e2:((2:Int) ^ min 1 (IntKind.bits .u64))=2:=by decide
  rw [e1,e2]
  have e3:Int.fdiv ((i:Int)+(j:Int)) 2=(((i+j) / 2:Nat):Int):=by
    rw [Int.fdiv_eq_ediv_of_nonneg _ (by omega)];omega
  rw [e3]
  exact wid (by omega)
theorem bs_loop (n:Nat) (l:List TDscb) (name:List UInt8) (hs:l.Pairwise wlt) (hl:l.length≤1000):∀ d i j m,j - i=d→d < m→i≤lowN l name→lowN l name≤j→j≤l.length →
    loopF (fun (x:Int×Int)=>slices_BinarySearchFunc_f116_M1_b2 n l name (l.length:Int) x.1 x.2) m ((i:Int),(j:Int))=some ((lowN l name:Nat):Int):=by
  intro d
  induction d using Nat.strongRecOn with
  | ind d ih =>
    intro i j m hd hm h1 h2 h3
    obtain ⟨m,rfl⟩:∃ q,m=q+1:=⟨m - 1,by omega⟩
    by_cases hij:i < j
    · have hlt:((i:Nat):Int) < (j:Int):=by omega
      have hmid:=mid_eq i j (by omega)
      have hml:(i+j) / 2 < l.length:=by omega
      have hb:slices_BinarySearchFunc_f116_M1_b2 n l name (l.length:Int) (i:Int) (j:Int)=some (if Op.bytesLess (gt l ((i+j) / 2)).Name name=true then .inl ((((i+j) / 2+1:Nat):Int),(j:Int)) else .inl ((i:Int),(((i+j) / 2:Nat):Int))):=by
        unfold slices_BinarySearchFunc_f116_M1_b2
        simp only [decide_eq_true hlt,cond_true,hmid,Int.toNat_natCast,vtoc_Vtoc__index_1,strings_Compare,Option.bind_some]
        rw [gd_pos _ (by omega),wid (n:=(((i+j) / 2:Nat):Int)+1) (by omega)]
        by_cases hc:Op.bytesLess (gt l ((i+j) / 2)).Name name=true
        · rw [decide_eq_true ((cmpS_neg _ _).2 hc),if_pos hc];rfl
        · rw [decide_eq_false (fun h=>hc ((cmpS_neg _ _).1 h)),if_neg hc];rfl
      by_cases hc:Op.bytesLess (gt l ((i+j) / 2)).Name name=true
      · rw [if_pos hc] at hb
        have hlo:(i+j) / 2 < lowN l name:=by
          rcases Nat.lt_or_ge ((i+j) / 2) (lowN l name) with h | h
          · exact h
          · have:=lowN_above hs h hml;rw [hc] at this;cases this
        exact (loopF_step hb).trans (ih (j - ((i+j) / 2+1)) (by omega) _ _ m rfl (by omega) (by omega) h2 h3)
      · rw [if_neg hc] at hb
        have hlo:lowN l name≤(i+j) / 2:=by
          rcases Nat.lt_or_ge ((i+j) / 2) (lowN l name) with h | h
          · exact absurd (lowN_below _ h) hc
          · exact h
        exact (loopF_step hb).trans (ih ((i+j) / 2 - i) (by omega) _ _ m rfl (by omega) h1 hlo (by omega))
    · have:i=lowN l name:=by omega
      refine loopF_done ?_
      unfold slices_BinarySearchFunc_f116_M1_b2
      rw [decide_eq_false (by omega),cond_false,this]
theorem index_eq (n:Nat) (hn:N0≤n) (v:TVtoc) (name:List UInt8) (hs:v.Sets.Pairwise wlt) (hl:v.Sets.length≤1000):vtoc_Vtoc__index n v name=some (((lowN v.Sets name:Nat):Int),hasN v.Sets name):=by
  have hn0:4194304≤n:=hn
  have hle:=lowN_le v.Sets name
  have key:loopF (fun (x:Int×Int)=>slices_BinarySearchFunc_f116_M1_b2 n v.Sets name (v.Sets.length:Int) x.1 x.2) n (0,(v.Sets.length:Int))=some ((lowN v.Sets name:Nat):Int):=bs_loop n v.Sets name hs hl v.Sets.length 0 v.Sets.length n (by omega) (by omega) (by omega) hle (Nat.le_refl _)
  simp only [vtoc_Vtoc__index,slices_BinarySearchFunc_f116_M1,key,Option.bind_some,slices_BinarySearchFunc_f116_M1_k1,vtoc_Vtoc__index_1,strings_Compare,Option.isSome_some,Option.getD_some,implies_true,and_true,Int.toNat_natCast]
  rw [gd_pos _ (fun h=>by have:=of_decide_eq_true h;omega),Option.bind_some]
  congr 2
  rw [ite_ff,Bool.eq_iff_iff,hasN_low hs]
  simp only [Bool.and_eq_true,decide_eq_true_eq,beq_iff_eq,cmpS_zero]
  constructor
  · rintro ⟨h1,h2⟩;exact ⟨by omega,h2⟩
  · rintro ⟨h1,h2⟩;exact ⟨by omega,h2⟩
theorem place_loop (n:Nat) (v:TVtoc) (name:List UInt8) (p:Nat) (hp:∀ k,k < p→(gt v.Sets k).Name≠name) (hl:v.Sets.length≤1000) (hpl:p≤v.Sets.length):∀ j k m,k+j=p→j < m →
    loopF (fun (x:Int)=>ref21_place_b2 n name v x) m (k:Int)=loopF (fun (x:Int)=>ref21_place_b2 n name v x) (m - j) (p:Int):=by
  intro j
  induction j with
  | zero =>
    intro k m hj hm
    have:k=p:=by omega
    subst this;rfl
  | succ j ih =>
    intro k m hj hm
    obtain ⟨m,rfl⟩:∃ q,m=q+1:=⟨m - 1,by omega⟩
    have hlt:((k:Nat):Int) < (v.Sets.length:Int):=by omega
    refine (loopF_step (x':=((k+1:Nat):Int)) ?_).trans ((ih (k+1) m (by omega) (by omega)).trans (by congr 1;omega))
    unfold ref21_place_b2
    simp only [decide_eq_true hlt,cond_true,Int.toNat_natCast]
    have hne:=hp k (by omega)
    rw [gd_pos _ ⟨by omega,hlt⟩,wid (n:=(k:Int)+1) (by omega),beq_eq_false_iff_ne.2 hne]
    rfl
theorem place_eq (n:Nat) (hn:N0≤n) (v:TVtoc) (name:List UInt8) (hs:v.Sets.Pairwise wlt) (hl:v.Sets.length≤1000):ref21_place n v name=some (if hasN v.Sets name=true then ((lowN v.Sets name:Nat):Int) else -1):=by
  have hn0:4194304≤n:=hn
  cases hh:hasN v.Sets name with
  | true =>
    obtain ⟨h1,h2⟩:=(hasN_low hs).1 hh
    have key:=place_loop n v name (lowN v.Sets name) (fun k hk=>bl_ne (lowN_below k hk)) hl (by omega) (lowN v.Sets name) 0 n (by omega) (by omega)
    obtain ⟨m,hm⟩:∃ q,n - lowN v.Sets name=q+1:=⟨n - lowN v.Sets name - 1,by omega⟩
    have hlt:((lowN v.Sets name:Nat):Int) < (v.Sets.length:Int):=by omega
    have hd:loopF (fun (x:Int)=>ref21_place_b2 n name v x) (m+1) ((lowN v.Sets name:Nat):Int)=some (.inl ((lowN v.Sets name:Nat):Int)):=by
      refine loopF_done ?_
      unfold ref21_place_b2
      simp only [decide_eq_true hlt,cond_true,Int.toNat_natCast]
      rw [gd_pos _ ⟨by omega,hlt⟩,h2,beq_self_eq_true]
      rfl
    rw [hm,hd] at key
    have key':loopF (fun (x:Int)=>ref21_place_b2 n name v x) n 0=some (.inl ((lowN v.Sets name:Nat):Int)):=key
    simp only [ref21_place,key',Option.bind_some,if_true]
  | false =>
    have hno:∀ k,k < v.Sets.length→(gt v.Sets k).Name≠name:=by
      intro k hk e
      have:hasN v.Sets name=true:=by
        unfold hasN;rw [List.any_eq_true]
        exact ⟨_,List.getElem_mem hk,by rw [← gt_lt hk,e];simp⟩
      rw [hh] at this;cases this
    have key:=place_loop n v name v.Sets.length hno hl (Nat.le_refl _) v.Sets.length 0 n (by omega) (by omega)
    obtain ⟨m,hm⟩:∃ q,n - v.Sets.length=q+1:=⟨n - v.Sets.length - 1,by omega⟩
    have hd:loopF (fun (x:Int)=>ref21_place_b2 n name v x) (m+1) (v.Sets.length:Int)=some (.inr ()):=by
      refine loopF_done ?_
      unfold ref21_place_b2
      simp only [Int.lt_irrefl,decide_false,cond_false]
    rw [hm,hd] at key
    have key':loopF (fun (x:Int)=>ref21_place_b2 n name v x) n 0=some (.inr ()):=key
    simp only [ref21_place,key',Option.bind_some,ref21_place_k1,Bool.false_eq_true,if_false]
theorem copied_eq (n:Nat) (hn:N0≤n) (v:TVtoc) (hv:light v):vtoc_Vtoc__copied n v=some v:=by
  have hn0:4194304≤n:=hn
  obtain ⟨h1,h2,h3⟩:=hv
  have key:∀ j k m,k+j=v.Sets.length→j < m→loopF (fun (x:(List TDscb)×Int)=>vtoc_Vtoc__copied_b2 n v (v.Sets.length:Int) x.1 x.2) m (v.Sets.take k ++ zreps j (⟨[],(⟨0,0,false,false,0,0,0,0⟩:TDcb),[],0⟩:TDscb),(k:Int))=some v.Sets:=by
    intro j
    induction j with
    | zero =>
      intro k m hj hm
      obtain ⟨m,rfl⟩:∃ q,m=q+1:=⟨m - 1,by omega⟩
      have hk:k=v.Sets.length:=by omega
      subst hk
      refine loopF_done ?_
      unfold vtoc_Vtoc__copied_b2
      simp [zreps]
    | succ j ih =>
      intro k m hj hm
      obtain ⟨m,rfl⟩:∃ q,m=q+1:=⟨m - 1,by omega⟩
      have hk:k < v.Sets.length:=by omega
      have hlt:((k:Nat):Int) < (v.Sets.length:Int):=by omega
      have hmem:gt v.Sets k∈v.Sets:=by rw [gt_lt hk];exact List.getElem_mem hk
      have hx:=(h3 _ hmem).2
      have hll:(v.Sets.take k ++ zreps (j+1) (⟨[],(⟨0,0,false,false,0,0,0,0⟩:TDcb),[],0⟩:TDscb)).length=v.Sets.length:=by
        rw [List.length_append,List.length_take,zreps_len];omega
      refine (loopF_step (x':=(v.Sets.take (k+1) ++ zreps j (⟨[],(⟨0,0,false,false,0,0,0,0⟩:TDcb),[],0⟩:TDscb),((k+1:Nat):Int))) ?_).trans (ih (k+1) m (by omega) (by omega))
      unfold vtoc_Vtoc__copied_b2
      simp only [decide_eq_true hlt,cond_true,Int.toNat_natCast,Clone_eq n _ (Nat.le_trans hx (by decide)),Option.bind_some]
      rw [gd_pos _ ⟨by omega,hlt⟩,gd_pos _ (by rw [hll];exact ⟨⟨by omega,hlt⟩,hk⟩),wid (n:=(k:Int)+1) (by omega)]
      have e:List.set (v.Sets.take k ++ zreps (j+1) (⟨[],(⟨0,0,false,false,0,0,0,0⟩:TDcb),[],0⟩:TDscb)) k (⟨(gt v.Sets k).Name,((gt v.Sets k).Dcb),(gt v.Sets k).Extents,(gt v.Sets k).Used⟩:TDscb)=v.Sets.take (k+1) ++ zreps j (⟨[],(⟨0,0,false,false,0,0,0,0⟩:TDcb),[],0⟩:TDscb):=by
        show List.set _ k (gt v.Sets k)=_
        have hlk:(v.Sets.take k).length=k:=by rw [List.length_take];omega
        have ht:v.Sets.take (k+1)=v.Sets.take k ++ [v.Sets[k]]:=by
          rw [List.take_add_one,List.getElem?_eq_getElem hk];rfl
        rw [List.set_append_right _ _ (by omega),hlk,Nat.sub_self,ht,gt_lt hk,List.append_assoc]
        rfl
      rw [e];rfl
  have hz:=key v.Sets.length 0 n (by omega) (by omega)
  simp only [List.take_zero,List.nil_append] at hz
  have hz':loopF (fun (x:(List TDscb)×Int)=>vtoc_Vtoc__copied_b2 n v (v.Sets.length:Int) x.1 x.2) n ((zreps (Int.toNat (v.Sets.length:Int)) (⟨[],(⟨0,0,false,false,0,0,0,0⟩:TDcb),[],0⟩:TDscb)),0)=some v.Sets:=by
    rw [Int.toNat_natCast];exact hz
  unfold vtoc_Vtoc__copied
  rw [wid (n:=(v.Sets.length:Int)+1) (by omega),gd_pos _ (by omega),hz',Option.bind_some]
  rfl
end Go.Proofs.YtijnkhcfondehaaGreatDoor
/-
  ch. 21: runs of changes.
-/
set_option maxHeartbeats 8000000
set_option linter.unusedVariables false
set_option linter.unusedSimpArgs false
set_option maxRecDepth 100000
namespace Go.Proofs.YtijnkhcfondehaaGreatDoor
open Go.AE
theorem ref_eq (n:Nat) (hn:N0≤n) (v:TVtoc) (hv:light v):law21_ref n v=some v:=by
  have hn0:4194304≤n:=hn
  obtain ⟨h1,h2,h3⟩:=hv
  have key:∀ j k m,k+j=v.Sets.length→j < m→loopF (fun (x:(List TDscb)×Int)=>law21_ref_b2 n v x.1 x.2) m (v.Sets.take k,(k:Int))=some v.Sets:=by
    intro j
    induction j with
    | zero =>
      intro k m hj hm
      obtain ⟨m,rfl⟩:∃ q,m=q+1:=⟨m - 1,by omega⟩
      have hk:k=v.Sets.length:=by omega
      subst hk
      refine loopF_done ?_
      unfold law21_ref_b2
      simp only [Int.lt_irrefl,decide_false,cond_false,List.take_length]
    | succ j ih =>
      intro k m hj hm
      obtain ⟨m,rfl⟩:∃ q,m=q+1:=⟨m - 1,by omega⟩
      have hk:k < v.Sets.length:=by omega
      have hlt:((k:Nat):Int) < (v.Sets.length:Int):=by omega
      have hmem:gt v.Sets k∈v.Sets:=by rw [gt_lt hk];exact List.getElem_mem hk
      have hx:=(h3 _ hmem).2
      have ht:v.Sets.take (k+1)=v.Sets.take k ++ [gt v.Sets k]:=by
        rw [List.take_add_one,List.getElem?_eq_getElem hk,gt_lt hk];rfl
      refine (loopF_step (x':=(v.Sets.take (k+1),((k+1:Nat):Int))) ?_).trans (ih (k+1) m (by omega) (by omega))
      unfold law21_ref_b2
      simp only [decide_eq_true hlt,cond_true,Int.toNat_natCast]
      rw [gd_pos _ ⟨by omega,hlt⟩,gd_pos _ (by omega),gd_pos _ (by rw [List.length_take];omega),wid (n:=(k:Int)+1) (by omega),ht]
      rfl
  have hz:=key v.Sets.length 0 n (by omega) (by omega)
  have hz':loopF (fun (x:(List TDscb)×Int)=>law21_ref_b2 n v x.1 x.2) n ([],0)=some v.Sets:=hz
  simp only [law21_ref,hz',Option.bind_some,law21_ref_k1]
theorem sameSet_eq (n:Nat) (hn:N0≤n) (d:TDscb) (hd:d.Extents.length≤1000):ref21_SameSet n d d=some true:=by
  have hn0:4194304≤n:=hn
  have key:loopF (fun (x:Int)=>ref21_SameSet_b2 n d d x) n 0=some (if d.Extents.any (fun _=>false)=true then .inl false else .inr ()):=by
    refine loop_any d.Extents (fun _=>false) _ _ (fun k hk=>?_) ?_ (by omega)
    · have hlt:((k:Nat):Int) < (d.Extents.length:Int):=by omega
      unfold ref21_SameSet_b2
      simp only [decide_eq_true hlt,cond_true,beq_self_eq_true,Bool.and_self,Bool.not_true,cond_false]
      rw [gd_pos _ ⟨⟨by omega,hlt⟩,by omega,hlt⟩,wid (n:=(k:Int)+1) (by omega)]
      rfl
    · unfold ref21_SameSet_b2
      simp only [Int.lt_irrefl,decide_false,cond_false]
  have hf:d.Extents.any (fun _=>false)=false:=by simp
  rw [hf] at key
  unfold ref21_SameSet
  simp only [bne_self_eq_false,Bool.false_eq_true,if_false,beq_self_eq_true,Bool.and_self,Bool.not_true,cond_false,key,Option.bind_some,ref21_SameSet_k1]
theorem same_eq (n:Nat) (hn:N0≤n) (v:TVtoc) (hv:light v):ref21_Same n v v=some true:=by
  have hn0:4194304≤n:=hn
  obtain ⟨h1,h2,h3⟩:=hv
  have key:loopF (fun (x:Int)=>ref21_Same_b2 n v v x) n 0=some (if v.Sets.any (fun _=>false)=true then .inl false else .inr ()):=by
    refine loop_any v.Sets (fun _=>false) _ _ (fun k hk=>?_) ?_ (by omega)
    · have hlt:((k:Nat):Int) < (v.Sets.length:Int):=by omega
      have hx:=(h3 _ (by rw [gt_lt hk];exact List.getElem_mem hk:gt v.Sets k∈v.Sets)).2
      unfold ref21_Same_b2
      simp only [decide_eq_true hlt,cond_true,Int.toNat_natCast,sameSet_eq n hn _ (Nat.le_trans hx (by decide)),Option.bind_some,Bool.not_true,cond_false]
      rw [gd_pos _ ⟨⟨by omega,hlt⟩,by omega,hlt⟩,wid (n:=(k:Int)+1) (by omega)]
      rfl
    · unfold ref21_Same_b2
      simp only [Int.lt_irrefl,decide_false,cond_false]
  have hf:v.Sets.any (fun _=>false)=false:=by simp
  rw [hf] at key
  unfold ref21_Same
  simp only [bne_self_eq_false,Bool.false_eq_true,if_false,cond_false,key,Option.bind_some,ref21_Same_k1]
end Go.Proofs.YtijnkhcfondehaaGreatDoor
/-
  ch. 21: changes of any table.
-/
set_option maxHeartbeats 8000000
set_option linter.unusedVariables false
set_option linter.unusedSimpArgs false
set_option maxRecDepth 100000
namespace Go.Proofs.YtijnkhcfondehaaGreatDoor
open Go.AE
theorem light_eq (n:Nat) (v:TVtoc) (hs:v.Sets.length≤2097152) (hn:N0≤n):law21_light n v=some false∨(law21_light n v=some true∧light v):=by
  have hn0:4194304≤n:=hn
  have e:=loop_any (body:=fun (x:Int)=>law21_light_b2 n v x) v.Sets (fun d=>decide ((d.Name.length:Int) > 100) || decide ((d.Extents.length:Int) > 20)) (.inl false:Bool ⊕ Unit) (.inr ()) (n:=n)
    (fun k hk=>by
      have hlt:((k:Nat):Int) < (v.Sets.length:Int):=by omega
      unfold law21_light_b2
      simp only [decide_eq_true hlt,cond_true,Int.toNat_natCast,ite_tt]
      rw [gd_pos _ ⟨⟨by omega,hlt⟩,fun _=>⟨by omega,hlt⟩⟩,wid (n:=(k:Int)+1) (by omega)]
      have hg:gt v.Sets k=v.Sets[k]:=gt_lt hk
      by_cases h1:((gt v.Sets k).Name.length:Int) > 100
      · rw [decide_eq_true (by rw [← hg];exact h1:((v.Sets[k].Name.length:Nat):Int) > 100)]
        simp only [decide_eq_true h1,Bool.true_or,cond_true,if_true]
      · rw [decide_eq_false (by rw [← hg];exact h1:¬ ((v.Sets[k].Name.length:Nat):Int) > 100)]
        simp only [decide_eq_false h1,Bool.false_or]
        by_cases h2:((gt v.Sets k).Extents.length:Int) > 20
        · rw [decide_eq_true (by rw [← hg];exact h2:((v.Sets[k].Extents.length:Nat):Int) > 20)]
          simp only [decide_eq_true h2,cond_true,if_true]
        · rw [decide_eq_false (by rw [← hg];exact h2:¬ ((v.Sets[k].Extents.length:Nat):Int) > 20)]
          simp only [decide_eq_false h2,cond_false,Bool.false_eq_true,if_false]
          rfl)
    (by
      unfold law21_light_b2
      simp only [Int.lt_irrefl,decide_false,cond_false]) (by omega)
  unfold law21_light
  rw [e,Option.bind_some]
  cases ha:v.Sets.any (fun d=>decide ((d.Name.length:Int) > 100) || decide ((d.Extents.length:Int) > 20)) with
  | true=>exact .inl rfl
  | false =>
    simp only [Bool.false_eq_true,if_false,law21_light_k1,ite_ff]
    have hall:∀ d∈v.Sets,d.Name.length≤100∧d.Extents.length≤20:=by
      intro d hd
      have:=(List.any_eq_false.1 ha) d hd
      simp only [Bool.or_eq_true,decide_eq_true_eq,not_or] at this
      omega
    by_cases h1:(v.Sets.length:Int)≤70
    · by_cases h2:(v.Serial.length:Int)≤100
      · right
        simp only [h1,h2,decide_true,Bool.and_self]
        exact ⟨trivial,by omega,by omega,hall⟩
      · left;simp [h2]
    · left;simp [h1]
theorem spoil1 (n:Nat) (hn:N0≤n) (v:TVtoc) (k:Nat) (hk:k < v.Sets.length) (hx:v.Sets[k].Extents.length≤1000):loopF (fun (x:Int)=>law21_spoil_R_b4 n v (k:Int) x) n 0=some ():=by
  have hn0:4194304≤n:=hn
  have hlt:((k:Nat):Int) < (v.Sets.length:Int):=by omega
  have e:=loop_any (body:=fun (x:Int)=>law21_spoil_R_b4 n v (k:Int) x) v.Sets[k].Extents (fun _=>false) () () (n:=n)
    (fun i hi=>by
      have hli:((i:Nat):Int) < (v.Sets[k].Extents.length:Int):=by omega
      unfold law21_spoil_R_b4
      simp only [Int.toNat_natCast,gt_lt hk,decide_eq_true hli,cond_true]
      rw [gd_pos _ ⟨by omega,hlt⟩,gd_pos _ ⟨⟨by omega,hlt⟩,by omega,hli⟩,wid (n:=(i:Int)+1) (by omega)]
      rfl)
    (by
      unfold law21_spoil_R_b4
      simp only [Int.toNat_natCast,gt_lt hk,Int.lt_irrefl,decide_false,cond_false]
      rw [gd_pos _ ⟨by omega,hlt⟩]) (by omega)
  simpa using e
theorem spoil_eq (n:Nat) (hn:N0≤n) (v:TVtoc) (hv:v.Sets.length≤1000) (hx:∀ d∈v.Sets,d.Extents.length≤1000):law21_spoil_R n v=some ():=by
  have hn0:4194304≤n:=hn
  have e:=loop_any (body:=fun (x:Int)=>law21_spoil_R_b1 n v x) v.Sets (fun _=>false) () () (n:=n)
    (fun k hk=>by
      have hlt:((k:Nat):Int) < (v.Sets.length:Int):=by omega
      unfold law21_spoil_R_b1
      simp only [decide_eq_true hlt,cond_true,spoil1 n hn v k hk (hx _ (List.getElem_mem hk)),Option.bind_some,law21_spoil_R_k3,law21_spoil_R_k2]
      rw [gd_pos _ ⟨by omega,hlt⟩,wid (n:=(k:Int)+1) (by omega)]
      rfl)
    (by
      unfold law21_spoil_R_b1
      simp only [Int.lt_irrefl,decide_false,cond_false]) (by omega)
  unfold law21_spoil_R
  rw [e]
  simp
end Go.Proofs.YtijnkhcfondehaaGreatDoor
/-
  ch. 21: looking for a label, looking for a track's owner, in any table.
-/
set_option maxHeartbeats 8000000
set_option linter.unusedVariables false
set_option linter.unusedSimpArgs false
set_option maxRecDepth 100000
namespace Go.Proofs.YtijnkhcfondehaaGreatDoor
open Go.AE
theorem bs_any (n:Nat) (l:List TDscb) (name:List UInt8) (hl:l.length≤1000):∀ d i j m:Nat,j - i=d→d < m→j≤l.length →
    ∃ p:Int,loopF (fun (x:Int×Int)=>slices_BinarySearchFunc_f116_M1_b2 n l name (l.length:Int) x.1 x.2) m ((i:Int),(j:Int))=some p∧(i:Int)≤p:=by
  intro d
  induction d using Nat.strongRecOn with
  | ind d ih =>
    intro i j m hd hm h3
    obtain ⟨m,rfl⟩:∃ q,m=q+1:=⟨m - 1,by omega⟩
    by_cases hij:i < j
    · have hlt:((i:Nat):Int) < (j:Int):=by omega
      have hmid:=mid_eq i j (by omega)
      have hml:(i+j) / 2 < l.length:=by omega
      have hb:slices_BinarySearchFunc_f116_M1_b2 n l name (l.length:Int) (i:Int) (j:Int)=some (if Op.bytesLess (gt l ((i+j) / 2)).Name name=true then .inl ((((i+j) / 2+1:Nat):Int),(j:Int)) else .inl ((i:Int),(((i+j) / 2:Nat):Int))):=by
        unfold slices_BinarySearchFunc_f116_M1_b2
        simp only [decide_eq_true hlt,cond_true,hmid,Int.toNat_natCast,vtoc_Vtoc__index_1,strings_Compare,Option.bind_some]
        rw [gd_pos _ (by omega),wid (n:=(((i+j) / 2:Nat):Int)+1) (by omega)]
        by_cases hc:Op.bytesLess (gt l ((i+j) / 2)).Name name=true
        · rw [decide_eq_true ((cmpS_neg _ _).2 hc),if_pos hc];rfl
        · rw [decide_eq_false (fun h=>hc ((cmpS_neg _ _).1 h)),if_neg hc];rfl
      by_cases hc:Op.bytesLess (gt l ((i+j) / 2)).Name name=true
      · rw [if_pos hc] at hb
        obtain ⟨p,h4,h5⟩:=ih (j - ((i+j) / 2+1)) (by omega) ((i+j) / 2+1) j m rfl (by omega) h3
        exact ⟨p,(loopF_step hb).trans h4,by omega⟩
      · rw [if_neg hc] at hb
        obtain ⟨p,h4,h5⟩:=ih ((i+j) / 2 - i) (by omega) i ((i+j) / 2) m rfl (by omega) (by omega)
        exact ⟨p,(loopF_step hb).trans h4,h5⟩
    · refine ⟨(i:Int),loopF_done ?_,Int.le_refl _⟩
      unfold slices_BinarySearchFunc_f116_M1_b2
      rw [decide_eq_false (by omega),cond_false]
theorem index_any (n:Nat) (hn:N0≤n) (v:TVtoc) (name:List UInt8) (hl:v.Sets.length≤1000):∃ r,vtoc_Vtoc__index n v name=some r:=by
  have hn0:4194304≤n:=hn
  obtain ⟨p,h1,h2⟩:=bs_any n v.Sets name hl v.Sets.length 0 v.Sets.length n (by omega) (by omega) (Nat.le_refl _)
  have key:loopF (fun (x:Int×Int)=>slices_BinarySearchFunc_f116_M1_b2 n v.Sets name (v.Sets.length:Int) x.1 x.2) n (0,(v.Sets.length:Int))=some p:=h1
  have h2':0≤p:=h2
  refine Option.isSome_iff_exists.1 ?_
  · simp only [vtoc_Vtoc__index,slices_BinarySearchFunc_f116_M1,key,Option.bind_some,slices_BinarySearchFunc_f116_M1_k1,vtoc_Vtoc__index_1,strings_Compare,Option.isSome_some,Option.getD_some,implies_true,and_true]
    rw [gd_pos _ (fun h=>by have:=of_decide_eq_true h;omega),Option.bind_some]
    rfl
theorem Find_eq (n:Nat) (hn:N0≤n) (v:TVtoc) (hv:light v) (name:List UInt8):∃ r,vtoc_Find n v name=some r∧ref21_Find n v name=some r∧r.1.Extents.length≤20:=by
  obtain ⟨l1,l2,l3⟩:=hv
  obtain ⟨r1,hr1⟩:=index_any n hn v name (by omega)
  have hC:=Check_all n hn v ⟨l1,l2,l3⟩
  have hV:=Valid_all n hn v ⟨l1,l2,l3⟩
  rw [pV_rV] at hC
  cases hb:rV v with
  | false =>
    rw [hb] at hC hV
    refine ⟨((⟨[],(⟨0,0,false,false,0,0,0,0⟩:TDcb),[],0⟩:TDscb),false),?_,?_,Nat.zero_le _⟩
    · simp only [vtoc_Find,hr1,hC,Option.bind_some,Bool.false_eq_true,if_false]
      rfl
    · simp only [ref21_Find,hV,Option.bind_some,Bool.not_false,Bool.not_true,Bool.false_eq_true,false_implies,if_true,cond_true]
      rw [gd_pos _ trivial]
  | true =>
    rw [hb] at hC hV
    obtain ⟨q1,q2,q3,q4,q5⟩:=rV_iff.1 hb
    have hs:v.Sets.Pairwise wlt:=ord_iff.1 fun k hk=>(q4 k hk).2
    have hP:=place_eq n hn v name hs (by omega)
    have hI:=index_eq n hn v name hs (by omega)
    have hcp:=copied_eq n hn v ⟨l1,l2,l3⟩
    cases hh:hasN v.Sets name with
    | false =>
      rw [hh] at hP hI
      refine ⟨((⟨[],(⟨0,0,false,false,0,0,0,0⟩:TDcb),[],0⟩:TDscb),false),?_,?_,Nat.zero_le _⟩
      · simp only [vtoc_Find,hI,hC,Option.bind_some,if_true]
        rfl
      · simp only [ref21_Find,hV,hP,Option.bind_some,Option.isSome_some,implies_true,Option.getD_some,Bool.false_eq_true,if_false]
        rw [gd_pos _ trivial]
        rfl
    | true =>
      rw [hh] at hP hI
      obtain ⟨h1,h2⟩:=(hasN_low hs).1 hh
      refine ⟨(gt v.Sets (lowN v.Sets name),true),?_,?_,?_⟩
      · simp only [vtoc_Find,hI,hC,hcp,Option.bind_some,if_true,bne_self_eq_false,Bool.false_eq_true,if_false,Bool.not_true,cond_false,Int.toNat_natCast]
        rw [gd_pos _ ⟨⟨by omega,by omega⟩,h1⟩]
      · have hz:decide (((lowN v.Sets name:Nat):Int) < 0)=false:=decide_eq_false (by omega)
        simp only [ref21_Find,hV,hP,Option.bind_some,Option.isSome_some,implies_true,Option.getD_some,if_true,Bool.not_true,Bool.false_eq_true,if_false,hz,cond_false,Int.toNat_natCast]
        rw [gd_pos _ trivial,gd_pos _ ⟨by omega,by omega⟩]
      · have:=(l3 _ (by rw [gt_lt h1];exact List.getElem_mem h1:gt v.Sets (lowN v.Sets name)∈v.Sets)).2
        exact this
theorem scan2 {Y:Type} {b1 b2:Int→Option (Int ⊕ Y)} (L:Nat) (h:∀ k:Nat,k < L→∃ z,b1 (k:Int)=some z∧b2 (k:Int)=some z∧∀ x,z = .inl x→x=((k+1:Nat):Int))
    (he:∃ y,b1 (L:Int)=some (.inr y)∧b2 (L:Int)=some (.inr y)):∀ j k n,k+j=L→j < n→∃ y,loopF b1 n (k:Int)=some y∧loopF b2 n (k:Int)=some y:=by
  intro j
  induction j with
  | zero =>
    intro k n hj hn
    obtain ⟨n,rfl⟩:∃ q,n=q+1:=⟨n - 1,by omega⟩
    obtain ⟨y,h1,h2⟩:=he
    have:k=L:=by omega
    subst this
    exact ⟨y,loopF_done h1,loopF_done h2⟩
  | succ j ih =>
    intro k n hj hn
    obtain ⟨n,rfl⟩:∃ q,n=q+1:=⟨n - 1,by omega⟩
    obtain ⟨z,h1,h2,h3⟩:=h k (by omega)
    cases z with
    | inl x =>
      rw [h3 x rfl] at h1 h2
      obtain ⟨y,g1,g2⟩:=ih (k+1) n (by omega) (by omega)
      exact ⟨y,(loopF_step h1).trans g1,(loopF_step h2).trans g2⟩
    | inr y=>exact ⟨y,loopF_done h1,loopF_done h2⟩
theorem Owner_eq (n:Nat) (hn:N0≤n) (v:TVtoc) (hv:light v) (track:Int):∃ r,vtoc_Owner n v track=some r∧ref21_Owner n v track=some r:=by
  have hn0:4194304≤n:=hn
  obtain ⟨l1,l2,l3⟩:=hv
  have hC:=Check_all n hn v ⟨l1,l2,l3⟩
  have hV:=Valid_all n hn v ⟨l1,l2,l3⟩
  rw [pV_rV] at hC
  cases hb:rV v with
  | false =>
    rw [hb] at hC hV
    refine ⟨([],0,false),?_,?_⟩
    · simp only [vtoc_Owner,hC,Option.bind_some,Bool.false_eq_true,if_false]
      rfl
    · obtain ⟨m,rfl⟩:∃ q,n=q+1:=⟨n - 1,by omega⟩
      have hbd:ref21_Owner_b2 (m+1) track v 0=some (.inr (.inr ())):=by
        unfold ref21_Owner_b2
        simp only [hV,Option.isSome_some,implies_true,Option.getD_some,ite_ff,Bool.and_false,cond_false]
        rw [gd_pos _ trivial]
      simp only [ref21_Owner,loopF_done hbd,Option.bind_some,ref21_Owner_k1]
  | true =>
    rw [hb] at hC hV
    obtain ⟨y,y1,y2⟩:=scan2 (b1:=fun x=>vtoc_Owner_b2 n track v (v.Sets.length:Int) x) (b2:=fun x=>ref21_Owner_b2 n track v x) v.Sets.length (fun k hk=>by
        have hlt:((k:Nat):Int) < (v.Sets.length:Int):=by omega
        have hx:=(l3 _ (by rw [gt_lt hk];exact List.getElem_mem hk:gt v.Sets k∈v.Sets)).2
        have hI:=Index_eq n hn (gt v.Sets k).Extents track (by omega)
        have hR:=RIndex_eq n hn (gt v.Sets k).Extents track (by omega)
        rw [hI] at hR
        generalize (if (trkF [] (gt v.Sets k).Extents).isSome=true then firstT track (upT (exF (gt v.Sets k).Extents) (gt v.Sets k).Extents.length) else (0,false))=i at hI hR
        refine ⟨if i.2=true then .inr (.inl ((gt v.Sets k).Name,i.1,true)) else .inl ((k+1:Nat):Int),?_,?_,?_⟩
        · unfold vtoc_Owner_b2
          simp only [decide_eq_true hlt,cond_true,Int.toNat_natCast,hI,Option.bind_some]
          rw [gd_pos _ ⟨by omega,hlt⟩,wid (n:=(k:Int)+1) (by omega)]
          cases i.2 <;> rfl
        · unfold ref21_Owner_b2
          simp only [decide_eq_true hlt,hV,Option.isSome_some,implies_true,Option.getD_some,if_true,cond_true,Int.toNat_natCast,hR,Option.bind_some]
          rw [gd_pos _ trivial,gd_pos _ ⟨by omega,hlt⟩,gd_pos _ ⟨by omega,hlt⟩,wid (n:=(k:Int)+1) (by omega)]
          cases i.2 <;> rfl
        · intro x hx
          split at hx
          · cases hx
          · cases hx;rfl)
      ⟨.inr (),by
        unfold vtoc_Owner_b2
        simp only [Int.lt_irrefl,decide_false,cond_false],by
        unfold ref21_Owner_b2
        simp only [Int.lt_irrefl,decide_false,Bool.false_eq_true,false_implies,if_false,cond_false]
        rw [gd_pos _ trivial]⟩ v.Sets.length 0 n (by omega) (by omega)
    have y1':loopF (fun (x:Int)=>vtoc_Owner_b2 n track v (v.Sets.length:Int) x) n 0=some y:=y1
    have y2':loopF (fun (x:Int)=>ref21_Owner_b2 n track v x) n 0=some y:=y2
    cases y with
    | inl vv =>
      refine ⟨(vv.1,vv.2.1,vv.2.2),?_,?_⟩
      · simp only [vtoc_Owner,hC,Option.bind_some,if_true,bne_self_eq_false,cond_false,y1']
      · simp only [ref21_Owner,y2',Option.bind_some]
    | inr vv =>
      refine ⟨([],0,false),?_,?_⟩
      · simp only [vtoc_Owner,hC,Option.bind_some,if_true,bne_self_eq_false,cond_false,y1',vtoc_Owner_k1]
      · simp only [ref21_Owner,y2',Option.bind_some,ref21_Owner_k1]
theorem p_law21_VtocFinds (x0:TVtoc) (x1:List UInt8) (x2:Int)
    (hb:cbss [[.str x0.Serial,.int x0.Cyls,.int x0.Heads,.int x0.Size,.slice (List.map e_TDscb x0.Sets)],[.str x1],[.int x2]]≤2097152):law21_VtocFinds N0 x0 x1 x2=some true:=by
  have hn:=Nat.le_refl N0
  have hl:=len_of_cbss hb (xs:=[.str x0.Serial,.int x0.Cyls,.int x0.Heads,.int x0.Size,.slice (List.map e_TDscb x0.Sets)]) (l:=x0.Sets) (f:=e_TDscb) (by simp) (by simp)
  simp only [law21_VtocFinds,works_N0,Option.bind_some,Bool.not_true,cond_false]
  rcases light_eq N0 x0 hl hn with e | ⟨e,hv⟩
  · rw [e,Option.bind_some]
    rfl
  rw [e,Option.bind_some]
  simp only [Bool.not_true,Bool.false_eq_true,if_false]
  cases hq:decide ((x1.length:Int) > 100) with
  | true=>rfl
  | false =>
    obtain ⟨r,a1,a2,a3⟩:=Find_eq N0 hn x0 hv x1
    obtain ⟨s,b1,b2⟩:=Owner_eq N0 hn x0 hv x2
    have hS:=sameSet_eq N0 hn r.1 (Nat.le_trans a3 (by decide))
    have hz:law21_spoil_R N0 (⟨[],0,0,0,[r.1]⟩:TVtoc)=some ():=spoil_eq N0 hn ⟨[],0,0,0,[r.1]⟩ (by simp) (fun d hd=>by
      have hd':d∈[r.1]:=hd
      rw [List.mem_singleton] at hd';subst hd'
      exact Nat.le_trans a3 (by decide))
    simp only [cond_false,ref_eq N0 hn x0 hv,a1,a2,b1,b2,hS,Option.bind_some,bne_self_eq_false,Bool.not_false,Bool.not_true,Option.isSome_some,implies_true,Option.getD_some,Bool.false_eq_true,if_false,hz,same_eq N0 hn x0 hv]
    rw [gd_pos _ trivial]
end Go.Proofs.YtijnkhcfondehaaGreatDoor
