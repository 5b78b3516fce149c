/- Text. -/
import Derived.Test.YtijnkhcfondehaaGreatDoorE
set_option maxHeartbeats 8000000
set_option linter.unusedVariables false
set_option linter.unusedSimpArgs false
set_option maxRecDepth 100000
open _root_.Bool renaming false_eq_true→jn,true_and→JL,and_eq_true→je,not_true→jT,not_false→Jh,not_eq_true'→j5
open _root_.Int renaming toNat_natCast→jy
open Go.IntKind renaming wrap→jc,bits→JG
open _root_.List renaming all_eq_true→jx,cons_append→Jj,length_cons→jv,mem_cons→jO,getElem_mem→jw,getD_eq_getElem?_getD→ja,length_append→ji,take_length→JF,length_take→jl,append_assoc→jM,mem_flatMap→j9,getElem_of_mem→jU,mem_cons_self→j4,pairwise_cons→JU,mem_cons_of_mem→Jb,pairwise_iff_getElem→j7,getElem?_eq_getElem→JK,length_set→jV
open _root_.Nat renaming le_refl→js,le_trans→Jk,lt_or_ge→jq
open Go.Op renaming bytesLess→jG
open _root_.Option renaming bind_some→jf,isSome_some→JN,getD_some→Jd
namespace Go.Proofs.YtijnkhcfondehaaGreatDoor
open Go.AE Go.Sort
theorem dropWhile_nil {p:UInt8→Bool}:∀ {l:List UInt8},l.dropWhile p=[]↔∀ x∈l,p x=true
  | []=>by simp
  | x :: l=>by
    rw [List.dropWhile_cons]
    cases h:p x with
    | true=>simp [dropWhile_nil (l:=l),h]
    | false=>simp [h]
theorem dropWhile_head {p:UInt8→Bool}:∀ {l:List UInt8} {x:UInt8} {t:List UInt8},l.dropWhile p=x :: t→p x=false
  | [],x,t,h=>by simp at h
  | y :: l,x,t,h=>by
    rw [List.dropWhile_cons] at h
    cases hy:p y with
    | true=>rw [hy] at h;exact dropWhile_head (by simpa using h)
    | false =>
      rw [hy] at h
      simp only [jn,if_false,List.cons.injEq] at h
      rw [← h.1];exact hy
theorem trimS_nil (l cs:List UInt8):Go.Lib.trimS l cs=[]↔l.all (cs.contains ·)=true:=by
  have hr:Go.Lib.trimRightS l cs=[]↔l.all (cs.contains ·)=true:=by
    unfold Go.Lib.trimRightS
    rw [List.reverse_eq_nil_iff,dropWhile_nil,jx]
    simp
  rw [← hr]
  unfold Go.Lib.trimS Go.Lib.trimLeftS
  rw [dropWhile_nil]
  constructor
  · intro h
    unfold Go.Lib.trimRightS at h ⊢
    rw [List.reverse_eq_nil_iff]
    cases hd:List.dropWhile (fun x=>cs.contains x) l.reverse with
    | nil=>rfl
    | cons x t =>
      exfalso
      have h1:=h x (by rw [hd];simp)
      have h2:=dropWhile_head hd
      rw [h1] at h2;cases h2
  · intro h x hx
    rw [h] at hx;cases hx
theorem trim_ne (l cs:List UInt8):(Go.Lib.trimS l cs != []) = !l.all (cs.contains ·):=by
  have h1:=trimS_nil l cs
  cases h3:l.all (cs.contains ·) with
  | true=>simpa using h1.2 h3
  | false =>
    have:¬ Go.Lib.trimS l cs=[]:=fun e=>by rw [h1.1 e] at h3;cases h3
    simpa using this
def letB (b:UInt8):Bool:=if (decide (((b.toNat:Nat):Int) ≥ 65))=true then (decide (((b.toNat:Nat):Int)≤90)) else false
def digB (b:UInt8):Bool:=if (decide (((b.toNat:Nat):Int) ≥ 48))=true then (decide (((b.toNat:Nat):Int)≤57)) else false
def othB (b:UInt8):Bool:=if (if (((b.toNat:Nat):Int) == 64)=true then true else (((b.toNat:Nat):Int) == 35))=true then true else (((b.toNat:Nat):Int) == 36)
def chB (b:UInt8):Bool:=letB b || digB b || othB b
def cut39:List UInt8:=[65,66,67,68,69,70,71,72,73,74,75,76,77,78,79,80,81,82,83,84,85,86,87,88,89,90,48,49,50,51,52,53,54,55,56,57,64,35,36]
def cut36:List UInt8:=[65,66,67,68,69,70,71,72,73,74,75,76,77,78,79,80,81,82,83,84,85,86,87,88,89,90,48,49,50,51,52,53,54,55,56,57]
theorem cut39_contains (b:UInt8):cut39.contains b=chB b:=by
  have h:∀ k:Fin 256,cut39.contains (UInt8.ofNat k.val)=chB (UInt8.ofNat k.val):=by decide
  have:=h ⟨b.toNat,b.toNat_lt⟩
  simpa using this
theorem cut36_contains (b:UInt8):cut36.contains b=(letB b || digB b):=by
  have h:∀ k:Fin 256,cut36.contains (UInt8.ofNat k.val)=(letB (UInt8.ofNat k.val) || digB (UInt8.ofNat k.val)):=by decide
  have:=h ⟨b.toNat,b.toNat_lt⟩
  simpa using this
theorem trim39 (n:Nat) (l:List UInt8):∃ t,strings_Trim n l cut39=some t∧(t != []) = !l.all chB:=by
  refine ⟨Go.Lib.trimS l cut39,?_,?_⟩
  · rw [strings_Trim,gd_pos _ (by decide)]
  · rw [trim_ne];congr 2;funext b;exact cut39_contains b
theorem trim36 (n:Nat) (l:List UInt8):∃ t,strings_Trim n l cut36=some t∧(t != []) = !l.all (fun b=>letB b || digB b):=by
  refine ⟨Go.Lib.trimS l cut36,?_,?_⟩
  · rw [strings_Trim,gd_pos _ (by decide)]
  · rw [trim_ne];congr 2;funext b;exact cut36_contains b
def smp (p:List UInt8):Bool:=decide (1≤p.length) && decide (p.length≤8) && (p.all chB && !(match p with | []=>false | b :: _=>digB b))
def parts:List UInt8→List (List UInt8)
  | []=>[[]]
  | b :: l=>if b=46 then [] :: parts l else match parts l with
    | p :: ps=>(b :: p) :: ps
    | []=>[[b]]
theorem parts_none:∀ {s:List UInt8},46 ∉ s→parts s=[s]
  | [],_=>rfl
  | b :: l,h=>by
    have hb:b≠46:=fun e=>h (by simp [e])
    have hl:46 ∉ l:=fun e=>h (by simp [e])
    rw [parts,if_neg hb,parts_none hl]
theorem parts_app:∀ {a:List UInt8} (t:List UInt8),46 ∉ a→parts (a ++ 46 :: t)=a :: parts t
  | [],t,_=>by simp [parts]
  | b :: l,t,h=>by
    have hb:b≠46:=fun e=>h (by simp [e])
    have hl:46 ∉ l:=fun e=>h (by simp [e])
    rw [Jj,parts,if_neg hb,parts_app t hl]
theorem ibyte_none:∀ {s:List UInt8},46 ∉ s→Go.Lib.indexByte s 46 = -1
  | [],_=>rfl
  | b :: l,h=>by
    have hb:b≠46:=fun e=>h (by simp [e])
    have hl:46 ∉ l:=fun e=>h (by simp [e])
    rw [Go.Lib.indexByte,ibyte_none hl]
    simp [hb]
theorem ibyte_app:∀ {a:List UInt8} (t:List UInt8),46 ∉ a→Go.Lib.indexByte (a ++ 46 :: t) 46=(a.length:Int)
  | [],t,_=>by simp [Go.Lib.indexByte]
  | b :: l,t,h=>by
    have hb:b≠46:=fun e=>h (by simp [e])
    have hl:46 ∉ l:=fun e=>h (by simp [e])
    rw [Jj,Go.Lib.indexByte,ibyte_app t hl]
    have:¬ ((l.length:Int) = -1):=by omega
    simp [hb,this]
theorem at_dot:∀ s:List UInt8,46 ∉ s∨∃ a t,s=a ++ 46 :: t∧46 ∉ a
  | []=>.inl (by simp)
  | b :: l=>by
    by_cases hb:b=46
    · exact .inr ⟨[],l,by simp [hb],by simp⟩
    · rcases at_dot l with h | ⟨a,t,rfl,ha⟩
      · exact .inl (by simp [h,Ne.symm hb])
      · exact .inr ⟨b :: a,t,by simp,by simp [ha,Ne.symm hb]⟩
theorem splitK_parts:∀ (k:Nat) (s:List UInt8),s.count 46≤k→Go.Lib.splitK [46] 0 k s=parts s
  | 0,s,h=>by
    have:46 ∉ s:=fun hm=>by have:=List.count_pos_iff.2 hm;omega
    rw [parts_none this];rfl
  | k+1,s,h=>by
    rcases at_dot s with hn | ⟨a,t,rfl,ha⟩
    · rw [Go.Lib.splitK,Go.Lib.index_one,ibyte_none hn,parts_none hn];rfl
    · rw [Go.Lib.splitK,Go.Lib.index_one,ibyte_app t ha,parts_app t ha]
      have h1:¬ (((a.length:Nat):Int) = -1):=by omega
      have h2:t.count 46≤k:=by
        rw [List.count_append,List.count_cons_self] at h;omega
      simp only [beq_iff_eq,h1,if_false,jy,Nat.add_zero,List.take_left,List.length_singleton]
      have:(a ++ 46 :: t).drop (a.length+1)=t:=by
        rw [show a ++ 46 :: t=(a ++ [46]) ++ t by simp,show a.length+1=(a ++ [46]).length by simp,List.drop_left]
      rw [this,splitK_parts k t h2]
theorem split_parts (n:Nat) (s:List UInt8) (h:s.length < 4294967281):strings_Split n s [46]=some (parts s):=by
  rw [strings_Split,gd_pos _ ⟨h,rfl⟩]
  unfold Go.Lib.split
  rw [splitK_parts _ _ (by rw [Go.Lib.count_one];exact js _)]
theorem parts_len:∀ s:List UInt8,(parts s).length≤s.length+1
  | []=>by simp [parts]
  | b :: l=>by
    have:=parts_len l
    unfold parts
    split
    · simp only [jv];omega
    · split
      · rename_i p ps hp;rw [hp] at this;simp only [jv] at this ⊢;omega
      · simp
def nameB (s:List UInt8):Bool:=decide (s.length≤44) && (parts s).all smp
theorem part_len {s p:List UInt8} (h:p∈parts s):p.length≤s.length:=by
  induction s generalizing p with
  | nil=>simp [parts] at h;subst h;simp
  | cons b l ih =>
    unfold parts at h
    split at h
    · rcases jO.1 h with rfl | h
      · simp
      · have:=ih h;simp only [jv];omega
    · split at h
      · rename_i q ps hp
        rcases jO.1 h with rfl | h
        · have:=ih (p:=q) (by rw [hp];simp);simp only [jv];omega
        · have:=ih (p:=p) (by rw [hp];simp [h]);simp only [jv];omega
      · simp at h;subst h;simp
theorem Name_eq (n:Nat) (s:List UInt8) (hn:N0≤n):vtoc_Name n s=some (nameB s):=by
  have hn0:4194304≤n:=hn
  unfold vtoc_Name nameB
  by_cases h44:s.length≤44
  · have h1:decide ((s.length:Int) > 44)=false:=decide_eq_false (by omega)
    have h2:decide (s.length≤44)=true:=decide_eq_true h44
    rw [h1,cond_false,split_parts n s (by omega),h2,JL,jf]
    have hpl:=parts_len s
    have key:loopF (fun (x:Int)=>vtoc_Name_b2 n (parts s) (((parts s).length:Nat):Int) x) n 0=some (if (parts s).any (fun p=>!smp p)=true then .inl false else .inr ()):=by
      refine loop_any (parts s) (fun p=>!smp p) _ _ (fun k hk=>?_) ?_ (by omega)
      · have hlt:((k:Nat):Int) < (((parts s).length:Nat):Int):=by omega
        have h0:(0:Int)≤(k:Int):=by omega
        unfold vtoc_Name_b2
        have hpk:=part_len (jw hk)
        simp only [decide_eq_true hlt,cond_true,jy,gt_lt hk]
        rw [gd_pos _ ⟨⟨h0,hlt⟩,hk⟩]
        generalize (parts s)[k]=p at hpk ⊢
        rw [wid (n:=(k:Int)+1) (by omega)]
        obtain ⟨t,ht1,ht2⟩:=trim39 n p
        have ht1':strings_Trim n p [65,66,67,68,69,70,71,72,73,74,75,76,77,78,79,80,81,82,83,84,85,86,87,88,89,90,48,49,50,51,52,53,54,55,56,57,64,35,36]=some t:=ht1
        rw [ht1']
        cases p with
        | nil=>simp [smp,gd]
        | cons b q =>
          have e1:decide (((b :: q).length:Int) < 1)=false:=decide_eq_false (by simp only [jv];omega)
          have e0:(0:Int) < ((b :: q).length:Int):=by simp only [jv];omega
          simp only [e1,e0,implies_true,and_self,jn,if_false,List.getD_cons_zero,jf,ht2]
          rw [gd_pos _ trivial]
          have e5:decide (1≤(b :: q).length)=true:=decide_eq_true (by simp only [jv];omega)
          have e6:decide (((b :: q).length:Int) > 8) = !decide ((b :: q).length≤8):=by
            by_cases h:(b :: q).length≤8
            · rw [decide_eq_true h,decide_eq_false (by omega)];rfl
            · rw [decide_eq_false h,decide_eq_true (by omega)];rfl
          have e7:(if (decide (((b.toNat:Nat):Int) ≥ 48))=true then (decide (((b.toNat:Nat):Int)≤57)) else false)=digB b:=rfl
          simp only [e6,e7,smp,e5,JL]
          cases decide ((b :: q).length≤8) <;> cases digB b <;> cases (b :: q).all chB <;> rfl
      · unfold vtoc_Name_b2
        simp only [Int.lt_irrefl,decide_false,cond_false]
    rw [key,jf]
    have ha:(parts s).any (fun p=>!smp p) = !(parts s).all smp:=by
      rw [List.all_eq_not_any_not];simp
    rw [ha]
    cases (parts s).all smp <;> rfl
  · have h1:decide ((s.length:Int) > 44)=true:=decide_eq_true (by omega)
    have h2:decide (s.length≤44)=false:=decide_eq_false h44
    rw [h1,h2];rfl
def serB (s:List UInt8):Bool:=decide (1≤s.length) && decide (s.length≤6) && s.all (fun b=>letB b || digB b)
def inB (x lo hi:Int):Bool:=decide (lo≤x) && decide (x≤hi)
theorem in_eq (n:Nat) (x lo hi:Int):vtoc_in n x lo hi=some (inB x lo hi):=by
  unfold vtoc_in inB
  by_cases h:lo≤x
  · simp [h]
  · simp [h]
theorem inB_len (s:List UInt8):inB (s.length:Int) 1 6=(decide (1≤s.length) && decide (s.length≤6)):=by
  unfold inB
  congr 1 <;> (apply decide_eq_decide.2;omega)
def headB (s:List UInt8) (c h z:Int):Bool:=serB s && inB c 1 64 && inB h 1 8 && inB z 1 (jc .i64 (jc .i64 (c * h) - 1))
theorem head_z {s:List UInt8} {c h z:Int} (hh:headB s c h z=true):1≤z∧z≤511:=by
  simp only [headB,inB,je,decide_eq_true_eq] at hh
  obtain ⟨⟨⟨_,h1,h2⟩,h3,h4⟩,h5,h6⟩:=hh
  have e1:1≤c * h:=by
    have:0 < c * h:=Int.mul_pos (by omega) (by omega)
    omega
  have e2:c * h≤512:=by
    have a:c * h≤64 * h:=Int.mul_le_mul_of_nonneg_right h2 (by omega)
    omega
  rw [wid (n:=c * h) (by omega),wid (n:=c * h - 1) (by omega)] at h6
  omega
theorem Check0_eq (n:Nat) (hn:N0≤n) (s:List UInt8) (c h z:Int) (hs:s.length≤2097152):vtoc_Check n ⟨s,c,h,z,[]⟩=some (if headB s c h z=true then 0 else 5):=by
  have hn0:4194304≤n:=hn
  unfold vtoc_Check
  obtain ⟨t,ht1,ht2⟩:=trim36 n s
  have ht1':strings_Trim n s [65,66,67,68,69,70,71,72,73,74,75,76,77,78,79,80,81,82,83,84,85,86,87,88,89,90,48,49,50,51,52,53,54,55,56,57]=some t:=ht1
  simp only [in_eq,jf,ht1',JN,Jd,implies_true,and_self,ht2,inB_len]
  rw [gd_pos _ trivial]
  have e1:(if (!(decide (1≤s.length) && decide (s.length≤6)))=true then true else !s.all fun b=>letB b || digB b) = !serB s:=by
    unfold serB
    cases (decide (1≤s.length) && decide (s.length≤6)) <;> simp
  rw [e1]
  cases hser:serB s with
  | false=>simp [headB,hser]
  | true =>
    simp only [jT,cond_false]
    rw [gd_pos _ trivial]
    have e2:(if (if (!inB c 1 64)=true then true else !inB h 1 8)=true then true else !inB z 1 (jc .i64 (jc .i64 (c * h) - 1))) = !headB s c h z:=by
      unfold headB;rw [hser]
      cases inB c 1 64 <;> cases inB h 1 8 <;> simp
    rw [e2]
    cases hh:headB s c h z with
    | false=>simp
    | true =>
      obtain ⟨z1,z2⟩:=head_z hh
      simp only [jT,cond_false,if_true]
      have w1:jc .i64 (14 * z)=14 * z:=wid (by omega)
      have w2:jc .i64 (z+1)=z+1:=wid (by omega)
      rw [w1,w2]
      have e3:decide ((([]:List TDscb).length:Int) > (if 14 * z < 64 then 14 * z else 64))=false:=by
        refine decide_eq_false ?_
        simp only [List.length_nil]
        split <;> omega
      rw [e3,cond_false]
      have hl:loopF (fun (x:(List TExtent)×Int)=>vtoc_Check_b2 n ⟨s,c,h,z,[]⟩ ((([]:List TDscb).length:Nat):Int) x.1 x.2) n ([(⟨0,z+1⟩:TExtent)],0)=some (.inr [(⟨0,z+1⟩:TExtent)]):=by
        obtain ⟨m,rfl⟩:∃ m,n=m+1:=⟨n - 1,by omega⟩
        refine loopF_done ?_
        simp [vtoc_Check_b2]
      have hv:(trkF [] [(⟨0,z+1⟩:TExtent)]).isSome=true:=by
        rw [trkF_isSome]
        refine ⟨?_,?_⟩
        · have:val ⟨0,z+1⟩=true:=(val_iff _).2 ⟨by simp,by simp only;omega,by simp,by simp only;omega⟩
          simp [this]
        · rw [trks_cons]
          simp only [trks,List.flatMap_nil,List.append_nil]
          exact trk_nodup _
      have hl':loopF (fun (x:(List TExtent)×Int)=>vtoc_Check_b2 n ⟨s,c,h,z,[]⟩ (([]:List TDscb).length:Int) x.1 x.2) n ([(⟨0,z+1⟩:TExtent)],0)=some (.inr [(⟨0,z+1⟩:TExtent)]):=hl
      rw [hl',jf]
      simp only [vtoc_Check_k1,Valid_eq n hn [(⟨0,z+1⟩:TExtent)] (by simp),hv,jf,jT,cond_false]
theorem works_N0:law21_works N0=some true:=by decide +kernel
def dscB (d:TDcb):Bool:=inB d.Org 1 3 && inB d.Format 1 3 && inB d.Lrecl 0 1024 && inB d.Blksize 0 1024 && inB d.KeyPos 0 1024 && inB d.KeyLen 0 64
theorem desc_eq (n:Nat) (d:TDcb):vtoc_described n d=some (dscB d):=by
  simp only [vtoc_described,in_eq,jf,JN,Jd,implies_true,and_self,ite_ff]
  rw [gd_pos _ trivial];rfl
def exts (l:List TDscb):List TExtent:=l.flatMap (·.Extents)
def capV (v:TVtoc):Int:=jc .i64 (v.Cyls * v.Heads)
def overB (v:TVtoc) (x:TExtent):Bool:=decide (jc .i64 (x.At+x.Len) > capV v)
def pLbl (v:TVtoc) (d:TDscb):Bool:=nameB d.Name && dscB d.Dcb && inB (d.Extents.length:Int) 1 8 && (trkF [] d.Extents).isSome && !d.Extents.any (overB v) && inB d.Used 0 (((trkO d.Extents).length:Nat):Int)
def rLbl (v:TVtoc) (d:TDscb):Bool:=!d.Extents.any (fun x=>decide (x.At≤v.Size) || overB v x) && (nameB d.Name && dscB d.Dcb && inB (d.Extents.length:Int) 1 8 && (trkF [] d.Extents).isSome && inB d.Used 0 (((trkO d.Extents).length:Nat):Int))
theorem gt_lt {α:Type} [Inhabited α] {l:List α} {k:Nat} (h:k < l.length):gt l k=l[k]:=by simp [gt,ja,h]
theorem fits_eq (n:Nat) (hn:N0≤n) (v:TVtoc) (d:TDscb) (hd:d.Extents.length≤1048576):vtoc_Vtoc__fits n v d=some (pLbl v d):=by
  have hn0:4194304≤n:=hn
  unfold vtoc_Vtoc__fits
  simp only [Name_eq n _ hn,desc_eq,in_eq,Valid_eq n hn d.Extents (by omega),jf,JN,Jd,implies_true,and_self]
  rw [gd_pos _ trivial]
  have e1:(if (if (if (!nameB d.Name)=true then true else !dscB d.Dcb)=true then true else !inB (d.Extents.length:Int) 1 8)=true then true else !(trkF [] d.Extents).isSome) = !(nameB d.Name && dscB d.Dcb && inB (d.Extents.length:Int) 1 8 && (trkF [] d.Extents).isSome):=by
    simp only [ite_tt,Bool.not_and]
  rw [e1]
  unfold pLbl
  cases (nameB d.Name && dscB d.Dcb && inB (d.Extents.length:Int) 1 8 && (trkF [] d.Extents).isSome) with
  | false=>simp
  | true =>
    simp only [jT,cond_false,JL]
    have key:loopF (fun (x:Int)=>vtoc_Vtoc__fits_b2 n v d (d.Extents.length:Int) x) n 0=some (if d.Extents.any (overB v)=true then .inl false else .inr ()):=by
      refine loop_any d.Extents (overB v) _ _ (fun k hk=>?_) ?_ (by omega)
      · have hlt:((k:Nat):Int) < (d.Extents.length:Int):=by omega
        unfold vtoc_Vtoc__fits_b2
        rw [decide_eq_true hlt,cond_true,gd_pos _ ⟨by omega,hlt⟩,jy,gt_lt hk,wid (n:=(k:Int)+1) (by omega)]
        show (bif overB v d.Extents[k] then _ else _)=_
        cases overB v d.Extents[k] <;> rfl
      · unfold vtoc_Vtoc__fits_b2
        simp only [Int.lt_irrefl,decide_false,cond_false]
    rw [key,jf]
    cases d.Extents.any (overB v) with
    | true=>simp
    | false=>simp only [jn,if_false,vtoc_Vtoc__fits_k1,Total_eq n hn d.Extents (by omega),in_eq,jf,Jh,JL]
def ordB (l:List TDscb) (k:Nat):Bool:=decide (0 < k) && !jG (gt l (k - 1)).Name (gt l k).Name
def pBad (v:TVtoc) (k:Nat):Bool:=!pLbl v (gt v.Sets k) || ordB v.Sets k
def rBad (v:TVtoc) (k:Nat):Bool:=!rLbl v (gt v.Sets k) || ordB v.Sets k
def light (v:TVtoc):Prop:=v.Sets.length≤70∧v.Serial.length≤100∧∀ d∈v.Sets,d.Name.length≤100∧d.Extents.length≤20
theorem exts_cons (d:TDscb) (l:List TDscb):exts (d :: l)=d.Extents ++ exts l:=rfl
theorem exts_app (a b:List TDscb):exts (a ++ b)=exts a ++ exts b:=by simp [exts]
theorem exts_len:∀ {l:List TDscb},(∀ d∈l,d.Name.length≤100∧d.Extents.length≤20)→(exts l).length≤20 * l.length
  | [],_=>by simp [exts]
  | d :: l,h=>by
    have h1:=(h d (by simp)).2
    have h2:=exts_len (l:=l) fun x hx=>h x (by simp [hx])
    rw [exts_cons,ji,jv];omega
theorem exts_take {l:List TDscb} {k:Nat} (h:k < l.length):exts (l.take (k+1))=exts (l.take k) ++ (gt l k).Extents:=by
  rw [List.take_add_one,exts_app,gt_lt h]
  simp [h,exts]
theorem Check_loop (n:Nat) (hn:N0≤n) (v:TVtoc) (hv:light v) (u0:List TExtent) (hu:u0.length≤1):∀ j k m,k+j=v.Sets.length→j < m →
    loopF (fun (x:(List TExtent)×Int)=>vtoc_Check_b2 n v (v.Sets.length:Int) x.1 x.2) m (u0 ++ exts (v.Sets.take k),(k:Int))=some (if (List.range' k j).any (pBad v)=true then .inl 5 else .inr (u0 ++ exts v.Sets))
  | 0,k,m,hj,hm=>by
    obtain ⟨m,rfl⟩:∃ q,m=q+1:=⟨m - 1,by omega⟩
    have hk:k=v.Sets.length:=by omega
    subst hk
    refine (loopF_done (y:=.inr (u0 ++ exts v.Sets)) ?_).trans (by simp)
    unfold vtoc_Check_b2
    simp only [Int.lt_irrefl,decide_false,cond_false,JF]
  | j+1,k,m,hj,hm=>by
    obtain ⟨h1,h2,h3⟩:=hv
    obtain ⟨m,rfl⟩:∃ q,m=q+1:=⟨m - 1,by omega⟩
    have hk:k < v.Sets.length:=by omega
    have hlt:((k:Nat):Int) < (v.Sets.length:Int):=by omega
    have hmem:gt v.Sets k∈v.Sets:=by rw [gt_lt hk];exact jw hk
    have hx:=(h3 _ hmem).2
    have hb:vtoc_Check_b2 n v (v.Sets.length:Int) (u0 ++ exts (v.Sets.take k)) (k:Int)=some (if pBad v k=true then .inr (.inl 5) else .inl (u0 ++ exts (v.Sets.take (k+1)),((k+1:Nat):Int))):=by
      unfold vtoc_Check_b2
      have hel:=exts_len (l:=v.Sets.take k) fun d hd=>h3 d (List.mem_of_mem_take hd)
      rw [jl] at hel
      have hap:(u0 ++ exts (v.Sets.take k)).length+(gt v.Sets k).Extents.length≤2147483648:=by rw [ji];omega
      simp only [decide_eq_true hlt,cond_true,jy,fits_eq n hn v _ (Jk hx (by decide)),jf]
      rw [gd_pos _ ⟨by omega,hlt⟩,gd_pos _ (by
        intro hc
        simp only [je,decide_eq_true_eq] at hc
        rw [wid (n:=(k:Int) - 1) (by omega)];omega)]
      have eo:(if decide ((k:Int) > 0)=true then !jG (gt v.Sets (jc .i64 ((k:Int) - 1)).toNat).Name (gt v.Sets k).Name else false)=ordB v.Sets k:=by
        unfold ordB
        rw [ite_ff]
        by_cases h0:0 < k
        · have:(k:Int) > 0:=by omega
          have e:(jc .i64 ((k:Int) - 1)).toNat=k - 1:=by rw [wid (by omega)];omega
          rw [e,decide_eq_true this,decide_eq_true h0]
        · have:¬ ((k:Int) > 0):=by omega
          rw [decide_eq_false this,decide_eq_false h0];rfl
      rw [eo,ite_tt,gd_pos _ hap,wid (n:=(k:Int)+1) (by omega),exts_take hk]
      show (bif pBad v k then _ else _)=_
      rw [← jM]
      cases pBad v k <;> rfl
    rw [List.range'_succ,List.any_cons]
    cases hp:pBad v k with
    | true =>
      rw [hp] at hb
      rw [loopF_done (y:=.inl 5) (by simpa using hb)];simp
    | false =>
      rw [hp] at hb
      rw [loopF_step (x':=(u0 ++ exts (v.Sets.take (k+1)),((k+1:Nat):Int))) (by simpa using hb),Check_loop n hn v ⟨h1,h2,h3⟩ u0 hu j (k+1) m (by omega) (by omega),Bool.false_or]
def head (v:TVtoc):Bool:=headB v.Serial v.Cyls v.Heads v.Size
def pV (v:TVtoc):Bool:=head v && !decide ((v.Sets.length:Int) > (if jc .i64 (14 * v.Size) < 64 then jc .i64 (14 * v.Size) else 64)) && !(List.range' 0 v.Sets.length).any (pBad v) && (trkF [] (⟨0,jc .i64 (v.Size+1)⟩ :: exts v.Sets)).isSome
def rV (v:TVtoc):Bool:=head v && !decide ((v.Sets.length:Int) > 64) && !decide ((v.Sets.length:Int) > jc .i64 (14 * v.Size)) && !(List.range' 0 v.Sets.length).any (rBad v) && (trkF [] (exts v.Sets)).isSome
theorem Check_all (n:Nat) (hn:N0≤n) (v:TVtoc) (hv:light v):vtoc_Check n v=some (if pV v=true then 0 else 5):=by
  have hn0:4194304≤n:=hn
  obtain ⟨h1,h2,h3⟩:=hv
  unfold vtoc_Check
  obtain ⟨t,ht1,ht2⟩:=trim36 n v.Serial
  have ht1':strings_Trim n v.Serial [65,66,67,68,69,70,71,72,73,74,75,76,77,78,79,80,81,82,83,84,85,86,87,88,89,90,48,49,50,51,52,53,54,55,56,57]=some t:=ht1
  simp only [in_eq,jf,ht1',JN,Jd,implies_true,and_self,ht2,inB_len]
  rw [gd_pos _ trivial]
  have e1:(if (!(decide (1≤v.Serial.length) && decide (v.Serial.length≤6)))=true then true else !v.Serial.all fun b=>letB b || digB b) = !serB v.Serial:=by
    unfold serB
    cases (decide (1≤v.Serial.length) && decide (v.Serial.length≤6)) <;> simp
  rw [e1]
  unfold pV head
  cases hser:serB v.Serial with
  | false=>simp [headB,hser]
  | true =>
    simp only [jT,cond_false]
    rw [gd_pos _ trivial]
    have e2:(if (if (!inB v.Cyls 1 64)=true then true else !inB v.Heads 1 8)=true then true else !inB v.Size 1 (jc .i64 (jc .i64 (v.Cyls * v.Heads) - 1))) = !headB v.Serial v.Cyls v.Heads v.Size:=by
      unfold headB;rw [hser]
      cases inB v.Cyls 1 64 <;> cases inB v.Heads 1 8 <;> simp
    rw [e2]
    cases hh:headB v.Serial v.Cyls v.Heads v.Size with
    | false=>simp
    | true =>
      simp only [jT,cond_false,JL]
      cases hl:decide ((v.Sets.length:Int) > (if jc .i64 (14 * v.Size) < 64 then jc .i64 (14 * v.Size) else 64)) with
      | true=>simp
      | false =>
        simp only [cond_false,Jh,JL]
        have key:=Check_loop n hn v ⟨h1,h2,h3⟩ [⟨0,jc .i64 (v.Size+1)⟩] (by simp) v.Sets.length 0 n (by omega) (by omega)
        simp only [List.take_zero] at key
        have key':loopF (fun (x:(List TExtent)×Int)=>vtoc_Check_b2 n v (v.Sets.length:Int) x.1 x.2) n ([(⟨0,jc .i64 (v.Size+1)⟩:TExtent)],0)=some (if (List.range' 0 v.Sets.length).any (pBad v)=true then .inl 5 else .inr ([(⟨0,jc .i64 (v.Size+1)⟩:TExtent)] ++ exts v.Sets)):=key
        rw [key',jf]
        cases (List.range' 0 v.Sets.length).any (pBad v) with
        | true=>simp
        | false =>
          have hel:=exts_len h3
          have hle:((⟨0,jc .i64 (v.Size+1)⟩:TExtent) :: exts v.Sets).length≤1073741824:=by rw [jv];omega
          simp only [jn,if_false,List.singleton_append,vtoc_Check_k1,Valid_eq n hn _ hle,jf,Jh,JL]
          cases (trkF [] ((⟨0,jc .i64 (v.Size+1)⟩:TExtent) :: exts v.Sets)).isSome <;> rfl
theorem behind_iff {S:Int} (hS:0≤S∧S≤511) (A:List TExtent):(trkF [] (⟨0,S+1⟩ :: A)).isSome=true↔(trkF [] A).isSome=true∧∀ x∈A,S < x.At:=by
  rw [trkF_isSome,trkF_isSome,trks_cons,List.all_cons,je,List.nodup_append]
  have hv0:val ⟨0,S+1⟩=true:=(val_iff _).2 ⟨by simp,by simp only;omega,by simp,by simp only;omega⟩
  constructor
  · rintro ⟨⟨_,h1⟩,_,h2,h3⟩
    refine ⟨⟨h1,h2⟩,fun x hx=>?_⟩
    have hvx:=(val_iff x).1 (jx.1 h1 x hx)
    have hm:x.At∈trks A:=j9.2 ⟨x,hx,trk_mem.2 ⟨by omega,by omega⟩⟩
    by_cases hc:S < x.At
    · exact hc
    · exact absurd rfl (h3 x.At (trk_mem.2 ⟨by simp only;omega,by simp only;omega⟩) x.At hm)
  · rintro ⟨⟨h1,h2⟩,h3⟩
    refine ⟨⟨hv0,h1⟩,trk_nodup _,h2,fun a ha b hb e=>?_⟩
    subst e
    obtain ⟨x,hx,hb⟩:=j9.1 hb
    have:=h3 x hx
    have h4:=trk_mem.1 ha
    have h5:=trk_mem.1 hb
    simp only at h4
    omega
theorem any_range {p:Nat→Bool} {m:Nat}:(List.range' 0 m).any p=false↔∀ k,k < m→p k=false:=by
  rw [List.any_eq_false]
  constructor
  · intro h k hk
    have:=h k (by simp [List.mem_range',hk])
    simpa using this
  · intro h k hk
    have:k < m:=by simpa [List.mem_range'] using hk
    simp [h k this]
theorem pBad_iff {v:TVtoc} {k:Nat}:pBad v k=false↔pLbl v (gt v.Sets k)=true∧ordB v.Sets k=false:=by
  unfold pBad;cases pLbl v (gt v.Sets k) <;> cases ordB v.Sets k <;> simp
theorem rLbl_iff {v:TVtoc} {d:TDscb}:rLbl v d=true↔pLbl v d=true∧∀ x∈d.Extents,v.Size < x.At:=by
  have e:d.Extents.any (fun x=>decide (x.At≤v.Size) || overB v x)=false↔d.Extents.any (overB v)=false∧∀ x∈d.Extents,v.Size < x.At:=by
    simp only [List.any_eq_false,Bool.or_eq_true,decide_eq_true_eq,not_or]
    constructor
    · intro h;exact ⟨fun x hx=>(h x hx).2,fun x hx=>by have:=(h x hx).1;omega⟩
    · rintro ⟨h1,h2⟩ x hx;exact ⟨by have:=h2 x hx;omega,h1 x hx⟩
  unfold rLbl pLbl
  simp only [je,j5,e]
  constructor
  · rintro ⟨⟨h1,h2⟩,⟨⟨⟨h3,h4⟩,h5⟩,h6⟩,h7⟩;exact ⟨⟨⟨⟨⟨⟨h3,h4⟩,h5⟩,h6⟩,h1⟩,h7⟩,h2⟩
  · rintro ⟨⟨⟨⟨⟨⟨h3,h4⟩,h5⟩,h6⟩,h1⟩,h7⟩,h2⟩;exact ⟨⟨h1,h2⟩,⟨⟨⟨h3,h4⟩,h5⟩,h6⟩,h7⟩
theorem rBad_iff {v:TVtoc} {k:Nat}:rBad v k=false↔(pLbl v (gt v.Sets k)=true∧∀ x∈(gt v.Sets k).Extents,v.Size < x.At)∧ordB v.Sets k=false:=by
  rw [← rLbl_iff]
  unfold rBad;cases rLbl v (gt v.Sets k) <;> cases ordB v.Sets k <;> simp
theorem mem_exts {l:List TDscb} {x:TExtent}:x∈exts l↔∃ k,k < l.length∧x∈(gt l k).Extents:=by
  unfold exts
  rw [j9]
  constructor
  · rintro ⟨d,hd,hx⟩
    obtain ⟨k,hk,rfl⟩:=jU hd
    exact ⟨k,hk,by rw [gt_lt hk];exact hx⟩
  · rintro ⟨k,hk,hx⟩
    exact ⟨_,jw hk,by rw [← gt_lt hk];exact hx⟩
theorem pV_rV (v:TVtoc):pV v=rV v:=by
  unfold pV rV
  cases hh:head v with
  | false=>simp
  | true =>
    obtain ⟨z1,z2⟩:=head_z hh
    have w1:jc .i64 (14 * v.Size)=14 * v.Size:=wid (by omega)
    have w2:jc .i64 (v.Size+1)=v.Size+1:=wid (by omega)
    rw [Bool.eq_iff_iff,w1,w2]
    simp only [JL,je,j5,decide_eq_false_iff_not,any_range,pBad_iff,rBad_iff,behind_iff (S:=v.Size) ⟨by omega,by omega⟩]
    have em:¬ ((v.Sets.length:Int) > if 14 * v.Size < 64 then 14 * v.Size else 64)↔¬ ((v.Sets.length:Int) > 64)∧¬ ((v.Sets.length:Int) > 14 * v.Size):=by
      split <;> omega
    rw [em]
    constructor
    · rintro ⟨⟨⟨h1,h2⟩,h3⟩,h4,h5⟩
      exact ⟨⟨⟨h1,h2⟩,fun k hk=>⟨⟨(h3 k hk).1,fun x hx=>h5 x (mem_exts.2 ⟨k,hk,hx⟩)⟩,(h3 k hk).2⟩⟩,h4⟩
    · rintro ⟨⟨⟨h1,h2⟩,h3⟩,h4⟩
      refine ⟨⟨⟨h1,h2⟩,fun k hk=>⟨(h3 k hk).1.1,(h3 k hk).2⟩⟩,h4,fun x hx=>?_⟩
      obtain ⟨k,hk,hx⟩:=mem_exts.1 hx
      exact (h3 k hk).1.2 x hx
theorem rV_iff {v:TVtoc}:rV v=true↔head v=true∧v.Sets.length≤64∧(v.Sets.length:Int)≤14 * v.Size∧(∀ k,k < v.Sets.length→(pLbl v (gt v.Sets k)=true∧∀ x∈(gt v.Sets k).Extents,v.Size < x.At)∧ordB v.Sets k=false)∧(trkF [] (exts v.Sets)).isSome=true:=by
  unfold rV
  cases hh:head v with
  | false=>simp
  | true =>
    obtain ⟨z1,z2⟩:=head_z hh
    have w1:jc .i64 (14 * v.Size)=14 * v.Size:=wid (by omega)
    rw [w1]
    simp only [JL,je,j5,decide_eq_false_iff_not,any_range,rBad_iff,true_and]
    constructor
    · rintro ⟨⟨⟨h1,h2⟩,h3⟩,h4⟩;exact ⟨by omega,by omega,h3,h4⟩
    · rintro ⟨h1,h2,h3,h4⟩;exact ⟨⟨⟨by omega,by omega⟩,h3⟩,h4⟩
theorem vFree_loop (n:Nat) (hn:N0≤n) (v:TVtoc) (hv:light v) (u0:List TExtent) (hu:u0.length≤1):∀ j k m,k+j=v.Sets.length→j < m →
    loopF (fun (x:(List TExtent)×Int)=>vtoc_Free_b2 n v (v.Sets.length:Int) x.1 x.2) m (u0 ++ exts (v.Sets.take k),(k:Int))=some (u0 ++ exts v.Sets):=by
  obtain ⟨h1,h2,h3⟩:=hv
  intro j
  induction j with
  | zero =>
    intro k m hj hm
    obtain ⟨m,rfl⟩:∃ q,m=q+1:=⟨m - 1,by omega⟩
    have hk:k=v.Sets.length:=by omega
    subst hk
    refine loopF_done ?_
    unfold vtoc_Free_b2
    simp only [Int.lt_irrefl,decide_false,cond_false,JF]
  | succ j ih =>
    intro k m hj hm
    obtain ⟨m,rfl⟩:∃ q,m=q+1:=⟨m - 1,by omega⟩
    have hk:k < v.Sets.length:=by omega
    have hlt:((k:Nat):Int) < (v.Sets.length:Int):=by omega
    have hmem:gt v.Sets k∈v.Sets:=by rw [gt_lt hk];exact jw hk
    have hx:=(h3 _ hmem).2
    have hel:=exts_len (l:=v.Sets.take k) fun d hd=>h3 d (List.mem_of_mem_take hd)
    rw [jl] at hel
    refine (loopF_step (x':=(u0 ++ exts (v.Sets.take (k+1)),((k+1:Nat):Int))) ?_).trans (ih (k+1) m (by omega) (by omega))
    unfold vtoc_Free_b2
    simp only [decide_eq_true hlt,cond_true,jy]
    rw [gd_pos _ ⟨by omega,hlt⟩,gd_pos _ (by rw [ji];omega),wid (n:=(k:Int)+1) (by omega),exts_take hk,jM]
    rfl
theorem bl_irrefl (x:List UInt8):jG x x=false:=by
  rw [Go.Proofs.bytesLess_eq];simp [List.lt_irrefl]
theorem bl_trans {x y z:List UInt8} (h1:jG x y=true) (h2:jG y z=true):jG x z=true:=by
  rw [Go.Proofs.bytesLess_eq,decide_eq_true_eq] at *
  exact List.lt_trans h1 h2
theorem bl_total (x y:List UInt8):jG x y=true∨x=y∨jG y x=true:=by
  simp only [Go.Proofs.bytesLess_eq,decide_eq_true_eq]
  rcases Std.lt_trichotomy x y with h | h | h
  · exact .inl h
  · exact .inr (.inl h)
  · exact .inr (.inr h)
theorem bl_ne {x y:List UInt8} (h:jG x y=true):x≠y:=by
  rintro rfl;rw [bl_irrefl] at h;cases h
theorem bl_asymm {x y:List UInt8} (h:jG x y=true):jG y x=false:=by
  cases h2:jG y x with
  | false=>rfl
  | true=>have:=bl_trans h h2;rw [bl_irrefl] at this;cases this
theorem cmpS_neg (x y:List UInt8):cmpS x y < 0↔jG x y=true:=by
  unfold cmpS
  by_cases h:jG x y=true
  · simp [h]
  · by_cases h2:x=y
    · subst h2;simp [bl_irrefl]
    · simp [h,h2]
theorem cmpS_zero (x y:List UInt8):cmpS x y=0↔x=y:=by
  unfold cmpS
  by_cases h:jG x y=true
  · simp only [h,if_true];exact ⟨fun e=>by omega,fun e=>absurd e (bl_ne h)⟩
  · by_cases h2:x=y
    · subst h2;simp [bl_irrefl]
    · simp [h,h2]
abbrev wlt (a b:TDscb):Prop:=jG a.Name b.Name=true
theorem asc_name:∀ {a b:List TDscb},a.Pairwise wlt→b.Pairwise wlt→(∀ v,v∈a↔v∈b)→a=b
  | [],[],_,_,_=>rfl
  | [],y :: b,_,_,h=>absurd ((h y).2 j4) (by simp)
  | x :: a,[],_,_,h=>absurd ((h x).1 j4) (by simp)
  | x :: a,y :: b,ha,hb,h=>by
    have ha':=JU.1 ha
    have hb':=JU.1 hb
    have hxy:x=y:=by
      rcases jO.1 ((h x).1 j4) with e | hx
      · exact e
      · rcases jO.1 ((h y).2 j4) with e | hy
        · exact e.symm
        · have h1:=hb'.1 x hx
          have h2:=ha'.1 y hy
          have:=bl_asymm h1
          rw [h2] at this;cases this
    subst hxy
    congr 1
    refine asc_name ha'.2 hb'.2 fun v=>?_
    constructor
    · intro hv
      rcases jO.1 ((h v).1 (Jb _ hv)) with e | h1
      · subst e;have:=ha'.1 v hv;rw [wlt,bl_irrefl] at this;cases this
      · exact h1
    · intro hv
      rcases jO.1 ((h v).2 (Jb _ hv)) with e | h1
      · subst e;have:=hb'.1 v hv;rw [wlt,bl_irrefl] at this;cases this
      · exact h1
theorem ord_iff {l:List TDscb}:(∀ k,k < l.length→ordB l k=false)↔l.Pairwise wlt:=by
  constructor
  · intro h
    have step:∀ k,0 < k→k < l.length→wlt (gt l (k - 1)) (gt l k):=by
      intro k h0 hk
      have:=h k hk
      unfold ordB at this
      rw [decide_eq_true h0,JL] at this
      show jG _ _=true
      cases hb:jG (gt l (k - 1)).Name (gt l k).Name with
      | true=>rfl
      | false=>rw [hb] at this;cases this
    have far:∀ d i,i+d+1 < l.length→wlt (gt l i) (gt l (i+d+1)):=by
      intro d
      induction d with
      | zero=>intro i hi;have:=step (i+1) (by omega) (by omega);simpa using this
      | succ d ih =>
        intro i hi
        have h1:=ih i (by omega)
        have h2:=step (i+(d+1)+1) (by omega) hi
        have e:i+(d+1)+1 - 1=i+d+1:=by omega
        rw [e] at h2
        exact bl_trans h1 h2
    rw [j7]
    intro i j hi hj hij
    have:=far (j - i - 1) i (by omega)
    have e:i+(j - i - 1)+1=j:=by omega
    rw [e,gt_lt hi,gt_lt hj] at this
    exact this
  · intro h k hk
    unfold ordB
    by_cases h0:0 < k
    · rw [j7] at h
      have:=h (k - 1) k (by omega) hk (by omega)
      rw [gt_lt hk,gt_lt (by omega:k - 1 < l.length)]
      rw [wlt] at this
      rw [this];simp
    · rw [decide_eq_false h0];rfl
def lowN (l:List TDscb) (name:List UInt8):Nat:=(l.takeWhile fun d=>jG d.Name name).length
theorem lowN_le (l:List TDscb) (name:List UInt8):lowN l name≤l.length:=by
  unfold lowN;exact List.Sublist.length_le (List.takeWhile_sublist _)
theorem lowN_below {l:List TDscb} {name:List UInt8}:∀ k,k < lowN l name→jG (gt l k).Name name=true:=by
  induction l with
  | nil=>intro k hk;simp [lowN] at hk
  | cons d l ih =>
    intro k hk
    unfold lowN at hk
    rw [List.takeWhile_cons] at hk
    by_cases hd:jG d.Name name=true
    · rw [if_pos hd,jv] at hk
      cases k with
      | zero=>simpa [gt] using hd
      | succ k=>have:=ih k (by unfold lowN;omega);simpa [gt] using this
    · rw [if_neg hd] at hk;simp at hk
theorem lowN_at {l:List TDscb} {name:List UInt8} (h:lowN l name < l.length):jG (gt l (lowN l name)).Name name=false:=by
  induction l with
  | nil=>simp at h
  | cons d l ih =>
    unfold lowN at h ⊢
    rw [List.takeWhile_cons] at h ⊢
    by_cases hd:jG d.Name name=true
    · rw [if_pos hd,jv] at h ⊢
      have:=ih (by unfold lowN;simpa using h)
      simpa [gt,lowN] using this
    · rw [if_neg hd];simpa [gt] using hd
theorem lowN_above {l:List TDscb} {name:List UInt8} (hs:l.Pairwise wlt) {k:Nat} (h1:lowN l name≤k) (h2:k < l.length):jG (gt l k).Name name=false:=by
  rcases jq (lowN l name) k with hlt | hge
  · have h3:=lowN_at (name:=name) (by omega:lowN l name < l.length)
    rw [j7] at hs
    have h4:=hs (lowN l name) k (by omega) h2 hlt
    rw [← gt_lt,← gt_lt] at h4
    cases h5:jG (gt l k).Name name with
    | false=>rfl
    | true=>have:=bl_trans h4 h5;rw [h3] at this;cases this
  · have:k=lowN l name:=by omega
    subst this;exact lowN_at h2
def hasN (l:List TDscb) (name:List UInt8):Bool:=l.any fun d=>d.Name == name
theorem hasN_low {l:List TDscb} {name:List UInt8} (hs:l.Pairwise wlt):hasN l name=true↔lowN l name < l.length∧(gt l (lowN l name)).Name=name:=by
  unfold hasN
  rw [List.any_eq_true]
  constructor
  · rintro ⟨d,hd,he⟩
    obtain ⟨k,hk,rfl⟩:=jU hd
    have he:l[k].Name=name:=by simpa using he
    rw [← gt_lt hk] at he
    have h1:lowN l name≤k:=by
      rcases jq k (lowN l name) with h | h
      · have:=lowN_below k h;rw [he,bl_irrefl] at this;cases this
      · exact h
    rcases jq (lowN l name) k with h | h
    · have h3:=lowN_at (name:=name) (by omega:lowN l name < l.length)
      have hs':=j7.1 hs (lowN l name) k (by omega) hk h
      rw [← gt_lt,← gt_lt hk] at hs'
      rw [wlt,he,h3] at hs';cases hs'
    · have:k=lowN l name:=by omega
      subst this;exact ⟨hk,he⟩
  · rintro ⟨h1,h2⟩
    exact ⟨_,jw h1,by rw [← gt_lt h1,h2];simp⟩
theorem mid_eq (i j:Nat) (h:i+j≤100000):jc .i64 ((Int.fdiv (jc .u64 ((jc .i64 ((i:Int)+(j:Int))))) (2 ^ min 1 (JG .u64))))=(((i+j) / 2:Nat):Int):=by
  rw [wid (n:=(i:Int)+(j:Int)) (by omega)]
  have e1:jc .u64 ((i:Int)+(j:Int))=(i:Int)+(j:Int):=by
    simp only [jc]
    have:IntKind.u64.bits=64:=rfl
    rw [this]
    simp [IntKind.signed]
    omega
  have e2:((2:Int) ^ min 1 (JG .u64))=2:=by decide
  rw [e1,e2]
  have e3:Int.fdiv ((i:Int)+(j:Int)) 2=(((i+j) / 2:Nat):Int):=by
    rw [Int.fdiv_eq_ediv_of_nonneg _ (by omega)];omega
  rw [e3]
  exact wid (by omega)
theorem bs_loop (n:Nat) (l:List TDscb) (name:List UInt8) (hs:l.Pairwise wlt) (hl:l.length≤1000):∀ d i j m,j - i=d→d < m→i≤lowN l name→lowN l name≤j→j≤l.length →
    loopF (fun (x:Int×Int)=>slices_BinarySearchFunc_f116_M1_b2 n l name (l.length:Int) x.1 x.2) m ((i:Int),(j:Int))=some ((lowN l name:Nat):Int):=by
  intro d
  induction d using Nat.strongRecOn with
  | ind d ih =>
    intro i j m hd hm h1 h2 h3
    obtain ⟨m,rfl⟩:∃ q,m=q+1:=⟨m - 1,by omega⟩
    by_cases hij:i < j
    · have hlt:((i:Nat):Int) < (j:Int):=by omega
      have hmid:=mid_eq i j (by omega)
      have hml:(i+j) / 2 < l.length:=by omega
      have hb:slices_BinarySearchFunc_f116_M1_b2 n l name (l.length:Int) (i:Int) (j:Int)=some (if jG (gt l ((i+j) / 2)).Name name=true then .inl ((((i+j) / 2+1:Nat):Int),(j:Int)) else .inl ((i:Int),(((i+j) / 2:Nat):Int))):=by
        unfold slices_BinarySearchFunc_f116_M1_b2
        simp only [decide_eq_true hlt,cond_true,hmid,jy,vtoc_Vtoc__index_1,strings_Compare,jf]
        rw [gd_pos _ (by omega),wid (n:=(((i+j) / 2:Nat):Int)+1) (by omega)]
        by_cases hc:jG (gt l ((i+j) / 2)).Name name=true
        · rw [decide_eq_true ((cmpS_neg _ _).2 hc),if_pos hc];rfl
        · rw [decide_eq_false (fun h=>hc ((cmpS_neg _ _).1 h)),if_neg hc];rfl
      by_cases hc:jG (gt l ((i+j) / 2)).Name name=true
      · rw [if_pos hc] at hb
        have hlo:(i+j) / 2 < lowN l name:=by
          rcases jq ((i+j) / 2) (lowN l name) with h | h
          · exact h
          · have:=lowN_above hs h hml;rw [hc] at this;cases this
        exact (loopF_step hb).trans (ih (j - ((i+j) / 2+1)) (by omega) _ _ m rfl (by omega) (by omega) h2 h3)
      · rw [if_neg hc] at hb
        have hlo:lowN l name≤(i+j) / 2:=by
          rcases jq ((i+j) / 2) (lowN l name) with h | h
          · exact absurd (lowN_below _ h) hc
          · exact h
        exact (loopF_step hb).trans (ih ((i+j) / 2 - i) (by omega) _ _ m rfl (by omega) h1 hlo (by omega))
    · have:i=lowN l name:=by omega
      refine loopF_done ?_
      unfold slices_BinarySearchFunc_f116_M1_b2
      rw [decide_eq_false (by omega),cond_false,this]
theorem index_eq (n:Nat) (hn:N0≤n) (v:TVtoc) (name:List UInt8) (hs:v.Sets.Pairwise wlt) (hl:v.Sets.length≤1000):vtoc_Vtoc__index n v name=some (((lowN v.Sets name:Nat):Int),hasN v.Sets name):=by
  have hn0:4194304≤n:=hn
  have hle:=lowN_le v.Sets name
  have key:loopF (fun (x:Int×Int)=>slices_BinarySearchFunc_f116_M1_b2 n v.Sets name (v.Sets.length:Int) x.1 x.2) n (0,(v.Sets.length:Int))=some ((lowN v.Sets name:Nat):Int):=bs_loop n v.Sets name hs hl v.Sets.length 0 v.Sets.length n (by omega) (by omega) (by omega) hle (js _)
  simp only [vtoc_Vtoc__index,slices_BinarySearchFunc_f116_M1,key,jf,slices_BinarySearchFunc_f116_M1_k1,vtoc_Vtoc__index_1,strings_Compare,JN,Jd,implies_true,and_true,jy]
  rw [gd_pos _ (fun h=>by have:=of_decide_eq_true h;omega),jf]
  congr 2
  rw [ite_ff,Bool.eq_iff_iff,hasN_low hs]
  simp only [je,decide_eq_true_eq,beq_iff_eq,cmpS_zero]
  constructor
  · rintro ⟨h1,h2⟩;exact ⟨by omega,h2⟩
  · rintro ⟨h1,h2⟩;exact ⟨by omega,h2⟩
theorem copied_eq (n:Nat) (hn:N0≤n) (v:TVtoc) (hv:light v):vtoc_Vtoc__copied n v=some v:=by
  have hn0:4194304≤n:=hn
  obtain ⟨h1,h2,h3⟩:=hv
  have key:∀ j k m,k+j=v.Sets.length→j < m→loopF (fun (x:(List TDscb)×Int)=>vtoc_Vtoc__copied_b2 n v (v.Sets.length:Int) x.1 x.2) m (v.Sets.take k ++ zreps j (⟨[],(⟨0,0,false,false,0,0,0,0⟩:TDcb),[],0⟩:TDscb),(k:Int))=some v.Sets:=by
    intro j
    induction j with
    | zero =>
      intro k m hj hm
      obtain ⟨m,rfl⟩:∃ q,m=q+1:=⟨m - 1,by omega⟩
      have hk:k=v.Sets.length:=by omega
      subst hk
      refine loopF_done ?_
      unfold vtoc_Vtoc__copied_b2
      simp [zreps]
    | succ j ih =>
      intro k m hj hm
      obtain ⟨m,rfl⟩:∃ q,m=q+1:=⟨m - 1,by omega⟩
      have hk:k < v.Sets.length:=by omega
      have hlt:((k:Nat):Int) < (v.Sets.length:Int):=by omega
      have hmem:gt v.Sets k∈v.Sets:=by rw [gt_lt hk];exact jw hk
      have hx:=(h3 _ hmem).2
      have hll:(v.Sets.take k ++ zreps (j+1) (⟨[],(⟨0,0,false,false,0,0,0,0⟩:TDcb),[],0⟩:TDscb)).length=v.Sets.length:=by
        rw [ji,jl,zreps_len];omega
      refine (loopF_step (x':=(v.Sets.take (k+1) ++ zreps j (⟨[],(⟨0,0,false,false,0,0,0,0⟩:TDcb),[],0⟩:TDscb),((k+1:Nat):Int))) ?_).trans (ih (k+1) m (by omega) (by omega))
      unfold vtoc_Vtoc__copied_b2
      simp only [decide_eq_true hlt,cond_true,jy,Clone_eq n _ (Jk hx (by decide)),jf]
      rw [gd_pos _ ⟨by omega,hlt⟩,gd_pos _ (by rw [hll];exact ⟨⟨by omega,hlt⟩,hk⟩),wid (n:=(k:Int)+1) (by omega)]
      have e:List.set (v.Sets.take k ++ zreps (j+1) (⟨[],(⟨0,0,false,false,0,0,0,0⟩:TDcb),[],0⟩:TDscb)) k (⟨(gt v.Sets k).Name,((gt v.Sets k).Dcb),(gt v.Sets k).Extents,(gt v.Sets k).Used⟩:TDscb)=v.Sets.take (k+1) ++ zreps j (⟨[],(⟨0,0,false,false,0,0,0,0⟩:TDcb),[],0⟩:TDscb):=by
        show List.set _ k (gt v.Sets k)=_
        have hlk:(v.Sets.take k).length=k:=by rw [jl];omega
        have ht:v.Sets.take (k+1)=v.Sets.take k ++ [v.Sets[k]]:=by
          rw [List.take_add_one,JK hk];rfl
        rw [List.set_append_right _ _ (by omega),hlk,Nat.sub_self,ht,gt_lt hk,jM]
        rfl
      rw [e];rfl
  have hz:=key v.Sets.length 0 n (by omega) (by omega)
  simp only [List.take_zero,List.nil_append] at hz
  have hz':loopF (fun (x:(List TDscb)×Int)=>vtoc_Vtoc__copied_b2 n v (v.Sets.length:Int) x.1 x.2) n ((zreps (Int.toNat (v.Sets.length:Int)) (⟨[],(⟨0,0,false,false,0,0,0,0⟩:TDcb),[],0⟩:TDscb)),0)=some v.Sets:=by
    rw [jy];exact hz
  unfold vtoc_Vtoc__copied
  rw [wid (n:=(v.Sets.length:Int)+1) (by omega),gd_pos _ (by omega),hz',jf]
  rfl
def wo (name:List UInt8) (l:List TDscb):List TDscb:=l.filter fun d=>d.Name != name
theorem wo_len (name:List UInt8) (l:List TDscb):(wo name l).length≤l.length:=List.length_filter_le _ _
theorem mem_wo {name:List UInt8} {l:List TDscb} {d:TDscb}:d∈wo name l↔d∈l∧d.Name≠name:=by
  unfold wo;rw [List.mem_filter];simp
def ins (d:TDscb):List TDscb→List TDscb
  | []=>[d]
  | x :: r=>if jG d.Name x.Name=true then d :: x :: r else x :: ins d r
def insP (d:TDscb):List TDscb→List TDscb×Bool
  | []=>([],false)
  | x :: r=>if jG d.Name x.Name=true then (d :: x :: r,true) else (x :: (insP d r).1,(insP d r).2)
theorem ins_P (d:TDscb):∀ l,ins d l=if (insP d l).2=true then (insP d l).1 else (insP d l).1 ++ [d]
  | []=>rfl
  | x :: r=>by
    rw [ins,insP]
    by_cases h:jG d.Name x.Name=true
    · rw [if_pos h,if_pos h];rfl
    · rw [if_neg h,if_neg h,ins_P d r]
      simp only
      split <;> simp
theorem mem_ins {d x:TDscb}:∀ {l:List TDscb},x∈ins d l↔x=d∨x∈l
  | []=>by simp [ins]
  | y :: r=>by
    rw [ins]
    split
    · simp
    · rw [jO,mem_ins,jO]
      constructor
      · rintro (h | h | h)
        · exact .inr (.inl h)
        · exact .inl h
        · exact .inr (.inr h)
      · rintro (h | h | h)
        · exact .inr (.inl h)
        · exact .inl h
        · exact .inr (.inr h)
theorem ins_len (d:TDscb):∀ l,(ins d l).length=l.length+1
  | []=>rfl
  | x :: r=>by
    rw [ins];split
    · rfl
    · rw [jv,ins_len d r,jv]
theorem ins_sorted {d:TDscb}:∀ {l:List TDscb},l.Pairwise wlt→(∀ x∈l,x.Name≠d.Name)→(ins d l).Pairwise wlt
  | [],_,_=>by simp [ins]
  | y :: r,hs,hd=>by
    have hs':=JU.1 hs
    rw [ins]
    split
    · rename_i h
      refine JU.2 ⟨fun x hx=>?_,hs⟩
      rcases jO.1 hx with rfl | hx
      · exact h
      · exact bl_trans h (hs'.1 x hx)
    · rename_i h
      refine JU.2 ⟨fun x hx=>?_,ins_sorted hs'.2 fun x hx=>hd x (Jb _ hx)⟩
      rcases mem_ins.1 hx with rfl | hx
      · rcases bl_total y.Name x.Name with h1 | h1 | h1
        · exact h1
        · exact absurd h1 (hd y j4)
        · exact absurd h1 h
      · exact hs'.1 x hx
theorem ins_low {d:TDscb}:∀ {l:List TDscb},(∀ x∈l,x.Name≠d.Name)→ins d l=l.take (lowN l d.Name) ++ [d] ++ l.drop (lowN l d.Name)
  | [],_=>rfl
  | y :: r,hd=>by
    have hne:=hd y j4
    rw [ins]
    unfold lowN
    rw [List.takeWhile_cons]
    rcases bl_total y.Name d.Name with h1 | h1 | h1
    · rw [if_neg (by rw [bl_asymm h1];simp),if_pos h1,jv,List.take_succ_cons,List.drop_succ_cons,ins_low fun x hx=>hd x (Jb _ hx)]
      rfl
    · exact absurd h1 hne
    · rw [if_pos h1,if_neg (by rw [bl_asymm h1];simp)]
      rfl
theorem set_ins {l:List TDscb} {k:Nat} {d:TDscb} (hs:l.Pairwise wlt) (hk:k < l.length) (hd:d.Name=(gt l k).Name):l.set k d=ins d (wo d.Name l):=by
  have hp:=j7.1 hs
  have hmem:∀ x,x∈l.set k d↔x=d∨(x∈l∧x.Name≠d.Name):=by
    intro x
    constructor
    · intro hx
      obtain ⟨i,hi,rfl⟩:=jU hx
      rw [jV] at hi
      by_cases e:i=k
      · subst e;left;simp
      · right
        rw [List.getElem_set_ne (Ne.symm e)]
        refine ⟨jw hi,fun he=>?_⟩
        rw [hd,gt_lt hk] at he
        rcases jq i k with h | h
        · exact bl_ne (hp i k hi hk h) he
        · exact bl_ne (hp k i hk hi (by omega)) he.symm
    · rintro (rfl | ⟨hx,hne⟩)
      · exact List.mem_iff_getElem.2 ⟨k,by simpa using hk,by simp⟩
      · obtain ⟨i,hi,rfl⟩:=jU hx
        have e:k≠i:=by rintro rfl;rw [hd,gt_lt hk] at hne;exact hne rfl
        exact List.mem_iff_getElem.2 ⟨i,by simpa using hi,List.getElem_set_ne e _⟩
  refine asc_name ?_ (ins_sorted (hs.filter _) fun x hx=>(mem_wo.1 hx).2) fun x=>?_
  · rw [j7]
    intro i j hi hj hij
    rw [jV] at hi hj
    have h0:=hp i j hi hj hij
    rw [wlt,List.getElem_set,List.getElem_set]
    rw [gt_lt hk] at hd
    by_cases e1:k=i <;> by_cases e2:k=j
    · omega
    · subst e1;rw [if_pos rfl,if_neg e2,hd];exact h0
    · subst e2;rw [if_neg e1,if_pos rfl,hd];exact h0
    · rw [if_neg e1,if_neg e2];exact h0
  · rw [hmem,mem_ins,mem_wo]
theorem val_facts {v:TVtoc} (h:rV v=true):v.Sets.Pairwise wlt∧v.Sets.length≤64∧(v.Sets.length:Int)≤14 * v.Size∧(1≤v.Size∧v.Size≤511)∧∀ d∈v.Sets,nameB d.Name=true∧d.Extents.length≤8:=by
  obtain ⟨h1,h2,h3,h4,h5⟩:=rV_iff.1 h
  refine ⟨ord_iff.1 fun k hk=>(h4 k hk).2,h2,h3,head_z h1,fun d hd=>?_⟩
  obtain ⟨k,hk,rfl⟩:=jU hd
  have:=(h4 k hk).1.1
  rw [gt_lt hk] at this
  unfold pLbl inB at this
  simp only [je,decide_eq_true_eq] at this
  exact ⟨this.1.1.1.1.1,by omega⟩
theorem hasN_false {l:List TDscb} {name:List UInt8} (h:hasN l name=false):∀ x∈l,x.Name≠name:=by
  intro x hx e
  unfold hasN at h
  rw [List.any_eq_false] at h
  exact h x hx (by rw [e];simp)
def tz:TVtoc:=⟨[],0,0,0,[]⟩
theorem light_tz:light tz:=⟨by simp [tz],by simp [tz],by simp [tz]⟩
theorem light_ins {v:TVtoc} {d:TDscb} {l:List TDscb} (hv:light v) (hl:l.length≤64) (hm:∀ x∈l,x∈v.Sets) (hd:d.Name.length≤100) (hx:d.Extents.length≤20):light ⟨v.Serial,v.Cyls,v.Heads,v.Size,ins d l⟩:=by
  refine ⟨?_,hv.2.1,fun x hx'=>?_⟩
  · show (ins d l).length≤70
    rw [ins_len];omega
  · rcases mem_ins.1 hx' with rfl | h
    · exact ⟨hd,hx⟩
    · exact hv.2.2 x (hm x h)
theorem light_set {v:TVtoc} {k:Nat} {d:TDscb} (hv:light v) (hd:d.Name.length≤100) (hx:d.Extents.length≤20):light ⟨v.Serial,v.Cyls,v.Heads,v.Size,v.Sets.set k d⟩:=by
  refine ⟨by show (v.Sets.set k d).length≤70;rw [jV];exact hv.1,hv.2.1,fun x hx'=>?_⟩
  rcases List.mem_or_eq_of_mem_set hx' with h | rfl
  · exact hv.2.2 x h
  · exact ⟨hd,hx⟩
theorem has_facts {v:TVtoc} {name:List UInt8} (hr:rV v=true) (hh:hasN v.Sets name=true):lowN v.Sets name < v.Sets.length∧(gt v.Sets (lowN v.Sets name)).Name=name∧gt v.Sets (lowN v.Sets name)∈v.Sets∧(gt v.Sets (lowN v.Sets name)).Extents.length≤8:=by
  obtain ⟨hs,hl,hl2,hz,hm⟩:=val_facts hr
  obtain ⟨h1,h2⟩:=(hasN_low hs).1 hh
  have hmem:gt v.Sets (lowN v.Sets name)∈v.Sets:=by rw [gt_lt h1];exact jw h1
  exact ⟨h1,h2,hmem,(hm _ hmem).2⟩
theorem gset_eq {α:Type} [Inhabited α] (l:List α) (i:Nat) (x:α) (h:i < l.length):gt (l.set i x) i=x:=by
  simp [gt,ja,h]
theorem set_len {α:Type} (l:List α) (i:Nat) (x:α):(l.set i x).length=l.length:=jV
theorem Index_loop (n:Nat) (s:List TDscb) (nm:List UInt8) (hl:s.length≤1000) (p:Nat) (hp:p < s.length) (h1:∀ k,k < p→(gt s k).Name≠nm) (h2:(gt s p).Name=nm):∀ j k m,k+j=p→j < m →
    loopF (fun (x:Int)=>slices_IndexFunc_f141_M1_b2 n s nm ((s.length:Nat):Int) x) m (k:Int)=some (.inl ((p:Nat):Int)):=by
  intro j
  induction j with
  | zero =>
    intro k m hj hm
    obtain ⟨m,rfl⟩:∃ q,m=q+1:=⟨m - 1,by omega⟩
    have hk:k=p:=by omega
    subst hk
    have hlt:((k:Nat):Int) < (s.length:Int):=by omega
    refine loopF_done ?_
    unfold slices_IndexFunc_f141_M1_b2
    simp only [decide_eq_true hlt,cond_true,jy,vtoc_Scratch_2_M1,jf,h2,beq_self_eq_true]
    rw [gd_pos _ ⟨⟨by omega,hlt⟩,hp⟩]
  | succ j ih =>
    intro k m hj hm
    obtain ⟨m,rfl⟩:∃ q,m=q+1:=⟨m - 1,by omega⟩
    have hlt:((k:Nat):Int) < (s.length:Int):=by omega
    refine (loopF_step (x':=((k+1:Nat):Int)) ?_).trans (ih (k+1) m (by omega) (by omega))
    unfold slices_IndexFunc_f141_M1_b2
    simp only [decide_eq_true hlt,cond_true,jy,vtoc_Scratch_2_M1,jf]
    rw [gd_pos _ ⟨⟨by omega,hlt⟩,by omega⟩,beq_eq_false_iff_ne.2 (h1 k (by omega)),wid (n:=(k:Int)+1) (by omega)]
    rfl
theorem wo_snoc (nm:List UInt8) (l:List TDscb) (d:TDscb):wo nm (l ++ [d])=wo nm l ++ (if (d.Name != nm)=true then [d] else []):=by
  unfold wo;rw [List.filter_append,List.filter_cons,List.filter_nil]
theorem Delete_loop (n:Nat) (s:List TDscb) (nm:List UInt8) (hl:s.length≤1000):∀ j k m (b:List TDscb) (i:Nat),k+j=s.length→j < m→b.length=s.length→i < k∨(i=k)→i≤k→b.take i=wo nm (s.take k)→b.drop k=s.drop k →
    ∃ b' i',loopF (fun (x:(List TDscb)×Int×Int)=>slices_DeleteFunc_f89_M1_b2 n nm x.1 x.2.1 x.2.2) m (b,(i:Int),(k:Int))=some (b',((i':Nat):Int))∧b'.length=s.length∧i'≤s.length∧b'.take i'=wo nm s:=by
  intro j
  induction j with
  | zero =>
    intro k m b i hj hm hb _ hi h1 h2
    obtain ⟨m,rfl⟩:∃ q,m=q+1:=⟨m - 1,by omega⟩
    have hk:k=s.length:=by omega
    subst hk
    refine ⟨b,i,loopF_done ?_,hb,hi,by rw [h1,JF]⟩
    unfold slices_DeleteFunc_f89_M1_b2
    dsimp only
    rw [hb,decide_eq_false (by omega),cond_false]
  | succ j ih =>
    intro k m b i hj hm hb _ hi h1 h2
    obtain ⟨m,rfl⟩:∃ q,m=q+1:=⟨m - 1,by omega⟩
    have hk:k < s.length:=by omega
    have hlt:((k:Nat):Int) < (b.length:Int):=by omega
    have hw:=wid (n:=(k:Int)+1) (by omega)
    have hw2:=wid (n:=(i:Int)+1) (by omega)
    have hgk:gt b k=gt s k:=by
      have e1:gt b k=gt (b.drop k) 0:=by simp [gt,ja]
      have e2:gt s k=gt (s.drop k) 0:=by simp [gt,ja]
      rw [e1,e2,h2]
    have ht:s.take (k+1)=s.take k ++ [gt s k]:=by
      rw [List.take_add_one,JK hk,gt_lt hk];rfl
    have hd:∀ q:List TDscb,q.drop k=s.drop k→q.drop (k+1)=s.drop (k+1):=fun q hq=>by
      rw [← List.drop_drop,← List.drop_drop,hq]
    by_cases hc:((gt s k).Name == nm)=true
    · obtain ⟨b',i',g1,g2⟩:=ih (k+1) m b i (by omega) (by omega) hb (by omega) (by omega) (by
        rw [h1,ht,wo_snoc]
        have:((gt s k).Name != nm)=false:=by simp only [bne,hc,jT]
        rw [this];simp) (hd b h2)
      refine ⟨b',i',(loopF_step ?_).trans g1,g2⟩
      unfold slices_DeleteFunc_f89_M1_b2
      simp only [decide_eq_true hlt,cond_true,jy,vtoc_Scratch_2_M1,jf,hgk,hc,jT,cond_false,slices_DeleteFunc_f89_M1_k3,hw]
      rw [gd_pos _ ⟨⟨by omega,hlt⟩,by omega⟩]
      rfl
    · rw [Bool.not_eq_true] at hc
      have hil:i < b.length:=by omega
      obtain ⟨b',i',g1,g2⟩:=ih (k+1) m (List.set b i (gt s k)) (i+1) (by omega) (by omega) (by rw [jV];exact hb) (by omega) (by omega) (by
        rw [ht,wo_snoc]
        have:((gt s k).Name != nm)=true:=by simp only [bne,hc,Jh]
        rw [this,if_pos rfl,← h1,List.take_add_one,List.take_set_of_le (js _)]
        simp [hil]) (by
        have:=hd b h2
        rw [List.drop_set_of_lt (by omega)];exact this)
      refine ⟨b',i',(loopF_step ?_).trans g1,g2⟩
      unfold slices_DeleteFunc_f89_M1_b2
      simp only [decide_eq_true hlt,cond_true,jy,vtoc_Scratch_2_M1,jf,hgk,hc,Jh,slices_DeleteFunc_f89_M1_k3,hw,hw2]
      rw [gd_pos _ ⟨⟨by omega,hlt⟩,by omega⟩,gd_pos _ ⟨⟨by omega,by omega⟩,hil⟩]
      rfl
theorem DeleteF_eq (n:Nat) (hn:N0≤n) (s:List TDscb) (nm:List UInt8) (hl:s.length≤1000) (p:Nat) (hp:p < s.length) (h1:∀ k,k < p→(gt s k).Name≠nm) (h2:(gt s p).Name=nm) :
    ∃ r,slices_DeleteFunc_f89_M1 n s nm=some r∧List.take r.1 r.2=wo nm s:=by
  have hn0:4194304≤n:=hn
  have key:loopF (fun (x:Int)=>slices_IndexFunc_f141_M1_b2 n s nm ((s.length:Nat):Int) x) n 0=some (.inl ((p:Nat):Int)):=Index_loop n s nm hl p hp h1 h2 p 0 n (by omega) (by omega)
  simp only [slices_DeleteFunc_f89_M1,slices_IndexFunc_f141_M1,key,jf]
  have e1:(((p:Nat):Int) == -1)=false:=by rw [beq_eq_false_iff_ne];omega
  rw [e1,cond_false,wid (n:=(p:Int)+1) (by omega)]
  have hpre:wo nm (s.take p)=s.take p:=by
    unfold wo
    rw [List.filter_eq_self]
    intro d hd
    obtain ⟨k,hk,rfl⟩:=jU hd
    rw [jl] at hk
    have:=h1 k (by omega)
    rw [List.getElem_take,← gt_lt (by omega)]
    simpa using this
  have ht:s.take (p+1)=s.take p ++ [gt s p]:=by
    rw [List.take_add_one,JK hp,gt_lt hp];rfl
  obtain ⟨b',i',g1,g2,g3,g4⟩:=Delete_loop n s nm hl (s.length - (p+1)) (p+1) n s p (by omega) (by omega) rfl (by omega) (by omega) (by
    rw [ht,wo_snoc,hpre,h2];simp) rfl
  have g1':loopF (fun (x:(List TDscb)×Int×Int)=>slices_DeleteFunc_f89_M1_b2 n nm x.1 x.2.1 x.2.2) n (s,(p:Int),(p:Int)+1)=some (b',((i':Nat):Int)):=g1
  rw [g1',jf]
  unfold slices_DeleteFunc_f89_M1_k1
  dsimp only
  rw [gd_pos _ (by rw [g2];omega),gd_pos _ (by omega)]
  refine ⟨_,rfl,?_⟩
  simp only [Int.sub_zero,jy]
  rw [overL_pos (by rw [zreps_len];omega),← g4]
  rw [jM,List.take_append_of_le_length (by rw [jl];omega),List.take_take,Nat.min_self]
theorem swo_name:SWO (Go.Proofs.ltOf fun (x y:TDscb)=>cmpS x.Name y.Name):=by
  have e:∀ x y:TDscb,Go.Proofs.ltOf (fun (x y:TDscb)=>cmpS x.Name y.Name) x y=jG x.Name y.Name:=by
    intro x y
    rw [Go.Proofs.ltOf,Bool.eq_iff_iff,decide_eq_true_eq];exact cmpS_neg _ _
  constructor
  · intro x;rw [e];exact bl_irrefl _
  · intro x y z;rw [e,e,e];exact bl_trans
  · intro x y z;rw [e,e,e]
    intro h1 h2
    cases h3:jG x.Name z.Name with
    | false=>rfl
    | true =>
      rcases bl_total y.Name x.Name with h | h | h
      · rw [bl_trans h h3] at h2;cases h2
      · rw [h,h3] at h2;cases h2
      · rw [h] at h1;cases h1
theorem sort_eq (n:Nat) (l:List TDscb):∃ r,slices_SortFunc_f92_c93 n l=some r∧r.Perm l∧r.Pairwise fun x y=>¬ cmpS y.Name x.Name < 0 :=
  sortG_eq (f:=fun x y=>vtoc_Rename_2 n x y) (c:=fun (x y:TDscb)=>cmpS x.Name y.Name) (fun _ _ _ _=>rfl) swo_name
theorem sort_nil (n:Nat):slices_SortFunc_f92_c93 n []=some []:=by
  obtain ⟨r,h1,h2,_⟩:=sort_eq n []
  rw [h1,h2.eq_nil]
theorem sort_set (n:Nat) {l:List TDscb} {k:Nat} {d:TDscb} {old:List UInt8} (hs:l.Pairwise wlt) (hk:k < l.length) (ho:(gt l k).Name=old) (hn:hasN l d.Name=false) :
    ∃ r,slices_SortFunc_f92_c93 n (l.set k d)=some r∧r=ins d (wo old l)∧r.length=l.length:=by
  obtain ⟨r,h1,h2,h3⟩:=sort_eq n (l.set k d)
  have hp:=j7.1 hs
  have hne:=hasN_false hn
  have hmem:∀ x,x∈l.set k d↔x=d∨(x∈l∧x.Name≠old):=by
    intro x
    constructor
    · intro hx
      obtain ⟨i,hi,rfl⟩:=jU hx
      rw [jV] at hi
      by_cases e:i=k
      · subst e;left;simp
      · right
        rw [List.getElem_set_ne (Ne.symm e)]
        refine ⟨jw hi,fun he=>?_⟩
        rw [← ho,gt_lt hk] at he
        rcases jq i k with h | h
        · exact bl_ne (hp i k hi hk h) he
        · exact bl_ne (hp k i hk hi (by omega)) he.symm
    · rintro (rfl | ⟨hx,hne⟩)
      · exact List.mem_iff_getElem.2 ⟨k,by simpa using hk,by simp⟩
      · obtain ⟨i,hi,rfl⟩:=jU hx
        have e:k≠i:=by rintro rfl;rw [← ho,gt_lt hk] at hne;exact hne rfl
        exact List.mem_iff_getElem.2 ⟨i,by simpa using hi,List.getElem_set_ne e _⟩
  have hd:(l.set k d).Pairwise fun x y=>x.Name≠y.Name:=by
    rw [j7]
    intro i j hi hj hij
    rw [jV] at hi hj
    rw [List.getElem_set,List.getElem_set]
    by_cases e1:k=i <;> by_cases e2:k=j
    · omega
    · rw [if_pos e1,if_neg e2];exact (hne _ (jw hj)).symm
    · rw [if_neg e1,if_pos e2];exact hne _ (jw hi)
    · rw [if_neg e1,if_neg e2];exact bl_ne (hp i j hi hj hij)
  have hd':r.Pairwise fun x y=>x.Name≠y.Name:=(h2.pairwise_iff (fun h=>Ne.symm h)).2 hd
  have hw:r.Pairwise wlt:=by
    refine (h3.and hd').imp ?_
    rintro a b ⟨q1,q2⟩
    rcases bl_total a.Name b.Name with h | h | h
    · exact h
    · exact absurd h q2
    · exact absurd ((cmpS_neg _ _).2 h) q1
  refine ⟨r,h1,asc_name hw (ins_sorted (hs.filter _) fun x hx=>hne x (mem_wo.1 hx).1) fun x=>?_,by rw [h2.length_eq,jV]⟩
  rw [h2.mem_iff,hmem,mem_ins,mem_wo]
end Go.Proofs.YtijnkhcfondehaaGreatDoor
