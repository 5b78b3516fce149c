/- Text. -/
import Derived.Test.YtijnkhcfondehaaGreatDoorE
import Derived.Test.YtijnkhcfondehaaGreatDoorM
import Derived.Test.YtijnkhcfondehaaGreatDoorFL
import Derived.Test.YtijnkhcfondehaaGreatDoorML
set_option linter.unusedSimpArgs false
set_option linter.unusedVariables false
set_option maxHeartbeats 8000000
set_option maxRecDepth 100000
open _root_.Bool renaming false_eq_true→jn,true_and→Jy,and_eq_true→jf,not_true→jT,not_false→Ji,or_eq_true→JI,not_eq_true'→j8,eq_iff_iff→JY,not_eq_true→Jt
open _root_.Int renaming toNat_natCast→ju,lt_irrefl→JS,mul_le_mul_of_nonneg_right→JC,tmod→Jr,tmod_eq_emod_of_nonneg→J3
open Go.IntKind renaming wrap→jb,bits→jj,signed→Jv
open _root_.List renaming all_eq_true→jx,cons_append→JK,length_cons→jq,mem_cons→jR,getElem_mem→jw,getD_cons_zero→jY,length_nil→jS,append_nil→JB,getD_eq_getElem?_getD→ja,length_append→jg,take_length→J4,length_take→jk,append_assoc→jQ,all_cons→Jq,nodup_append→JM,mem_flatMap→j9,any_eq_false→JE,getElem_of_mem→j3,mem_cons_self→Jf,pairwise_cons→J5,mem_cons_of_mem→JF,pairwise_iff_getElem→Je,getElem?_eq_getElem→JX,nil_append→Jd,length_set→j6,take_append_of_le_length→jU,mem_append→jm,flatMap_cons→Jm,take_of_length_le→jJ,replicate→jr,ext_getElem→J1,length_replicate→j1,getElem_append_left→JW,getElem_append_right→JT,take_succ_eq_append_getElem→Ju,range→Jc,length_pos_iff→Jz,length_drop→jL,length_range→JO,mem_map→ya,length_map→jG,mem_singleton→Jn,getElem?_append_left→jH,getElem?_append_right→jM,getElem_map→J6,flatten_cons→J7
open _root_.Nat renaming add_zero→Jj,le_refl→jA,le_trans→Jb,lt_or_ge→jv,eq_zero_or_pos→JH,zero_add→Jh
open Go.Op renaming bytesLess→jP
open _root_.Option renaming bind_some→je,isSome_some→JZ,getD_some→j7
namespace Go.Proofs.YtijnkhcfondehaaGreatDoor
open Go.AE
theorem dropWhile_nil {p:UInt8→Bool}:∀ {l:List UInt8},l.dropWhile p=[]↔∀ x∈l,p x=true
 | []=>by simp
 | x :: l=>by
  rw [List.dropWhile_cons];cases h:p x with
  | true=>simp [dropWhile_nil (l:=l),h]
  | false=>simp [h]
theorem ck6 {p:UInt8→Bool}:∀ {l:List UInt8} {x:UInt8} {t:List UInt8},l.dropWhile p=x :: t→p x=false
 | [],x,t,h=>by simp at h
 | y :: l,x,t,h=>by
  rw [List.dropWhile_cons] at h;cases hy:p y with
  | true=>rw [hy] at h;exact ck6 (by simpa using h)
  | false =>
   rw [hy] at h;simp only [jn,if_false,List.cons.injEq] at h;rw [← h.1];exact hy
theorem gwv (l cs:List UInt8):Go.Lib.trimS l cs=[]↔l.all (cs.contains ·)=true:=by
 have hr:Go.Lib.trimRightS l cs=[]↔l.all (cs.contains ·)=true:=by
  unfold Go.Lib.trimRightS;rw [List.reverse_eq_nil_iff,dropWhile_nil,jx];simp
 rw [← hr];unfold Go.Lib.trimS Go.Lib.trimLeftS;rw [dropWhile_nil];constructor
 ·intro h;unfold Go.Lib.trimRightS at h ⊢;rw [List.reverse_eq_nil_iff];cases hd:List.dropWhile (fun x=>cs.contains x) l.reverse with
  | nil=>rfl
  | cons x t =>
   exfalso;have h1:=h x (by rw [hd];simp);have h2:=ck6 hd;rw [h1] at h2;cases h2
 ·intro h x hx;rw [h] at hx;cases hx
theorem gqq (l cs:List UInt8):(Go.Lib.trimS l cs != []) = !l.all (cs.contains ·):=by
 have h1:=gwv l cs;cases h3:l.all (cs.contains ·) with
 | true=>simpa using h1.2 h3
 | false =>
  have:¬ Go.Lib.trimS l cs=[]:=fun e=>by rw [h1.1 e] at h3;cases h3
  simpa using this
def letB (b:UInt8):Bool:=if (decide (((b.toNat:Nat):Int) ≥ 65))=true then (decide (((b.toNat:Nat):Int)≤90)) else false
def digB (b:UInt8):Bool:=if (decide (((b.toNat:Nat):Int) ≥ 48))=true then (decide (((b.toNat:Nat):Int)≤57)) else false
def othB (b:UInt8):Bool:=if (if (((b.toNat:Nat):Int) == 64)=true then true else (((b.toNat:Nat):Int) == 35))=true then true else (((b.toNat:Nat):Int) == 36)
def chB (b:UInt8):Bool:=letB b || digB b || othB b
def hjr:List UInt8:=[65,66,67,68,69,70,71,72,73,74,75,76,77,78,79,80,81,82,83,84,85,86,87,88,89,90,48,49,50,51,52,53,54,55,56,57,64,35,36]
def gyc:List UInt8:=[65,66,67,68,69,70,71,72,73,74,75,76,77,78,79,80,81,82,83,84,85,86,87,88,89,90,48,49,50,51,52,53,54,55,56,57]
theorem dyf (b:UInt8):hjr.contains b=chB b:=by
 have h:∀ k:Fin 256,hjr.contains (UInt8.ofNat k.val)=chB (UInt8.ofNat k.val):=by decide
 have:=h ⟨b.toNat,b.toNat_lt⟩
 simpa using this
theorem dyr (b:UInt8):gyc.contains b=(letB b || digB b):=by
 have h:∀ k:Fin 256,gyc.contains (UInt8.ofNat k.val)=(letB (UInt8.ofNat k.val) || digB (UInt8.ofNat k.val)):=by decide
 have:=h ⟨b.toNat,b.toNat_lt⟩
 simpa using this
theorem ije (n:Nat) (l:List UInt8):∃ t,aqt n l hjr=some t∧(t != []) = !l.all chB:=by
 refine ⟨Go.Lib.trimS l hjr,?_,?_⟩
 ·rw [aqt,aja _ (by decide)]
 ·rw [gqq];congr 2;funext b;exact dyf b
theorem hq9 (n:Nat) (l:List UInt8):∃ t,aqt n l gyc=some t∧(t != []) = !l.all (fun b=>letB b || digB b):=by
 refine ⟨Go.Lib.trimS l gyc,?_,?_⟩
 ·rw [aqt,aja _ (by decide)]
 ·rw [gqq];congr 2;funext b;exact dyr b
def smp (p:List UInt8):Bool:=decide (1≤p.length) && decide (p.length≤8) && (p.all chB && !(match p with | []=>false | b :: _=>digB b))
def parts:List UInt8→List (List UInt8)
 | []=>[[]]
 | b :: l=>if b=46 then [] :: parts l else match parts l with
  | p :: ps=>(b :: p) :: ps
  | []=>[[b]]
theorem fwu:∀ s:List UInt8,parts s≠[]
 | []=>by simp [parts]
 | b :: l=>by
  unfold parts
  split
  ·simp
  ·split <;> simp
theorem djz:∀ {s:List UInt8},46 ∉ s→parts s=[s]
 | [],_=>rfl
 | b :: l,h=>by
  have hb:b≠46:=fun e=>h (by simp [e]);have hl:46 ∉ l:=fun e=>h (by simp [e]);rw [parts,if_neg hb,djz hl]
theorem ezv:∀ {a:List UInt8} (t:List UInt8),46 ∉ a→parts (a ++ 46 :: t)=a :: parts t
 | [],t,_=>by simp [parts]
 | b :: l,t,h=>by
  have hb:b≠46:=fun e=>h (by simp [e]);have hl:46 ∉ l:=fun e=>h (by simp [e]);rw [JK,parts,if_neg hb,ezv t hl]
theorem dyz:∀ {s:List UInt8},46 ∉ s→Go.Lib.indexByte s 46 = -1
 | [],_=>rfl
 | b :: l,h=>by
  have hb:b≠46:=fun e=>h (by simp [e]);have hl:46 ∉ l:=fun e=>h (by simp [e]);rw [Go.Lib.indexByte,dyz hl];simp [hb]
theorem eyo:∀ {a:List UInt8} (t:List UInt8),46 ∉ a→Go.Lib.indexByte (a ++ 46 :: t) 46=(a.length:Int)
 | [],t,_=>by simp [Go.Lib.indexByte]
 | b :: l,t,h=>by
  have hb:b≠46:=fun e=>h (by simp [e]);have hl:46 ∉ l:=fun e=>h (by simp [e]);rw [JK,Go.Lib.indexByte,eyo t hl]
  have:¬ ((l.length:Int) = -1):=by omega
  simp [hb,this]
theorem hqh:∀ s:List UInt8,46 ∉ s∨∃ a t,s=a ++ 46 :: t∧46 ∉ a
 | []=>.inl (by simp)
 | b :: l=>by
  by_cases hb:b=46
  ·exact .inr ⟨[],l,by simp [hb],by simp⟩
  ·rcases hqh l with h | ⟨a,t,rfl,ha⟩
   ·exact .inl (by simp [h,Ne.symm hb])
   ·exact .inr ⟨b :: a,t,by simp,by simp [ha,Ne.symm hb]⟩
theorem dwc:∀ (k:Nat) (s:List UInt8),s.count 46≤k→Go.Lib.splitK [46] 0 k s=parts s
 | 0,s,h=>by
  have:46 ∉ s:=fun hm=>by have:=List.count_pos_iff.2 hm;omega
  rw [djz this];rfl
 | k+1,s,h=>by
  rcases hqh s with hn | ⟨a,t,rfl,ha⟩
  ·rw [Go.Lib.splitK,Go.Lib.index_one,dyz hn,djz hn];rfl
  ·rw [Go.Lib.splitK,Go.Lib.index_one,eyo t ha,ezv t ha];have h1:¬ (((a.length:Nat):Int) = -1):=by omega
   have h2:t.count 46≤k:=by
    rw [List.count_append,List.count_cons_self] at h;omega
   simp only [beq_iff_eq,h1,if_false,ju,Jj,List.take_left,List.length_singleton]
   have:(a ++ 46 :: t).drop (a.length+1)=t:=by
    rw [show a ++ 46 :: t=(a ++ [46]) ++ t by simp,show a.length+1=(a ++ [46]).length by simp,List.drop_left]
   rw [this,dwc k t h2]
theorem fq1 (n:Nat) (s:List UInt8) (h:s.length < 4294967281):strings_Split n s [46]=some (parts s):=by
 rw [strings_Split,aja _ ⟨h,rfl⟩];unfold Go.Lib.split;rw [dwc _ _ (by rw [Go.Lib.count_one];exact jA _)]
theorem ey5:∀ s:List UInt8,(parts s).length≤s.length+1
 | []=>by simp [parts]
 | b :: l=>by
  have:=ey5 l
  unfold parts
  split
  ·simp only [jq];omega
  ·split
   ·rename_i p ps hp;rw [hp] at this;simp only [jq] at this ⊢;omega
   ·simp
def cq4 (s:List UInt8):Bool:=decide (s.length≤44) && (parts s).all smp
theorem gkc {s p:List UInt8} (h:p∈parts s):p.length≤s.length:=by
 induction s generalizing p with
 | nil=>simp [parts] at h;subst h;simp
 | cons b l ih =>
  unfold parts at h
  split at h
  ·rcases jR.1 h with rfl | h
   ·simp
   ·have:=ih h;simp only [jq];omega
  ·split at h
   ·rename_i q ps hp;rcases jR.1 h with rfl | h
    ·have:=ih (p:=q) (by rw [hp];simp);simp only [jq];omega
    ·have:=ih (p:=p) (by rw [hp];simp [h]);simp only [jq];omega
   ·simp at h;subst h;simp
theorem fq4 (n:Nat) (s:List UInt8) (hn:N0≤n):bk2 n s=some (cq4 s):=by
 have hn0:4194304≤n:=hn;unfold bk2 cq4;by_cases h44:s.length≤44
 ·have h1:decide ((s.length:Int) > 44)=false:=decide_eq_false (by omega);have h2:decide (s.length≤44)=true:=decide_eq_true h44;rw [h1,cond_false,fq1 n s (by omega),h2,Jy,je];have hpl:=ey5 s
  have key:ajo (fun (x:Int)=>bwc n (parts s) (((parts s).length:Nat):Int) x) n 0=some (if (parts s).any (fun p=>!smp p)=true then .inl false else .inr ()):=by
   refine bkm (parts s) (fun p=>!smp p) _ _ (fun k hk=>?_) ?_ (by omega)
   ·have hlt:((k:Nat):Int) < (((parts s).length:Nat):Int):=by omega
    have h0:(0:Int)≤(k:Int):=by omega
    unfold bwc;have hpk:=gkc (jw hk);simp only [decide_eq_true hlt,cond_true,ju,aqk hk];rw [aja _ ⟨⟨h0,hlt⟩,hk⟩];generalize (parts s)[k]=p at hpk ⊢;rw [wid (n:=(k:Int)+1) (by omega)];obtain ⟨t,ht1,ht2⟩:=ije n p;have ht1':aqt n p [65,66,67,68,69,70,71,72,73,74,75,76,77,78,79,80,81,82,83,84,85,86,87,88,89,90,48,49,50,51,52,53,54,55,56,57,64,35,36]=some t:=ht1;rw [ht1'];cases p with
    | nil=>simp [smp,gd]
    | cons b q =>
     have e1:decide (((b :: q).length:Int) < 1)=false:=decide_eq_false (by simp only [jq];omega);have e0:(0:Int) < ((b :: q).length:Int):=by simp only [jq];omega
     simp only [e1,e0,implies_true,and_self,jn,if_false,jY,je,ht2];rw [aja _ trivial];have e5:decide (1≤(b :: q).length)=true:=decide_eq_true (by simp only [jq];omega)
     have e6:decide (((b :: q).length:Int) > 8) = !decide ((b :: q).length≤8):=by
      by_cases h:(b :: q).length≤8
      ·rw [decide_eq_true h,decide_eq_false (by omega)];rfl
      ·rw [decide_eq_false h,decide_eq_true (by omega)];rfl
     have e7:(if (decide (((b.toNat:Nat):Int) ≥ 48))=true then (decide (((b.toNat:Nat):Int)≤57)) else false)=digB b:=rfl;simp only [e6,e7,smp,e5,Jy];cases decide ((b :: q).length≤8) <;> cases digB b <;> cases (b :: q).all chB <;> rfl
   ·unfold bwc;simp only [JS,decide_false,cond_false]
  rw [key,je]
  have ha:(parts s).any (fun p=>!smp p) = !(parts s).all smp:=by
   rw [List.all_eq_not_any_not];simp
  rw [ha];cases (parts s).all smp <;> rfl
 ·have h1:decide ((s.length:Int) > 44)=true:=decide_eq_true (by omega);have h2:decide (s.length≤44)=false:=decide_eq_false h44;rw [h1,h2];rfl
end Go.Proofs.YtijnkhcfondehaaGreatDoor
/-
 ch. 21: names by the specification; serials, empty tables.
-/
namespace Go.Proofs.YtijnkhcfondehaaGreatDoor
open Go.AE
def serB (s:List UInt8):Bool:=decide (1≤s.length) && decide (s.length≤6) && s.all (fun b=>letB b || digB b)
def inB (x lo hi:Int):Bool:=decide (lo≤x) && decide (x≤hi)
theorem fku (n:Nat) (x lo hi:Int):aq6 n x lo hi=some (inB x lo hi):=by
 unfold aq6 inB;by_cases h:lo≤x
 ·simp [h]
 ·simp [h]
theorem fyx (s:List UInt8):inB (s.length:Int) 1 6=(decide (1≤s.length) && decide (s.length≤6)):=by
 unfold inB;congr 1 <;> (apply decide_eq_decide.2;omega)
def cz1 (s:List UInt8) (c h z:Int):Bool:=serB s && inB c 1 64 && inB h 1 8 && inB z 1 (jb .i64 (jb .i64 (c * h) - 1))
theorem dj1 {s:List UInt8} {c h z:Int} (hh:cz1 s c h z=true):1≤z∧z≤511:=by
 simp only [cz1,inB,jf,decide_eq_true_eq] at hh;obtain ⟨⟨⟨_,h1,h2⟩,h3,h4⟩,h5,h6⟩:=hh
 have e1:1≤c * h:=by
  have:0 < c * h:=Int.mul_pos (by omega) (by omega)
  omega
 have e2:c * h≤512:=by
  have a:c * h≤64 * h:=JC h2 (by omega);omega
 rw [wid (n:=c * h) (by omega),wid (n:=c * h - 1) (by omega)] at h6;omega
theorem gw0 (n:Nat) (hn:N0≤n) (s:List UInt8) (c h z:Int) (hs:s.length≤2097152):awb n ⟨s,c,h,z,[]⟩=some (if cz1 s c h z=true then 0 else 5):=by
 have hn0:4194304≤n:=hn;unfold awb;obtain ⟨t,ht1,ht2⟩:=hq9 n s;have ht1':aqt n s [65,66,67,68,69,70,71,72,73,74,75,76,77,78,79,80,81,82,83,84,85,86,87,88,89,90,48,49,50,51,52,53,54,55,56,57]=some t:=ht1;simp only [fku,je,ht1',JZ,j7,implies_true,and_self,ht2,fyx];rw [aja _ trivial]
 have e1:(if (!(decide (1≤s.length) && decide (s.length≤6)))=true then true else !s.all fun b=>letB b || digB b) = !serB s:=by
  unfold serB;cases (decide (1≤s.length) && decide (s.length≤6)) <;> simp
 rw [e1];cases hser:serB s with
 | false=>simp [cz1,hser]
 | true =>
  simp only [jT,cond_false];rw [aja _ trivial]
  have e2:(if (if (!inB c 1 64)=true then true else !inB h 1 8)=true then true else !inB z 1 (jb .i64 (jb .i64 (c * h) - 1))) = !cz1 s c h z:=by
   unfold cz1;rw [hser];cases inB c 1 64 <;> cases inB h 1 8 <;> simp
  rw [e2];cases hh:cz1 s c h z with
  | false=>simp
  | true =>
   obtain ⟨z1,z2⟩:=dj1 hh;simp only [jT,cond_false,if_true];have w1:jb .i64 (14 * z)=14 * z:=wid (by omega);have w2:jb .i64 (z+1)=z+1:=wid (by omega);rw [w1,w2]
   have e3:decide ((([]:List aj5).length:Int) > (if 14 * z < 64 then 14 * z else 64))=false:=by
    refine decide_eq_false ?_;simp only [jS]
    split <;> omega
   rw [e3,cond_false]
   have hl:ajo (fun (x:(List aj0)×Int)=>awd n ⟨s,c,h,z,[]⟩ ((([]:List aj5).length:Nat):Int) x.1 x.2) n ([(⟨0,z+1⟩:aj0)],0)=some (.inr [(⟨0,z+1⟩:aj0)]):=by
    obtain ⟨m,rfl⟩:∃ m,n=m+1:=⟨n - 1,by omega⟩;refine ajw ?_;simp [awd]
   have hv:(trkF [] [(⟨0,z+1⟩:aj0)]).isSome=true:=by
    rw [ajx];refine ⟨?_,?_⟩
    ·have:val ⟨0,z+1⟩=true:=(aq0 _).2 ⟨by simp,by simp only;omega,by simp,by simp only;omega⟩
     simp [this]
    ·rw [aqx];simp only [trks,List.flatMap_nil,JB];exact dk1 _
   have hl':ajo (fun (x:(List aj0)×Int)=>awd n ⟨s,c,h,z,[]⟩ (([]:List aj5).length:Int) x.1 x.2) n ([(⟨0,z+1⟩:aj0)],0)=some (.inr [(⟨0,z+1⟩:aj0)]):=hl;rw [hl',je];simp only [bjy,cwi n hn [(⟨0,z+1⟩:aj0)] (by simp),hv,je,jT,cond_false]
theorem gke:bk0 N0=some true:=by decide +kernel
end Go.Proofs.YtijnkhcfondehaaGreatDoor
/-
 ch. 21: valid tables, by the program and by the specification.
-/
namespace Go.Proofs.YtijnkhcfondehaaGreatDoor
open Go.AE
def dscB (d:TDcb):Bool:=inB d.Org 1 3 && inB d.Format 1 3 && inB d.Lrecl 0 1024 && inB d.Blksize 0 1024 && inB d.KeyPos 0 1024 && inB d.KeyLen 0 64
theorem fjl (n:Nat) (d:TDcb):aqn n d=some (dscB d):=by
 simp only [aqn,fku,je,JZ,j7,implies_true,and_self,dzh];rw [aja _ trivial];rfl
def exts (l:List aj5):List aj0:=l.flatMap (·.Extents)
def capV (v:aj6):Int:=jb .i64 (v.Cyls * v.Heads)
def dwp (v:aj6) (x:aj0):Bool:=decide (jb .i64 (x.At+x.Len) > capV v)
def pLbl (v:aj6) (d:aj5):Bool:=cq4 d.Name && dscB d.Dcb && inB (d.Extents.length:Int) 1 8 && (trkF [] d.Extents).isSome && !d.Extents.any (dwp v) && inB d.Used 0 (((trkO d.Extents).length:Nat):Int)
def rLbl (v:aj6) (d:aj5):Bool:=!d.Extents.any (fun x=>decide (x.At≤v.Size) || dwp v x) && (cq4 d.Name && dscB d.Dcb && inB (d.Extents.length:Int) 1 8 && (trkF [] d.Extents).isSome && inB d.Used 0 (((trkO d.Extents).length:Nat):Int))
theorem aqk {α:Type} [Inhabited α] {l:List α} {k:Nat} (h:k < l.length):gt l k=l[k]:=by simp [gt,ja,h]
theorem hkt (n:Nat) (hn:N0≤n) (v:aj6) (d:aj5) (hd:d.Extents.length≤1048576):ay8 n v d=some (pLbl v d):=by
 have hn0:4194304≤n:=hn;unfold ay8;simp only [fq4 n _ hn,fjl,fku,cwi n hn d.Extents (by omega),je,JZ,j7,implies_true,and_self];rw [aja _ trivial]
 have e1:(if (if (if (!cq4 d.Name)=true then true else !dscB d.Dcb)=true then true else !inB (d.Extents.length:Int) 1 8)=true then true else !(trkF [] d.Extents).isSome) = !(cq4 d.Name && dscB d.Dcb && inB (d.Extents.length:Int) 1 8 && (trkF [] d.Extents).isSome):=by
  simp only [cw3,Bool.not_and]
 rw [e1];unfold pLbl;cases (cq4 d.Name && dscB d.Dcb && inB (d.Extents.length:Int) 1 8 && (trkF [] d.Extents).isSome) with
 | false=>simp
 | true =>
  simp only [jT,cond_false,Jy]
  have key:ajo (fun (x:Int)=>azn n v d (d.Extents.length:Int) x) n 0=some (if d.Extents.any (dwp v)=true then .inl false else .inr ()):=by
   refine bkm d.Extents (dwp v) _ _ (fun k hk=>?_) ?_ (by omega)
   ·have hlt:((k:Nat):Int) < (d.Extents.length:Int):=by omega
    unfold azn;rw [decide_eq_true hlt,cond_true,aja _ ⟨by omega,hlt⟩,ju,aqk hk,wid (n:=(k:Int)+1) (by omega)];show (bif dwp v d.Extents[k] then _ else _)=_;cases dwp v d.Extents[k] <;> rfl
   ·unfold azn;simp only [JS,decide_false,cond_false]
  rw [key,je];cases d.Extents.any (dwp v) with
  | true=>simp
  | false=>simp only [jn,if_false,akq,fz4 n hn d.Extents (by omega),fku,je,Ji,Jy]
def ordB (l:List aj5) (k:Nat):Bool:=decide (0 < k) && !jP (gt l (k - 1)).Name (gt l k).Name
def pBad (v:aj6) (k:Nat):Bool:=!pLbl v (gt v.Sets k) || ordB v.Sets k
def rBad (v:aj6) (k:Nat):Bool:=!rLbl v (gt v.Sets k) || ordB v.Sets k
def bqo (v:aj6):Prop:=v.Sets.length≤300∧v.Serial.length≤400∧∀ d∈v.Sets,d.Name.length≤400∧d.Extents.length≤20
theorem bwm (d:aj5) (l:List aj5):exts (d :: l)=d.Extents ++ exts l:=rfl
theorem cjc (a b:List aj5):exts (a ++ b)=exts a ++ exts b:=by simp [exts]
theorem ckt:∀ {l:List aj5},(∀ d∈l,d.Name.length≤400∧d.Extents.length≤20)→(exts l).length≤20 * l.length
 | [],_=>by simp [exts]
 | d :: l,h=>by
  have h1:=(h d (by simp)).2;have h2:=ckt (l:=l) fun x hx=>h x (by simp [hx]);rw [bwm,jg,jq];omega
theorem ek9 {l:List aj5} {k:Nat} (h:k < l.length):exts (l.take (k+1))=exts (l.take k) ++ (gt l k).Extents:=by
 rw [List.take_add_one,cjc,aqk h];simp [h,exts]
theorem eja (n:Nat) (hn:N0≤n) (v:aj6) (hv:bqo v) (u0:List aj0) (hu:u0.length≤1):∀ j k m,k+j=v.Sets.length→j < m →
  ajo (fun (x:(List aj0)×Int)=>awd n v (v.Sets.length:Int) x.1 x.2) m (u0 ++ exts (v.Sets.take k),(k:Int))=some (if (List.range' k j).any (pBad v)=true then .inl 5 else .inr (u0 ++ exts v.Sets))
 | 0,k,m,hj,hm=>by
  obtain ⟨m,rfl⟩:∃ q,m=q+1:=⟨m - 1,by omega⟩;have hk:k=v.Sets.length:=by omega
  subst hk;refine (ajw (y:=.inr (u0 ++ exts v.Sets)) ?_).trans (by simp);unfold awd;simp only [JS,decide_false,cond_false,J4]
 | j+1,k,m,hj,hm=>by
  obtain ⟨h1,h2,h3⟩:=hv;obtain ⟨m,rfl⟩:∃ q,m=q+1:=⟨m - 1,by omega⟩;have hk:k < v.Sets.length:=by omega
  have hlt:((k:Nat):Int) < (v.Sets.length:Int):=by omega
  have hmem:gt v.Sets k∈v.Sets:=by rw [aqk hk];exact jw hk
  have hx:=(h3 _ hmem).2
  have hb:awd n v (v.Sets.length:Int) (u0 ++ exts (v.Sets.take k)) (k:Int)=some (if pBad v k=true then .inr (.inl 5) else .inl (u0 ++ exts (v.Sets.take (k+1)),((k+1:Nat):Int))):=by
   unfold awd;have hel:=ckt (l:=v.Sets.take k) fun d hd=>h3 d (List.mem_of_mem_take hd);rw [jk] at hel;have hap:(u0 ++ exts (v.Sets.take k)).length+(gt v.Sets k).Extents.length≤2147483648:=by rw [jg];omega
   simp only [decide_eq_true hlt,cond_true,ju,hkt n hn v _ (Jb hx (by decide)),je]
   rw [aja _ ⟨by omega,hlt⟩,aja _ (by
    intro hc;simp only [jf,decide_eq_true_eq] at hc
    rw [wid (n:=(k:Int) - 1) (by omega)];omega)]
   have eo:(if decide ((k:Int) > 0)=true then !jP (gt v.Sets (jb .i64 ((k:Int) - 1)).toNat).Name (gt v.Sets k).Name else false)=ordB v.Sets k:=by
    unfold ordB;rw [dzh];by_cases h0:0 < k
    ·have:(k:Int) > 0:=by omega
     have e:(jb .i64 ((k:Int) - 1)).toNat=k - 1:=by rw [wid (by omega)];omega
     rw [e,decide_eq_true this,decide_eq_true h0]
    ·have:¬ ((k:Int) > 0):=by omega
     rw [decide_eq_false this,decide_eq_false h0];rfl
   rw [eo,cw3,aja _ hap,wid (n:=(k:Int)+1) (by omega),ek9 hk];show (bif pBad v k then _ else _)=_;rw [← jQ];cases pBad v k <;> rfl
  rw [List.range'_succ,List.any_cons];cases hp:pBad v k with
  | true =>
   rw [hp] at hb;rw [ajw (y:=.inl 5) (by simpa using hb)];simp
  | false =>
   rw [hp] at hb;rw [aq5 (x':=(u0 ++ exts (v.Sets.take (k+1)),((k+1:Nat):Int))) (by simpa using hb),eja n hn v ⟨h1,h2,h3⟩ u0 hu j (k+1) m (by omega) (by omega),Bool.false_or]
end Go.Proofs.YtijnkhcfondehaaGreatDoor
/-
 ch. 21: Check is Valid; Free.
-/
namespace Go.Proofs.YtijnkhcfondehaaGreatDoor
open Go.AE
def head (v:aj6):Bool:=cz1 v.Serial v.Cyls v.Heads v.Size
def pV (v:aj6):Bool:=head v && !decide ((v.Sets.length:Int) > (if jb .i64 (14 * v.Size) < 64 then jb .i64 (14 * v.Size) else 64)) && !(List.range' 0 v.Sets.length).any (pBad v) && (trkF [] (⟨0,jb .i64 (v.Size+1)⟩ :: exts v.Sets)).isSome
def rV (v:aj6):Bool:=head v && !decide ((v.Sets.length:Int) > 64) && !decide ((v.Sets.length:Int) > jb .i64 (14 * v.Size)) && !(List.range' 0 v.Sets.length).any (rBad v) && (trkF [] (exts v.Sets)).isSome
theorem bwj (n:Nat) (hn:N0≤n) (v:aj6) (hv:bqo v):awb n v=some (if pV v=true then 0 else 5):=by
 have hn0:4194304≤n:=hn;obtain ⟨h1,h2,h3⟩:=hv;unfold awb;obtain ⟨t,ht1,ht2⟩:=hq9 n v.Serial;have ht1':aqt n v.Serial [65,66,67,68,69,70,71,72,73,74,75,76,77,78,79,80,81,82,83,84,85,86,87,88,89,90,48,49,50,51,52,53,54,55,56,57]=some t:=ht1;simp only [fku,je,ht1',JZ,j7,implies_true,and_self,ht2,fyx];rw [aja _ trivial]
 have e1:(if (!(decide (1≤v.Serial.length) && decide (v.Serial.length≤6)))=true then true else !v.Serial.all fun b=>letB b || digB b) = !serB v.Serial:=by
  unfold serB;cases (decide (1≤v.Serial.length) && decide (v.Serial.length≤6)) <;> simp
 rw [e1];unfold pV head;cases hser:serB v.Serial with
 | false=>simp [cz1,hser]
 | true =>
  simp only [jT,cond_false];rw [aja _ trivial]
  have e2:(if (if (!inB v.Cyls 1 64)=true then true else !inB v.Heads 1 8)=true then true else !inB v.Size 1 (jb .i64 (jb .i64 (v.Cyls * v.Heads) - 1))) = !cz1 v.Serial v.Cyls v.Heads v.Size:=by
   unfold cz1;rw [hser];cases inB v.Cyls 1 64 <;> cases inB v.Heads 1 8 <;> simp
  rw [e2];cases hh:cz1 v.Serial v.Cyls v.Heads v.Size with
  | false=>simp
  | true =>
   simp only [jT,cond_false,Jy];cases hl:decide ((v.Sets.length:Int) > (if jb .i64 (14 * v.Size) < 64 then jb .i64 (14 * v.Size) else 64)) with
   | true=>simp
   | false =>
    simp only [cond_false,Ji,Jy];have key:=eja n hn v ⟨h1,h2,h3⟩ [⟨0,jb .i64 (v.Size+1)⟩] (by simp) v.Sets.length 0 n (by omega) (by omega);simp only [List.take_zero] at key;have key':ajo (fun (x:(List aj0)×Int)=>awd n v (v.Sets.length:Int) x.1 x.2) n ([(⟨0,jb .i64 (v.Size+1)⟩:aj0)],0)=some (if (List.range' 0 v.Sets.length).any (pBad v)=true then .inl 5 else .inr ([(⟨0,jb .i64 (v.Size+1)⟩:aj0)] ++ exts v.Sets)):=key;rw [key',je];cases (List.range' 0 v.Sets.length).any (pBad v) with
    | true=>simp
    | false =>
     have hel:=ckt h3;have hle:((⟨0,jb .i64 (v.Size+1)⟩:aj0) :: exts v.Sets).length≤1073741824:=by rw [jq];omega
     simp only [jn,if_false,List.singleton_append,bjy,cwi n hn _ hle,je,Ji,Jy];cases (trkF [] ((⟨0,jb .i64 (v.Size+1)⟩:aj0) :: exts v.Sets)).isSome <;> rfl
theorem ejo {S:Int} (hS:0≤S∧S≤511) (A:List aj0):(trkF [] (⟨0,S+1⟩ :: A)).isSome=true↔(trkF [] A).isSome=true∧∀ x∈A,S < x.At:=by
 rw [ajx,ajx,aqx,Jq,jf,JM];have hv0:val ⟨0,S+1⟩=true:=(aq0 _).2 ⟨by simp,by simp only;omega,by simp,by simp only;omega⟩;constructor
 ·rintro ⟨⟨_,h1⟩,_,h2,h3⟩;refine ⟨⟨h1,h2⟩,fun x hx=>?_⟩;have hvx:=(aq0 x).1 (jx.1 h1 x hx);have hm:x.At∈trks A:=j9.2 ⟨x,hx,azu.2 ⟨by omega,by omega⟩⟩;by_cases hc:S < x.At
  ·exact hc
  ·exact absurd rfl (h3 x.At (azu.2 ⟨by simp only;omega,by simp only;omega⟩) x.At hm)
 ·rintro ⟨⟨h1,h2⟩,h3⟩;refine ⟨⟨hv0,h1⟩,dk1 _,h2,fun a ha b hb e=>?_⟩;subst e;obtain ⟨x,hx,hb⟩:=j9.1 hb
  have:=h3 x hx
  have h4:=azu.1 ha;have h5:=azu.1 hb;simp only at h4;omega
theorem ekv {p:Nat→Bool} {m:Nat}:(List.range' 0 m).any p=false↔∀ k,k < m→p k=false:=by
 rw [JE];constructor
 ·intro h k hk
  have:=h k (by simp [List.mem_range',hk])
  simpa using this
 ·intro h k hk
  have:k < m:=by simpa [List.mem_range'] using hk
  simp [h k this]
theorem gym {v:aj6} {k:Nat}:pBad v k=false↔pLbl v (gt v.Sets k)=true∧ordB v.Sets k=false:=by
 unfold pBad;cases pLbl v (gt v.Sets k) <;> cases ordB v.Sets k <;> simp
theorem hjt {v:aj6} {d:aj5}:rLbl v d=true↔pLbl v d=true∧∀ x∈d.Extents,v.Size < x.At:=by
 have e:d.Extents.any (fun x=>decide (x.At≤v.Size) || dwp v x)=false↔d.Extents.any (dwp v)=false∧∀ x∈d.Extents,v.Size < x.At:=by
  simp only [JE,JI,decide_eq_true_eq,not_or];constructor
  ·intro h;exact ⟨fun x hx=>(h x hx).2,fun x hx=>by have:=(h x hx).1;omega⟩
  ·rintro ⟨h1,h2⟩ x hx;exact ⟨by have:=h2 x hx;omega,h1 x hx⟩
 unfold rLbl pLbl;simp only [jf,j8,e];constructor
 ·rintro ⟨⟨h1,h2⟩,⟨⟨⟨h3,h4⟩,h5⟩,h6⟩,h7⟩;exact ⟨⟨⟨⟨⟨⟨h3,h4⟩,h5⟩,h6⟩,h1⟩,h7⟩,h2⟩
 ·rintro ⟨⟨⟨⟨⟨⟨h3,h4⟩,h5⟩,h6⟩,h1⟩,h7⟩,h2⟩;exact ⟨⟨h1,h2⟩,⟨⟨⟨h3,h4⟩,h5⟩,h6⟩,h7⟩
theorem fwg {v:aj6} {k:Nat}:rBad v k=false↔(pLbl v (gt v.Sets k)=true∧∀ x∈(gt v.Sets k).Extents,v.Size < x.At)∧ordB v.Sets k=false:=by
 rw [← hjt];unfold rBad;cases rLbl v (gt v.Sets k) <;> cases ordB v.Sets k <;> simp
theorem eqw {l:List aj5} {x:aj0}:x∈exts l↔∃ k,k < l.length∧x∈(gt l k).Extents:=by
 unfold exts;rw [j9];constructor
 ·rintro ⟨d,hd,hx⟩;obtain ⟨k,hk,rfl⟩:=j3 hd;exact ⟨k,hk,by rw [aqk hk];exact hx⟩
 ·rintro ⟨k,hk,hx⟩;exact ⟨_,jw hk,by rw [← aqk hk];exact hx⟩
theorem eym (v:aj6):pV v=rV v:=by
 unfold pV rV;cases hh:head v with
 | false=>simp
 | true =>
  obtain ⟨z1,z2⟩:=dj1 hh;have w1:jb .i64 (14 * v.Size)=14 * v.Size:=wid (by omega);have w2:jb .i64 (v.Size+1)=v.Size+1:=wid (by omega);rw [JY,w1,w2];simp only [Jy,jf,j8,decide_eq_false_iff_not,ekv,gym,fwg,ejo (S:=v.Size) ⟨by omega,by omega⟩]
  have em:¬ ((v.Sets.length:Int) > if 14 * v.Size < 64 then 14 * v.Size else 64)↔¬ ((v.Sets.length:Int) > 64)∧¬ ((v.Sets.length:Int) > 14 * v.Size):=by
   split <;> omega
  rw [em];constructor
  ·rintro ⟨⟨⟨h1,h2⟩,h3⟩,h4,h5⟩;exact ⟨⟨⟨h1,h2⟩,fun k hk=>⟨⟨(h3 k hk).1,fun x hx=>h5 x (eqw.2 ⟨k,hk,hx⟩)⟩,(h3 k hk).2⟩⟩,h4⟩
  ·rintro ⟨⟨⟨h1,h2⟩,h3⟩,h4⟩;refine ⟨⟨⟨h1,h2⟩,fun k hk=>⟨(h3 k hk).1.1,(h3 k hk).2⟩⟩,h4,fun x hx=>?_⟩;obtain ⟨k,hk,hx⟩:=eqw.1 hx;exact (h3 k hk).1.2 x hx
theorem gzu {v:aj6}:rV v=true↔head v=true∧v.Sets.length≤64∧(v.Sets.length:Int)≤14 * v.Size∧(∀ k,k < v.Sets.length→(pLbl v (gt v.Sets k)=true∧∀ x∈(gt v.Sets k).Extents,v.Size < x.At)∧ordB v.Sets k=false)∧(trkF [] (exts v.Sets)).isSome=true:=by
 unfold rV;cases hh:head v with
 | false=>simp
 | true =>
  obtain ⟨z1,z2⟩:=dj1 hh;have w1:jb .i64 (14 * v.Size)=14 * v.Size:=wid (by omega);rw [w1];simp only [Jy,jf,j8,decide_eq_false_iff_not,ekv,fwg,true_and];constructor
  ·rintro ⟨⟨⟨h1,h2⟩,h3⟩,h4⟩;exact ⟨by omega,by omega,h3,h4⟩
  ·rintro ⟨h1,h2,h3,h4⟩;exact ⟨⟨⟨by omega,by omega⟩,h3⟩,h4⟩
theorem fyj (n:Nat) (hn:N0≤n) (v:aj6) (hv:bqo v) (u0:List aj0) (hu:u0.length≤1):∀ j k m,k+j=v.Sets.length→j < m →
  ajo (fun (x:(List aj0)×Int)=>bjn n v (v.Sets.length:Int) x.1 x.2) m (u0 ++ exts (v.Sets.take k),(k:Int))=some (u0 ++ exts v.Sets):=by
 obtain ⟨h1,h2,h3⟩:=hv;intro j
 induction j with
 | zero =>
  intro k m hj hm;obtain ⟨m,rfl⟩:∃ q,m=q+1:=⟨m - 1,by omega⟩;have hk:k=v.Sets.length:=by omega
  subst hk;refine ajw ?_;unfold bjn;simp only [JS,decide_false,cond_false,J4]
 | succ j ih =>
  intro k m hj hm;obtain ⟨m,rfl⟩:∃ q,m=q+1:=⟨m - 1,by omega⟩;have hk:k < v.Sets.length:=by omega
  have hlt:((k:Nat):Int) < (v.Sets.length:Int):=by omega
  have hmem:gt v.Sets k∈v.Sets:=by rw [aqk hk];exact jw hk
  have hx:=(h3 _ hmem).2;have hel:=ckt (l:=v.Sets.take k) fun d hd=>h3 d (List.mem_of_mem_take hd);rw [jk] at hel;refine (aq5 (x':=(u0 ++ exts (v.Sets.take (k+1)),((k+1:Nat):Int))) ?_).trans (ih (k+1) m (by omega) (by omega));unfold bjn;simp only [decide_eq_true hlt,cond_true,ju];rw [aja _ ⟨by omega,hlt⟩,aja _ (by rw [jg];omega),wid (n:=(k:Int)+1) (by omega),ek9 hk,jQ];rfl
end Go.Proofs.YtijnkhcfondehaaGreatDoor
/-
 ch. 21: the order of names; where a label stands; copies.
-/
namespace Go.Proofs.YtijnkhcfondehaaGreatDoor
open Go.AE
theorem bwl (x:List UInt8):jP x x=false:=by
 rw [Go.Proofs.bytesLess_eq];simp [List.lt_irrefl]
theorem cwj {x y z:List UInt8} (h1:jP x y=true) (h2:jP y z=true):jP x z=true:=by
 rw [Go.Proofs.bytesLess_eq,decide_eq_true_eq] at *;exact List.lt_trans h1 h2
theorem dz1 (x y:List UInt8):jP x y=true∨x=y∨jP y x=true:=by
 simp only [Go.Proofs.bytesLess_eq,decide_eq_true_eq];rcases Std.lt_trichotomy x y with h | h | h
 ·exact .inl h
 ·exact .inr (.inl h)
 ·exact .inr (.inr h)
theorem fq0 {x y:List UInt8} (h:jP x y=true):x≠y:=by
 rintro rfl;rw [bwl] at h;cases h
theorem eqr {x y:List UInt8} (h:jP x y=true):jP y x=false:=by
 cases h2:jP y x with
 | false=>rfl
 | true=>have:=cwj h h2;rw [bwl] at this;cases this
theorem dz9 (x y:List UInt8):cmpS x y < 0↔jP x y=true:=by
 unfold cmpS;by_cases h:jP x y=true
 ·simp [h]
 ·by_cases h2:x=y
  ·subst h2;simp [bwl]
  ·simp [h,h2]
theorem gwg (x y:List UInt8):cmpS x y=0↔x=y:=by
 unfold cmpS;by_cases h:jP x y=true
 ·simp only [h,if_true];exact ⟨fun e=>by omega,fun e=>absurd e (fq0 h)⟩
 ·by_cases h2:x=y
  ·subst h2;simp [bwl]
  ·simp [h,h2]
abbrev wlt (a b:aj5):Prop:=jP a.Name b.Name=true
theorem ewq:∀ {a b:List aj5},a.Pairwise wlt→b.Pairwise wlt→(∀ v,v∈a↔v∈b)→a=b
 | [],[],_,_,_=>rfl
 | [],y :: b,_,_,h=>absurd ((h y).2 Jf) (by simp)
 | x :: a,[],_,_,h=>absurd ((h x).1 Jf) (by simp)
 | x :: a,y :: b,ha,hb,h=>by
  have ha':=J5.1 ha;have hb':=J5.1 hb
  have hxy:x=y:=by
   rcases jR.1 ((h x).1 Jf) with e | hx
   ·exact e
   ·rcases jR.1 ((h y).2 Jf) with e | hy
    ·exact e.symm
    ·have h1:=hb'.1 x hx;have h2:=ha'.1 y hy
     have:=eqr h1
     rw [h2] at this;cases this
  subst hxy;congr 1;refine ewq ha'.2 hb'.2 fun v=>?_;constructor
  ·intro hv;rcases jR.1 ((h v).1 (JF _ hv)) with e | h1
   ·subst e;have:=ha'.1 v hv;rw [wlt,bwl] at this;cases this
   ·exact h1
  ·intro hv;rcases jR.1 ((h v).2 (JF _ hv)) with e | h1
   ·subst e;have:=hb'.1 v hv;rw [wlt,bwl] at this;cases this
   ·exact h1
theorem eyv {l:List aj5}:(∀ k,k < l.length→ordB l k=false)↔l.Pairwise wlt:=by
 constructor
 ·intro h
  have step:∀ k,0 < k→k < l.length→wlt (gt l (k - 1)) (gt l k):=by
   intro k h0 hk
   have:=h k hk
   unfold ordB at this;rw [decide_eq_true h0,Jy] at this;show jP _ _=true;cases hb:jP (gt l (k - 1)).Name (gt l k).Name with
   | true=>rfl
   | false=>rw [hb] at this;cases this
  have far:∀ d i,i+d+1 < l.length→wlt (gt l i) (gt l (i+d+1)):=by
   intro d
   induction d with
   | zero=>intro i hi;have:=step (i+1) (by omega) (by omega);simpa using this
   | succ d ih =>
    intro i hi;have h1:=ih i (by omega);have h2:=step (i+(d+1)+1) (by omega) hi;have e:i+(d+1)+1 - 1=i+d+1:=by omega
    rw [e] at h2;exact cwj h1 h2
  rw [Je];intro i j hi hj hij
  have:=far (j - i - 1) i (by omega)
  have e:i+(j - i - 1)+1=j:=by omega
  rw [e,aqk hi,aqk hj] at this;exact this
 ·intro h k hk;unfold ordB;by_cases h0:0 < k
  ·rw [Je] at h
   have:=h (k - 1) k (by omega) hk (by omega)
   rw [aqk hk,aqk (by omega:k - 1 < l.length)];rw [wlt] at this;rw [this];simp
  ·rw [decide_eq_false h0];rfl
def lowN (l:List aj5) (name:List UInt8):Nat:=(l.takeWhile fun d=>jP d.Name name).length
theorem gj3 (l:List aj5) (name:List UInt8):lowN l name≤l.length:=by
 unfold lowN;exact List.Sublist.length_le (List.takeWhile_sublist _)
theorem dq1 {l:List aj5} {name:List UInt8}:∀ k,k < lowN l name→jP (gt l k).Name name=true:=by
 induction l with
 | nil=>intro k hk;simp [lowN] at hk
 | cons d l ih =>
  intro k hk;unfold lowN at hk;rw [List.takeWhile_cons] at hk;by_cases hd:jP d.Name name=true
  ·rw [if_pos hd,jq] at hk;cases k with
   | zero=>simpa [gt] using hd
   | succ k=>have:=ih k (by unfold lowN;omega);simpa [gt] using this
  ·rw [if_neg hd] at hk;simp at hk
theorem fj1 {l:List aj5} {name:List UInt8} (h:lowN l name < l.length):jP (gt l (lowN l name)).Name name=false:=by
 induction l with
 | nil=>simp at h
 | cons d l ih =>
  unfold lowN at h ⊢;rw [List.takeWhile_cons] at h ⊢;by_cases hd:jP d.Name name=true
  ·rw [if_pos hd,jq] at h ⊢
   have:=ih (by unfold lowN;simpa using h)
   simpa [gt,lowN] using this
  ·rw [if_neg hd];simpa [gt] using hd
theorem fzh {l:List aj5} {name:List UInt8} (hs:l.Pairwise wlt) {k:Nat} (h1:lowN l name≤k) (h2:k < l.length):jP (gt l k).Name name=false:=by
 rcases jv (lowN l name) k with hlt | hge
 ·have h3:=fj1 (name:=name) (by omega:lowN l name < l.length);rw [Je] at hs;have h4:=hs (lowN l name) k (by omega) h2 hlt;rw [← aqk,← aqk] at h4;cases h5:jP (gt l k).Name name with
  | false=>rfl
  | true=>have:=cwj h4 h5;rw [h3] at this;cases this
 ·have:k=lowN l name:=by omega
  subst this;exact fj1 h2
def hasN (l:List aj5) (name:List UInt8):Bool:=l.any fun d=>d.Name == name
theorem fwo {l:List aj5} {name:List UInt8} (hs:l.Pairwise wlt):hasN l name=true↔lowN l name < l.length∧(gt l (lowN l name)).Name=name:=by
 unfold hasN;rw [List.any_eq_true];constructor
 ·rintro ⟨d,hd,he⟩;obtain ⟨k,hk,rfl⟩:=j3 hd;have he:l[k].Name=name:=by simpa using he
  rw [← aqk hk] at he
  have h1:lowN l name≤k:=by
   rcases jv k (lowN l name) with h | h
   ·have:=dq1 k h;rw [he,bwl] at this;cases this
   ·exact h
  rcases jv (lowN l name) k with h | h
  ·have h3:=fj1 (name:=name) (by omega:lowN l name < l.length);have hs':=Je.1 hs (lowN l name) k (by omega) hk h;rw [← aqk,← aqk hk] at hs';rw [wlt,he,h3] at hs';cases hs'
  ·have:k=lowN l name:=by omega
   subst this;exact ⟨hk,he⟩
 ·rintro ⟨h1,h2⟩;exact ⟨_,jw h1,by rw [← aqk h1,h2];simp⟩
theorem ij3 (i j:Nat) (h:i+j≤100000):jb .i64 ((Int.fdiv (jb .u64 ((jb .i64 ((i:Int)+(j:Int))))) (2 ^ min 1 (jj .u64))))=(((i+j) / 2:Nat):Int):=by
 rw [wid (n:=(i:Int)+(j:Int)) (by omega)]
 have e1:jb .u64 ((i:Int)+(j:Int))=(i:Int)+(j:Int):=by
  simp only [jb]
  have:IntKind.u64.bits=64:=rfl
  rw [this];simp [Jv];omega
 have e2:((2:Int) ^ min 1 (jj .u64))=2:=by decide
 rw [e1,e2]
 have e3:Int.fdiv ((i:Int)+(j:Int)) 2=(((i+j) / 2:Nat):Int):=by
  rw [Int.fdiv_eq_ediv_of_nonneg _ (by omega)];omega
 rw [e3];exact wid (by omega)
theorem hzf (n:Nat) (l:List aj5) (name:List UInt8) (hs:l.Pairwise wlt) (hl:l.length≤1000):∀ d i j m,j - i=d→d < m→i≤lowN l name→lowN l name≤j→j≤l.length →
  ajo (fun (x:Int×Int)=>ajh n l name (l.length:Int) x.1 x.2) m ((i:Int),(j:Int))=some ((lowN l name:Nat):Int):=by
 intro d
 induction d using Nat.strongRecOn with
 | ind d ih =>
  intro i j m hd hm h1 h2 h3;obtain ⟨m,rfl⟩:∃ q,m=q+1:=⟨m - 1,by omega⟩;by_cases hij:i < j
  ·have hlt:((i:Nat):Int) < (j:Int):=by omega
   have hmid:=ij3 i j (by omega);have hml:(i+j) / 2 < l.length:=by omega
   have hb:ajh n l name (l.length:Int) (i:Int) (j:Int)=some (if jP (gt l ((i+j) / 2)).Name name=true then .inl ((((i+j) / 2+1:Nat):Int),(j:Int)) else .inl ((i:Int),(((i+j) / 2:Nat):Int))):=by
    unfold ajh;simp only [decide_eq_true hlt,cond_true,hmid,ju,aw2,strings_Compare,je];rw [aja _ (by omega),wid (n:=(((i+j) / 2:Nat):Int)+1) (by omega)];by_cases hc:jP (gt l ((i+j) / 2)).Name name=true
    ·rw [decide_eq_true ((dz9 _ _).2 hc),if_pos hc];rfl
    ·rw [decide_eq_false (fun h=>hc ((dz9 _ _).1 h)),if_neg hc];rfl
   by_cases hc:jP (gt l ((i+j) / 2)).Name name=true
   ·rw [if_pos hc] at hb
    have hlo:(i+j) / 2 < lowN l name:=by
     rcases jv ((i+j) / 2) (lowN l name) with h | h
     ·exact h
     ·have:=fzh hs h hml;rw [hc] at this;cases this
    exact (aq5 hb).trans (ih (j - ((i+j) / 2+1)) (by omega) _ _ m rfl (by omega) (by omega) h2 h3)
   ·rw [if_neg hc] at hb
    have hlo:lowN l name≤(i+j) / 2:=by
     rcases jv ((i+j) / 2) (lowN l name) with h | h
     ·exact absurd (dq1 _ h) hc
     ·exact h
    exact (aq5 hb).trans (ih ((i+j) / 2 - i) (by omega) _ _ m rfl (by omega) h1 hlo (by omega))
  ·have:i=lowN l name:=by omega
   refine ajw ?_;unfold ajh;rw [decide_eq_false (by omega),cond_false,this]
theorem cjm (n:Nat) (hn:N0≤n) (v:aj6) (name:List UInt8) (hs:v.Sets.Pairwise wlt) (hl:v.Sets.length≤1000):ajt n v name=some (((lowN v.Sets name:Nat):Int),hasN v.Sets name):=by
 have hn0:4194304≤n:=hn;have hle:=gj3 v.Sets name;have key:ajo (fun (x:Int×Int)=>ajh n v.Sets name (v.Sets.length:Int) x.1 x.2) n (0,(v.Sets.length:Int))=some ((lowN v.Sets name:Nat):Int):=hzf n v.Sets name hs hl v.Sets.length 0 v.Sets.length n (by omega) (by omega) (by omega) hle (jA _);simp only [ajt,aqg,key,je,aq4,aw2,strings_Compare,JZ,j7,implies_true,and_true,ju];rw [aja _ (fun h=>by have:=of_decide_eq_true h;omega),je];congr 2;rw [dzh,JY,fwo hs];simp only [jf,decide_eq_true_eq,beq_iff_eq,gwg];constructor
 ·rintro ⟨h1,h2⟩;exact ⟨by omega,h2⟩
 ·rintro ⟨h1,h2⟩;exact ⟨by omega,h2⟩
theorem cj1 (n:Nat) (hn:N0≤n) (v:aj6) (hv:bqo v):ajn n v=some v:=by
 have hn0:4194304≤n:=hn;obtain ⟨h1,h2,h3⟩:=hv
 have key:∀ j k m,k+j=v.Sets.length→j < m→ajo (fun (x:(List aj5)×Int)=>aqi n v (v.Sets.length:Int) x.1 x.2) m (v.Sets.take k ++ awi j (⟨[],(⟨0,0,false,false,0,0,0,0⟩:TDcb),[],0⟩:aj5),(k:Int))=some v.Sets:=by
  intro j
  induction j with
  | zero =>
   intro k m hj hm;obtain ⟨m,rfl⟩:∃ q,m=q+1:=⟨m - 1,by omega⟩;have hk:k=v.Sets.length:=by omega
   subst hk;refine ajw ?_;unfold aqi;simp [awi]
  | succ j ih =>
   intro k m hj hm;obtain ⟨m,rfl⟩:∃ q,m=q+1:=⟨m - 1,by omega⟩;have hk:k < v.Sets.length:=by omega
   have hlt:((k:Nat):Int) < (v.Sets.length:Int):=by omega
   have hmem:gt v.Sets k∈v.Sets:=by rw [aqk hk];exact jw hk
   have hx:=(h3 _ hmem).2
   have hll:(v.Sets.take k ++ awi (j+1) (⟨[],(⟨0,0,false,false,0,0,0,0⟩:TDcb),[],0⟩:aj5)).length=v.Sets.length:=by
    rw [jg,jk,bzs];omega
   refine (aq5 (x':=(v.Sets.take (k+1) ++ awi j (⟨[],(⟨0,0,false,false,0,0,0,0⟩:TDcb),[],0⟩:aj5),((k+1:Nat):Int))) ?_).trans (ih (k+1) m (by omega) (by omega));unfold aqi;simp only [decide_eq_true hlt,cond_true,ju,ez2 n _ (Jb hx (by decide)),je];rw [aja _ ⟨by omega,hlt⟩,aja _ (by rw [hll];exact ⟨⟨by omega,hlt⟩,hk⟩),wid (n:=(k:Int)+1) (by omega)]
   have e:List.set (v.Sets.take k ++ awi (j+1) (⟨[],(⟨0,0,false,false,0,0,0,0⟩:TDcb),[],0⟩:aj5)) k (⟨(gt v.Sets k).Name,((gt v.Sets k).Dcb),(gt v.Sets k).Extents,(gt v.Sets k).Used⟩:aj5)=v.Sets.take (k+1) ++ awi j (⟨[],(⟨0,0,false,false,0,0,0,0⟩:TDcb),[],0⟩:aj5):=by
    show List.set _ k (gt v.Sets k)=_;have hlk:(v.Sets.take k).length=k:=by rw [jk];omega
    have ht:v.Sets.take (k+1)=v.Sets.take k ++ [v.Sets[k]]:=by
     rw [List.take_add_one,JX hk];rfl
    rw [List.set_append_right _ _ (by omega),hlk,Nat.sub_self,ht,aqk hk,jQ];rfl
   rw [e];rfl
 have hz:=key v.Sets.length 0 n (by omega) (by omega);simp only [List.take_zero,Jd] at hz
 have hz':ajo (fun (x:(List aj5)×Int)=>aqi n v (v.Sets.length:Int) x.1 x.2) n ((awi (Int.toNat (v.Sets.length:Int)) (⟨[],(⟨0,0,false,false,0,0,0,0⟩:TDcb),[],0⟩:aj5)),0)=some v.Sets:=by
  rw [ju];exact hz
 unfold ajn;rw [wid (n:=(v.Sets.length:Int)+1) (by omega),aja _ (by omega),hz',je];rfl
end Go.Proofs.YtijnkhcfondehaaGreatDoor
/-
 ch. 21: tables with a label in another's place, tables without a label.
-/
namespace Go.Proofs.YtijnkhcfondehaaGreatDoor
open Go.AE
def wo (name:List UInt8) (l:List aj5):List aj5:=l.filter fun d=>d.Name != name
theorem hq7 (name:List UInt8) (l:List aj5):(wo name l).length≤l.length:=List.length_filter_le _ _
theorem bwy {name:List UInt8} {l:List aj5} {d:aj5}:d∈wo name l↔d∈l∧d.Name≠name:=by
 unfold wo;rw [List.mem_filter];simp
def ins (d:aj5):List aj5→List aj5
 | []=>[d]
 | x :: r=>if jP d.Name x.Name=true then d :: x :: r else x :: ins d r
theorem bqq {d x:aj5}:∀ {l:List aj5},x∈ins d l↔x=d∨x∈l
 | []=>by simp [ins]
 | y :: r=>by
  rw [ins]
  split
  ·simp
  ·rw [jR,bqq,jR];constructor
   ·rintro (h | h | h)
    ·exact .inr (.inl h)
    ·exact .inl h
    ·exact .inr (.inr h)
   ·rintro (h | h | h)
    ·exact .inr (.inl h)
    ·exact .inl h
    ·exact .inr (.inr h)
theorem ews (d:aj5):∀ l,(ins d l).length=l.length+1
 | []=>rfl
 | x :: r=>by
  rw [ins];split
  ·rfl
  ·rw [jq,ews d r,jq]
theorem bzc {d:aj5}:∀ {l:List aj5},l.Pairwise wlt→(∀ x∈l,x.Name≠d.Name)→(ins d l).Pairwise wlt
 | [],_,_=>by simp [ins]
 | y :: r,hs,hd=>by
  have hs':=J5.1 hs;rw [ins]
  split
  ·rename_i h;refine J5.2 ⟨fun x hx=>?_,hs⟩;rcases jR.1 hx with rfl | hx
   ·exact h
   ·exact cwj h (hs'.1 x hx)
  ·rename_i h;refine J5.2 ⟨fun x hx=>?_,bzc hs'.2 fun x hx=>hd x (JF _ hx)⟩;rcases bqq.1 hx with rfl | hx
   ·rcases dz1 y.Name x.Name with h1 | h1 | h1
    ·exact h1
    ·exact absurd h1 (hd y Jf)
    ·exact absurd h1 h
   ·exact hs'.1 x hx
theorem gq9 {d:aj5}:∀ {l:List aj5},(∀ x∈l,x.Name≠d.Name)→ins d l=l.take (lowN l d.Name) ++ [d] ++ l.drop (lowN l d.Name)
 | [],_=>rfl
 | y :: r,hd=>by
  have hne:=hd y Jf;rw [ins];unfold lowN;rw [List.takeWhile_cons];rcases dz1 y.Name d.Name with h1 | h1 | h1
  ·rw [if_neg (by rw [eqr h1];simp),if_pos h1,jq,List.take_succ_cons,List.drop_succ_cons,gq9 fun x hx=>hd x (JF _ hx)];rfl
  ·exact absurd h1 hne
  ·rw [if_pos h1,if_neg (by rw [eqr h1];simp)];rfl
theorem gje {l:List aj5} {k:Nat} {d:aj5} (hs:l.Pairwise wlt) (hk:k < l.length) (hd:d.Name=(gt l k).Name):l.set k d=ins d (wo d.Name l):=by
 have hp:=Je.1 hs
 have hmem:∀ x,x∈l.set k d↔x=d∨(x∈l∧x.Name≠d.Name):=by
  intro x;constructor
  ·intro hx;obtain ⟨i,hi,rfl⟩:=j3 hx;rw [j6] at hi;by_cases e:i=k
   ·subst e;left;simp
   ·right;rw [List.getElem_set_ne (Ne.symm e)];refine ⟨jw hi,fun he=>?_⟩;rw [hd,aqk hk] at he;rcases jv i k with h | h
    ·exact fq0 (hp i k hi hk h) he
    ·exact fq0 (hp k i hk hi (by omega)) he.symm
  ·rintro (rfl | ⟨hx,hne⟩)
   ·exact List.mem_iff_getElem.2 ⟨k,by simpa using hk,by simp⟩
   ·obtain ⟨i,hi,rfl⟩:=j3 hx;have e:k≠i:=by rintro rfl;rw [hd,aqk hk] at hne;exact hne rfl
    exact List.mem_iff_getElem.2 ⟨i,by simpa using hi,List.getElem_set_ne e _⟩
 refine ewq ?_ (bzc (hs.filter _) fun x hx=>(bwy.1 hx).2) fun x=>?_
 ·rw [Je];intro i j hi hj hij;rw [j6] at hi hj;have h0:=hp i j hi hj hij;rw [wlt,List.getElem_set,List.getElem_set];rw [aqk hk] at hd;by_cases e1:k=i <;> by_cases e2:k=j
  ·omega
  ·subst e1;rw [if_pos rfl,if_neg e2,hd];exact h0
  ·subst e2;rw [if_neg e1,if_pos rfl,hd];exact h0
  ·rw [if_neg e1,if_neg e2];exact h0
 ·rw [hmem,bqq,bwy]
end Go.Proofs.YtijnkhcfondehaaGreatDoor
/-
 ch. 21: Create and Extend, by the program and by the specification.
-/
namespace Go.Proofs.YtijnkhcfondehaaGreatDoor
open Go.AE
theorem bzo {v:aj6} (h:rV v=true):v.Sets.Pairwise wlt∧v.Sets.length≤64∧(v.Sets.length:Int)≤14 * v.Size∧(1≤v.Size∧v.Size≤511)∧∀ d∈v.Sets,cq4 d.Name=true∧d.Extents.length≤8:=by
 obtain ⟨h1,h2,h3,h4,h5⟩:=gzu.1 h;refine ⟨eyv.1 fun k hk=>(h4 k hk).2,h2,h3,dj1 h1,fun d hd=>?_⟩;obtain ⟨k,hk,rfl⟩:=j3 hd
 have:=(h4 k hk).1.1
 rw [aqk hk] at this;unfold pLbl inB at this;simp only [jf,decide_eq_true_eq] at this;exact ⟨this.1.1.1.1.1,by omega⟩
theorem cwo {l:List aj5} {name:List UInt8} (h:hasN l name=false):∀ x∈l,x.Name≠name:=by
 intro x hx e;unfold hasN at h;rw [JE] at h;exact h x hx (by rw [e];simp)
def tz:aj6:=⟨[],0,0,0,[]⟩
theorem gko:bqo tz:=⟨by simp [tz],by simp [tz],by simp [tz]⟩
theorem eyp {v:aj6} {d:aj5} {l:List aj5} (hv:bqo v) (hl:l.length≤64) (hm:∀ x∈l,x∈v.Sets) (hd:d.Name.length≤400) (hx:d.Extents.length≤20):bqo ⟨v.Serial,v.Cyls,v.Heads,v.Size,ins d l⟩:=by
 refine ⟨?_,hv.2.1,fun x hx'=>?_⟩
 ·show (ins d l).length≤300;rw [ews];omega
 ·rcases bqq.1 hx' with rfl | h
  ·exact ⟨hd,hx⟩
  ·exact hv.2.2 x (hm x h)
theorem dkq {v:aj6} {k:Nat} {d:aj5} (hv:bqo v) (hd:d.Name.length≤400) (hx:d.Extents.length≤20):bqo ⟨v.Serial,v.Cyls,v.Heads,v.Size,v.Sets.set k d⟩:=by
 refine ⟨by show (v.Sets.set k d).length≤300;rw [j6];exact hv.1,hv.2.1,fun x hx'=>?_⟩;rcases List.mem_or_eq_of_mem_set hx' with h | rfl
 ·exact hv.2.2 x h
 ·exact ⟨hd,hx⟩
theorem cw2 {v:aj6} {name:List UInt8} (hr:rV v=true) (hh:hasN v.Sets name=true):lowN v.Sets name < v.Sets.length∧(gt v.Sets (lowN v.Sets name)).Name=name∧gt v.Sets (lowN v.Sets name)∈v.Sets∧(gt v.Sets (lowN v.Sets name)).Extents.length≤8:=by
 obtain ⟨hs,hl,hl2,hz,hm⟩:=bzo hr;obtain ⟨h1,h2⟩:=(fwo hs).1 hh;have hmem:gt v.Sets (lowN v.Sets name)∈v.Sets:=by rw [aqk h1];exact jw h1
 exact ⟨h1,h2,hmem,(hm _ hmem).2⟩
end Go.Proofs.YtijnkhcfondehaaGreatDoor
/-
 ch. 21: Release, Update, Scratch and Rename, by the program and by the specification.
-/
namespace Go.Proofs.YtijnkhcfondehaaGreatDoor
open Go.AE Go.Sort
theorem hw9 {α:Type} [Inhabited α] (l:List α) (i:Nat) (x:α) (h:i < l.length):gt (l.set i x) i=x:=by
 simp [gt,ja,h]
theorem ew6 {α:Type} (l:List α) (i:Nat) (x:α):(l.set i x).length=l.length:=j6
theorem fy1 (n:Nat) (s:List aj5) (nm:List UInt8) (hl:s.length≤1000) (p:Nat) (hp:p < s.length) (h1:∀ k,k < p→(gt s k).Name≠nm) (h2:(gt s p).Name=nm):∀ j k m,k+j=p→j < m →
  ajo (fun (x:Int)=>aju n s nm ((s.length:Nat):Int) x) m (k:Int)=some (.inl ((p:Nat):Int)):=by
 intro j
 induction j with
 | zero =>
  intro k m hj hm;obtain ⟨m,rfl⟩:∃ q,m=q+1:=⟨m - 1,by omega⟩;have hk:k=p:=by omega
  subst hk;have hlt:((k:Nat):Int) < (s.length:Int):=by omega
  refine ajw ?_;unfold aju;simp only [decide_eq_true hlt,cond_true,ju,aqp,je,h2,beq_self_eq_true];rw [aja _ ⟨⟨by omega,hlt⟩,hp⟩]
 | succ j ih =>
  intro k m hj hm;obtain ⟨m,rfl⟩:∃ q,m=q+1:=⟨m - 1,by omega⟩;have hlt:((k:Nat):Int) < (s.length:Int):=by omega
  refine (aq5 (x':=((k+1:Nat):Int)) ?_).trans (ih (k+1) m (by omega) (by omega));unfold aju;simp only [decide_eq_true hlt,cond_true,ju,aqp,je];rw [aja _ ⟨⟨by omega,hlt⟩,by omega⟩,beq_eq_false_iff_ne.2 (h1 k (by omega)),wid (n:=(k:Int)+1) (by omega)];rfl
theorem fjm (nm:List UInt8) (l:List aj5) (d:aj5):wo nm (l ++ [d])=wo nm l ++ (if (d.Name != nm)=true then [d] else []):=by
 unfold wo;rw [List.filter_append,List.filter_cons,List.filter_nil]
theorem fqi (n:Nat) (s:List aj5) (nm:List UInt8) (hl:s.length≤1000):∀ j k m (b:List aj5) (i:Nat),k+j=s.length→j < m→b.length=s.length→i < k∨(i=k)→i≤k→b.take i=wo nm (s.take k)→b.drop k=s.drop k →
  ∃ b' i',ajo (fun (x:(List aj5)×Int×Int)=>ajk n nm x.1 x.2.1 x.2.2) m (b,(i:Int),(k:Int))=some (b',((i':Nat):Int))∧b'.length=s.length∧i'≤s.length∧b'.take i'=wo nm s:=by
 intro j
 induction j with
 | zero =>
  intro k m b i hj hm hb _ hi h1 h2;obtain ⟨m,rfl⟩:∃ q,m=q+1:=⟨m - 1,by omega⟩;have hk:k=s.length:=by omega
  subst hk;refine ⟨b,i,ajw ?_,hb,hi,by rw [h1,J4]⟩;unfold ajk;dsimp only;rw [hb,decide_eq_false (by omega),cond_false]
 | succ j ih =>
  intro k m b i hj hm hb _ hi h1 h2;obtain ⟨m,rfl⟩:∃ q,m=q+1:=⟨m - 1,by omega⟩;have hk:k < s.length:=by omega
  have hlt:((k:Nat):Int) < (b.length:Int):=by omega
  have hw:=wid (n:=(k:Int)+1) (by omega);have hw2:=wid (n:=(i:Int)+1) (by omega)
  have hgk:gt b k=gt s k:=by
   have e1:gt b k=gt (b.drop k) 0:=by simp [gt,ja]
   have e2:gt s k=gt (s.drop k) 0:=by simp [gt,ja]
   rw [e1,e2,h2]
  have ht:s.take (k+1)=s.take k ++ [gt s k]:=by
   rw [List.take_add_one,JX hk,aqk hk];rfl
  have hd:∀ q:List aj5,q.drop k=s.drop k→q.drop (k+1)=s.drop (k+1):=fun q hq=>by
   rw [← List.drop_drop,← List.drop_drop,hq]
  by_cases hc:((gt s k).Name == nm)=true
  ·obtain ⟨b',i',g1,g2⟩:=ih (k+1) m b i (by omega) (by omega) hb (by omega) (by omega) (by
    rw [h1,ht,fjm]
    have:((gt s k).Name != nm)=false:=by simp only [bne,hc,jT]
    rw [this];simp) (hd b h2)
   refine ⟨b',i',(aq5 ?_).trans g1,g2⟩;unfold ajk;simp only [decide_eq_true hlt,cond_true,ju,aqp,je,hgk,hc,jT,cond_false,ajv,hw];rw [aja _ ⟨⟨by omega,hlt⟩,by omega⟩];rfl
  ·rw [Jt] at hc;have hil:i < b.length:=by omega
   obtain ⟨b',i',g1,g2⟩:=ih (k+1) m (List.set b i (gt s k)) (i+1) (by omega) (by omega) (by rw [j6];exact hb) (by omega) (by omega) (by
    rw [ht,fjm]
    have:((gt s k).Name != nm)=true:=by simp only [bne,hc,Ji]
    rw [this,if_pos rfl,← h1,List.take_add_one,List.take_set_of_le (jA _)]
    simp [hil]) (by
    have:=hd b h2
    rw [List.drop_set_of_lt (by omega)];exact this)
   refine ⟨b',i',(aq5 ?_).trans g1,g2⟩;unfold ajk;simp only [decide_eq_true hlt,cond_true,ju,aqp,je,hgk,hc,Ji,ajv,hw,hw2];rw [aja _ ⟨⟨by omega,hlt⟩,by omega⟩,aja _ ⟨⟨by omega,by omega⟩,hil⟩];rfl
theorem fzk (n:Nat) (hn:N0≤n) (s:List aj5) (nm:List UInt8) (hl:s.length≤1000) (p:Nat) (hp:p < s.length) (h1:∀ k,k < p→(gt s k).Name≠nm) (h2:(gt s p).Name=nm) :
  ∃ r,aqv n s nm=some r∧List.take r.1 r.2=wo nm s:=by
 have hn0:4194304≤n:=hn;have key:ajo (fun (x:Int)=>aju n s nm ((s.length:Nat):Int) x) n 0=some (.inl ((p:Nat):Int)):=fy1 n s nm hl p hp h1 h2 p 0 n (by omega) (by omega);simp only [aqv,awk,key,je];have e1:(((p:Nat):Int) == -1)=false:=by rw [beq_eq_false_iff_ne];omega
 rw [e1,cond_false,wid (n:=(p:Int)+1) (by omega)]
 have hpre:wo nm (s.take p)=s.take p:=by
  unfold wo;rw [List.filter_eq_self];intro d hd;obtain ⟨k,hk,rfl⟩:=j3 hd;rw [jk] at hk
  have:=h1 k (by omega)
  rw [List.getElem_take,← aqk (by omega)];simpa using this
 have ht:s.take (p+1)=s.take p ++ [gt s p]:=by
  rw [List.take_add_one,JX hp,aqk hp];rfl
 obtain ⟨b',i',g1,g2,g3,g4⟩:=fqi n s nm hl (s.length - (p+1)) (p+1) n s p (by omega) (by omega) rfl (by omega) (by omega) (by
  rw [ht,fjm,hpre,h2];simp) rfl
 have g1':ajo (fun (x:(List aj5)×Int×Int)=>ajk n nm x.1 x.2.1 x.2.2) n (s,(p:Int),(p:Int)+1)=some (b',((i':Nat):Int)):=g1;rw [g1',je];unfold aw0;dsimp only;rw [aja _ (by rw [g2];omega),aja _ (by omega)];refine ⟨_,rfl,?_⟩;simp only [Int.sub_zero,ju];rw [bzx (by rw [bzs];omega),← g4];rw [jQ,jU (by rw [jk];omega),List.take_take,Nat.min_self]
end Go.Proofs.YtijnkhcfondehaaGreatDoor
/-
 ch. 21: Rename; every change is what the specification does.
-/
namespace Go.Proofs.YtijnkhcfondehaaGreatDoor
open Go.AE Go.Sort
theorem gyp:SWO (Go.Proofs.ltOf fun (x y:aj5)=>cmpS x.Name y.Name):=by
 have e:∀ x y:aj5,Go.Proofs.ltOf (fun (x y:aj5)=>cmpS x.Name y.Name) x y=jP x.Name y.Name:=by
  intro x y;rw [Go.Proofs.ltOf,JY,decide_eq_true_eq];exact dz9 _ _
 constructor
 ·intro x;rw [e];exact bwl _
 ·intro x y z;rw [e,e,e];exact cwj
 ·intro x y z;rw [e,e,e];intro h1 h2;cases h3:jP x.Name z.Name with
  | false=>rfl
  | true =>
   rcases dz1 y.Name x.Name with h | h | h
   ·rw [cwj h h3] at h2;cases h2
   ·rw [h,h3] at h2;cases h2
   ·rw [h] at h1;cases h1
end Go.Proofs.YtijnkhcfondehaaGreatDoor
/-
 ch. 20: more of the code, for ch. 21.
-/
namespace Go.Proofs.YtijnkhcfondehaaGreatDoor
open Go.AE
theorem gy3 (n:Nat) (hn:N0≤n) (l:List aj0) (m:Int) (hl:l.length≤2097152) (h:(trkF [] l).isSome=true) (hm:0≤m∧m≤512) :
  ∃ R,bqs n l m=some R∧nf (-1) R∧(∀ k,k∈trks R↔0≤k∧k < m∧k ∉ trks l)∧R.length≤512:=by
 obtain ⟨hv,hnd⟩:=(ajx l).1 h;obtain ⟨r,r1,r2,r3⟩:=ezf n l (by omega);have hrl:=r2.length_eq;have hrv:r.all val=true:=by rw [fqt r2];exact hv
 have hap:r.Pairwise apart:=(dy6 hrv r3).1 ((bzl r2).nodup_iff.2 hnd);have hle:=bql hv;have hfw:=few (m:=512) hnd (byt hv);have hlo:∀ x∈r,0≤x.At:=fun x hx=>((aq0 _).1 (jx.1 hrv x hx)).1;have hnf:nf (-1) (fr m 0 r):=ij2 hm.2 (by omega) (by omega) hrv hap hlo;have hF:=gqz n m hm r hrv (by unfold N0 at hn;omega) (by omega)
 have c1:(if (if (!(trkF [] l).isSome)=true then true else (decide (m < 0)))=true then true else (decide (m > 512)))=false:=by
  have h1:¬ m < 0:=by omega
  have h2:¬ m > 512:=by omega
  simp [h,h1,h2]
 refine ⟨fr m 0 r,?_,hnf,fun k=>?_,?_⟩
 ·simp only [bqs,cwi n hn l (by omega),je,c1,awh,jn,if_false,r1];exact hF
 ·rw [hql hrv hap hlo,(bzl r2).mem_iff]
 ·have h1:=bql (fqr hnf);have h2:=few (m:=512) ((fyv hnf).imp fun h=>by omega) (byt (fqr hnf));omega
theorem gwe (n:Nat) (l:List aj5):∃ r,aqd n l=some r∧r.Perm l∧r.Pairwise fun x y=>¬ cmpS y.Name x.Name < 0 :=
 fwk (f:=fun x y=>bqe n x y) (c:=fun (x y:aj5)=>cmpS x.Name y.Name) (fun _ _ _ _=>rfl) gyp
theorem gkb (n:Nat):aqd n []=some []:=by
 obtain ⟨r,h1,h2,_⟩:=gwe n [];rw [h1,h2.eq_nil]
theorem gk2 (n:Nat) {l:List aj5} {k:Nat} {d:aj5} {old:List UInt8} (hs:l.Pairwise wlt) (hk:k < l.length) (ho:(gt l k).Name=old) (hn:hasN l d.Name=false) :
  ∃ r,aqd n (l.set k d)=some r∧r=ins d (wo old l)∧r.length=l.length:=by
 obtain ⟨r,h1,h2,h3⟩:=gwe n (l.set k d);have hp:=Je.1 hs;have hne:=cwo hn
 have hmem:∀ x,x∈l.set k d↔x=d∨(x∈l∧x.Name≠old):=by
  intro x;constructor
  ·intro hx;obtain ⟨i,hi,rfl⟩:=j3 hx;rw [j6] at hi;by_cases e:i=k
   ·subst e;left;simp
   ·right;rw [List.getElem_set_ne (Ne.symm e)];refine ⟨jw hi,fun he=>?_⟩;rw [← ho,aqk hk] at he;rcases jv i k with h | h
    ·exact fq0 (hp i k hi hk h) he
    ·exact fq0 (hp k i hk hi (by omega)) he.symm
  ·rintro (rfl | ⟨hx,hne⟩)
   ·exact List.mem_iff_getElem.2 ⟨k,by simpa using hk,by simp⟩
   ·obtain ⟨i,hi,rfl⟩:=j3 hx;have e:k≠i:=by rintro rfl;rw [← ho,aqk hk] at hne;exact hne rfl
    exact List.mem_iff_getElem.2 ⟨i,by simpa using hi,List.getElem_set_ne e _⟩
 have hd:(l.set k d).Pairwise fun x y=>x.Name≠y.Name:=by
  rw [Je];intro i j hi hj hij;rw [j6] at hi hj;rw [List.getElem_set,List.getElem_set];by_cases e1:k=i <;> by_cases e2:k=j
  ·omega
  ·rw [if_pos e1,if_neg e2];exact (hne _ (jw hj)).symm
  ·rw [if_neg e1,if_pos e2];exact hne _ (jw hi)
  ·rw [if_neg e1,if_neg e2];exact fq0 (hp i j hi hj hij)
 have hd':r.Pairwise fun x y=>x.Name≠y.Name:=(h2.pairwise_iff (fun h=>Ne.symm h)).2 hd
 have hw:r.Pairwise wlt:=by
  refine (h3.and hd').imp ?_;rintro a b ⟨q1,q2⟩;rcases dz1 a.Name b.Name with h | h | h
  ·exact h
  ·exact absurd h q2
  ·exact absurd ((dz9 _ _).2 h) q1
 refine ⟨r,h1,ewq hw (bzc (hs.filter _) fun x hx=>hne x (bwy.1 hx).1) fun x=>?_,by rw [h2.length_eq,j6]⟩;rw [h2.mem_iff,hmem,bqq,bwy]
end Go.Proofs.YtijnkhcfondehaaGreatDoor
/-
 ch. 21: what stays valid (the program alone).
-/
namespace Go.Proofs.YtijnkhcfondehaaGreatDoor
open Go.AE
theorem hya {v:aj6} (h:head v=true):capV v=v.Cyls * v.Heads∧1≤capV v∧capV v≤512∧v.Size+1≤capV v:=by
 have hz:=dj1 h;unfold head cz1 inB at h;simp only [jf,decide_eq_true_eq] at h;obtain ⟨⟨⟨_,h1,h2⟩,h3,h4⟩,h5,h6⟩:=h
 have e1:1≤v.Cyls * v.Heads:=by
  have:0 < v.Cyls * v.Heads:=Int.mul_pos (by omega) (by omega)
  omega
 have e2:v.Cyls * v.Heads≤512:=by
  have a:v.Cyls * v.Heads≤64 * v.Heads:=JC h2 (by omega);omega
 have ec:capV v=v.Cyls * v.Heads:=wid (by omega);rw [wid (n:=v.Cyls * v.Heads) (by omega),wid (n:=v.Cyls * v.Heads - 1) (by omega)] at h6;exact ⟨ec,by omega,by omega,by omega⟩
def okD (v:aj6) (d:aj5):Prop:=pLbl v d=true∧∀ x∈d.Extents,v.Size < x.At
theorem byg {v:aj6}:rV v=true↔head v=true∧v.Sets.length≤64∧(v.Sets.length:Int)≤14 * v.Size∧(∀ d∈v.Sets,okD v d)∧v.Sets.Pairwise wlt∧(trkF [] (exts v.Sets)).isSome=true:=by
 rw [gzu];constructor
 ·rintro ⟨h1,h2,h3,h4,h5⟩;refine ⟨h1,h2,h3,fun d hd=>?_,eyv.1 fun k hk=>(h4 k hk).2,h5⟩;obtain ⟨k,hk,rfl⟩:=j3 hd
  have:=(h4 k hk).1
  rw [aqk hk] at this;exact this
 ·rintro ⟨h1,h2,h3,h4,h5,h6⟩;refine ⟨h1,h2,h3,fun k hk=>⟨?_,eyv.2 h5 k hk⟩,h6⟩;rw [aqk hk];exact h4 _ (jw hk)
def onV (v:aj6) (X:List aj0):Prop:=X.all val=true∧(trks X).Nodup∧∀ k∈trks X,v.Size < k∧k < capV v
theorem fj8 {v:aj6} {X:List aj0} (h:onV v X) {x:aj0} (hx:x∈X):v.Size < x.At∧x.At+x.Len≤capV v∧val x=true:=by
 have hv:=jx.1 h.1 x hx;have v1:=(aq0 x).1 hv;have a:=h.2.2 x.At (j9.2 ⟨x,hx,azu.2 ⟨by omega,by omega⟩⟩);have b:=h.2.2 (x.At+x.Len - 1) (j9.2 ⟨x,hx,azu.2 ⟨by omega,by omega⟩⟩);exact ⟨a.1,by omega,hv⟩
theorem hjq {v:aj6} {X:List aj0} (h:onV v X):X.any (dwp v)=false:=by
 rw [JE];intro x hx;obtain ⟨h1,h2,h3⟩:=fj8 h hx;have v1:=(aq0 x).1 h3;unfold dwp;rw [wid (by omega)]
 simp;omega
theorem djc {v:aj6} {X:List aj0} (h:onV v X):(trkF [] X).isSome=true:=(ajx X).2 ⟨h.1,h.2.1⟩
theorem bk4 {v:aj6} (hh:head v=true) {d:aj5}:okD v d↔cq4 d.Name=true∧dscB d.Dcb=true∧(1≤d.Extents.length∧d.Extents.length≤8)∧onV v d.Extents∧0≤d.Used∧d.Used≤(((trks d.Extents).length:Nat):Int):=by
 have hz:=dj1 hh;unfold okD pLbl inB;simp only [jf,j8,decide_eq_true_eq];constructor
 ·rintro ⟨⟨⟨⟨⟨⟨h1,h2⟩,h3⟩,h4⟩,h5⟩,h6⟩,h7⟩;have ⟨a1,a2⟩:=(ajx _).1 h4;rw [dkc h4] at h6;refine ⟨h1,h2,by omega,⟨a1,a2,fun k hk=>?_⟩,h6.1,h6.2⟩;obtain ⟨x,hx,hk⟩:=j9.1 hk;have hk:=azu.1 hk;have v1:=(aq0 x).1 (jx.1 a1 x hx)
  have:=h7 x hx
  have ho:=JE.1 h5 x hx;unfold dwp at ho;rw [wid (by omega)] at ho;simp at ho;omega
 ·rintro ⟨h1,h2,h3,h4,h5,h6⟩;refine ⟨⟨⟨⟨⟨⟨h1,h2⟩,by omega⟩,djc h4⟩,hjq h4⟩,?_⟩,fun x hx=>(fj8 h4 hx).1⟩;rw [dkc (djc h4)];exact ⟨h5,h6⟩
theorem gwp (n:Nat) (hn:N0≤n) (v:aj6) (hv:bqo v) (hr:rV v=true):∃ R,bwn n v=some R∧nf (-1) R∧(∀ k,k∈trks R↔v.Size < k∧k < capV v∧k ∉ trks (exts v.Sets))∧R.length≤512:=by
 have hn0:4194304≤n:=hn;have hel:=ckt hv.2.2;have h70:=hv.1;obtain ⟨q1,q2,q3,q4,q5,q6⟩:=byg.1 hr;obtain ⟨c1,c2,c3,c4⟩:=hya q1;have hz:=dj1 q1;have w2:jb .i64 (v.Size+1)=v.Size+1:=wid (by omega)
 have hsome:(trkF [] ((⟨0,v.Size+1⟩:aj0) :: exts v.Sets)).isSome=true:=(ejo (by omega) _).2 ⟨q6,fun x hx=>by
  obtain ⟨d,hd,hx⟩:=j9.1 hx
  exact (q4 d hd).2 x hx⟩
 have key:=fyj n hn v hv [⟨0,v.Size+1⟩] (by simp) v.Sets.length 0 n (by omega) (by omega);simp only [List.take_zero] at key;have key':ajo (fun (x:(List aj0)×Int)=>bjn n v (v.Sets.length:Int) x.1 x.2) n ([(⟨0,v.Size+1⟩:aj0)],0)=some ([(⟨0,v.Size+1⟩:aj0)] ++ exts v.Sets):=key;obtain ⟨R,r1,r2,r3,r4⟩:=gy3 n hn ((⟨0,v.Size+1⟩:aj0) :: exts v.Sets) (capV v) (by rw [jq];omega) hsome (by omega);refine ⟨R,?_,r2,fun k=>?_,r4⟩
 ·unfold bwn;rw [bwj n hn v hv,eym,hr,je];simp only [if_true,bne_self_eq_false,cond_false,w2];rw [key',je,List.singleton_append,bkp];show (bqs n _ (capV v)).bind _=_;rw [r1,je]
 ·rw [r3,aqx,jm,azu];simp only;constructor
  ·rintro ⟨a,b,c⟩;refine ⟨?_,b,fun h=>c (.inr h)⟩;by_cases h:k < v.Size+1
   ·exact absurd (.inl ⟨a,by omega⟩) c
   ·omega
  ·rintro ⟨a,b,c⟩;refine ⟨by omega,b,?_⟩;rintro (h | h)
   ·omega
   ·exact c h
theorem fz8 (n:Nat) (hn:N0≤n) (v:aj6) (hv:bqo v) (hr:rV v=true) (N most:Int) (hN:N≤9223372036854775807):∃ R r,bwn n v=some R∧az3 n R N most=some r ∧
  (r.2.2=0→1≤N∧onV v r.1∧(((trks r.1).length:Nat):Int)=N∧((r.1.length:Nat):Int)≤most∧∀ k∈trks r.1,k ∉ trks (exts v.Sets))∧(r.1=[]∨((r.1.length:Nat):Int)≤most)∧(r.2.2≠0→r.1=[]):=by
 obtain ⟨R,f1,f2,f3,f4⟩:=gwp n hn v hv hr;refine ⟨R,?_⟩;rcases gkp n hn R N most (by omega) hN with ⟨h3,h4⟩ | ⟨h0,r,h3,a1,a2,a3,a4,a5,a6⟩ | ⟨_,h3,_⟩
 ·exact ⟨_,f1,h3,fun h=>by simp at h,.inl rfl,fun _=>rfl⟩
 ·refine ⟨r,f1,h3,fun _=>⟨?_,⟨a3,?_,fun k hk=>?_⟩,a5,a6,fun k hk=>?_⟩,.inr a6,fun h=>absurd a1 h⟩
  ·by_cases h:1≤N
   ·exact h
   ·have c1:az3 n R N most=some ([],[],1):=by
     have hn0:4194304≤n:=hn;simp only [az3,fqx n R 512 (by omega) (by omega),je]
     have:decide (N < 1)=true:=decide_eq_true (by omega)
     rw [this];simp
    rw [h3] at c1
    have:=Option.some.inj c1
    rw [this] at a1;simp at a1
  ·have hnd:(trks r.1 ++ trks r.2.1).Nodup:=a4.nodup_iff.2 ((fyv f2).imp fun h=>by omega);exact (JM.1 hnd).1
  ·have:=(f3 k).1 (a4.mem_iff.1 (List.mem_append_left _ hk))
   exact ⟨this.1,this.2.1⟩
  ·exact ((f3 k).1 (a4.mem_iff.1 (List.mem_append_left _ hk))).2.2
 ·exact ⟨_,f1,h3,fun h=>by simp at h,.inl rfl,fun _=>rfl⟩
end Go.Proofs.YtijnkhcfondehaaGreatDoor
/-
 ch. 21: Create and Extend keep a table valid (the program alone).
-/
namespace Go.Proofs.YtijnkhcfondehaaGreatDoor
open Go.AE
theorem cy5 {v:aj6} {l:List aj5} (h1:head v=true) (h2:l.length≤64) (h3:(l.length:Int)≤14 * v.Size) (h4:∀ d∈l,okD v d) (h5:l.Pairwise wlt) (h6:(trks (exts l)).Nodup):rV ⟨v.Serial,v.Cyls,v.Heads,v.Size,l⟩=true:=by
 refine byg.2 ⟨h1,h2,h3,h4,h5,(ajx _).2 ⟨?_,h6⟩⟩;rw [jx];intro x hx;obtain ⟨d,hd,hx⟩:=j9.1 hx;exact (fj8 ((bk4 h1).1 (h4 d hd)).2.2.2.1 hx).2.2
theorem dz2 (d:aj5):∀ l:List aj5,(ins d l).Perm (d :: l)
 | []=>List.Perm.refl _
 | x :: r=>by
  rw [ins];split
  ·exact List.Perm.refl _
  ·exact ((dz2 d r).cons x).trans (List.Perm.swap d x r)
theorem dyd {a b:List aj5} (h:a.Perm b):(exts a).Perm (exts b):=h.flatMap_right _
theorem dk8 {α:Type} {l:List α} {k:Nat} (h:k < l.length) (d:α):l.set k d=l.take k ++ d :: l.drop (k+1):=by
 rw [List.set_eq_take_append_cons_drop,if_pos h]
theorem dy2 {α:Type} [Inhabited α] {l:List α} {k:Nat} (h:k < l.length):l=l.take k ++ gt l k :: l.drop (k+1):=by
 rw [aqk h,← List.drop_eq_getElem_cons h,List.take_append_drop]
def others (name:List UInt8) (to:List UInt8) (l m:List aj5):Prop:=(∀ d∈l,d.Name≠name→d∈m)∧∀ d∈m,d∈l∨d.Name=name∨d.Name=to
theorem gjp {v:aj6} (hr:rV v=true) {d:aj5} (hd:okD v d) (hn:hasN v.Sets d.Name=false) (h1:v.Sets.length < 64) (h2:(v.Sets.length:Int) < 14 * v.Size) (hx:∀ k∈trks d.Extents,k ∉ trks (exts v.Sets)) :
  rV ⟨v.Serial,v.Cyls,v.Heads,v.Size,ins d v.Sets⟩=true:=by
 obtain ⟨q1,q2,q3,q4,q5,q6⟩:=byg.1 hr;refine cy5 q1 (by rw [ews];omega) (by rw [ews];omega) (fun x hx=>?_) (bzc q5 (cwo hn)) ?_
 ·rcases bqq.1 hx with rfl | h
  ·exact hd
  ·exact q4 x h
 ·have hp:=bzl (dyd (dz2 d v.Sets));rw [hp.nodup_iff,bwm,akd,JM];exact ⟨((bk4 q1).1 hd).2.2.2.1.2.1,((ajx _).1 q6).2,fun a ha b hb e=>hx a ha (e ▸ hb)⟩
theorem dzb {v:aj6} (hr:rV v=true) {k:Nat} (hk:k < v.Sets.length) {d:aj5} (hd:okD v d) (hn:d.Name=(gt v.Sets k).Name) {nm:List UInt8} (hnm:(gt v.Sets k).Name=nm) (hx:(trks (exts (v.Sets.set k d))).Nodup) :
  rV ⟨v.Serial,v.Cyls,v.Heads,v.Size,v.Sets.set k d⟩=true∧others nm nm v.Sets (v.Sets.set k d):=by
 subst hnm;obtain ⟨q1,q2,q3,q4,q5,q6⟩:=byg.1 hr;have hset:=gje q5 hk hn;refine ⟨cy5 q1 (by rw [j6];exact q2) (by rw [j6];exact q3) (fun x hx=>?_) ?_ hx,fun x hx hne=>?_,fun x hx=>?_⟩
 ·rcases List.mem_or_eq_of_mem_set hx with h | rfl
  ·exact q4 x h
  ·exact hd
 ·rw [hset];exact bzc (q5.filter _) fun x hx=>(bwy.1 hx).2
 ·rw [hset];exact bqq.2 (.inr (bwy.2 ⟨hx,by rw [hn];exact hne⟩))
 ·rw [hset] at hx;rcases bqq.1 hx with rfl | h
  ·exact .inr (.inl hn)
  ·exact .inl (bwy.1 h).1
def cqg (v:aj6) (name to:List UInt8) (r:aj6×Int):Prop:=bqo r.1∧(r.2≠0→r.1.Sets=[])∧(r.2=0→rV r.1=true∧others name to v.Sets r.1.Sets)
theorem aks {v:aj6} {name to:List UInt8} {e:Int} (h:e≠0):cqg v name to ((⟨[],0,0,0,[]⟩:aj6),e):=⟨gko,fun _=>rfl,fun h'=>absurd h' h⟩
theorem fzf (n:Nat) (hn:N0≤n) (v:aj6) (hv:bqo v) (hr:rV v=true) (nm:List UInt8) (c:TDcb) (x:List aj0) (u N:Int) (hnm:nm.length≤100) (hN:N≤9223372036854775807) :
  ∃ r,bjh n v ⟨nm,c,x,u⟩ N=some r∧cqg v nm nm r∧(r.2=0→hasN v.Sets nm=false∧∃ X,r.1=⟨v.Serial,v.Cyls,v.Heads,v.Size,ins ⟨nm,c,X,0⟩ v.Sets⟩):=by
 have hn0:4194304≤n:=hn;obtain ⟨hs,hl,hl2,hz,hm⟩:=bzo hr;obtain ⟨q1,q2,q3,q4,q5,q6⟩:=byg.1 hr;simp only [bjh,bwj n hn v hv,eym,je,hr,if_true,bne_self_eq_false,cond_false,fq4 n _ hn,fjl,JZ,j7,implies_true];rw [aja _ trivial];cases hc:(if (if (!cq4 nm)=true then true else !dscB c)=true then true else decide (N < 1)) with
 | true=>exact ⟨_,rfl,aks (by decide),fun h=>by simp at h⟩
 | false =>
  simp only [cond_false,cjm n hn v nm hs (by omega),je];cases hh:hasN v.Sets nm with
  | true=>exact ⟨_,rfl,aks (by decide),fun h=>by simp at h⟩
  | false =>
   simp only [cond_false];have w1:jb .i64 (14 * v.Size)=14 * v.Size:=wid (by omega);rw [w1];cases hf:((v.Sets.length:Int) == if 14 * v.Size < 64 then 14 * v.Size else 64) with
   | true=>exact ⟨_,rfl,aks (by decide),fun h=>by simp at h⟩
   | false =>
    obtain ⟨R,r,t1,t2,t3,t4,t5⟩:=fz8 n hn v hv hr N 8 hN;simp only [cond_false,t1,t2,je];cases he:r.2.2 != 0 with
    | true =>
     have:r.2.2≠0:=by simpa using he
     exact ⟨_,rfl,aks this,fun h=>absurd h this⟩
    | false =>
     have he0:r.2.2=0:=by simpa using he
     obtain ⟨g1,g2,g3,g4,g5⟩:=t3 he0;have hlo:=gj3 v.Sets nm;have hno:=cwo hh;simp only [cond_false,cj1 n hn v hv,je,bq6,ju];rw [aja _ (by simp only [jq,jS];omega),je];have ei:=gq9 (d:=⟨nm,c,r.1,0⟩) (l:=v.Sets) hno;have hx8:r.1.length≤8:=by omega
     have hne:1≤r.1.length:=by
      rcases JH r.1.length with h | h
      ·have:r.1=[]:=List.length_eq_zero_iff.1 h
       rw [this] at g3;simp [trks] at g3;omega
      ·exact h
     have hnd:cq4 nm=true∧dscB c=true:=by
      rw [cw3,cw3] at hc;simp only [Bool.or_eq_false_iff,Bool.not_eq_false'] at hc;exact ⟨hc.1.1,hc.1.2⟩
     have hok:okD v ⟨nm,c,r.1,0⟩:=(bk4 q1).2 ⟨hnd.1,hnd.2,⟨hne,hx8⟩,g2,by simp,by simp only;omega⟩
     have hlen:v.Sets.length < 64∧(v.Sets.length:Int) < 14 * v.Size:=by
      have:¬ ((v.Sets.length:Int)=if 14 * v.Size < 64 then 14 * v.Size else 64):=by simpa using hf
      split at this <;> omega
     refine ⟨_,rfl,⟨?_,fun h=>absurd rfl h,fun _=>⟨?_,?_⟩⟩,fun _=>⟨trivial,r.1,by rw [ei]⟩⟩
     ·have:=eyp (d:=⟨nm,c,r.1,0⟩) hv hl (fun x hx=>hx) (Jb hnm (by decide)) (by show r.1.length≤20;omega)
      rw [ei] at this;exact this
     ·have:=gjp hr hok hh hlen.1 hlen.2 g5
      rw [ei] at this;exact this
     ·show others nm nm v.Sets _;rw [← ei]
      exact ⟨fun d hd _=>bqq.2 (.inr hd),fun d hd=>by
       rcases bqq.1 hd with rfl | h
       ·exact .inr (.inl rfl)
       ·exact .inl h⟩
end Go.Proofs.YtijnkhcfondehaaGreatDoor
/-
 ch. 21: Extend, Update and Scratch keep a table valid (the program alone).
-/
namespace Go.Proofs.YtijnkhcfondehaaGreatDoor
open Go.AE
theorem hzc {v:aj6} {A X:List aj0} (ha:onV v A) (hx:onV v X) (hd:∀ k∈trks X,k ∉ trks A):onV v (A ++ X):=by
 refine ⟨by rw [List.all_append,ha.1,hx.1];rfl,?_,fun k hk=>?_⟩
 ·rw [akd,JM];exact ⟨ha.2.1,hx.2.1,fun a h1 b h2 e=>hd b h2 (e ▸ h1)⟩
 ·rw [akd,jm] at hk;rcases hk with h | h
  ·exact ha.2.2 k h
  ·exact hx.2.2 k h
theorem hjp {l:List aj5} {k:Nat} (hk:k < l.length) (d:aj5) (X:List aj0) (he:d.Extents=(gt l k).Extents ++ X):(exts (l.set k d)).Perm (X ++ exts l):=by
 have e2:exts l=exts (l.take k) ++ ((gt l k).Extents ++ exts (l.drop (k+1))):=by
  rw [← bwm,← cjc];exact congrArg exts (dy2 hk)
 rw [dk8 hk,cjc,bwm,he,e2];rw [jQ ((gt l k).Extents) X];exact ((List.perm_append_comm_assoc (gt l k).Extents X _).append_left _).trans (List.perm_append_comm_assoc _ X _)
theorem fqo {l:List aj5} {k:Nat} (hk:k < l.length) {t:Int} (h:t∈trks (gt l k).Extents):t∈trks (exts l):=by
 obtain ⟨x,hx,ht⟩:=j9.1 h;exact j9.2 ⟨x,eqw.2 ⟨k,hk,hx⟩,ht⟩
theorem fy8 (n:Nat) (hn:N0≤n) (v:aj6) (hv:bqo v) (hr:rV v=true) (nm:List UInt8) (N:Int) (hnm:nm.length≤100) (hN:N≤9223372036854775807) :
  ∃ r,bk5 n v nm N=some r∧cqg v nm nm r∧(r.2=0→hasN v.Sets nm=true∧∃ X,r.1=⟨v.Serial,v.Cyls,v.Heads,v.Size,v.Sets.set (lowN v.Sets nm) ⟨(gt v.Sets (lowN v.Sets nm)).Name,(gt v.Sets (lowN v.Sets nm)).Dcb,(gt v.Sets (lowN v.Sets nm)).Extents ++ X,(gt v.Sets (lowN v.Sets nm)).Used⟩⟩):=by
 have hn0:4194304≤n:=hn;obtain ⟨hs,hl,hl2,hz,hm⟩:=bzo hr;obtain ⟨q1,q2,q3,q4,q5,q6⟩:=byg.1 hr;simp only [bk5,bz7,bwj n hn v hv,eym,je,hr,if_true,bne_self_eq_false,cond_false,cjm n hn v nm hs (by omega)];cases hh:hasN v.Sets nm with
 | false=>exact ⟨_,rfl,aks (by decide),fun h=>by simp at h⟩
 | true =>
  obtain ⟨h1,h2,h3,h4⟩:=cw2 hr hh;have hlt:((lowN v.Sets nm:Nat):Int) < (v.Sets.length:Int):=by omega
  simp only [jT,cond_false,cj1 n hn v hv,je];rw [aja _ ⟨⟨by omega,hlt⟩,by first | trivial | rfl⟩];simp only [azj,ju];cases decide (N < 1) with
  | true=>exact ⟨_,rfl,aks (e:=1) (by decide),fun h=>by simp at h⟩
  | false =>
   have w8:jb .i64 (8 - ((gt v.Sets (lowN v.Sets nm)).Extents.length:Int))=8 - ((gt v.Sets (lowN v.Sets nm)).Extents.length:Int):=wid (by omega);simp only [cond_false,w8];cases 8 - ((gt v.Sets (lowN v.Sets nm)).Extents.length:Int) == 0 with
   | true=>exact ⟨_,rfl,aks (e:=200) (by decide),fun h=>by simp at h⟩
   | false =>
    obtain ⟨R,r,t1,t2,t3,t4,t5⟩:=fz8 n hn v hv hr N (8 - ((gt v.Sets (lowN v.Sets nm)).Extents.length:Int)) hN
    have hx8:(gt v.Sets (lowN v.Sets nm)).Extents.length+r.1.length≤8:=by
     rcases t4 with h3 | h3
     ·rw [h3];simp;exact h4
     ·omega
    simp only [cond_false,t1,t2,je];rw [aja _ (by omega),je];cases he:r.2.2 != 0 with
    | true =>
     have:r.2.2≠0:=by simpa using he
     exact ⟨_,rfl,aks this,fun h=>absurd h this⟩
    | false =>
     have he0:r.2.2=0:=by simpa using he
     obtain ⟨g1,g2,g3,g4,g5⟩:=t3 he0;simp only [cond_false,je];have hk:=(bk4 q1).1 (q4 _ h3);have hok:okD v ⟨(gt v.Sets (lowN v.Sets nm)).Name,(gt v.Sets (lowN v.Sets nm)).Dcb,(gt v.Sets (lowN v.Sets nm)).Extents ++ r.1,(gt v.Sets (lowN v.Sets nm)).Used⟩:=(bk4 q1).2 ⟨hk.1,hk.2.1,by simp only [jg];omega,hzc hk.2.2.2.1 g2 (fun k hk' h=>g5 k hk' (fqo h1 h)),hk.2.2.2.2.1,by simp only [akd,jg];omega⟩
     have hnd:(trks (exts (v.Sets.set (lowN v.Sets nm) ⟨(gt v.Sets (lowN v.Sets nm)).Name,(gt v.Sets (lowN v.Sets nm)).Dcb,(gt v.Sets (lowN v.Sets nm)).Extents ++ r.1,(gt v.Sets (lowN v.Sets nm)).Used⟩))).Nodup:=by
      rw [(bzl (hjp h1 _ r.1 rfl)).nodup_iff,akd,JM];exact ⟨g2.2.1,((ajx _).1 q6).2,fun a ha b hb e=>g5 a ha (e ▸ hb)⟩
     obtain ⟨s1,s2⟩:=dzb hr h1 hok rfl h2 hnd;exact ⟨_,rfl,⟨dkq hv (by rw [h2];omega) (by simp only [jg];omega),fun h=>absurd rfl h,fun _=>⟨s1,s2⟩⟩,fun _=>⟨trivial,r.1,rfl⟩⟩
theorem ewg {l:List aj5} {k:Nat} (hk:k < l.length) (d:aj5) (he:d.Extents=(gt l k).Extents):exts (l.set k d)=exts l:=by
 have e2:exts l=exts (l.take k) ++ ((gt l k).Extents ++ exts (l.drop (k+1))):=by
  rw [← bwm,← cjc];exact congrArg exts (dy2 hk)
 rw [dk8 hk,cjc,bwm,he,e2]
theorem fk2 (n:Nat) (hn:N0≤n) (v:aj6) (hv:bqo v) (hr:rV v=true) (nm:List UInt8) (c:TDcb) (N:Int) (hnm:nm.length≤100) :
  ∃ r,bzz n v nm c N=some r∧cqg v nm nm r:=by
 have hn0:4194304≤n:=hn;obtain ⟨hs,hl,hl2,hz,hm⟩:=bzo hr;obtain ⟨q1,q2,q3,q4,q5,q6⟩:=byg.1 hr;simp only [bzz,bw7,bwj n hn v hv,eym,je,hr,if_true,bne_self_eq_false,cond_false,cjm n hn v nm hs (by omega)];cases hh:hasN v.Sets nm with
 | false=>exact ⟨_,rfl,aks (by decide)⟩
 | true =>
  obtain ⟨h1,h2,h3,h4⟩:=cw2 hr hh;have hlt:((lowN v.Sets nm:Nat):Int) < (v.Sets.length:Int):=by omega
  simp only [jT,cond_false,cj1 n hn v hv,je];rw [aja _ ⟨by omega,hlt⟩];simp only [bj9,ju,fjl,je];cases hc:dscB c with
  | false =>
   simp only [Ji,cond_true,je];rw [aja _ (by first | trivial | rfl)];exact ⟨_,rfl,aks (by decide)⟩
  | true =>
   simp only [jT,cond_false];rw [aja _ h1];simp only [fz4 n hn (gt v.Sets (lowN v.Sets nm)).Extents (by omega),fku,je];cases hi:inB N 0 ((trkO (gt v.Sets (lowN v.Sets nm)).Extents).length:Int) with
   | false =>
    simp only [Ji,cond_true,je];rw [aja _ (by first | trivial | rfl)];exact ⟨_,rfl,aks (by decide)⟩
   | true =>
    simp only [jT,cond_false];rw [aja _ ⟨h1,h1⟩];simp only [je,ew6];rw [aja _ (by first | trivial | rfl)];simp only [bne_self_eq_false,cond_false,je,hw9 _ _ _ h1,List.set_set];have hk:=(bk4 q1).1 (q4 _ h3);unfold inB at hi;rw [jf,decide_eq_true_eq,decide_eq_true_eq,dkc (djc hk.2.2.2.1)] at hi;have hok:okD v ⟨(gt v.Sets (lowN v.Sets nm)).Name,c,(gt v.Sets (lowN v.Sets nm)).Extents,N⟩:=(bk4 q1).2 ⟨hk.1,hc,hk.2.2.1,hk.2.2.2.1,hi.1,hi.2⟩;obtain ⟨s1,s2⟩:=dzb hr h1 hok rfl h2 (by rw [ewg h1 _ (by rfl)];exact ((ajx _).1 q6).2);exact ⟨_,rfl,dkq hv (by rw [h2];omega) (by show (gt v.Sets (lowN v.Sets nm)).Extents.length≤20;omega),fun h=>absurd rfl h,fun _=>⟨s1,s2⟩⟩
theorem eqh {α β:Type} (f:α→List β) {a b:List α} (h:a.Sublist b):(a.flatMap f).Sublist (b.flatMap f):=by
 induction h with
 | slnil=>exact List.Sublist.refl _
 | cons x _ ih=>rw [Jm];exact ih.trans (List.sublist_append_right _ _)
 | cons_cons x _ ih=>rw [Jm,Jm];exact ih.append_left _
theorem hja {a b:List aj5} (h:a.Sublist b):(trks (exts a)).Sublist (trks (exts b)):=eqh _ (eqh _ h)
theorem fqh (n:Nat) (hn:N0≤n) (v:aj6) (hv:bqo v) (hr:rV v=true) (nm:List UInt8) :
  ∃ r,bwo n v nm=some r∧cqg v nm nm r∧(hasN v.Sets nm=true→r=(⟨v.Serial,v.Cyls,v.Heads,v.Size,wo nm v.Sets⟩,0)):=by
 have hn0:4194304≤n:=hn;obtain ⟨hs,hl,hl2,hz,hm⟩:=bzo hr;obtain ⟨q1,q2,q3,q4,q5,q6⟩:=byg.1 hr;simp only [bwo,bw3,bwj n hn v hv,eym,je,hr,if_true,bne_self_eq_false,cond_false,cjm n hn v nm hs (by omega)];cases hh:hasN v.Sets nm with
 | false=>exact ⟨_,rfl,aks (by decide),fun h=>by cases h⟩
 | true =>
  obtain ⟨h1,h2,h3,h4⟩:=cw2 hr hh;have hlt:((lowN v.Sets nm:Nat):Int) < (v.Sets.length:Int):=by omega
  simp only [jT,cond_false,cj1 n hn v hv,je];rw [aja _ ⟨by omega,hlt⟩];simp only [aye,je,bne_self_eq_false,cond_false];obtain ⟨r,d1,d2⟩:=fzk n hn v.Sets nm (by omega) (lowN v.Sets nm) h1 (fun k hk=>fq0 (dq1 k hk)) h2;rw [d1,je,d2];have hwl:=hq7 nm v.Sets;have hsub:(wo nm v.Sets).Sublist v.Sets:=List.filter_sublist;refine ⟨_,rfl,⟨⟨by show (wo nm v.Sets).length≤300;omega,hv.2.1,fun x hx=>hv.2.2 x (bwy.1 hx).1⟩,fun h=>absurd rfl h,fun _=>⟨?_,fun d hd hne=>bwy.2 ⟨hd,hne⟩,fun d hd=>.inl (bwy.1 hd).1⟩⟩,fun _=>rfl⟩;exact cy5 q1 (by omega) (by omega) (fun d hd=>q4 d (bwy.1 hd).1) (q5.filter _) ((hja hsub).nodup ((ajx _).1 q6).2)
end Go.Proofs.YtijnkhcfondehaaGreatDoor
/-
 ch. 21: Release and Rename keep a table valid; any change (the program alone).
-/
namespace Go.Proofs.YtijnkhcfondehaaGreatDoor
open Go.AE
theorem hjf (a n:Int) {w:Int} (h0:0≤w) (h1:w≤n):trk ⟨a,w⟩=(trk ⟨a,n⟩).take w.toNat:=by
 rw [ek1 a n w h0 h1,jU (by rw [bqj];exact jA _),jJ (by rw [bqj];exact jA _)]
theorem ew7:∀ (l:List aj0) (w:Int),l.all val=true→0≤w→(kpA w l).all val=true∧trks (kpA w l)=(trks l).take w.toNat
 | [],w,_,_=>by simp [kpA,trks]
 | x :: l,w,hv,hw=>by
  rw [Jq,jf] at hv;have v1:=(aq0 x).1 hv.1;have hlen:=bqj x;rw [kpA,aqx];by_cases h1:x.Len < w
  ·have ht:tk w x=x.Len:=by unfold tk;rw [if_pos h1]
   obtain ⟨i1,i2⟩:=ew7 l (w - x.Len) hv.2 (by omega);rw [ht,if_pos (by omega)];refine ⟨by rw [List.all_append,i1];simp;exact hv.1,?_⟩;rw [akd,cwx,i2,List.take_append,hlen];have e1:(trk x).take w.toNat=trk x:=jJ (by omega);have e2:w.toNat - x.Len.toNat=(w - x.Len).toNat:=by omega
   rw [e1,e2]
  ·have ht:tk w x=w:=by unfold tk;rw [if_neg h1]
   obtain ⟨i1,i2⟩:=ew7 l (w - w) hv.2 (by omega);rw [ht];have e0:(w - w).toNat=0:=by omega
   rw [e0,List.take_zero] at i2;rw [akd,i2,JB,jU (by omega)];by_cases h0:0 < w
   ·rw [if_pos h0];refine ⟨by rw [List.all_append,i1];simp;exact (aq0 _).2 ⟨by simp only;omega,by simp only;omega,by simp only;omega,by simp only;omega⟩,?_⟩;rw [cwx];exact hjf x.At x.Len hw (by omega)
   ·have:w=0:=by omega
    subst this;refine ⟨by rw [if_neg h0,Jd];exact i1,?_⟩;simp [trks]
theorem fjf (n:Nat) (hn:N0≤n) (v:aj6) (hv:bqo v) (hr:rV v=true) (nm:List UInt8) (N:Int) (hnm:nm.length≤100) (hN:-9223372036854775808≤N∧N≤9223372036854775807) :
  ∃ r,bwq n v nm N=some r∧cqg v nm nm r∧(hasN v.Sets nm=true→∃ w,1≤w∧N≤w∧(gt v.Sets (lowN v.Sets nm)).Used≤w∧(w=1∨w=N∨w=(gt v.Sets (lowN v.Sets nm)).Used)∧r=(⟨v.Serial,v.Cyls,v.Heads,v.Size,v.Sets.set (lowN v.Sets nm) ⟨(gt v.Sets (lowN v.Sets nm)).Name,(gt v.Sets (lowN v.Sets nm)).Dcb,kpA w (gt v.Sets (lowN v.Sets nm)).Extents,(gt v.Sets (lowN v.Sets nm)).Used⟩⟩,0)):=by
 have hn0:4194304≤n:=hn;obtain ⟨hs,hl,hl2,hz,hm⟩:=bzo hr;obtain ⟨q1,q2,q3,q4,q5,q6⟩:=byg.1 hr;simp only [bwq,bqu,bwj n hn v hv,eym,je,hr,if_true,bne_self_eq_false,cond_false,cjm n hn v nm hs (by omega)];cases hh:hasN v.Sets nm with
 | false=>exact ⟨_,rfl,aks (by decide),fun h=>by cases h⟩
 | true =>
  obtain ⟨h1,h2,h3,h4⟩:=cw2 hr hh;have hlt:((lowN v.Sets nm:Nat):Int) < (v.Sets.length:Int):=by omega
  have hk:=(bk4 q1).1 (q4 _ h3);obtain ⟨k1,k2,k3,k4,k5,k6⟩:=hk;simp only [jT,cond_false,cj1 n hn v hv,je];rw [aja _ ⟨by omega,hlt⟩];simp only [ayg,ju];rw [aja _ ⟨h1,h1⟩];obtain ⟨w,hw⟩:∃ w,w=(if 1 > (if (gt v.Sets (lowN v.Sets nm)).Used > N then (gt v.Sets (lowN v.Sets nm)).Used else N) then 1 else (if (gt v.Sets (lowN v.Sets nm)).Used > N then (gt v.Sets (lowN v.Sets nm)).Used else N)):=⟨_,rfl⟩
  have hu:(gt v.Sets (lowN v.Sets nm)).Used≤512:=by
   have:=gkv (gt v.Sets (lowN v.Sets nm)).Extents
   rw [dkc (djc k4)] at this;omega
  have hwf:1≤w∧N≤w∧(gt v.Sets (lowN v.Sets nm)).Used≤w∧(w=1∨w=N∨w=(gt v.Sets (lowN v.Sets nm)).Used):=by
   rw [hw];by_cases c1:(gt v.Sets (lowN v.Sets nm)).Used > N
   ·simp only [if_pos c1];split <;> omega
   ·simp only [if_neg c1];split <;> omega
  have hwr:w≤9223372036854775807:=by rcases hwf.2.2.2 with h | h | h <;> omega
  have hmx:(if 0 > w then 0 else w)=w:=if_neg (by omega);have hK:=gzm n (gt v.Sets (lowN v.Sets nm)).Extents k4.1 w ⟨by omega,hwr⟩ (by omega) (by omega)
  have hke:bzh n (gt v.Sets (lowN v.Sets nm)).Extents w=some (kpA w (gt v.Sets (lowN v.Sets nm)).Extents,kpB w (gt v.Sets (lowN v.Sets nm)).Extents):=by
   simp only [bzh,cwi n hn (gt v.Sets (lowN v.Sets nm)).Extents (by omega),djc k4,je,jT,cond_false,hmx];rw [hK,je,bwa]
  rw [← hw,hke,je,aja _ h1,je];simp only [ew6];rw [aja _ (by first | trivial | rfl)];simp only [bne_self_eq_false,cond_false,je];obtain ⟨a1,a2⟩:=ew7 (gt v.Sets (lowN v.Sets nm)).Extents w k4.1 (by omega);have hkl:=(hqr (gt v.Sets (lowN v.Sets nm)).Extents w).1
  have htl:1≤(trks (gt v.Sets (lowN v.Sets nm)).Extents).length:=by
   have:=bql k4.1
   omega
  have htk:(trks (kpA w (gt v.Sets (lowN v.Sets nm)).Extents)).length=min w.toNat (trks (gt v.Sets (lowN v.Sets nm)).Extents).length:=by rw [a2,jk]
  have hne:1≤(kpA w (gt v.Sets (lowN v.Sets nm)).Extents).length:=by
   rcases JH (kpA w (gt v.Sets (lowN v.Sets nm)).Extents).length with h | h
   ·have h0:(trks (kpA w (gt v.Sets (lowN v.Sets nm)).Extents)).length=0:=by rw [List.length_eq_zero_iff.1 h];rfl
    rw [htk] at h0;omega
   ·exact h
  have hsub:(trks (kpA w (gt v.Sets (lowN v.Sets nm)).Extents)).Sublist (trks (gt v.Sets (lowN v.Sets nm)).Extents):=by rw [a2];exact List.take_sublist _ _
  have hok:okD v ⟨(gt v.Sets (lowN v.Sets nm)).Name,(gt v.Sets (lowN v.Sets nm)).Dcb,kpA w (gt v.Sets (lowN v.Sets nm)).Extents,(gt v.Sets (lowN v.Sets nm)).Used⟩:=(bk4 q1).2 ⟨k1,k2,by simp only;omega,⟨a1,hsub.nodup k4.2.1,fun k hk=>k4.2.2 k (hsub.subset hk)⟩,k5,by simp only [htk];omega⟩
  have hnd:(trks (exts (v.Sets.set (lowN v.Sets nm) ⟨(gt v.Sets (lowN v.Sets nm)).Name,(gt v.Sets (lowN v.Sets nm)).Dcb,kpA w (gt v.Sets (lowN v.Sets nm)).Extents,(gt v.Sets (lowN v.Sets nm)).Used⟩))).Nodup:=by
   refine List.Sublist.nodup ?_ ((ajx _).1 q6).2
   have e2:exts v.Sets=exts (v.Sets.take (lowN v.Sets nm)) ++ ((gt v.Sets (lowN v.Sets nm)).Extents ++ exts (v.Sets.drop (lowN v.Sets nm+1))):=by
    rw [← bwm,← cjc];exact congrArg exts (dy2 h1)
   rw [dk8 h1,cjc,bwm,e2,akd,akd,akd,akd];exact (hsub.append_right _).append_left _
  obtain ⟨s1,s2⟩:=dzb hr h1 hok rfl h2 hnd;exact ⟨_,rfl,⟨dkq hv (by rw [h2];omega) (by simp only;omega),fun h=>absurd rfl h,fun _=>⟨s1,s2⟩⟩,fun _=>⟨w,hwf.1,hwf.2.1,hwf.2.2.1,hwf.2.2.2,rfl⟩⟩
theorem fzz (n:Nat) (hn:N0≤n) (v:aj6) (hv:bqo v) (hr:rV v=true) (old nm:List UInt8) (hnm:nm.length≤100) :
  ∃ r,bk6 n v old nm=some r∧cqg v old nm r∧(r.2=0→hasN v.Sets old=true∧hasN v.Sets nm=false∧cq4 nm=true∧r.1=⟨v.Serial,v.Cyls,v.Heads,v.Size,ins ⟨nm,(gt v.Sets (lowN v.Sets old)).Dcb,(gt v.Sets (lowN v.Sets old)).Extents,(gt v.Sets (lowN v.Sets old)).Used⟩ (wo old v.Sets)⟩) ∧
   (hasN v.Sets old=true→hasN v.Sets nm=false→cq4 nm=true→r.2=0):=by
 have hn0:4194304≤n:=hn
 have bad:∀ e:Int,e≠0→∃ r,((some ((⟨[],0,0,0,[]⟩:aj6),e)).bind fun r1=>(aqd n r1.1.Sets).bind fun r2=>some ((⟨r1.1.Serial,r1.1.Cyls,r1.1.Heads,r1.1.Size,(List.take r1.1.Sets.length r2)⟩:aj6),r1.2))=some r∧cqg v old nm r∧r.2=e:=by
  intro e he;refine ⟨((⟨[],0,0,0,[]⟩:aj6),e),?_,aks he,rfl⟩;simp only [je,gkb];rfl
 obtain ⟨hs,hl,hl2,hz,hm⟩:=bzo hr;obtain ⟨q1,q2,q3,q4,q5,q6⟩:=byg.1 hr;simp only [bk6,bqx,bwj n hn v hv,eym,hr,if_true,bne_self_eq_false,cond_false,cjm n hn v old hs (by omega),je];cases hh:hasN v.Sets old with
 | false =>
  obtain ⟨r,b1,b2,b3⟩:=bad 3 (by decide);exact ⟨r,b1,b2,fun h=>by rw [b3] at h;exact absurd h (by decide),fun h=>by cases h⟩
 | true =>
  obtain ⟨h1,h2,h3,h4⟩:=cw2 hr hh;have hlt:((lowN v.Sets old:Nat):Int) < (v.Sets.length:Int):=by omega
  simp only [jT,cond_false,cj1 n hn v hv,je];rw [aja _ ⟨by omega,hlt⟩];simp only [bj8,ju,fq4 n _ hn,je];cases hc:cq4 nm with
  | false =>
   simp only [Ji,cond_true,je];rw [aja _ (by first | trivial | rfl)];obtain ⟨r,b1,b2,b3⟩:=bad 1 (by decide);exact ⟨r,b1,b2,fun h=>by rw [b3] at h;exact absurd h (by decide),fun _ _ h=>by cases h⟩
  | true =>
   have hi:ajt n ⟨v.Serial,v.Cyls,v.Heads,v.Size,v.Sets⟩ nm=some (((lowN v.Sets nm:Nat):Int),hasN v.Sets nm):=cjm n hn v nm hs (by omega);simp only [jT,cond_false,hi,je];cases hx:hasN v.Sets nm with
   | true =>
    simp only [cond_true,je];rw [aja _ (by first | trivial | rfl)];obtain ⟨r,b1,b2,b3⟩:=bad 4 (by decide);exact ⟨r,b1,b2,fun h=>by rw [b3] at h;exact absurd h (by decide),fun _ h=>by cases h⟩
   | false =>
    simp only [cond_false];rw [aja _ h1,je];simp only [ew6];rw [aja _ (by first | trivial | rfl)];obtain ⟨r,s1,s2,s3⟩:=gk2 n (d:=⟨nm,(gt v.Sets (lowN v.Sets old)).Dcb,(gt v.Sets (lowN v.Sets old)).Extents,(gt v.Sets (lowN v.Sets old)).Used⟩) hs h1 h2 hx;simp only [bne_self_eq_false,cond_false,je,s1,ew6];rw [← s3,J4,s2];have hwl:=hq7 old v.Sets;have hno:=cwo hx
    have hok:okD v ⟨nm,(gt v.Sets (lowN v.Sets old)).Dcb,(gt v.Sets (lowN v.Sets old)).Extents,(gt v.Sets (lowN v.Sets old)).Used⟩:=by
     have:=(bk4 q1).1 (q4 _ h3)
     exact (bk4 q1).2 ⟨hc,this.2⟩
    have hself:v.Sets.set (lowN v.Sets old) (gt v.Sets (lowN v.Sets old))=v.Sets:=by
     rw [aqk h1];exact List.set_getElem_self h1
    have hins:=gje q5 h1 (d:=gt v.Sets (lowN v.Sets old)) rfl;rw [hself,h2] at hins
    have hnd:(trks (exts (ins ⟨nm,(gt v.Sets (lowN v.Sets old)).Dcb,(gt v.Sets (lowN v.Sets old)).Extents,(gt v.Sets (lowN v.Sets old)).Used⟩ (wo old v.Sets)))).Nodup:=by
     have p1:=bzl (dyd (dz2 ⟨nm,(gt v.Sets (lowN v.Sets old)).Dcb,(gt v.Sets (lowN v.Sets old)).Extents,(gt v.Sets (lowN v.Sets old)).Used⟩ (wo old v.Sets)));have p2:=bzl (dyd (dz2 (gt v.Sets (lowN v.Sets old)) (wo old v.Sets)));rw [← hins] at p2;rw [p1.nodup_iff]
     have:=p2.nodup_iff.1 ((ajx _).1 q6).2
     exact this
    refine ⟨_,rfl,⟨eyp hv (by omega) (fun x hx=>(bwy.1 hx).1) (Jb hnm (by decide)) (by show (gt v.Sets (lowN v.Sets old)).Extents.length≤20;omega),fun h=>absurd rfl h,fun _=>⟨?_,fun d hd hne=>bqq.2 (.inr (bwy.2 ⟨hd,hne⟩)),fun d hd=>?_⟩⟩,fun _=>⟨trivial,trivial,trivial,rfl⟩,fun _ _ _=>rfl⟩
    ·have hl1:(ins ⟨nm,(gt v.Sets (lowN v.Sets old)).Dcb,(gt v.Sets (lowN v.Sets old)).Extents,(gt v.Sets (lowN v.Sets old)).Used⟩ (wo old v.Sets)).length=v.Sets.length:=by rw [← s2,s3]
     exact cy5 q1 (by rw [hl1];exact q2) (by rw [hl1];exact q3) (fun d hd=>by
      rcases bqq.1 hd with rfl | h
      ·exact hok
      ·exact q4 d (bwy.1 h).1) (bzc (q5.filter _) fun x hx=>hno x (bwy.1 hx).1) hnd
    ·rcases bqq.1 hd with rfl | h
     ·exact .inr (.inr rfl)
     ·exact .inl (bwy.1 h).1
end Go.Proofs.YtijnkhcfondehaaGreatDoor
/-
 ch. 21: runs of changes; the labels of others (the program alone).
-/
namespace Go.Proofs.YtijnkhcfondehaaGreatDoor
open Go.AE
theorem cqe {v:aj6} {nm:List UInt8} {r:aj6×Int} (to:List UInt8) (h:cqg v nm nm r):cqg v nm to r :=
 ⟨h.1,h.2.1,fun e=>⟨(h.2.2 e).1,(h.2.2 e).2.1,fun d hd=>by
  rcases (h.2.2 e).2.2 d hd with h | h | h
  ·exact .inl h
  ·exact .inr (.inl h)
  ·exact .inr (.inl h)⟩⟩
def toOf (a:TAct):List UInt8:=if (Jr a.Kind 6 == 5)=true then a.To else a.Name
def gyg (a:TAct):Prop:=0≤a.Kind∧-9223372036854775808≤a.N∧a.N≤9223372036854775807
theorem hqw (n:Nat) (hn:N0≤n) (v:aj6) (hv:bqo v) (hr:rV v=true) (a:TAct) (h1:a.Name.length≤100) (h2:a.To.length≤100) (ha:gyg a) :
  ∃ r,byv n v a=some r∧cqg v a.Name (toOf a) r:=by
 obtain ⟨hk,hN⟩:=ha;have em:Jr a.Kind 6=a.Kind % 6:=J3 hk;unfold byv;cases e0:Jr a.Kind 6 == 0 with
 | true =>
  obtain ⟨r,c1,c2,_⟩:=fzf n hn v hv hr a.Name a.Dcb [(⟨1,1⟩:aj0)] 7 a.N h1 hN.2;simp only [cond_true,c1,je];exact ⟨_,rfl,cqe _ c2⟩
 | false =>
  rw [cond_false];cases e1:Jr a.Kind 6 == 1 with
  | true =>
   obtain ⟨r,c1,c2,_⟩:=fy8 n hn v hv hr a.Name a.N h1 hN.2;simp only [cond_true,c1,je];exact ⟨_,rfl,cqe _ c2⟩
  | false =>
   rw [cond_false];cases e2:Jr a.Kind 6 == 2 with
   | true =>
    obtain ⟨r,c1,c2,_⟩:=fjf n hn v hv hr a.Name a.N h1 hN;simp only [cond_true,c1,je];exact ⟨_,rfl,cqe _ c2⟩
   | false =>
    rw [cond_false];cases e3:Jr a.Kind 6 == 3 with
    | true =>
     obtain ⟨r,c1,c2⟩:=fk2 n hn v hv hr a.Name a.Dcb a.N h1;simp only [cond_true,c1,je];exact ⟨_,rfl,cqe _ c2⟩
    | false =>
     rw [cond_false];cases e4:Jr a.Kind 6 == 4 with
     | true =>
      obtain ⟨r,c1,c2,_⟩:=fqh n hn v hv hr a.Name;simp only [cond_true,c1,je];exact ⟨_,rfl,cqe _ c2⟩
     | false =>
      obtain ⟨r,c1,c2,_⟩:=fzz n hn v hv hr a.Name a.To h2;simp only [cond_false,c1,je]
      have e5:toOf a=a.To:=by
       unfold toOf;simp only [beq_eq_false_iff_ne] at e0 e1 e2 e3 e4;rw [if_pos (by rw [beq_iff_eq];omega)]
      rw [e5];exact ⟨_,rfl,c2⟩
theorem empty_eq (n:Nat) (hn:N0≤n) (s:bka) (h1:0≤s.Cyls) (h2:0≤s.Heads) (h3:0≤s.Size):∃ v,bzu n s=some (v,0)∧v.Sets=[]∧v.Serial.length≤100∧head v=true:=by
 have e1:Jr s.Cyls 4=s.Cyls % 4:=J3 h1;have e2:Jr s.Heads 3=s.Heads % 3:=J3 h2;have e3:Jr s.Size 2=s.Size % 2:=J3 h3;simp only [bzu,ckq,gw0 n hn _ _ _ _ (by decide:([86,49]:List UInt8).length≤2097152),e1,e2,e3];have c1:s.Cyls % 4=0∨s.Cyls % 4=1∨s.Cyls % 4=2∨s.Cyls % 4=3:=by omega
 have c2:s.Heads % 3=0∨s.Heads % 3=1∨s.Heads % 3=2:=by omega
 have c3:s.Size % 2=0∨s.Size % 2=1:=by omega
 generalize s.Cyls % 4=a at *;generalize s.Heads % 3=b at *;generalize s.Size % 2=c at *
 have hh:∀ a∈([0,1,2,3]:List Int),∀ b∈([0,1,2]:List Int),∀ c∈([0,1]:List Int),
   (jb .i64 ((jb .i64 ((jb .i64 (jb .i64 a+1)) * (jb .i64 (jb .i64 b+2)))) - 1)≠0) ∧
   cz1 [86,49] (jb .i64 (jb .i64 a+1)) (jb .i64 (jb .i64 b+2)) (jb .i64 (Jr (jb .i64 c) (jb .i64 ((jb .i64 ((jb .i64 (jb .i64 a+1)) * (jb .i64 (jb .i64 b+2)))) - 1))+1))=true:=by decide +kernel
 obtain ⟨g1,g2⟩:=hh a (by rcases c1 with h | h | h | h <;> simp [h]) b (by rcases c2 with h | h | h <;> simp [h]) c (by rcases c3 with h | h <;> simp [h]);rw [aja _ g1,g2];exact ⟨_,rfl,rfl,by show ([86,49]:List UInt8).length≤100;decide,g2⟩
theorem gqw (n:Nat) (hn:N0≤n) (l:List TAct) (hl:l.length≤2097152) (ha:∀ a∈l,gyg a):∀ j k m v,k+j=l.length→j < m→bqo v→rV v=true →
  ∃ y w,ajo (fun (x:(List UInt8)×Int×Int×Int×(List aj5)×Int)=>awe n l x.1 x.2.1 x.2.2.1 x.2.2.2.1 x.2.2.2.2.1 x.2.2.2.2.2) m (v.Serial,v.Cyls,v.Heads,v.Size,v.Sets,(k:Int))=some y∧bqo w∧rV w=true∧(y = .inl w∨y = .inr (w.Serial,w.Cyls,w.Heads,w.Size,w.Sets)):=by
 intro j
 induction j with
 | zero =>
  intro k m v hj hm hv hr;obtain ⟨m,rfl⟩:∃ q,m=q+1:=⟨m - 1,by omega⟩;refine ⟨_,v,ajw (y:=.inr (v.Serial,v.Cyls,v.Heads,v.Size,v.Sets)) ?_,hv,hr,.inr rfl⟩;unfold awe;dsimp only;rw [decide_eq_false (by omega)];rfl
 | succ j ih =>
  intro k m v hj hm hv hr;obtain ⟨m,rfl⟩:∃ q,m=q+1:=⟨m - 1,by omega⟩;have hk:k < l.length:=by omega
  have hlt:((k:Nat):Int) < (l.length:Int):=by omega
  have hw:=wid (n:=(k:Int)+1) (by omega);by_cases h40:(k:Int) < 40
  ·by_cases hc:(if decide ((((gt l k).Name).length:Int) > 100)=true then true else decide ((((gt l k).To).length:Int) > 100))=true
   ·refine ⟨_,v,ajw (y:=.inl v) ?_,hv,hr,.inl rfl⟩;unfold awe;simp only [decide_eq_true hlt,decide_eq_true h40,if_true,cond_true,ju,hc];rw [aja _ ⟨⟨by omega,hlt⟩,fun _=>⟨by omega,hlt⟩⟩]
   ·have hc':(if decide ((((gt l k).Name).length:Int) > 100)=true then true else decide ((((gt l k).To).length:Int) > 100))=false:=by simpa using hc
    have hn1:(gt l k).Name.length≤100∧(gt l k).To.length≤100:=by
     rw [cw3,Bool.or_eq_false_iff,decide_eq_false_iff_not,decide_eq_false_iff_not] at hc';omega
    obtain ⟨r,a1,a2,a3,a4⟩:=hqw n hn v hv hr (gt l k) hn1.1 hn1.2 (ha _ (by rw [aqk hk];exact jw hk));have a1':byv n ⟨v.Serial,v.Cyls,v.Heads,v.Size,v.Sets⟩ (gt l k)=some r:=a1
    obtain ⟨v',hv',hr',hb⟩:∃ v',bqo v'∧rV v'=true∧awe n l v.Serial v.Cyls v.Heads v.Size v.Sets (k:Int)=some (.inl (v'.Serial,v'.Cyls,v'.Heads,v'.Size,v'.Sets,((k+1:Nat):Int))):=by
     have hb0:awe n l v.Serial v.Cyls v.Heads v.Size v.Sets (k:Int)=(bif (r.2 == 0) then azo n l r.1.Serial r.1.Cyls r.1.Heads r.1.Size r.1.Sets (k:Int) else azo n l v.Serial v.Cyls v.Heads v.Size v.Sets (k:Int)):=by
      unfold awe;simp only [decide_eq_true hlt,decide_eq_true h40,if_true,cond_true,ju,hc',cond_false,a1',je];rw [aja _ ⟨⟨by omega,hlt⟩,fun _=>⟨by omega,hlt⟩⟩,aja _ ⟨by omega,hlt⟩]
     rw [hb0];cases e:r.2 == 0 with
     | true=>exact ⟨r.1,a2,(a4 (by simpa using e)).1,by simp only [cond_true,azo,hw];rfl⟩
     | false=>exact ⟨v,hv,hr,by simp only [cond_false,azo,hw];rfl⟩
    obtain ⟨y,w,y1,y2⟩:=ih (k+1) m v' (by omega) (by omega) hv' hr';exact ⟨y,w,(aq5 hb).trans y1,y2⟩
  ·refine ⟨_,v,ajw (y:=.inr (v.Serial,v.Cyls,v.Heads,v.Size,v.Sets)) ?_,hv,hr,.inr rfl⟩;unfold awe;dsimp only;rw [decide_eq_true hlt,decide_eq_false h40];rfl
theorem gy2 (n:Nat) (hn:N0≤n) (s:bka) (l:List TAct) (h1:0≤s.Cyls) (h2:0≤s.Heads) (h3:0≤s.Size) (hl:l.length≤2097152) (ha:∀ a∈l,gyg a):∃ w,byi n s l=some w∧bqo w∧rV w=true:=by
 have hn0:4194304≤n:=hn;obtain ⟨v,v1,v2,v3,v4⟩:=empty_eq n hn s h1 h2 h3;have hv:bqo v:=⟨by rw [v2];simp,(Jb v3 (by decide)),by rw [v2];simp⟩;have hz:=dj1 v4;have hr:rV v=true:=byg.2 ⟨v4,by rw [v2];simp,by rw [v2];simp;omega,by rw [v2];simp,by rw [v2];simp,by rw [v2];rfl⟩;obtain ⟨y,w,y1,y2,y3,y4⟩:=gqw n hn l hl ha l.length 0 n v (by omega) (by omega) hv hr;rw [v2] at y1;have y1':ajo (fun (x:(List UInt8)×Int×Int×Int×(List aj5)×Int)=>awe n l x.1 x.2.1 x.2.2.1 x.2.2.2.1 x.2.2.2.2.1 x.2.2.2.2.2) n (v.Serial,v.Cyls,v.Heads,v.Size,[],0)=some y:=y1;refine ⟨w,?_,y2,y3⟩;simp only [byi,v1,je];rw [y1',je];rcases y4 with rfl | rfl <;> rfl
theorem hz9 {l:List TAct} (h:CanL Tryz.prog [.slice 62] [.slice (List.map aw4 l)]):∀ a∈l,-9223372036854775808≤a.N∧a.N≤9223372036854775807:=by
 intro a ha;have h0:=h.2 0 (by decide);have h1:=gzf ty62 aw4 (l:=l) h0 a ha;have h2:=h1.2 11 (by simp);simp only [aw4,cg_zero,cg_succ,jY,List.getD_cons_succ] at h2;cases h2 with
 | int _ _ hr =>
  have h3:IntKind.i64.min = -9223372036854775808:=by decide
  have h4:IntKind.i64.max=9223372036854775807:=by decide
  simp only [InR,h3,h4] at hr;omega
theorem dz0 {x:Int} (h:Go.AE.Can Tryz.prog (Kd.int .u8) (C.int x)):0≤x:=by
 cases h with
 | int _ _ hr =>
  have h3:IntKind.u8.min=0:=by decide
  simp only [InR,h3] at hr;omega
theorem hz4 {l:List TAct} (h:CanL Tryz.prog [.slice 62] [.slice (List.map aw4 l)]):∀ a∈l,gyg a:=by
 intro a ha;have h0:=h.2 0 (by decide);have h1:=gzf ty62 aw4 (l:=l) h0 a ha;have h2:=h1.2 0 (by simp);simp only [aw4,cg_zero,jY] at h2;exact ⟨dz0 h2,hz9 h a ha⟩
end Go.Proofs.YtijnkhcfondehaaGreatDoor
/-
 ch. 21: runs of changes.
-/
namespace Go.Proofs.YtijnkhcfondehaaGreatDoor
open Go.AE
end Go.Proofs.YtijnkhcfondehaaGreatDoor
/-
 ch. 21: codes, texts, numbers of two bytes.
-/
namespace Go.Proofs.YtijnkhcfondehaaGreatDoor
open Go.AE
def cdI (k:Int):Int:=((bqn 0 k).getD default).1
def cd (b:UInt8):Int:=cdI ((b.toNat:Nat):Int)
def okC (b:UInt8):Bool:=decide (32≤b.toNat∧b.toNat≤126)
theorem gzz:∀ k:Fin 256,32≤k.val∧k.val≤126→bqn 0 ((k.val:Nat):Int)=some (cdI ((k.val:Nat):Int),true)∧fkm 0 ((k.val:Nat):Int)=some (cdI ((k.val:Nat):Int),true):=by decide +kernel
theorem hwe (n:Nat) {b:UInt8} (h:okC b=true):bqn n ((b.toNat:Nat):Int)=some (cd b,true):=by
 have:=(gzz ⟨b.toNat,b.toNat_lt⟩ (by simpa [okC] using h)).1
 exact this
def txt (s:List UInt8) (K:Nat):List Int:=s.map cd ++ jr (K - s.length) 64
theorem akv (s:List UInt8) (K:Nat) (h:s.length≤K):(txt s K).length=K:=by simp [txt];omega
theorem cy1 {W:List Int} {j K:Nat} (hW:W.length=K) (hj:j < K) (w:Int) (hw:W[j]'(by omega)=w):(W.take j ++ jr (K - j) 0).set j w=W.take (j+1) ++ jr (K - (j+1)) 0:=by
 subst hw;apply J1
 ·simp;omega
 ·intro i h1 h2;simp only [j6,jg,jk,j1] at h1;by_cases e:i=j
  ·subst e;rw [List.getElem_set_self,JW (by simp;omega)];simp
  ·rw [List.getElem_set_ne (by omega)];by_cases hl:i < j
   ·rw [JW (by simp;omega),JW (by simp;omega)];simp
   ·rw [JT (by simp;omega),JT (by simp;omega)];simp
theorem gy9 (n:Nat) (s:List UInt8) (K:Nat) (hs:s.length≤K) (hK:K≤65536) (hc:s.all okC=true):∀ r j m,j+r=K→r < m →
  ajo (fun (x:(List Int)×Int)=>azd n s (K:Int) x.1 x.2) m ((txt s K).take j ++ jr (K - j) 0,(j:Int))=some (.inr (txt s K)):=by
 have hW:=akv s K hs;intro r
 induction r with
 | zero =>
  intro j m hj hm;obtain ⟨m,rfl⟩:∃ q,m=q+1:=⟨m - 1,by omega⟩
  have:j=K:=by omega
  subst this;refine ajw ?_;unfold azd;simp only [show decide ((j:Int) < (j:Int))=false by simp,cond_false,Nat.sub_self,List.replicate_zero,JB];rw [jJ (by omega)]
 | succ r ih =>
  intro j m hj hm;obtain ⟨m,rfl⟩:∃ q,m=q+1:=⟨m - 1,by omega⟩;have hjK:j < K:=by omega
  refine (aq5 (x':=((txt s K).take (j+1) ++ jr (K - (j+1)) 0,((j+1:Nat):Int))) ?_).trans (ih (j+1) m (by omega) (by omega));have hl:((txt s K).take j ++ jr (K - j) 0).length=K:=by simp [hW];omega
  unfold azd;simp only [decide_eq_true (show (j:Int) < (K:Int) by omega),cond_true,ju,hl];rw [aja _ ⟨⟨by omega,by omega⟩,hjK⟩];by_cases hs2:j < s.length
  ·simp only [show decide ((j:Int) ≥ (s.length:Int))=false by simp;omega,cond_false];rw [aja _ ⟨by omega,by omega⟩];have hg:s.getD j 0=s[j]:=by simp [ja,hs2]
   have hok:okC s[j]=true:=(jx.1 hc) _ (jw hs2);rw [hg,hwe n hok,je];simp only [jT,cond_false,List.set_set];rw [aja _ ⟨⟨by omega,by omega⟩,hjK⟩];unfold azf;rw [cy1 hW hjK (cd s[j]) (by simp [txt,JW,hs2]),wid (n:=(j:Int)+1) (by omega)];rfl
  ·simp only [show decide ((j:Int) ≥ (s.length:Int))=true by simp;omega,cond_true];unfold azf;rw [cy1 hW hjK 64 (by rw [show (txt s K)[j]=_ from JT (by simp;omega)];simp),wid (n:=(j:Int)+1) (by omega)];rfl
theorem dkj (n:Nat) (hn:N0≤n) (s:List UInt8) (K:Nat) (hs:s.length≤K) (hK:K≤65536) (hc:s.all okC=true):bq8 n s (K:Int)=some (txt s K):=by
 have hn0:4194304≤n:=hn;unfold bq8 cwr;simp only [show (if (decide ((K:Int) < 0))=true then true else (decide ((K:Int) > 65536)))=false by simp;omega,cond_false,show decide ((s.length:Int) > (K:Int))=false by simp;omega];unfold bz5;rw [aja _ ⟨by omega,by omega,by omega⟩];have key:=gy9 n s K hs hK hc K 0 n (by omega) (by omega);simp only [List.take_zero,Jd,Nat.sub_zero] at key;simp only [ju];rw [show awi K (0:Int)=jr K 0 from rfl];have key':ajo (fun (x:(List Int)×Int)=>azd n s (K:Int) x.1 x.2) n (jr K 0,0)=some (.inr (txt s K)):=key;rw [key'];rfl
def h2 (k:Int):List Int:=[jb .u8 (Int.fdiv k 256),jb .u8 k]
theorem fj7 (n:Nat) (k:Int):ayz n k=some (h2 k):=rfl
theorem byh (k:Int):(h2 k).length=2:=rfl
end Go.Proofs.YtijnkhcfondehaaGreatDoor
/-
 ch. 21: the records of labels.
-/
namespace Go.Proofs.YtijnkhcfondehaaGreatDoor
open Go.AE
def fj9 (d:TDcb):Int:=if d.Blocked then (if d.Asa then 192 else 128) else if d.Asa then 64 else 0
def hzr (d:aj5):List Int:=[jb .u8 d.Dcb.Org,jb .u8 d.Dcb.Format,fj9 d.Dcb,jb .u8 d.Dcb.KeyLen] ++ h2 d.Dcb.Lrecl ++ h2 d.Dcb.Blksize ++ h2 d.Dcb.KeyPos ++ h2 d.Used
def exb (l:List aj0):List Int:=l.flatMap fun x=>h2 x.At ++ h2 x.Len
def dji (d:aj5):List Int:=hzr d ++ [jb .u8 (d.Extents.length:Int)]
def ayp (d:aj5):List Int:=dji d ++ exb d.Extents ++ jr (32 - 4 * d.Extents.length) 0
def rcP (k:Int) (d:aj5):TRec:=⟨k,txt d.Name 44,ayp d,false⟩
theorem byk (d:aj5):(dji d).length=13:=by simp [dji,hzr,h2]
theorem eqi:∀ l:List aj0,(exb l).length=4 * l.length
 | []=>rfl
 | x :: l=>by
  have:=eqi l
  simp only [exb,Jm,jg,byh,jq] at this ⊢;omega
theorem hkc (a b:List aj0):exb (a ++ b)=exb a ++ exb b:=by simp [exb]
theorem gk0 {l:List aj0} {k:Nat} (h:k < l.length):exb (l.take (k+1))=exb (l.take k) ++ (h2 (gt l k).At ++ h2 (gt l k).Len):=by
 rw [Ju h,hkc,aqk h];simp [exb]
structure OkD (d:aj5):Prop where
 ext:d.Extents.length≤8
 name:d.Name.all okC=true
 nlen:d.Name.length≤44
 nums:∀ x∈[d.Dcb.Lrecl,d.Dcb.Blksize,d.Dcb.KeyPos,d.Used],0≤x∧x≤4611686018427387904
 exts:∀ x∈d.Extents,(0≤x.At∧x.At≤4611686018427387904)∧(0≤x.Len∧x.Len≤4611686018427387904)
theorem hj5 (n:Nat) (n_:Int) (d:aj5) (hd:d.Extents.length≤8):∀ r j m,j+r=d.Extents.length→r < m →
  ajo (fun (x:(List Int)×Int)=>akm n n_ d (d.Extents.length:Int) x.1 x.2) m (dji d ++ exb (d.Extents.take j),(j:Int))=some (dji d ++ exb d.Extents):=by
 intro r
 induction r with
 | zero =>
  intro j m hj hm;obtain ⟨m,rfl⟩:∃ q,m=q+1:=⟨m - 1,by omega⟩
  have:j=d.Extents.length:=by omega
  subst this;refine ajw ?_;unfold akm;simp only [show decide ((d.Extents.length:Int) < (d.Extents.length:Int))=false by simp,cond_false,J4]
 | succ r ih =>
  intro j m hj hm;obtain ⟨m,rfl⟩:∃ q,m=q+1:=⟨m - 1,by omega⟩;have hjs:j < d.Extents.length:=by omega
  refine (aq5 (x':=(dji d ++ exb (d.Extents.take (j+1)),((j+1:Nat):Int))) ?_).trans (ih (j+1) m (by omega) (by omega));unfold akm;have hl:(dji d ++ exb (d.Extents.take j)).length=13+4 * j:=by rw [jg,byk,eqi,jk];omega
  simp only [decide_eq_true (show (j:Int) < (d.Extents.length:Int) by omega),cond_true,ju,fj7,je];rw [aja _ ⟨by omega,by omega⟩,aja _ (by simp only [byh,hl];omega),aja _ (by simp only [byh,hl];omega),wid (n:=(j:Int)+1) (by omega),gk0 hjs];simp only [jQ];rfl
theorem gju (n:Nat) (hn:N0≤n) (k:Int) (d:aj5) (hd:OkD d):bzq n k d=some (rcP k d):=by
 have hn0:4194304≤n:=hn;have hd1:=hd.ext
 have key:∀ f,f=fj9 d.Dcb→ako n k d f=some (rcP k d):=by
  intro f hf;unfold ako;simp only [fj7,je];rw [aja _ (by simp only [byh];omega),aja _ (by simp only [byh];omega),aja _ (by simp only [byh];omega),aja _ (by simp only [byh];omega),aja _ (by simp only [byh];omega)];have h:=hj5 n k d hd1 d.Extents.length 0 n (by omega) (by omega);rw [hf]
  have h':ajo (fun (x:(List Int)×Int)=>akm n k d (d.Extents.length:Int) x.1 x.2) n (dji d,0)=some (dji d ++ exb d.Extents):=by
   simpa [exb] using h
  have e:(((((([(jb .u8 (d.Dcb.Org)),(jb .u8 (d.Dcb.Format)),fj9 d.Dcb,(jb .u8 (d.Dcb.KeyLen))] ++ h2 d.Dcb.Lrecl) ++ h2 d.Dcb.Blksize) ++ h2 d.Dcb.KeyPos) ++ h2 d.Used) ++ [(jb .u8 ((d.Extents.length:Int)))]))=dji d:=rfl;rw [e,h',je];unfold bqw;rw [show (44:Int)=((44:Nat):Int) from rfl,dkj n hn d.Name 44 hd.nlen (by omega) hd.name,je];have hl:(dji d ++ exb d.Extents).length=13+4 * d.Extents.length:=by rw [jg,byk,eqi]
  rw [hl,wid (n:=45 - ((13+4 * d.Extents.length:Nat):Int)) (by omega),aja _ ⟨by omega,by omega⟩];have e2:(45 - ((13+4 * d.Extents.length:Nat):Int)).toNat=32 - 4 * d.Extents.length:=by omega
  rw [e2];rfl
 unfold bzq;have e0:jb .u8 (((BitVec.ofInt (jj .u8) 0 ||| BitVec.ofInt (jj .u8) 128).toNat:Int))=128:=by decide
 have e1:jb .u8 (((BitVec.ofInt (jj .u8) 128 ||| BitVec.ofInt (jj .u8) 64).toNat:Int))=192:=by decide
 have e2:jb .u8 (((BitVec.ofInt (jj .u8) 0 ||| BitVec.ofInt (jj .u8) 64).toNat:Int))=64:=by decide
 rw [e0];unfold bj1;rw [e1,e2];cases hB:d.Dcb.Blocked <;> cases hA:d.Dcb.Asa <;> simp only [cond_true,cond_false] <;> exact key _ (by simp [fj9,hA,hB])
end Go.Proofs.YtijnkhcfondehaaGreatDoor
/-
 ch. 21: the tracks of a table.
-/
namespace Go.Proofs.YtijnkhcfondehaaGreatDoor
open Go.AE
def tr (S:Nat) (L:List TRec):List (List TRec):=(Jc S).map fun n=>(L.drop (14 * n)).take 14
theorem czc (S:Nat) (L:List TRec):(tr S L).length=S:=by simp [tr]
theorem eq5 {S:Nat} {L:List TRec} {i:Nat} (h:i < (tr S L).length):(tr S L)[i]=(L.drop (14 * i)).take 14:=by simp [tr]
theorem hw5 (S:Nat) (L:List TRec):tr (S+1) L=tr S L ++ [(L.drop (14 * S)).take 14]:=by simp [tr,List.range_succ]
theorem hqy {S:Nat} (L:List TRec) (r:TRec) (h:L.length / 14 < S):tr S (L ++ [r])=(tr S L).set (L.length / 14) ((L.drop (14 * (L.length / 14))).take 14 ++ [r]):=by
 apply J1
 ·simp [czc]
 ·intro i h1 h2;rw [czc] at h1;rw [List.getElem_set,eq5];by_cases e:L.length / 14=i
  ·subst e;simp only [if_true];rw [List.drop_append_of_le_length (by omega),List.take_append,jJ (by simp <;> omega)];congr 1;rw [jJ (by simp <;> omega)]
  ·rw [if_neg e,eq5];by_cases hl:i < L.length / 14
   ·rw [List.drop_append_of_le_length (by omega),jU (by simp <;> omega)]
   ·rw [List.drop_eq_nil_of_le (by simp <;> omega),List.drop_eq_nil_of_le (by omega)]
def recs (v:aj6):List TRec:=(Jc v.Sets.length).map fun j=>rcP ((j % 14+1:Nat):Int) (gt v.Sets j)
theorem cj6 (v:aj6):(recs v).length=v.Sets.length:=by simp [recs]
theorem eqk {v:aj6} {j:Nat} (h:j < (recs v).length):(recs v)[j]=rcP ((j % 14+1:Nat):Int) (gt v.Sets j):=by simp [recs]
def volB (v:aj6):List Int:=txt [86,79,76,49] 4 ++ txt v.Serial 6 ++ h2 v.Cyls ++ h2 v.Heads ++ h2 v.Size ++ txt [] 64
def vol (v:aj6):TRec:=⟨3,txt [86,79,76,49] 4,volB v,false⟩
def encT (v:aj6):List (List TRec):=[vol v] :: tr v.Size.toNat (recs v)
structure OkV (v:aj6):Prop where
 ser:v.Serial.all okC=true
 slen:v.Serial.length≤6
 nums:∀ x∈[v.Cyls,v.Heads,v.Size],0≤x∧x≤4611686018427387904
 size:1≤v.Size∧v.Size≤511
 sets:v.Sets.length≤64∧(v.Sets.length:Int)≤14 * v.Size
 lbl:∀ k,k < v.Sets.length→OkD (gt v.Sets k)
theorem hqv {α:Type} (A:List α) (x y:α) (Z:List α):(A ++ [x] ++ Z).set A.length y=A ++ [y] ++ Z:=by simp
theorem hqs (j:Nat) (h:j≤64):jb .i64 (Jr (j:Int) 14+1)=((j % 14+1:Nat):Int):=by
 rw [J3 (by omega),wid (by omega)];omega
theorem hqc (j:Nat) (h:j≤64):jb .i64 (1+jb .i64 (Int.tdiv (j:Int) 14))=((1+j / 14:Nat):Int):=by
 rw [Int.tdiv_eq_ediv_of_nonneg (by omega),wid (n:=(j:Int) / 14) (by omega),wid (by omega)];omega
theorem gqx (n:Nat) (hn:N0≤n) (v:aj6) (hv:OkV v) (S:Nat) (hS:(S:Int)=v.Size) (w:TRec):∀ r j mm (A:List (List TRec)) (x:List TRec) (m:Nat),j+r=v.Sets.length→r < mm →
  A ++ [x] ++ jr m []=[w] :: tr S ((recs v).take j)→A.length=(if j=0 then 0 else 1+(j - 1) / 14)→A.length+1+m=S+1 →
  ajo (fun (x:List (List TRec)×List TRec×Nat×Int)=>azs n v x.1 x.2.1 x.2.2.1 x.2.2.2) mm (A,x,m,(j:Int))=some ([w] :: tr S (recs v)):=by
 obtain ⟨hs1,hs2⟩:=hv.sets;obtain ⟨hz1,hz2⟩:=hv.size;intro r
 induction r with
 | zero =>
  intro j mm A x m hj hm hI hA hl;obtain ⟨mm,rfl⟩:∃ q,mm=q+1:=⟨mm - 1,by omega⟩
  have:j=v.Sets.length:=by omega
  subst this;refine ajw ?_;unfold azs;simp only [show decide ((v.Sets.length:Int) < (v.Sets.length:Int))=false by simp,cond_false];rw [jJ (by rw [cj6];omega)] at hI;rw [← hI];rfl
 | succ r ih =>
  intro j mm A x m hj hm hI hA hl;obtain ⟨mm,rfl⟩:∃ q,mm=q+1:=⟨mm - 1,by omega⟩;have hjs:j < v.Sets.length:=by omega
  have hxl:x.length≤14:=by
   have h1:(A ++ [x] ++ jr m [])[A.length]'(by simp <;> omega)=x:=by
    rw [JW (by simp),JT (by simp)];simp
   have h2:∀ (i:Nat) (hi:i < ([w] :: tr S ((recs v).take j)).length),(([w] :: tr S ((recs v).take j))[i]).length≤14:=by
    intro i hi;cases i with
    | zero=>simp
    | succ i=>rw [List.getElem_cons_succ,eq5];simp;omega
   have h3:=h2 A.length (by rw [← hI];simp <;> omega);rw [← h1]
   have:∀ {a b:List (List TRec)} (e:a=b) (i:Nat) (ha:i < a.length) (hb:i < b.length),a[i]=b[i]:=by intro a b e;subst e;intros;rfl
   rw [this hI A.length (by simp <;> omega) (by rw [← hI];simp <;> omega)];exact h3
  have hrt:(recs v).take (j+1)=(recs v).take j ++ [rcP ((j % 14+1:Nat):Int) (gt v.Sets j)]:=by
   rw [Ju (by rw [cj6];exact hjs),eqk]
  have hlt:((recs v).take j).length=j:=by rw [jk,cj6];omega
  have hq:j / 14 < S:=by omega
  have hst:=hqy ((recs v).take j) (rcP ((j % 14+1:Nat):Int) (gt v.Sets j)) (S:=S) (by rw [hlt];exact hq);rw [← hrt,hlt] at hst
  have hget:∀ i (hi:i < (A ++ [x] ++ jr m []).length),i=1+j / 14→(A ++ [x] ++ jr m [])[i]=(((recs v).take j).drop (14 * (j / 14))).take 14:=by
   have:∀ {a b:List (List TRec)} (e:a=b) (i:Nat) (ha:i < a.length) (hb:i < b.length),a[i]=b[i]:=by intro a b e;subst e;intros;rfl
   intro i hi e;subst e;rw [this hI (1+j / 14) hi (by simp [czc] <;> omega)]
   have e2:([w] :: tr S ((recs v).take j))[1+j / 14]'(by simp [czc] <;> omega)=(tr S ((recs v).take j))[j / 14]'(by rw [czc];exact hq):=by
    simp [Nat.add_comm 1 (j / 14)]
   rw [e2,eq5]
  have hrec:=gju n hn ((j % 14+1:Nat):Int) (gt v.Sets j) (hv.lbl j hjs);generalize rcP ((j % 14+1:Nat):Int) (gt v.Sets j)=R at hrec hst
  have hset:[w] :: tr S ((recs v).take (j+1))=(A ++ [x] ++ jr m []).set (1+j / 14) ((((recs v).take j).drop (14 * (j / 14))).take 14 ++ [R]):=by
   rw [hst,hI,Nat.add_comm 1 (j / 14)];rfl
  by_cases hin:1+j / 14=A.length
  ·refine (aq5 (x':=(A,x ++ [R],m,((j+1:Nat):Int))) ?_).trans (ih (j+1) mm A (x ++ [R]) m (by omega) (by omega) ?_ ?_ hl)
   ·unfold azs;simp only [decide_eq_true (show (j:Int) < (v.Sets.length:Int) by omega),cond_true,ju,hqs j (by omega),hqc j (by omega),hin];rw [aja _ ⟨by omega,by omega⟩,hrec,je,aja _ ⟨by omega,by omega⟩];simp only [decide_true,cond_true];rw [wid (n:=(j:Int)+1) (by omega)];rfl
   ·rw [hset,hin];have hx:=hget A.length (by simp <;> omega) (by omega);rw [← hx]
    have h1:(A ++ [x] ++ jr m [])[A.length]'(by simp <;> omega)=x:=by
     rw [JW (by simp),JT (by simp)];simp
    rw [h1];exact (hqv A x (x ++ [R]) _).symm
   ·rw [if_neg (by omega)];omega
  ·have hn1:1+j / 14=A.length+1:=by
    by_cases h0:j=0
    ·rw [if_pos h0] at hA;omega
    ·rw [if_neg h0] at hA;omega
   have hm0:0 < m:=by omega
   obtain ⟨m,rfl⟩:∃ q,m=q+1:=⟨m - 1,by omega⟩;refine (aq5 (x':=(A ++ [x],[R],m,((j+1:Nat):Int))) ?_).trans (ih (j+1) mm (A ++ [x]) [R] m (by omega) (by omega) ?_ ?_ (by simp <;> omega))
   ·unfold azs;simp only [decide_eq_true (show (j:Int) < (v.Sets.length:Int) by omega),cond_true,ju,hqs j (by omega),hqc j (by omega)];rw [aja _ ⟨by omega,by omega⟩,hrec,je,aja _ ⟨by omega,by omega⟩];rw [show decide (((1+j / 14:Nat):Int)=(A.length:Int))=false by simp;omega];simp only [cond_false];rw [aja _ ⟨by rw [hn1],by omega⟩,wid (n:=(j:Int)+1) (by omega)];rfl
   ·rw [hset,hn1];have hx:=hget (A.length+1) (by simp) (by omega);rw [← hx]
    have h1:(A ++ [x] ++ jr (m+1) [])[A.length+1]'(by simp)=[]:=by
     rw [JT (by simp)];simp
    rw [h1,List.set_append_right _ _ (by simp)];simp [List.replicate_succ]
   ·rw [if_neg (by omega),jg];simp;omega
end Go.Proofs.YtijnkhcfondehaaGreatDoor
/-
 ch. 21: Encode is as specified; the law of checks.
-/
namespace Go.Proofs.YtijnkhcfondehaaGreatDoor
open Go.AE
theorem hk8:∀ k:Fin 256,(letB (UInt8.ofNat k.val)=true∨digB (UInt8.ofNat k.val)=true∨chB (UInt8.ofNat k.val)=true∨k.val=46)→okC (UInt8.ofNat k.val)=true:=by decide +kernel
theorem gw2 {b:UInt8} (h:letB b=true∨digB b=true∨chB b=true∨b=46):okC b=true:=by
 have:=hk8 ⟨b.toNat,b.toNat_lt⟩
 have e:UInt8.ofNat b.toNat=b:=by simp
 simp only [e] at this;refine this ?_;rcases h with h | h | h | h
 ·exact .inl h
 ·exact .inr (.inl h)
 ·exact .inr (.inr (.inl h))
 ·subst h;exact .inr (.inr (.inr rfl))
theorem ez0:∀ s:List UInt8,(∀ p∈parts s,p.all chB=true)→s.all okC=true
 | [],_=>rfl
 | b :: l,h=>by
  simp only [parts] at h;by_cases hb:b=46
  ·rw [if_pos hb] at h;rw [Jq,gw2 (.inr (.inr (.inr hb))),Jy];exact ez0 l fun p hp=>h p (JF _ hp)
  ·rw [if_neg hb] at h;cases hp:parts l with
   | nil=>exact absurd hp (fwu l)
   | cons p ps =>
    rw [hp] at h;have h0:=h _ Jf;simp only [Jq,jf] at h0;rw [Jq,gw2 (.inr (.inr (.inl h0.1))),Jy];refine ez0 l fun q hq=>?_;rw [hp] at hq;rcases jR.1 hq with rfl | hq
    ·exact h0.2
    ·exact h q (JF _ hq)
theorem fzb {s:List UInt8} (h:cq4 s=true):s.all okC=true∧s.length≤44:=by
 simp only [cq4,jf,decide_eq_true_eq,jx] at h;refine ⟨ez0 s fun p hp=>?_,h.1⟩
 have:=h.2 p hp
 simp only [smp,jf] at this;exact this.2.1
theorem gq3 {s:List UInt8} (h:serB s=true):s.all okC=true∧s.length≤6:=by
 simp only [serB,jf,decide_eq_true_eq,jx] at h;refine ⟨jx.2 fun b hb=>gw2 ?_,h.1.2⟩
 have:=h.2 b hb
 simp only [JI] at this;rcases this with h | h
 ·exact .inl h
 ·exact .inr (.inl h)
theorem dqa {v:aj6} (h:rV v=true):OkV v:=by
 obtain ⟨hh,h1,h2,h3,h4⟩:=gzu.1 h;have hz:=dj1 hh;unfold head cz1 at hh;simp only [jf,inB,decide_eq_true_eq] at hh;obtain ⟨⟨⟨hs,hc1,hc2⟩,hd1,hd2⟩,he1,he2⟩:=hh;refine ⟨(gq3 hs).1,(gq3 hs).2,?_,hz,⟨h1,h2⟩,fun k hk=>?_⟩
 ·intro x hx;simp only [jR,List.not_mem_nil,or_false] at hx;rcases hx with rfl | rfl | rfl <;> omega
 ·obtain ⟨⟨hp,hx⟩,_⟩:=h3 k hk;unfold pLbl dscB at hp;simp only [jf,inB,decide_eq_true_eq] at hp;obtain ⟨⟨⟨⟨⟨hnm,hds⟩,he1,he2⟩,hv⟩,hov⟩,hu1,hu2⟩:=hp;have hval:=(ajx _).1 hv
  have hul:((trkO (gt v.Sets k).Extents).length:Int)≤4611686018427387904:=by
   have hsum:∀ l:List aj0,l.all val=true→(trks l).length≤512 * l.length:=by
    intro l
    induction l with
    | nil=>intro _;simp [trks]
    | cons x l ih =>
     intro h;simp only [Jq,jf] at h;have h5:=ih h.2;have h6:=(aq0 x).1 h.1;rw [aqx,jg,jq]
     have:(trk x).length≤512:=by simp [trk];omega
     omega
   have e:trkO (gt v.Sets k).Extents=trks (gt v.Sets k).Extents:=by
    unfold trkO;rw [cy8 hval.1 (by simpa using hval.2)];simp
   rw [e]
   have:=hsum _ hval.1
   omega
  refine ⟨by omega,(fzb hnm).1,(fzb hnm).2,?_,?_⟩
  ·intro x hx;simp only [jR,List.not_mem_nil,or_false] at hx;rcases hx with rfl | rfl | rfl | rfl <;> omega
  ·intro x hx
   have:=(aq0 x).1 ((jx.1 hval.1) x hx)
   omega
theorem fyy (n:Nat) (hn:N0≤n) (v:aj6) (b:List Int) (hb:b.length≤100) :
  ajo (fun (x:(List Int)×Int)=>bj4 n v [v.Cyls,v.Heads,v.Size] x.1 x.2) n (b,0)=some (b ++ h2 v.Cyls ++ h2 v.Heads ++ h2 v.Size):=by
 have hn0:4194304≤n:=hn;obtain ⟨m,rfl⟩:∃ m,n=m+1+1+1+1:=⟨n - 4,by omega⟩;generalize hN:m+1+1+1+1=N at *
 have step:∀ (j:Nat) (b':List Int) (x:Int),j < 3→b'.length≤200→gt [v.Cyls,v.Heads,v.Size] j=x→bj4 N v [v.Cyls,v.Heads,v.Size] b' (j:Int)=some (.inl (b' ++ h2 x,((j+1:Nat):Int))):=by
  intro j b' x hj hb' hx;unfold bj4;simp only [decide_eq_true (show (j:Int) < 3 by omega),cond_true,ju,hx];rw [aja _ ⟨⟨by omega,by simp;omega⟩,by simpa using hj⟩,fj7 N x,je,aja _ (by rw [byh];omega),wid (n:=(j:Int)+1) (by omega)];rfl
 rw [← hN];refine (aq5 (x':=(b ++ h2 v.Cyls,1)) (by rw [hN];exact step 0 b _ (by omega) (by omega) rfl)).trans ?_;refine (aq5 (x':=(b ++ h2 v.Cyls ++ h2 v.Heads,2)) (by rw [hN];exact step 1 _ _ (by omega) (by simp [byh];omega) rfl)).trans ?_;refine (aq5 (x':=(b ++ h2 v.Cyls ++ h2 v.Heads ++ h2 v.Size,3)) (by rw [hN];exact step 2 _ _ (by omega) (by simp [byh];omega) rfl)).trans ?_;refine ajw ?_;rfl
theorem ey2 (n:Nat) (hn:N0≤n) (v:aj6) (hl:bqo v):bje n v=some (if rV v=true then (encT v,0) else ([],5)):=by
 have hn0:4194304≤n:=hn;unfold bje;rw [bwj n hn v hl,eym,je];cases hr:rV v with
 | false=>simp
 | true =>
  have hv:=dqa hr;simp only [if_true,bne_self_eq_false,cond_false];have e4:([86,79,76,49]:List UInt8).all okC=true:=by decide
  rw [show (4:Int)=((4:Nat):Int) from rfl,show (6:Int)=((6:Nat):Int) from rfl,dkj n hn _ 4 (by decide) (by decide) e4,je,dkj n hn v.Serial 6 hv.slen (by omega) hv.ser,je];have l4:=akv [86,79,76,49] 4 (by decide);have l6:=akv v.Serial 6 hv.slen;rw [aja _ (by rw [l4,l6];omega),fyy n hn v _ (by rw [jg,l4,l6];omega),je];unfold bqy
  have hl16:(txt [86,79,76,49] 4 ++ txt v.Serial 6 ++ h2 v.Cyls ++ h2 v.Heads ++ h2 v.Size).length=16:=by
   simp only [jg,l4,l6,byh]
  have l64:=akv [] 64 (by decide);have hS1:jb .i64 (v.Size+1)=v.Size+1:=wid (by have:=hv.size;omega);obtain ⟨hz1,hz2⟩:=hv.size;rw [hl16,wid (n:=80 - ((16:Nat):Int)) (by omega),show (80 - ((16:Nat):Int))=((64:Nat):Int) from rfl,dkj n hn [] 64 (by decide) (by decide) (by decide),je,aja _ (by rw [l64];omega),hS1,aja _ ⟨by omega,by omega,by omega⟩];rw [show (4:Int)=((4:Nat):Int) from rfl,dkj n hn _ 4 (by decide) (by decide) e4,je,aja _ ⟨by omega,by omega⟩]
  have key:=gqx n hn v hv v.Size.toNat (by omega) (vol v) v.Sets.length 0 n [] [vol v] v.Size.toNat (by omega) (by have:=hv.sets;omega) (by
   simp only [Jd,List.take_zero,List.singleton_append];congr 1;apply J1
   ·simp [czc]
   ·intro i h1 h2
    rw [eq5];simp) (by simp) (by simp;omega)
  have e:(v.Size+1).toNat - 1=v.Size.toNat:=by omega
  rw [e];have key':ajo (fun (x:List (List TRec)×List TRec×Nat×Int)=>azs n v x.1 x.2.1 x.2.2.1 x.2.2.2) n ([],[(⟨3,txt [86,79,76,49] 4,txt [86,79,76,49] 4 ++ txt v.Serial 6 ++ h2 v.Cyls ++ h2 v.Heads ++ h2 v.Size ++ txt [] 64,false⟩:TRec)],v.Size.toNat,0)=some (encT v):=key;rw [key',je];rfl
end Go.Proofs.YtijnkhcfondehaaGreatDoor
/-
 ch. 21: numbers of two bytes, texts of codes.
-/
namespace Go.Proofs.YtijnkhcfondehaaGreatDoor
open Go.AE
def byL (l:List Int):Prop:=∀ x∈l,0≤x∧x < 256
theorem dqx {l:List Int} (h:byL l) {k:Nat} (hk:k < l.length):0≤gt l k∧gt l k < 256:=by
 rw [aqk hk];exact h _ (jw hk)
def h16 (b:List Int) (i:Nat):Int:=256 * gt b i+gt b (i+1)
theorem gye (a b:Nat) (ha:a < 256) (hb:b < 256) :
  (jb .i64 ((jb .u32 (((BitVec.ofInt (jj .u32) (jb .u32 ((jb .i32 ((jb .i16 (((BitVec.ofInt (jj .i16) (jb .i16 ((jb .i16 ((a:Int))) * 2 ^ min 8 (jj .i16))) ||| BitVec.ofInt (jj .i16) (jb .i16 ((b:Int)))).toNat:Int))))))) &&& BitVec.ofInt (jj .u32) 65535).toNat:Int)))))=256 * (a:Int)+b:=by
 have hw16:∀ x:Int,jb .i16 x=if x % 65536 ≥ 32768 then x % 65536 - 65536 else x % 65536:=fun x=>by simp [jb,jj,Jv]
 have hw32:∀ x:Int,jb .i32 x=if x % 4294967296 ≥ 2147483648 then x % 4294967296 - 4294967296 else x % 4294967296:=fun x=>by simp [jb,jj,Jv]
 have hwu:∀ x:Int,jb .u32 x=x % 4294967296:=fun x=>by simp [jb,jj,Jv]
 have ea:jb .i16 (a:Int)=a:=by rw [hw16];split <;> omega
 have eb:jb .i16 (b:Int)=b:=by rw [hw16];split <;> omega
 have e8:(2:Int) ^ min 8 (jj .i16)=256:=by decide
 rw [ea,eb,e8]
 have hX:(BitVec.ofInt (jj .i16) (jb .i16 ((a:Int) * 256))).toNat=a <<< 8:=by
  show (BitVec.ofInt 16 _).toNat=_;rw [BitVec.toNat_ofInt,hw16,Nat.shiftLeft_eq]
  split <;> omega
 have hY:(BitVec.ofInt (jj .i16) (b:Int)).toNat=b:=by
  show (BitVec.ofInt 16 _).toNat=_;rw [BitVec.toNat_ofInt];omega
 have hor:a <<< 8 ||| b=a * 256+b:=by
  rw [← Nat.shiftLeft_add_eq_or_of_lt (by simpa using hb),Nat.shiftLeft_eq]
 rw [BitVec.toNat_or,hX,hY,hor];have hm:a * 256+b < 65536:=by omega
 rw [show 256 * (a:Int)+b=((a * 256+b:Nat):Int) by omega];generalize a * 256+b=m at hm
 obtain ⟨z,hz,hzm⟩:∃ z:Nat,jb .u32 (jb .i32 (jb .i16 (m:Int)))=(z:Int)∧z < 4294967296∧z % 65536=m:=by
  refine ⟨if m ≥ 32768 then m+4294901760 else m,?_,?_,?_⟩
  ·rw [hwu,hw32,hw16]
   split <;> split <;> split <;> omega
  ·split <;> omega
  ·split <;> omega
 rw [hz]
 have hZ:(BitVec.ofInt (jj .u32) (z:Int)).toNat=z:=by
  show (BitVec.ofInt 32 _).toNat=_;rw [BitVec.toNat_ofInt];omega
 have hF:(BitVec.ofInt (jj .u32) 65535).toNat=2 ^ 16 - 1:=by decide
 rw [BitVec.toNat_and,hZ,hF,Nat.and_two_pow_sub_one_eq_mod,show z % 2 ^ 16=m from hzm.2,hwu,wid (by omega)];omega
theorem cjn (n:Nat) {b:List Int} (hb:byL b) {i:Nat} (hi:i+1 < b.length) (hl:b.length≤1000000):az7 n b (i:Int)=some (h16 b i):=by
 have h0:=dqx hb (k:=i) (by omega);have h1:=dqx hb (k:=i+1) (by omega);have e2:(jb .i64 ((i:Int)+1)).toNat=i+1:=by rw [wid (by omega)];omega
 have hf:cqa n b (i:Int) 2=some true:=by
  unfold cqa;rw [wid (n:=(b.length:Int) - 2) (by omega),decide_eq_true (show (i:Int) ≥ 0 by omega),decide_eq_true (show (i:Int)≤(b.length:Int) - 2 by omega)];rfl
 unfold az7 cyc;rw [hf,je];simp only [jT,cond_false];rw [aja _ ⟨⟨by omega,by omega⟩,by rw [wid (n:=(i:Int)+1) (by omega)];omega⟩,je,e2,ju]
 have:=gye (gt b i).toNat (gt b (i+1)).toNat (by omega) (by omega)
 rw [show (((gt b i).toNat:Nat):Int)=gt b i by omega,show (((gt b (i+1)).toNat:Nat):Int)=gt b (i+1) by omega] at this;rw [h16,← this]
end Go.Proofs.YtijnkhcfondehaaGreatDoor
/-
 ch. 21: labels and tables out of tracks.
-/
namespace Go.Proofs.YtijnkhcfondehaaGreatDoor
open Go.AE
theorem gz2 {α β Y:Type} (l:List α) (p:α→Bool) (f:α→List β) (y:Y) (o c:Nat) (hc:∀ a∈l,(f a).length≤c) (acc:List β)
  (body:List β×Int→Option ((List β×Int) ⊕ (Y ⊕ List β)))
  (hb:∀ k (hk:k < l.length) (s:List β),s.length≤acc.length+c * k→body (s,((o+k:Nat):Int))=some (if p l[k]=true then .inr (.inl y) else .inl (s ++ f l[k],((o+k+1:Nat):Int))))
  (he:∀ s,body (s,((o+l.length:Nat):Int))=some (.inr (.inr s))):∀ r j m (s:List β),j+r=l.length→r < m→s.length≤acc.length+c * j →
  ajo body m (s,((o+j:Nat):Int))=some (if (l.drop j).any p=true then .inl y else .inr (s ++ (l.drop j).flatMap f)):=by
 intro r
 induction r with
 | zero =>
  intro j m s hj hm hs;obtain ⟨m,rfl⟩:∃ q,m=q+1:=⟨m - 1,by omega⟩
  have:j=l.length:=by omega
  subst this;rw [ajw (he s)];simp
 | succ r ih =>
  intro j m s hj hm hs;obtain ⟨m,rfl⟩:∃ q,m=q+1:=⟨m - 1,by omega⟩;have hjl:j < l.length:=by omega
  have h:=hb j hjl s hs;rw [List.drop_eq_getElem_cons hjl,List.any_cons,Jm];cases hp:p l[j] with
  | true =>
   rw [hp] at h;rw [ajw (by simpa using h)];simp
  | false =>
   rw [hp] at h;have hx:=hc l[j] (jw hjl);rw [aq5 (x':=(s ++ f l[j],((o+(j+1):Nat):Int))) (by simpa [Nat.add_assoc] using h),ih (j+1) m _ (by omega) (by omega) (by rw [jg,Nat.mul_succ];omega)];simp
theorem coll {α β Y:Type} (l:List α) (p:α→Bool) (f:α→List β) (y:Y) (o c:Nat) (hc:∀ a∈l,(f a).length≤c) (acc:List β)
  (body:List β×Int→Option ((List β×Int) ⊕ (Y ⊕ List β)))
  (hb:∀ k (hk:k < l.length) (s:List β),s.length≤acc.length+c * k→body (s,((o+k:Nat):Int))=some (if p l[k]=true then .inr (.inl y) else .inl (s ++ f l[k],((o+k+1:Nat):Int))))
  (he:∀ s,body (s,((o+l.length:Nat):Int))=some (.inr (.inr s))) {n:Nat} (hn:l.length < n) :
  ajo body n (acc,(o:Int))=some (if l.any p=true then .inl y else .inr (acc ++ l.flatMap f)):=by
 have:=gz2 l p f y o c hc acc body hb he l.length 0 n acc (by omega) hn (by omega)
 simpa using this
def exM (D:List Int):List aj0:=(Jc (gt D 12).toNat).map fun i=>⟨h16 D (13+4 * i),h16 D (15+4 * i)⟩
def labM (r:TRec):aj5:=⟨byp r.Key,⟨gt r.Data 0,gt r.Data 1,decide (gt r.Data 2 ≥ 128),(Jr (jb .u8 (Int.tdiv (gt r.Data 2) 64)) 2) == 1,h16 r.Data 4,h16 r.Data 6,gt r.Data 3,h16 r.Data 8⟩,exM r.Data,h16 r.Data 10⟩
def badR (r:TRec):Bool:=((r.Data.length:Int) != 45) || decide (gt r.Data 12 > 8)
theorem gqc:∀ k:Fin 256,((jb .u8 (((BitVec.ofInt (jj .u8) (k.val:Int) &&& BitVec.ofInt (jj .u8) 128).toNat:Int))) != 0)=decide ((k.val:Int) ≥ 128)∧((jb .u8 (((BitVec.ofInt (jj .u8) (k.val:Int) &&& BitVec.ofInt (jj .u8) 64).toNat:Int))) != 0)=((Jr (jb .u8 (Int.tdiv (k.val:Int) 64)) 2) == 1):=by decide +kernel
theorem flags {x:Int} (h:0≤x∧x < 256):((jb .u8 (((BitVec.ofInt (jj .u8) x &&& BitVec.ofInt (jj .u8) 128).toNat:Int))) != 0)=decide (x ≥ 128)∧((jb .u8 (((BitVec.ofInt (jj .u8) x &&& BitVec.ofInt (jj .u8) 64).toNat:Int))) != 0)=((Jr (jb .u8 (Int.tdiv x 64)) 2) == 1):=by
 have:=gqc ⟨x.toNat,by omega⟩
 simpa only [show ((x.toNat:Nat):Int)=x by omega] using this
theorem dzy (D:List Int):(exM D).length=(gt D 12).toNat:=by simp [exM]
theorem hjc (D:List Int) {j:Nat} (hj:j < (gt D 12).toNat):(exM D).take (j+1)=(exM D).take j ++ [⟨h16 D (13+4 * j),h16 D (15+4 * j)⟩]:=by
 rw [Ju (by rw [dzy];exact hj)];simp [exM]
theorem gkt (n:Nat) (r_:TRec) (hd:r_.Data.length=45) (hb:byL r_.Data) (h8:gt r_.Data 12≤8) (a1:List UInt8) (a2 a3:Int) (a4 a5:Bool) (a6 a7 a8 a9 a10:Int):∀ r j m,j+r=(gt r_.Data 12).toNat→r < m →
  ajo (fun (x:(List aj0)×Int)=>bju n r_ a1 a2 a3 a4 a5 a6 a7 a8 a9 a10 x.1 x.2) m ((exM r_.Data).take j,(j:Int))=some (exM r_.Data):=by
 have h12:=dqx hb (k:=12) (by omega);have hle:(exM r_.Data).length≤8:=by rw [dzy];omega
 intro r
 induction r with
 | zero =>
  intro j m hj hm;obtain ⟨m,rfl⟩:∃ q,m=q+1:=⟨m - 1,by omega⟩;refine ajw ?_;unfold bju;rw [aja _ (by omega),wid (n:=gt r_.Data 12) (by omega),show decide ((j:Int) < gt r_.Data 12)=false from decide_eq_false (by omega),jJ (by rw [dzy];omega)];rfl
 | succ r ih =>
  intro j m hj hm;obtain ⟨m,rfl⟩:∃ q,m=q+1:=⟨m - 1,by omega⟩;refine (aq5 (x':=((exM r_.Data).take (j+1),((j+1:Nat):Int))) ?_).trans (ih (j+1) m (by omega) (by omega));unfold bju;rw [aja _ (by omega),wid (n:=gt r_.Data 12) (by omega),show decide ((j:Int) < gt r_.Data 12)=true from decide_eq_true (by omega),cond_true];rw [wid (n:=4 * (j:Int)) (by omega),wid (n:=13+4 * (j:Int)) (by omega),wid (n:=15+4 * (j:Int)) (by omega)];rw [show 13+4 * (j:Int)=((13+4 * j:Nat):Int) by omega,show 15+4 * (j:Int)=((15+4 * j:Nat):Int) by omega];rw [cjn n hb (by omega) (by omega),je,cjn n hb (by omega) (by omega),je,aja _ (by rw [jk];omega),wid (n:=(j:Int)+1) (by omega),hjc _ (by omega)];rfl
theorem gz4 (n:Nat) (hn:N0≤n) (r:TRec) (hk:byL r.Key) (hb:byL r.Data) (hkl:r.Key.length≤1000000):bye n r=some (if badR r=true then (⟨[],⟨0,0,false,false,0,0,0,0⟩,[],0⟩,false) else (labM r,true)):=by
 have hn0:4194304≤n:=hn;unfold bye;by_cases hd:r.Data.length=45
 ·have h12:=dqx hb (k:=12) (by omega);have e1:((r.Data.length:Int) != 45)=false:=by rw [hd];rfl
  rw [aja _ (by intro _;omega),e1];simp only [jn,if_false,wid (n:=gt r.Data 12) (by omega)];unfold badR;rw [e1,Bool.false_or];by_cases h8:gt r.Data 12 > 8
  ·rw [decide_eq_true h8];rfl
  ·rw [decide_eq_false h8];simp only [cond_false,jn,if_false,bqm,je];have h0:=dqx hb (k:=0) (by omega);have h1:=dqx hb (k:=1) (by omega);have h2':=dqx hb (k:=2) (by omega);have h3:=dqx hb (k:=3) (by omega);rw [aja _ (by omega)];rw [show (4:Int)=((4:Nat):Int) from rfl,show (6:Int)=((6:Nat):Int) from rfl,show az7 n r.Data 8=az7 n r.Data ((8:Nat):Int) from rfl,show (10:Int)=((10:Nat):Int) from rfl];rw [cjn n hb (i:=4) (by omega) (by omega),je,cjn n hb (i:=6) (by omega) (by omega),je,cjn n hb (i:=8) (by omega) (by omega),je,cjn n hb (i:=10) (by omega) (by omega),je];have key:=gkt n r hd hb (by omega) (byp r.Key) (jb .i64 (gt r.Data 0)) (jb .i64 (gt r.Data 1)) ((jb .u8 (((BitVec.ofInt (jj .u8) (gt r.Data 2) &&& BitVec.ofInt (jj .u8) 128).toNat:Int))) != 0) ((jb .u8 (((BitVec.ofInt (jj .u8) (gt r.Data 2) &&& BitVec.ofInt (jj .u8) 64).toNat:Int))) != 0) (h16 r.Data 4) (h16 r.Data 6) (jb .i64 (gt r.Data 3)) (h16 r.Data 8) (h16 r.Data 10) (gt r.Data 12).toNat 0 n (by omega) (by omega);simp only [List.take_zero] at key;rw [show (((0:Nat)):Int)=0 from rfl] at key;rw [key,je];unfold bz6;rw [(flags h2').1,(flags h2').2,wid (n:=gt r.Data 0) (by omega),wid (n:=gt r.Data 1) (by omega),wid (n:=gt r.Data 3) (by omega)];rfl
 ·have e1:((r.Data.length:Int) != 45)=true:=by simp;omega
  rw [aja _ (by rw [e1];intro h;simp at h),e1];unfold badR;rw [e1];rfl
end Go.Proofs.YtijnkhcfondehaaGreatDoor
/-
 ch. 21: what table tracks say.
-/
namespace Go.Proofs.YtijnkhcfondehaaGreatDoor
open Go.AE
def okT (t:List TRec):Prop:=t.length≤20∧∀ r∈t,byL r.Key∧byL r.Data∧r.Key.length≤300∧r.Data.length≤300
def okLL (l:List (List TRec)):Prop:=l.length≤600∧∀ t∈l,okT t
def zV:aj6:=⟨[],0,0,0,[]⟩
theorem p_in (n:Nat) (hn:N0≤n) (l:List (List TRec)) (a:List UInt8) (b c d:Int) (e:List (List TRec)) (f g:Int) (t:List TRec) (ht:okT t) (acc:List aj5) (ha:acc.length≤100000) :
  ajo (fun (x:(List aj5)×Int)=>azr n l a b c d e f g t (t.length:Int) x.1 x.2) n (acc,0)=some (if t.any badR=true then .inl (zV,5) else .inr (acc ++ t.flatMap fun r=>[labM r])):=by
 have hn0:4194304≤n:=hn;obtain ⟨h20,hr⟩:=ht;refine coll t badR (fun r=>[labM r]) (zV,5) 0 1 (fun _ _=>by simp) acc _ (fun k hk s hs=>?_) (fun s=>?_) (by omega)
 ·have hm:=hr t[k] (jw hk);have hlt:((k:Nat):Int) < (t.length:Int):=by omega
  rw [Jh];show azr n l a b c d e f g t (t.length:Int) s (k:Int)=_;unfold azr;rw [decide_eq_true hlt,cond_true,aja _ ⟨by omega,hlt⟩,ju,aqk hk,gz4 n hn _ hm.1 hm.2.1 (by omega),je];cases badR t[k] with
  | true=>rfl
  | false =>
   simp only [jn,if_false,jT,cond_false];rw [aja _ (by omega),wid (n:=(k:Int)+1) (by omega)];rfl
 ·rw [Jh];show azr n l a b c d e f g t (t.length:Int) s (t.length:Int)=_;unfold azr;simp only [JS,decide_false,cond_false]
def labs (t:List TRec):List aj5:=t.flatMap fun r=>[labM r]
theorem gkg (t:List TRec):(labs t).length=t.length:=by
 induction t with
 | nil=>rfl
 | cons r t ih=>simp only [labs,Jm,jg,jq,jS] at ih ⊢;omega
theorem iq4 (n:Nat) (hn:N0≤n) (l L:List (List TRec)) (a:List UInt8) (b c d:Int) (hL:okLL L) :
  ajo (fun (x:(List aj5)×Int)=>awx n l a b c d L (L.length:Int) x.1 x.2) n ([],0)=some (if L.any (fun t=>t.any badR)=true then .inl (zV,5) else .inr (L.flatMap labs)):=by
 have hn0:4194304≤n:=hn;obtain ⟨h12,hr⟩:=hL
 have:=coll L (fun t=>t.any badR) labs ((zV,5):aj6×Int) 0 20 (fun t ht=>by rw [gkg];exact (hr t ht).1) [] (fun (x:(List aj5)×Int)=>awx n l a b c d L (L.length:Int) x.1 x.2) (fun k hk s hs=>?_) (fun s=>?_) (n:=n) (by omega)
 ·simpa using this
 ·have hm:=hr L[k] (jw hk);have hlt:((k:Nat):Int) < (L.length:Int):=by omega
  rw [Jh];show awx n l a b c d L (L.length:Int) s (k:Int)=_;unfold awx;simp only [jS] at hs;rw [decide_eq_true hlt,cond_true,aja _ ⟨by omega,hlt⟩,ju,aqk hk,p_in n hn l a b c d L _ _ _ hm s (by omega),je];cases hp:L[k].any badR with
  | true=>rfl
  | false =>
   simp only [jn,if_false];unfold bw4;rw [wid (n:=(k:Int)+1) (by omega)];rfl
 ·rw [Jh];show awx n l a b c d L (L.length:Int) s (L.length:Int)=_;unfold awx;simp only [JS,decide_false,cond_false]
def badH (l:List (List TRec)):Bool:=(l.length == 0) || ((gt l 0).length != 1) || ((gt (gt l 0) 0).Data.length != 80)
def gV (l:List (List TRec)):aj6:=⟨byp (List.drop 4 (List.take 10 (gt (gt l 0) 0).Data)),h16 (gt (gt l 0) 0).Data 10,h16 (gt (gt l 0) 0).Data 12,h16 (gt (gt l 0) 0).Data 14,(l.drop 1).flatMap labs⟩
def noG (l:List (List TRec)):Bool:=badH l || (l.drop 1).any fun t=>t.any badR
theorem hk7 (l:List (List TRec)):(if (if ((l.length:Int) == 0)=true then true else (((gt l 0).length:Int) != 1))=true then true else ((((gt (gt l 0) 0).Data).length:Int) != 80))=badH l:=by
 have e1:((l.length:Int) == 0)=(l.length == 0):=by rw [JY];simp
 have e2:(((gt l 0).length:Int) != 1)=((gt l 0).length != 1):=by rw [JY];simp;omega
 have e3:((((gt (gt l 0) 0).Data).length:Int) != 80)=((gt (gt l 0) 0).Data.length != 80):=by rw [JY];simp;omega
 rw [cw3,cw3,e1,e2,e3];rfl
theorem hzd {l:List (List TRec)}:((!((l.length:Int) == 0))=true→0 < (l.length:Int))∧((!(if ((l.length:Int) == 0)=true then true else (((gt l 0).length:Int) != 1)))=true→0 < (l.length:Int))∧((!(if ((l.length:Int) == 0)=true then true else (((gt l 0).length:Int) != 1)))=true→0 < ((gt l 0).length:Int)):=by
 refine ⟨fun h=>?_,fun h=>?_,fun h=>?_⟩
 ·simp at h;have:=Jz.2 h;omega
 ·rw [cw3] at h;simp at h;have:=Jz.2 h.1;omega
 ·rw [cw3] at h;simp at h;omega
theorem fjh {l:List (List TRec)} (h:badH l=false):1≤l.length∧(gt l 0).length=1∧(gt (gt l 0) 0).Data.length=80:=by
 simp [badH] at h
 have:=Jz.2 h.1.1
 exact ⟨by omega,h.1.2,h.2⟩
theorem hw3 {l:List (List TRec)} (hl:okLL l) (h:badH l=false):byL (gt (gt l 0) 0).Data:=by
 obtain ⟨h1,h2,h3⟩:=fjh h
 have:=(hl.2 (gt l 0) (by rw [aqk (by omega)];exact jw _)).2 (gt (gt l 0) 0) (by rw [aqk (l:=gt l 0) (by omega)];exact jw _)
 exact this.2.1
theorem fkk (n:Nat) (hn:N0≤n) (l:List (List TRec)) (hl:okLL l):azt n l=if noG l=true then some (zV,5) else bj3 n l (gV l).Serial (gV l).Cyls (gV l).Heads (gV l).Size (gV l).Sets:=by
 unfold azt noG;rw [aja _ hzd,hk7];cases hb:badH l with
 | true=>rfl
 | false =>
  obtain ⟨h1,h2,h3⟩:=fjh hb;have hD:=hw3 hl hb;simp only [cond_false,Bool.false_or,bqm,je];rw [aja _ ⟨by omega,by omega⟩,aja _ (by omega)];rw [show (10:Int)=((10:Nat):Int) from rfl,show (12:Int)=((12:Nat):Int) from rfl,show (14:Int)=((14:Nat):Int) from rfl];rw [cjn n hD (i:=10) (by omega) (by omega),je,cjn n hD (i:=12) (by omega) (by omega),je,cjn n hD (i:=14) (by omega) (by omega),je];have hL:okLL (List.drop 1 l):=⟨by have:=hl.1;rw [jL];omega,fun t ht=>hl.2 t (List.mem_of_mem_drop ht)⟩;rw [aja _ (by omega),iq4 n hn l (List.drop 1 l) _ _ _ _ hL,je];cases (l.drop 1).any (fun t=>t.any badR) <;> rfl
end Go.Proofs.YtijnkhcfondehaaGreatDoor
/-
 ch. 21: tracks compared, tracks that are valid.
-/
namespace Go.Proofs.YtijnkhcfondehaaGreatDoor
open Go.AE
theorem dke {α:Type} [DecidableEq α] [Inhabited α] (a b:List α) (hl:a.length=b.length) (body:Int→Option (Int ⊕ (Bool ⊕ Unit)))
  (hb:∀ k,k < a.length→body (k:Int)=some (if gt a k=gt b k then .inl ((k+1:Nat):Int) else .inr (.inl false)))
  (he:body (a.length:Int)=some (.inr (.inr ()))) {n:Nat} (hn:a.length < n):ajo body n 0=some (if a=b then .inr () else .inl false):=by
 have h:=bkm (Jc a.length) (fun k=>!decide (gt a k=gt b k)) (.inl false:Bool ⊕ Unit) (.inr ()) (body:=body) (n:=n) (fun k hk=>by
  rw [JO] at hk;rw [hb k hk,List.getElem_range]
  by_cases e:gt a k=gt b k <;> simp [e]) (by rw [JO];exact he) (by rw [JO];exact hn)
 rw [h];congr 1;by_cases e:a=b
 ·subst e;rw [if_pos rfl,if_neg];simp
 ·rw [if_neg e,if_pos];rw [List.any_eq_true];apply Classical.byContradiction;intro hno;apply e;apply J1 hl;intro i h1 h2;apply Classical.byContradiction;intro hne;apply hno;refine ⟨i,List.mem_range.2 h1,?_⟩;rw [aqk h1,aqk h2];simpa using hne
def byR (r:TRec):Prop:=byL r.Key∧byL r.Data
theorem sEq (n:Nat) (a b:List Int) (hn:a.length < n) (hl:a.length≤1000000):aqe n a b=some (decide (a=b)):=by
 unfold aqe;by_cases h:a.length=b.length
 ·have e1:((a.length:Int) != (b.length:Int))=false:=by rw [h];simp
  rw [e1];have key:=dke a b h (fun (x:Int)=>awr n a b (a.length:Int) x) (fun k hk=>?_) ?_ (n:=n) hn
  ·simp only [cond_false];rw [key,je];by_cases e:a=b <;> simp [e,azx]
  ·have hlt:((k:Nat):Int) < (a.length:Int):=by omega
   unfold awr;simp only [decide_eq_true hlt,cond_true,ju];rw [aja _ ⟨⟨by omega,hlt⟩,by omega,by omega⟩,wid (n:=(k:Int)+1) (by omega)];by_cases e:gt a k=gt b k
   ·simp [e]
   ·have e1:(gt a k != gt b k)=true:=by simpa using e
    rw [e1];simp [e]
  ·unfold awr;simp only [JS,decide_false,cond_false]
 ·have e1:((a.length:Int) != (b.length:Int))=true:=by simp;omega
  have e2:¬ a=b:=fun e=>h (by rw [e]);rw [e1];simp [e2]
theorem iq0 (n:Nat) (x y:TRec) (hn:1000000 < n) (hk:x.Key.length≤1000000) (hd:x.Data.length≤1000000):bzt n x y=some (decide (x=y)):=by
 obtain ⟨x1,x2,x3,x4⟩:=x;obtain ⟨y1,y2,y3,y4⟩:=y;unfold bzt;dsimp only at hk hd ⊢;rw [sEq n x2 y2 (by omega) hk,sEq n x3 y3 (by omega) hd];rw [aja _ ⟨fun _=>rfl,fun _=>rfl⟩];simp only [j7,dzh];congr 1;rw [JY];simp only [jf,beq_iff_eq,decide_eq_true_eq,TRec.mk.injEq];constructor
 ·rintro ⟨⟨⟨h1,h2⟩,h3⟩,h4⟩;exact ⟨h1,h3,h4,h2⟩
 ·rintro ⟨h1,h2,h3,h4⟩;exact ⟨⟨⟨h1,h4⟩,h2⟩,h3⟩
theorem eqF (n:Nat) (a b:List TRec) (hn:1000000 < n) (hl:a.length≤1000000) (ha:∀ r∈a,r.Key.length≤1000000∧r.Data.length≤1000000):aqq n a b=some (decide (a=b)):=by
 unfold aqq;by_cases h:a.length=b.length
 ·have e1:((a.length:Int) != (b.length:Int))=false:=by rw [h];simp
  rw [e1];have key:=dke a b h (fun (x:Int)=>aq9 n b a (a.length:Int) x) (fun k hk=>?_) ?_ (n:=n) (by omega)
  ·simp only [cond_false];rw [key,je];by_cases e:a=b <;> simp [e,aqz]
  ·have hlt:((k:Nat):Int) < (a.length:Int):=by omega
   have h1:=ha (gt a k) (by rw [aqk hk];exact jw _);unfold aq9;simp only [decide_eq_true hlt,cond_true,ju,iq0 n _ _ hn h1.1 h1.2];rw [aja _ ⟨by omega,hlt⟩,aja _ ⟨by omega,by omega⟩,je,wid (n:=(k:Int)+1) (by omega)];by_cases e:gt a k=gt b k <;> simp [e]
  ·unfold aq9;simp only [JS,decide_false,cond_false]
 ·have e1:((a.length:Int) != (b.length:Int))=true:=by simp;omega
  have e2:¬ a=b:=fun e=>h (by rw [e]);rw [e1];simp [e2]
def badT (t:List TRec) (k:Nat):Bool:=!(decide ((gt t k).R ≥ 1) && decide ((gt t k).R≤255) && decide (((gt t k).Key.length:Int)≤255)) || (decide (0 < k) && decide ((gt t k).R≤(gt t (k - 1)).R))
def vT (t:List TRec):Bool:=!(Jc t.length).any (badT t) && decide (sumC (t.map ewm)≤2048)
theorem hyb (n:Nat) (t:List TRec) (hn:t.length < n) (hl:t.length≤1000000):bzm n t=some (vT t):=by
 have key:=bkm (Jc t.length) (badT t) (.inl false:Bool ⊕ Unit) (.inr ()) (body:=fun (x:Int)=>ayy n t (t.length:Int) x) (n:=n) (fun k hk=>by
  rw [JO] at hk;have hlt:((k:Nat):Int) < (t.length:Int):=by omega
  unfold ayy;simp only [decide_eq_true hlt,cond_true,ju,cje,List.getElem_range]
  rw [aja _ ⟨by omega,hlt⟩,je,aja _ (by
   intro hc;simp only [jf,decide_eq_true_eq] at hc
   rw [wid (n:=(k:Int) - 1) (by omega)];omega)]
  have eo:(if decide ((k:Int) > 0)=true then decide ((gt t k).R≤(gt t (jb .i64 ((k:Int) - 1)).toNat).R) else false)=(decide (0 < k) && decide ((gt t k).R≤(gt t (k - 1)).R)):=by
   rw [dzh];by_cases h0:0 < k
   ·have e:(jb .i64 ((k:Int) - 1)).toNat=k - 1:=by rw [wid (by omega)];omega
    rw [e,decide_eq_true (by omega:(k:Int) > 0),decide_eq_true h0]
   ·rw [decide_eq_false (by omega:¬ (k:Int) > 0),decide_eq_false h0];rfl
  rw [eo,cw3,dzh,dzh,wid (n:=(k:Int)+1) (by omega)];show (bif badT t k then _ else _)=_
  cases badT t k <;> rfl) (by
  rw [JO];unfold ayy
  simp only [JS,decide_false,cond_false]) (by rw [JO];exact hn)
 unfold bzm;rw [key,je];unfold vT;cases (Jc t.length).any (badT t) with
 | true=>rfl
 | false=>rfl
theorem iqc (n:Nat) (a b:List TRec) (hn:1000000 < n) (hl:a.length≤1000000) (ha:∀ r∈a,r.Key.length≤1000000∧r.Data.length≤1000000):cw7 n a b=some (vT a && decide (a=b)):=by
 unfold cw7;rw [hyb n a (by omega) hl,eqF n a b hn hl ha,je];cases hv:vT a with
 | false=>rfl
 | true =>
  simp only [cond_true];rw [aja _ trivial];rfl
theorem eqFF (n:Nat) (a b:List (List TRec)) (hn:1000000 < n) (hl:a.length≤1000000) (ha:∀ t∈a,t.length≤1000000∧∀ r∈t,r.Key.length≤1000000∧r.Data.length≤1000000) (hb:∀ t∈b,vT t=true):aqw n a b=some (decide (a=b)):=by
 unfold aqw;by_cases h:a.length=b.length
 ·have e1:((a.length:Int) != (b.length:Int))=false:=by rw [h];simp
  rw [e1];have key:=dke a b h (fun (x:Int)=>aqb n b a (a.length:Int) x) (fun k hk=>?_) ?_ (n:=n) (by omega)
  ·simp only [cond_false];rw [key,je];by_cases e:a=b <;> simp [e,aw3]
  ·have hlt:((k:Nat):Int) < (a.length:Int):=by omega
   have h1:=ha (gt a k) (by rw [aqk hk];exact jw _);have h2:=hb (gt b k) (by rw [aqk (by omega)];exact jw _);unfold aqb;simp only [decide_eq_true hlt,cond_true,ju,iqc n _ _ hn h1.1 h1.2];rw [aja _ ⟨by omega,hlt⟩,aja _ ⟨by omega,by omega⟩,je,wid (n:=(k:Int)+1) (by omega)];by_cases e:gt a k=gt b k
   ·simp [e,h2]
   ·simp [e]
  ·unfold aqb;simp only [JS,decide_false,cond_false]
 ·have e1:((a.length:Int) != (b.length:Int))=true:=by simp;omega
  have e2:¬ a=b:=fun e=>h (by rw [e]);rw [e1];simp [e2]
end Go.Proofs.YtijnkhcfondehaaGreatDoor
/-
 ch. 21: the tracks of a table are valid; Decode.
-/
namespace Go.Proofs.YtijnkhcfondehaaGreatDoor
open Go.AE
theorem hyz:∀ k:Fin 256,32≤k.val∧k.val≤126→0≤cdI ((k.val:Nat):Int)∧cdI ((k.val:Nat):Int) < 256:=by decide +kernel
theorem ijw {b:UInt8} (h:okC b=true):0≤cd b∧cd b < 256:=hyz ⟨b.toNat,b.toNat_lt⟩ (by simpa [okC] using h)
theorem bjw {a b:List Int} (ha:byL a) (hb:byL b):byL (a ++ b):=fun x hx=>(jm.1 hx).elim (ha x) (hb x)
theorem dzl {s:List UInt8} (h:s.all okC=true) (K:Nat):byL (txt s K):=by
 refine bjw (fun x hx=>?_) (fun x hx=>?_)
 ·obtain ⟨b,hb,rfl⟩:=ya.1 hx;exact ijw (jx.1 h b hb)
 ·obtain ⟨_,rfl⟩:=List.mem_replicate.1 hx;decide
theorem wu8 (x:Int):0≤jb .u8 x∧jb .u8 x < 256:=by
 have:jb .u8 x=x % 256:=by simp [jb,jj,Jv]
 omega
theorem dja (k:Int):byL (h2 k):=by
 intro x hx;simp only [h2,jR,List.not_mem_nil,or_false] at hx;rcases hx with rfl | rfl <;> exact wu8 _
theorem gqg (d:aj5):byL (ayp d):=by
 unfold ayp dji hzr;refine bjw (bjw (bjw (bjw (bjw (bjw (bjw ?_ (dja _)) (dja _)) (dja _)) (dja _)) ?_) ?_) ?_
 ·intro x hx;simp only [jR,List.not_mem_nil,or_false] at hx;rcases hx with rfl | rfl | rfl | rfl
  ·exact wu8 _
  ·exact wu8 _
  ·unfold fj9;split <;> split <;> decide
  ·exact wu8 _
 ·intro x hx;simp only [jR,List.not_mem_nil,or_false] at hx;subst hx;exact wu8 _
 ·intro x hx;simp only [exb,j9] at hx;obtain ⟨e,_,hx⟩:=hx;exact bjw (dja _) (dja _) x hx
 ·intro x hx;obtain ⟨_,rfl⟩:=List.mem_replicate.1 hx;decide
theorem dyc (d:aj5) (h:d.Extents.length≤8):(ayp d).length=45:=by
 simp only [ayp,jg,byk,eqi,j1];omega
theorem eqj {v:aj6} (hv:OkV v):(volB v).length=80:=by
 have l4:=akv [86,79,76,49] 4 (by decide);have l6:=akv v.Serial 6 hv.slen;have l64:=akv [] 64 (by decide);simp only [volB,jg,l4,l6,l64,byh]
theorem gks {v:aj6} (hv:OkV v):byL (volB v):=by
 unfold volB;exact bjw (bjw (bjw (bjw (bjw (dzl (by decide) _) (dzl hv.ser _)) (dja _)) (dja _)) (dja _)) (dzl (by decide) _)
theorem fz3 {S i:Nat} {v:aj6} {k:Nat} (hk:k < (((recs v).drop (14 * i)).take 14).length):gt (((recs v).drop (14 * i)).take 14) k=rcP ((k+1:Nat):Int) (gt v.Sets (14 * i+k))∧14 * i+k < v.Sets.length∧k < 14:=by
 have h1:k < 14:=by rw [jk] at hk;omega
 have h2:14 * i+k < (recs v).length:=by rw [jk,jL] at hk;omega
 have h3:14 * i+k < v.Sets.length:=by rw [cj6] at h2;exact h2
 refine ⟨?_,h3,h1⟩;rw [aqk hk,List.getElem_take,List.getElem_drop,eqk h2,show (14 * i+k) % 14+1=k+1 by omega]
theorem fzd {α:Type} [Inhabited α] {l:List α} {x:α} (h:x∈l):∃ k,k < l.length∧x=gt l k:=by
 obtain ⟨k,hk,e⟩:=List.mem_iff_getElem.1 h;exact ⟨k,hk,by rw [aqk hk,e]⟩
theorem iji:∀ k:Fin 15,decide (sumC (jr k.val 137)≤2048)=true:=by decide +kernel
theorem iqo {v:aj6} (hv:OkV v) (i:Nat):vT (((recs v).drop (14 * i)).take 14)=true:=by
 obtain ⟨t,ht⟩:∃ t,t=((recs v).drop (14 * i)).take 14:=⟨_,rfl⟩
 have hel:∀ k,k < t.length→gt t k=rcP ((k+1:Nat):Int) (gt v.Sets (14 * i+k))∧14 * i+k < v.Sets.length∧k < 14:=fun k hk=>by
  subst ht;exact fz3 (S:=0) hk
 have hlen:t.length≤14:=by subst ht;rw [jk];omega
 rw [← ht];clear ht
 have hc:t.map ewm=jr t.length 137:=by
  rw [List.eq_replicate_iff];refine ⟨jG _,fun c hc=>?_⟩;obtain ⟨r,hr,rfl⟩:=ya.1 hc;obtain ⟨k,hk,rfl⟩:=fzd hr;obtain ⟨e,h1,h2⟩:=hel k hk;have hd:=hv.lbl _ h1;rw [e,ewm];show ekl (txt (gt v.Sets (14 * i+k)).Name 44).length (ayp (gt v.Sets (14 * i+k))).length=137;rw [akv _ _ hd.nlen,dyc _ hd.ext];decide +kernel
 unfold vT;rw [hc,iji ⟨t.length,by omega⟩,Bool.and_true,j8,JE];intro k hk;rw [List.mem_range] at hk;obtain ⟨e,h1,h2⟩:=hel k hk;have hd:=hv.lbl _ h1;have hkl:(gt t k).Key.length=44:=by rw [e];exact akv _ _ hd.nlen
 have hR:(gt t k).R=((k+1:Nat):Int):=by rw [e];rfl
 unfold badT;rw [hkl,hR];simp only [Jt,Bool.or_eq_false_iff,Bool.not_eq_false',jf,decide_eq_true_eq,Bool.and_eq_false_iff,decide_eq_false_iff_not];refine ⟨⟨⟨by omega,by omega⟩,by omega⟩,?_⟩;by_cases h0:0 < k
 ·right;have hR':(gt t (k - 1)).R=((k - 1+1:Nat):Int):=by rw [(hel (k - 1) (by omega)).1];rfl
  rw [hR'];omega
 ·left;exact h0
theorem ijj {v:aj6} (hv:OkV v):vT [vol v]=true:=by
 have l4:=akv [86,79,76,49] 4 (by decide)
 have hc:[vol v].map ewm=[132]:=by
  show [ekl (txt [86,79,76,49] 4).length (volB v).length]=[132];rw [l4,eqj hv];decide +kernel
 unfold vT;rw [hc]
 have hb:badT [vol v] 0=false:=by
  unfold badT;show (!(decide ((3:Int) ≥ 1) && decide ((3:Int)≤255) && decide (((txt [86,79,76,49] 4).length:Int)≤255)) || (decide (0 < 0) && _))=false;rw [l4];rfl
 have:(Jc [vol v].length).any (badT [vol v])=false:=by
  rw [JE];intro k hk;simp only [jq,jS,List.mem_range] at hk;obtain rfl:k=0:=by omega
  rw [hb];simp
 rw [this];decide +kernel
theorem eqd {v:aj6} {t:List TRec} (h:t∈encT v):t=[vol v]∨∃ i,t=((recs v).drop (14 * i)).take 14:=by
 simp only [encT,jR,tr,ya] at h;rcases h with h | ⟨i,_,h⟩
 ·exact .inl h
 ·exact .inr ⟨i,h.symm⟩
theorem ijs {v:aj6} (hv:OkV v):∀ t∈encT v,vT t=true:=by
 intro t ht;rcases eqd ht with rfl | ⟨i,rfl⟩
 ·exact ijj hv
 ·exact iqo hv i
theorem gzj {v:aj6} (hv:OkV v):∀ t∈encT v,∀ r∈t,byR r:=by
 intro t ht r hr;rcases eqd ht with rfl | ⟨i,rfl⟩
 ·rw [Jn] at hr;subst hr;exact ⟨dzl (by decide) _,gks hv⟩
 ·obtain ⟨k,hk,rfl⟩:=fzd hr;obtain ⟨e,h1,h2⟩:=fz3 (S:=0) hk;rw [e];exact ⟨dzl (hv.lbl _ h1).name _,gqg _⟩
theorem fw9 (l:List Int):(byp l).length≤l.length:=by
 have:=eqz l l.length
 simp only [byp,decM,jG,jk];omega
theorem gyz {l:List (List TRec)} (hl:okLL l) (hg:noG l=false) (hcnt:((l.drop 1).flatMap labs).length≤300):bqo (gV l):=by
 obtain ⟨hb,ha⟩:=(Bool.or_eq_false_iff).1 hg;obtain ⟨h1,h2,h3⟩:=fjh hb;refine ⟨?_,?_,fun d hd=>?_⟩
 ·show ((l.drop 1).flatMap labs).length≤300;exact hcnt
 ·show (byp (List.drop 4 (List.take 10 (gt (gt l 0) 0).Data))).length≤400
  have:=fw9 (List.drop 4 (List.take 10 (gt (gt l 0) 0).Data))
  simp only [jL,jk] at this;omega
 ·have hd':d∈(l.drop 1).flatMap labs:=hd;obtain ⟨t,ht,hd2⟩:=j9.1 hd';obtain ⟨r,hr,hd3⟩:=j9.1 (show d∈t.flatMap fun r=>[labM r] from hd2);rw [Jn] at hd3;subst hd3;have hm:=(hl.2 t (List.mem_of_mem_drop ht)).2 r hr
  have hbr:badR r=false:=by
   have:=JE.1 ha t ht
   rw [Jt] at this
   have:=JE.1 this r hr
   simpa using this
  refine ⟨?_,?_⟩
  ·show (byp r.Key).length≤400
   have:=fw9 r.Key;omega
  ·show (exM r.Data).length≤20;rw [dzy];simp only [badR,Bool.or_eq_false_iff,decide_eq_false_iff_not] at hbr;omega
def decV (l:List (List TRec)):aj6×Int:=if noG l=false∧rV (gV l)=true∧l=encT (gV l) then (gV l,0) else (zV,5)
theorem gy0 {l:List (List TRec)} (hl:okLL l):∀ t∈l,t.length≤1000000∧∀ r∈t,r.Key.length≤1000000∧r.Data.length≤1000000:=fun t ht =>
 ⟨by have:=(hl.2 t ht).1;omega,fun r hr=>by have:=(hl.2 t ht).2 r hr;omega⟩
theorem djx (n:Nat) (hn:N0≤n) (l:List (List TRec)) (hl:okLL l) (hcnt:((l.drop 1).flatMap labs).length≤300):azt n l=some (decV l):=by
 have hn0:4194304≤n:=hn;rw [fkk n hn l hl];unfold decV;cases hg:noG l with
 | true=>simp
 | false =>
  simp only [jn,if_false,true_and];unfold bj3;have hE:bje n (⟨(gV l).Serial,(gV l).Cyls,(gV l).Heads,(gV l).Size,(gV l).Sets⟩:aj6)=_:=ey2 n hn (gV l) (gyz hl hg hcnt);rw [hE,je];cases hr:rV (gV l) with
  | false=>simp;rfl
  | true =>
   have hv:=dqa hr;simp only [if_true,true_and];rw [show (((encT (gV l),(0:Int)).2 != 0))=false from rfl];simp only [cond_false,Ji];rw [aja _ trivial,eqFF n l (encT (gV l)) (by omega) (by have:=hl.1;omega) (gy0 hl) (ijs hv),je];by_cases e:l=encT (gV l)
   ·rw [if_pos e,decide_eq_true e];rfl
   ·rw [if_neg e,decide_eq_false e];rfl
end Go.Proofs.YtijnkhcfondehaaGreatDoor
/-
 ch. 21: a table, out of its tracks.
-/
namespace Go.Proofs.YtijnkhcfondehaaGreatDoor
open Go.AE
def okN (b:UInt8):Bool:=okC b && b != 32
theorem hz8:∀ k:Fin 256,(letB (UInt8.ofNat k.val)=true∨digB (UInt8.ofNat k.val)=true∨chB (UInt8.ofNat k.val)=true∨k.val=46)→okN (UInt8.ofNat k.val)=true:=by decide +kernel
theorem gjd {b:UInt8} (h:letB b=true∨digB b=true∨chB b=true∨b=46):okN b=true:=by
 have:=hz8 ⟨b.toNat,b.toNat_lt⟩
 have e:UInt8.ofNat b.toNat=b:=by simp
 simp only [e] at this;refine this ?_;rcases h with h | h | h | h
 ·exact .inl h
 ·exact .inr (.inl h)
 ·exact .inr (.inr (.inl h))
 ·subst h;exact .inr (.inr (.inr rfl))
theorem dzc:∀ s:List UInt8,(∀ p∈parts s,p.all chB=true)→s.all okN=true
 | [],_=>rfl
 | b :: l,h=>by
  simp only [parts] at h;by_cases hb:b=46
  ·rw [if_pos hb] at h;rw [Jq,gjd (.inr (.inr (.inr hb))),Jy];exact dzc l fun p hp=>h p (JF _ hp)
  ·rw [if_neg hb] at h;cases hp:parts l with
   | nil=>exact absurd hp (fwu l)
   | cons p ps =>
    rw [hp] at h;have h0:=h _ Jf;simp only [Jq,jf] at h0;rw [Jq,gjd (.inr (.inr (.inl h0.1))),Jy];refine dzc l fun q hq=>?_;rw [hp] at hq;rcases jR.1 hq with rfl | hq
    ·exact h0.2
    ·exact h q (JF _ hq)
theorem fz9 {s:List UInt8} (h:cq4 s=true):s.all okN=true∧s.length≤44:=by
 simp only [cq4,jf,decide_eq_true_eq,jx] at h;refine ⟨dzc s fun p hp=>?_,h.1⟩
 have:=h.2 p hp
 simp only [smp,jf] at this;exact this.2.1
theorem hqz {s:List UInt8} (h:serB s=true):s.all okN=true∧s.length≤6:=by
 simp only [serB,jf,decide_eq_true_eq,jx] at h;refine ⟨jx.2 fun b hb=>gjd ?_,h.1.2⟩
 have:=h.2 b hb
 simp only [JI] at this;rcases this with h | h
 ·exact .inl h
 ·exact .inr (.inl h)
theorem hwg:∀ k:Fin 256,okN (UInt8.ofNat k.val)=true→eChB (cdI ((k.val:Nat):Int))=UInt8.ofNat k.val∧cdI ((k.val:Nat):Int)≠64:=by decide +kernel
theorem hqj {b:UInt8} (h:okN b=true):eChB (cd b)=b∧cd b≠64:=by
 have e:UInt8.ofNat b.toNat=b:=by simp
 have:=hwg ⟨b.toNat,b.toNat_lt⟩ (by simp only [e];exact h)
 simp only [e] at this;exact this
theorem gt_l {a b:List Int} {k:Nat} (h:k < a.length):gt (a ++ b) k=gt a k:=by
 simp [gt,ja,jH h]
theorem gt_r {a b:List Int} {m k:Nat} (h:a.length=m):gt (a ++ b) (m+k)=gt b k:=by
 subst h;simp [gt,ja,jM]
theorem ij8 {s:List UInt8} {K:Nat} {j:Nat} (hj:j < s.length):(txt s K).getD j 0=cd s[j]:=by
 simp [txt,ja,hj,jH]
theorem ijq {s:List UInt8} {K:Nat} {j:Nat} (h1:s.length≤j) (h2:j < K):(txt s K).getD j 0=64:=by
 simp only [txt,ja];rw [jM (by simp;omega)];simp only [jG,List.getElem?_replicate];rw [if_pos (by omega)];rfl
theorem eq8 (l:List Int) (k:Nat):dww l (k+1)=if l.getD k 0=64 then dww l k else k+1:=rfl
theorem ekw (s:List UInt8) (hs:s.all okN=true) (K:Nat):∀ r,s.length+r≤K→dww (txt s K) (s.length+r)=s.length
 | 0,_=>by
  rw [Jj];rcases JH s.length with h | h
  ·rw [h];rfl
  ·obtain ⟨m,hm⟩:∃ m,s.length=m+1:=⟨s.length - 1,by omega⟩;have h64:=(hqj (jx.1 hs s[m] (jw (by omega)))).2;rw [hm,eq8,if_neg (by rw [ij8 (by omega)];exact h64)]
 | r+1,h=>by
  rw [show s.length+(r+1)=(s.length+r)+1 from rfl,eq8,if_pos (ijq (by omega) (by omega)),ekw s hs K r (by omega)]
theorem ek7 {s:List UInt8} (hs:s.all okN=true) {K:Nat} (hK:s.length≤K):byp (txt s K)=s:=by
 have hl:=akv s K hK;have h1:=ekw s hs K (K - s.length) (by omega);rw [show s.length+(K - s.length)=K by omega] at h1;unfold byp;rw [hl,h1];unfold txt decM;rw [jU (by simp),jJ (by simp),List.map_map];refine (List.map_congr_left fun b hb=>?_).trans (List.map_id s);exact (hqj (jx.1 hs b hb)).1
theorem ej1 (x:Int):jb .u8 x=x % 256:=by simp [jb,jj,Jv]
theorem djg {x:Int} (h:0≤x∧x < 65536):256 * jb .u8 (Int.fdiv x 256)+jb .u8 x=x:=by
 rw [ej1,ej1,Int.fdiv_eq_ediv_of_nonneg _ (by omega)];omega
structure OkF (d:aj5):Prop where
 name:d.Name.all okN=true
 nlen:d.Name.length≤44
 org:0≤d.Dcb.Org∧d.Dcb.Org < 256
 fmt:0≤d.Dcb.Format∧d.Dcb.Format < 256
 kl:0≤d.Dcb.KeyLen∧d.Dcb.KeyLen < 256
 lrecl:0≤d.Dcb.Lrecl∧d.Dcb.Lrecl < 65536
 blk:0≤d.Dcb.Blksize∧d.Dcb.Blksize < 65536
 kp:0≤d.Dcb.KeyPos∧d.Dcb.KeyPos < 65536
 used:0≤d.Used∧d.Used < 65536
 ext:d.Extents.length≤8
 exts:∀ x∈d.Extents,(0≤x.At∧x.At < 65536)∧(0≤x.Len∧x.Len < 65536)
theorem djq (d:aj5) {k:Nat} (hk:k < 13):gt (ayp d) k=gt (dji d) k:=by
 unfold ayp;rw [jQ];exact gt_l (by rw [byk];exact hk)
theorem hyl {d:aj5} (h:d.Extents.length≤8):gt (ayp d) 12=(d.Extents.length:Int):=by
 rw [djq d (by omega)];show jb .u8 (d.Extents.length:Int)=_;rw [ej1];omega
theorem ijl (Z:List Int):∀ (l:List aj0) (i:Nat),i < l.length→(∀ x∈l,(0≤x.At∧x.At < 65536)∧(0≤x.Len∧x.Len < 65536)) →
  h16 (exb l ++ Z) (4 * i)=(gt l i).At∧h16 (exb l ++ Z) (4 * i+2)=(gt l i).Len
 | [],i,h,_=>by simp at h
 | x :: l,0,h,hx=>⟨djg (hx x Jf).1,djg (hx x Jf).2⟩
 | x :: l,i+1,h,hx=>by
  have ih:=ijl Z l i (by simpa using h) fun y hy=>hx y (JF _ hy);exact ih
theorem hyu {d:aj5} (h:OkF d):exM (ayp d)=d.Extents:=by
 have h12:=hyl h.ext;apply J1
 ·rw [dzy,h12];omega
 ·intro i h1 h2;have hh:=ijl (jr (32 - 4 * d.Extents.length) 0) d.Extents i h2 h.exts
  have hr:∀ k,h16 (ayp d) (13+k)=h16 (exb d.Extents ++ jr (32 - 4 * d.Extents.length) 0) k:=fun k=>by
   unfold h16 ayp;rw [jQ,show 13+k+1=13+(k+1) by omega,gt_r (byk d),gt_r (byk d)]
  have e1:=hr (4 * i);have e2:=hr (4 * i+2);rw [show 13+(4 * i+2)=15+4 * i by omega] at e2;simp only [exM,J6,List.getElem_range];rw [e1,e2,hh.1,hh.2,aqk h2]
theorem gze (b a:Bool):decide ((if b then (if a then 192 else 128) else if a then 64 else (0:Int)) ≥ 128)=b∧((Jr (jb .u8 (Int.tdiv (if b then (if a then 192 else 128) else if a then 64 else (0:Int)) 64)) 2) == 1)=a:=by
 cases b <;> cases a <;> decide
theorem hj4 {d:aj5} (h:OkF d) (k:Int):labM (rcP k d)=d:=by
 have q0:gt (ayp d) 0=d.Dcb.Org:=by
  rw [djq d (by omega)];show jb .u8 d.Dcb.Org=_
  have:=h.org;rw [ej1];omega
 have q1:gt (ayp d) 1=d.Dcb.Format:=by
  rw [djq d (by omega)];show jb .u8 d.Dcb.Format=_
  have:=h.fmt;rw [ej1];omega
 have q2:gt (ayp d) 2=fj9 d.Dcb:=by rw [djq d (by omega)];rfl
 have q3:gt (ayp d) 3=d.Dcb.KeyLen:=by
  rw [djq d (by omega)];show jb .u8 d.Dcb.KeyLen=_
  have:=h.kl;rw [ej1];omega
 have q4:h16 (ayp d) 4=d.Dcb.Lrecl:=by
  unfold h16;rw [djq d (by omega),djq d (by omega)];exact djg h.lrecl
 have q6:h16 (ayp d) 6=d.Dcb.Blksize:=by
  unfold h16;rw [djq d (by omega),djq d (by omega)];exact djg h.blk
 have q8:h16 (ayp d) 8=d.Dcb.KeyPos:=by
  unfold h16;rw [djq d (by omega),djq d (by omega)];exact djg h.kp
 have q10:h16 (ayp d) 10=d.Used:=by
  unfold h16;rw [djq d (by omega),djq d (by omega)];exact djg h.used
 have hf:=gze d.Dcb.Blocked d.Dcb.Asa;show (⟨byp (txt d.Name 44),⟨gt (ayp d) 0,gt (ayp d) 1,decide (gt (ayp d) 2 ≥ 128),(Jr (jb .u8 (Int.tdiv (gt (ayp d) 2) 64)) 2) == 1,h16 (ayp d) 4,h16 (ayp d) 6,gt (ayp d) 3,h16 (ayp d) 8⟩,exM (ayp d),h16 (ayp d) 10⟩:aj5)=d;rw [ek7 h.name h.nlen,hyu h,q0,q1,q2,q3,q4,q6,q8,q10];unfold fj9;rw [hf.1,hf.2]
theorem gyn {d:aj5} (h:OkF d) (k:Int):badR (rcP k d)=false:=by
 unfold badR;show (((ayp d).length:Int) != 45 || decide (gt (ayp d) 12 > 8))=false
 have:=h.ext
 rw [dyc d h.ext,hyl h.ext,decide_eq_false (by omega)];rfl
theorem hqm {v:aj6} (hr:rV v=true) {d:aj5} (hd:d∈v.Sets):OkF d:=by
 obtain ⟨q1,q2,q3,q4,q5,q6⟩:=byg.1 hr;obtain ⟨hp,hx⟩:=q4 d hd;unfold pLbl dscB at hp;simp only [jf,inB,decide_eq_true_eq] at hp;obtain ⟨⟨⟨⟨⟨hnm,hds⟩,he1,he2⟩,hv⟩,hov⟩,hu1,hu2⟩:=hp;have hval:=(ajx _).1 hv
 have hul:((trkO d.Extents).length:Int)≤4096:=by
  have hsum:∀ l:List aj0,l.all val=true→(trks l).length≤512 * l.length:=by
   intro l
   induction l with
   | nil=>intro _;simp [trks]
   | cons x l ih =>
    intro h;simp only [Jq,jf] at h;have h5:=ih h.2;have h6:=(aq0 x).1 h.1;rw [aqx,jg,jq]
    have:(trk x).length≤512:=by simp [trk];omega
    omega
  have e:trkO d.Extents=trks d.Extents:=by
   unfold trkO;rw [cy8 hval.1 (by simpa using hval.2)];simp
  rw [e]
  have:=hsum _ hval.1
  omega
 refine ⟨(fz9 hnm).1,(fz9 hnm).2,by omega,by omega,by omega,by omega,by omega,by omega,by omega,by omega,fun x hx=>?_⟩
 have:=(aq0 x).1 ((jx.1 hval.1) x hx)
 omega
theorem gyv (t:List TRec):labs t=t.map labM:=by
 induction t with
 | nil=>rfl
 | cons r t ih=>rw [List.map_cons,← ih];rfl
theorem hjz (l:List (List TRec)):l.flatMap labs=l.flatten.map labM:=by
 induction l with
 | nil=>rfl
 | cons t l ih=>rw [Jm,ih,gyv,J7,List.map_append]
theorem gqa (L:List TRec):∀ S,(tr S L).flatten=L.take (14 * S)
 | 0=>by simp [tr]
 | S+1=>by
  rw [hw5,List.flatten_append,gqa L S];simp only [J7,List.flatten_nil,JB];rw [Nat.mul_succ,List.take_add]
theorem cy2 {v:aj6} (hr:rV v=true):(tr v.Size.toNat (recs v)).flatMap labs=v.Sets:=by
 have hv:=dqa hr;have hz:=hv.size;have hs:=hv.sets;rw [hjz,gqa,jJ (by rw [cj6];omega)];apply J1
 ·rw [jG,cj6]
 ·intro i h1 h2;rw [J6,eqk,aqk h2];exact hj4 (hqm hr (jw h2)) _
theorem fqg {v:aj6} (hv:OkV v) (k:Nat):h16 (volB v) (10+k)=h16 (h2 v.Cyls ++ (h2 v.Heads ++ (h2 v.Size ++ txt [] 64))) k:=by
 have l4:=akv [86,79,76,49] 4 (by decide);have l6:=akv v.Serial 6 hv.slen;have hl:(txt [86,79,76,49] 4 ++ txt v.Serial 6).length=10:=by rw [jg,l4,l6]
 have e:volB v=(txt [86,79,76,49] 4 ++ txt v.Serial 6) ++ (h2 v.Cyls ++ (h2 v.Heads ++ (h2 v.Size ++ txt [] 64))):=by
  unfold volB;simp only [jQ]
 unfold h16;rw [e,show 10+k+1=10+(k+1) by omega,gt_r hl,gt_r hl]
theorem gq8 {v:aj6} (hr:rV v=true):h16 (volB v) 10=v.Cyls∧h16 (volB v) 12=v.Heads∧h16 (volB v) 14=v.Size∧byp (List.drop 4 (List.take 10 (volB v)))=v.Serial:=by
 have hv:=dqa hr;obtain ⟨q1,_⟩:=byg.1 hr;unfold head cz1 at q1;simp only [jf,inB,decide_eq_true_eq] at q1;obtain ⟨⟨⟨hs,hc1,hc2⟩,hd1,hd2⟩,he1,he2⟩:=q1;have hz:=hv.size;refine ⟨?_,?_,?_,?_⟩
 ·rw [show 10=10+0 from rfl,fqg hv];exact djg (by omega)
 ·rw [show 12=10+2 from rfl,fqg hv];exact djg (by omega)
 ·rw [show 14=10+4 from rfl,fqg hv];exact djg (by omega)
 ·have l4:=akv [86,79,76,49] 4 (by decide);have l6:=akv v.Serial 6 hv.slen
  have e:volB v=(txt [86,79,76,49] 4 ++ txt v.Serial 6) ++ (h2 v.Cyls ++ (h2 v.Heads ++ (h2 v.Size ++ txt [] 64))):=by
   unfold volB;simp only [jQ]
  rw [e,jU (by rw [jg,l4,l6];omega),jJ (by rw [jg,l4,l6];omega),List.drop_append_of_le_length (by omega),List.drop_of_length_le (by omega),Jd];exact ek7 (hqz hs).1 hv.slen
theorem hyg {v:aj6} (hr:rV v=true) {L:List (List TRec)}:gV ([vol v] :: L)=⟨v.Serial,v.Cyls,v.Heads,v.Size,L.flatMap labs⟩:=by
 obtain ⟨h1,h2,h3,h4⟩:=gq8 hr;show (⟨byp (List.drop 4 (List.take 10 (volB v))),h16 (volB v) 10,h16 (volB v) 12,h16 (volB v) 14,L.flatMap labs⟩:aj6)=_;rw [h1,h2,h3,h4]
theorem hw4 {v:aj6} (hv:OkV v):okT [vol v]:=by
 refine ⟨by simp,fun r hr=>?_⟩;rw [Jn] at hr;subst hr
 have:=gzj hv [vol v] Jf (vol v) (Jn.2 rfl)
 have l4:=akv [86,79,76,49] 4 (by decide);refine ⟨this.1,this.2,?_,?_⟩
 ·show (txt [86,79,76,49] 4).length≤300;omega
 ·show (volB v).length≤300;rw [eqj hv];omega
theorem eyz {v:aj6} (hv:OkV v):∀ t∈encT v,okT t:=by
 intro t ht;have hb:=gzj hv t ht;rcases eqd ht with rfl | ⟨i,rfl⟩
 ·exact hw4 hv
 ·refine ⟨by rw [jk];omega,fun r hr=>?_⟩;have h1:=hb r hr;obtain ⟨k,hk,rfl⟩:=fzd hr;obtain ⟨e,hx,_⟩:=fz3 (S:=0) hk;have hd:=hv.lbl _ hx;refine ⟨h1.1,h1.2,?_,?_⟩
  ·rw [e];show (txt _ 44).length≤300;rw [akv _ _ hd.nlen];omega
  ·rw [e];show (ayp _).length≤300;rw [dyc _ hd.ext];omega
theorem iq5 {v:aj6} (hr:rV v=true):(tr v.Size.toNat (recs v)).any (fun t=>t.any badR)=false:=by
 rw [JE];intro t ht;rw [Jt,JE];intro r hrr;obtain ⟨i,_,rfl⟩:=ya.1 ht;obtain ⟨k,hk,rfl⟩:=fzd hrr;obtain ⟨e,hx,_⟩:=fz3 (S:=0) hk;have hm:gt v.Sets (14 * i+k)∈v.Sets:=by rw [aqk hx];exact jw hx
 rw [e,gyn (hqm hr hm)];simp
theorem dz5 {v:aj6} (hv:OkV v):((encT v).length:Int)=v.Size+1:=by
 have:=hv.size
 simp only [encT,jq,czc];omega
theorem hwq {v:aj6} (hr:rV v=true):decV (encT v)=(v,0):=by
 have hv:=dqa hr
 have hg:gV (encT v)=v:=by
  show gV ([vol v] :: tr v.Size.toNat (recs v))=v;rw [hyg hr,cy2 hr]
 have hno:noG (encT v)=false:=by
  unfold noG;rw [show (encT v).drop 1=tr v.Size.toNat (recs v) from rfl,iq5 hr,Bool.or_false];unfold badH;show ((tr v.Size.toNat (recs v)).length+1 == 0 || ([vol v]:List TRec).length != 1 || (volB v).length != 80)=false;rw [eqj hv];simp
 unfold decV;rw [hg,if_pos ⟨hno,hr,rfl⟩]
theorem gjl {v:aj6} (hr:rV v=true) {L:List (List TRec)} (hl:(L.length:Int)≠v.Size):(decV ([vol v] :: L)).2=5:=by
 unfold decV;rw [if_neg];rintro ⟨_,h2,h3⟩;have hv2:=dqa h2;have h4:=dz5 hv2;rw [← h3,hyg hr] at h4;simp only [jq] at h4;omega
theorem hj7 (n:Nat) (hn:N0≤n) (l:List aj0) (hl:l.length≤1000):aww n l l=some true:=by
 have hn0:4194304≤n:=hn
 have key:ajo (fun (x:Int)=>ake n l l x) n 0=some (if l.any (fun _=>false)=true then .inl false else .inr ()):=by
  refine bkm l (fun _=>false) _ _ (fun k hk=>?_) ?_ (by omega)
  ·have hlt:((k:Nat):Int) < (l.length:Int):=by omega
   unfold ake;simp only [decide_eq_true hlt,cond_true,beq_self_eq_true,Bool.and_self,jT,cond_false];rw [aja _ ⟨⟨by omega,hlt⟩,by omega,hlt⟩,wid (n:=(k:Int)+1) (by omega)];rfl
  ·unfold ake;simp only [JS,decide_false,cond_false]
 have hf:l.any (fun _=>false)=false:=by simp
 rw [hf] at key;unfold aww;simp only [bne_self_eq_false,jn,if_false,cond_false,key,je,bjb]
theorem fk8 (n:Nat) (hn:N0≤n) (d:aj5) (hd:d.Extents.length≤1000):bzi n d d=some true:=by
 simp only [bzi,beq_self_eq_true,Bool.and_self,if_true,hj7 n hn d.Extents hd,JZ,implies_true,j7];rw [aja _ trivial]
end Go.Proofs.YtijnkhcfondehaaGreatDoor
/-
 ch. 21: a table is decoded from its tracks, and from no others.
-/
namespace Go.Proofs.YtijnkhcfondehaaGreatDoor
open Go.AE
theorem fyi (n:Nat) (hn:N0≤n) (v:aj6) (hv:bqo v):bjj n v v=some true:=by
 have hn0:4194304≤n:=hn;obtain ⟨h1,h2,h3⟩:=hv
 have key:ajo (fun (x:Int)=>ayw n v v x) n 0=some (if v.Sets.any (fun _=>false)=true then .inl false else .inr ()):=by
  refine bkm v.Sets (fun _=>false) _ _ (fun k hk=>?_) ?_ (by omega)
  ·have hlt:((k:Nat):Int) < (v.Sets.length:Int):=by omega
   have hx:=(h3 _ (by rw [aqk hk];exact jw hk:gt v.Sets k∈v.Sets)).2;unfold ayw;simp only [decide_eq_true hlt,cond_true,ju,fk8 n hn _ (Jb hx (by decide)),je,jT,cond_false];rw [aja _ ⟨⟨by omega,hlt⟩,by omega,hlt⟩,wid (n:=(k:Int)+1) (by omega)];rfl
  ·unfold ayw;simp only [JS,decide_false,cond_false]
 have hf:v.Sets.any (fun _=>false)=false:=by simp
 rw [hf] at key;unfold bjj;simp only [bne_self_eq_false,jn,if_false,cond_false,key,je,bw2]
theorem gwm (n:Nat) (hn:N0≤n) (v:aj6) (hr:rV v=true):ajo (fun (x:Int)=>awz n v.Serial v.Cyls v.Heads v.Size v.Sets (encT v) x) n 0=some (.inr ()):=by
 have hn0:4194304≤n:=hn;have hv:=dqa hr;have hz:=hv.size;have hs:=hv.sets;have hS:((v.Size.toNat:Nat):Int)=v.Size:=by omega
 have key:ajo (fun (x:Int)=>awz n v.Serial v.Cyls v.Heads v.Size v.Sets (encT v) x) n 0=some (if (Jc v.Size.toNat).any (fun _=>false)=true then .inl false else .inr ()):=by
  refine bkm (Jc v.Size.toNat) (fun _=>false) _ _ (fun k hk=>?_) ?_ (by rw [JO];omega)
  ·rw [JO] at hk;have hlt:((k:Nat):Int) < v.Size:=by omega
   have w1:jb .i64 ((k:Int)+1)=((k+1:Nat):Int):=by rw [wid (by omega)];omega
   have w14:jb .i64 ((k:Int) * 14)=(k:Int) * 14:=wid (by omega);have wl:jb .i64 ((v.Sets.length:Int) - (k:Int) * 14)=(v.Sets.length:Int) - (k:Int) * 14:=wid (by omega);have hel:=dz5 hv
   have hg:gt (encT v) (k+1)=((recs v).drop (14 * k)).take 14:=by
    show gt ([vol v] :: tr v.Size.toNat (recs v)) (k+1)=_;have hk':k < (tr v.Size.toNat (recs v)).length:=by rw [czc];exact hk
    rw [show gt ([vol v] :: tr v.Size.toNat (recs v)) (k+1)=gt (tr v.Size.toNat (recs v)) k from rfl,aqk hk',eq5]
   have hgl:((gt (encT v) (k+1)).length:Int)=if (if 14 < (v.Sets.length:Int) - (k:Int) * 14 then 14 else (v.Sets.length:Int) - (k:Int) * 14) > 0 then (if 14 < (v.Sets.length:Int) - (k:Int) * 14 then 14 else (v.Sets.length:Int) - (k:Int) * 14) else 0:=by
    rw [hg,jk,jL,cj6]
    split <;> split <;> omega
   unfold awz;rw [decide_eq_true hlt,cond_true,w1,w14,wl,ju,aja _ ⟨⟨by omega,by omega⟩,by omega⟩,hgl];simp only [bne_self_eq_false,cond_false,jn,if_false]
  ·rw [JO,hS];unfold awz;simp only [JS,decide_false,cond_false]
 have hf:(Jc v.Size.toNat).any (fun _=>false)=false:=by simp
 rw [hf] at key;simpa using key
theorem hwd {v:aj6} (hv:OkV v):okLL (encT v):=by
 have:=dz5 hv
 have:=hv.size
 exact ⟨by omega,eyz hv⟩
theorem dwm (x0:bka) (x1:List TAct) (hc:∀ i,i < 2→CanL Tryz.prog (([(true,[.int .u8,.int .u8,.int .u8]),(false,[.slice 62])]:List (Bool×List Kd)).getD i (false,[])).2 (([[.int x0.Cyls,.int x0.Heads,.int x0.Size],[.slice (List.map aw4 x1)]]:List (List C)).getD i []))
  (hb:cbss [[.int x0.Cyls,.int x0.Heads,.int x0.Size],[.slice (List.map aw4 x1)]]≤2097152):bwb N0 x0 x1=some true:=by
 have hn:=jA N0;have hl:=fj4 hb (xs:=[.slice (List.map aw4 x1)]) (l:=x1) (f:=aw4) (by simp) (by simp);have h0:=hc 0 (by decide);have hA:=hz4 (l:=x1) (hc 1 (by decide));have s1:=dz0 (h0.2 0 (by decide));have s2:=dz0 (h0.2 1 (by decide));have s3:=dz0 (h0.2 2 (by decide));clear hb hc h0;obtain ⟨v,hp,hlt,hr⟩:=gy2 N0 hn x0 x1 s1 s2 s3 hl hA;have hv:=dqa hr;have hz:=hv.size;have hsz:=hv.sets;have hE:=ey2 N0 hn v hlt;rw [hr] at hE;simp only [if_true] at hE;have hLL:=hwd hv;have hel:=dz5 hv
 have hcnt:(((encT v).drop 1).flatMap labs).length≤300:=by
  show ((tr v.Size.toNat (recs v)).flatMap labs).length≤300;rw [cy2 hr];omega
 have hD:=djx N0 hn (encT v) hLL hcnt;rw [hwq hr] at hD;have w1:jb .i64 (v.Size+1)=v.Size+1:=wid (by omega);unfold bwb;rw [hp,je,hE,je,hD,je,fyi N0 hn v hlt,gke,w1,hel];rw [aja _ ⟨fun _=>rfl,fun _=>rfl⟩];simp only [bne_self_eq_false,jn,if_false,j7,jT,cond_false];rw [gwm N0 hn v hr,je];show ak4 N0 v.Serial v.Cyls v.Heads v.Size v.Sets (encT v)=some true;unfold ak4
 have ht:List.take (Int.toNat (v.Size - 0)) (encT v)=[vol v] :: (tr v.Size.toNat (recs v)).take (v.Size.toNat - 1):=by
  rw [show encT v=[vol v] :: tr v.Size.toNat (recs v) from rfl,show (v.Size - 0).toNat=(v.Size.toNat - 1)+1 by omega,List.take_succ_cons]
 have hsub:((tr v.Size.toNat (recs v)).take (v.Size.toNat - 1)).Sublist (tr v.Size.toNat (recs v)):=List.take_sublist _ _
 have hD1:azt N0 (List.take (Int.toNat (v.Size - 0)) (encT v))=some (decV (List.take (Int.toNat (v.Size - 0)) (encT v))):=by
  refine djx N0 hn _ ⟨?_,fun t h=>eyz hv t (List.mem_of_mem_take h)⟩ ?_
  ·rw [jk];have:=hLL.1;omega
  ·rw [ht];show (((tr v.Size.toNat (recs v)).take (v.Size.toNat - 1)).flatMap labs).length≤300
   have:=(eqh labs hsub).length_le
   rw [cy2 hr] at this;omega
 have hD2:azt N0 (encT v ++ [[]])=some (decV (encT v ++ [[]])):=by
  refine djx N0 hn _ ⟨?_,fun t h=>?_⟩ ?_
  ·rw [jg,jq,jS];omega
  ·rcases jm.1 h with h | h
   ·exact eyz hv t h
   ·rw [Jn] at h;subst h;exact ⟨by simp,fun r hr=>by simp at hr⟩
  ·show ((tr v.Size.toNat (recs v) ++ [[]]).flatMap labs).length≤300;rw [List.flatMap_append,cy2 hr];show (v.Sets ++ []).length≤300;rw [JB];omega
 have e1:(decV (List.take (Int.toNat (v.Size - 0)) (encT v))).2=5:=by
  rw [ht];refine gjl hr ?_;rw [jk,czc];omega
 have e2:(decV (encT v ++ [[]])).2=5:=by
  show (decV ([vol v] :: (tr v.Size.toNat (recs v) ++ [[]]))).2=5;refine gjl hr ?_;rw [jg,czc,jq,jS];omega
 rw [aja _ ⟨by omega,by omega⟩,hD1,je,aja _ ⟨by omega,by omega⟩,hD2,je,e1,e2];rfl
end Go.Proofs.YtijnkhcfondehaaGreatDoor
