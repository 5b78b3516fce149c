/- Text. -/
import Derived.Lib.SlicesCompact
import Derived.Sort.Walk0
import Derived.Test.YtfhnelkbiihpiaaGreatDoorFL
import Derived.Test.YtfhnelkbiihpiaaGreatDoorAE21
set_option linter.unusedSimpArgs false
set_option linter.unusedVariables false
open _root_.List renaming mem_cons→jv,lt_irrefl→j5,mem_singleton→Jb,mem_append→jf,getElem_mem→jC,foldl_cons→jR,drop_zero→Jw,getElem?_eq_getElem→Jj,take_succ_eq_append_getElem→jH,length_cons→jA,length_nil→jO,map_cons→jX,length_map→jL
open _root_.Option renaming bind_some→jF
namespace Go.Proofs.YtfhnelkbiihpiaaGreatDoor
abbrev Nm:=List UInt8
theorem cq4:∀ {l m:List Nm},l.Pairwise (· < ·)→m.Pairwise (· < ·)→(∀ s,s∈l↔s∈m)→l=m
 | [],[],_,_,_=>rfl
 | [],y :: m,_,_,h=>absurd ((h y).2 (by simp)) (by simp)
 | x :: l,[],_,_,h=>absurd ((h x).1 (by simp)) (by simp)
 | x :: l,y :: m,hl,hm,h=>by
  obtain ⟨h1,h2⟩:=List.pairwise_cons.1 hl
  obtain ⟨h3,h4⟩:=List.pairwise_cons.1 hm
  have e:x=y:=by
   rcases jv.1 ((h x).1 (by simp)) with e | hx
   ·exact e
   ·rcases jv.1 ((h y).2 (by simp)) with e | hy
    ·exact e.symm
    ·exact absurd (List.lt_trans (h3 x hx) (h1 y hy)) (j5 y)
  subst e
  congr 1
  refine cq4 h2 h4 fun s=>⟨fun hs=>?_,fun hs=>?_⟩
  ·rcases jv.1 ((h s).1 (by simp [hs])) with e | hx
   ·subst e;exact absurd (h1 s hs) (j5 s)
   ·exact hx
  ·rcases jv.1 ((h s).2 (by simp [hs])) with e | hx
   ·subst e;exact absurd (h3 s hs) (j5 s)
   ·exact hx
theorem lt_of_le_ne {a b:Nm} (h:a≤b) (hn:a≠b):a < b:=by
 by_cases hl:a < b
 ·exact hl
 ·exact absurd (List.le_antisymm h (List.not_lt.1 hl)) hn
theorem le_of_lt {a b:Nm} (h:a < b):a≤b:=List.not_lt.1 fun k=>j5 a (List.lt_trans h k)
theorem cq8 {a b c:Nm} (h:a≤b) (k:b < c):a < c:=by
 by_cases e:a=b
 ·subst e;exact k
 ·exact List.lt_trans (lt_of_le_ne h e) k
theorem bqx (d:Array Nm) (hd:∀ i j,i≤j→j < d.size→d[i]!≤d[j]!):∀ m,m≤d.size→(Lib.compactUpTo d m).Pairwise (· < ·)∧∀ s,s∈Lib.compactUpTo d m↔∃ i,i < m∧d[i]! = s
 | 0,_=>⟨by simp [Lib.compactUpTo],fun s=>by simp [Lib.compactUpTo]⟩
 | m+1,hm=>by
  obtain ⟨h1,h2⟩:=bqx d hd m (by omega)
  rw [Lib.compactUpTo_succ]
  by_cases hk:Lib.keeps d m=true
  ·rw [if_pos hk]
   refine ⟨List.pairwise_append.2 ⟨h1,by simp,fun a ha b hb=>?_⟩,fun s=>?_⟩
   ·simp only [Jb] at hb
    subst hb
    obtain ⟨i,hi,rfl⟩:=(h2 a).1 ha
    unfold Lib.keeps at hk
    have hk:=of_decide_eq_true hk
    rcases hk with rfl | hk
    ·omega
    ·exact cq8 (hd i (m - 1) (by omega) (by omega)) (lt_of_le_ne (hd (m - 1) m (by omega) (by omega)) (Ne.symm hk))
   ·rw [jf,h2]
    simp only [Jb]
    constructor
    ·rintro (⟨i,hi,rfl⟩ | rfl)
     ·exact ⟨i,by omega,rfl⟩
     ·exact ⟨m,by omega,rfl⟩
    ·rintro ⟨i,hi,rfl⟩
     by_cases e:i=m
     ·subst e;exact .inr rfl
     ·exact .inl ⟨i,by omega,rfl⟩
  ·rw [if_neg hk,List.append_nil]
   refine ⟨h1,fun s=>?_⟩
   rw [h2]
   unfold Lib.keeps at hk
   simp only [decide_eq_true_eq,not_or,ne_eq,Decidable.not_not] at hk
   constructor
   ·rintro ⟨i,hi,rfl⟩;exact ⟨i,by omega,rfl⟩
   ·rintro ⟨i,hi,rfl⟩
    by_cases e:i=m
    ·subst e;exact ⟨i - 1,by omega,hk.2.symm⟩
    ·exact ⟨i,by omega,rfl⟩
theorem cwo (zs:List Nm):(Lib.compact (zs.mergeSort fun x y=>decide (x≤y))).Pairwise (· < ·)∧∀ s,s∈Lib.compact (zs.mergeSort fun x y=>decide (x≤y))↔s∈zs:=by
 obtain ⟨ys,hys⟩:∃ ys,ys=zs.mergeSort fun x y=>decide (x≤y):=⟨_,rfl⟩
 have hp:ys.Pairwise (·≤·):=by
  have:=List.pairwise_mergeSort (le:=fun (x y:Nm)=>decide (x≤y)) (fun a b c h k=>decide_eq_true (List.le_trans (of_decide_eq_true h) (of_decide_eq_true k))) (fun a b=>by
   rcases List.le_total a b with h | h
   ·rw [decide_eq_true h];rfl
   ·rw [decide_eq_true h,Bool.or_true]) zs
  rw [← hys] at this
  exact this.imp fun h=>of_decide_eq_true h
 have hm:∀ s,s∈ys↔s∈zs:=fun s=>by rw [hys,List.mem_mergeSort]
 rw [← hys]
 have get:∀ i (h:i < ys.length),ys.toArray[i]! = ys[i]:=fun i h=>by simp [List.getElem!_eq_getElem?_getD,h]
 obtain ⟨h1,h2⟩:=bqx ys.toArray (fun i j hij hj=>by
  have hj:j < ys.length:=by simpa using hj
  rw [get i (by omega),get j hj]
  by_cases e:i=j
  ·subst e;exact List.le_refl _
  ·exact List.pairwise_iff_getElem.1 hp i j (by omega) hj (by omega)) ys.length (by simp)
 refine ⟨h1,fun s=>(h2 s).trans ?_⟩
 rw [← hm]
 constructor
 ·rintro ⟨i,hi,rfl⟩
  rw [get i hi];exact jC hi
 ·intro hs
  obtain ⟨i,hi,rfl⟩:=List.getElem_of_mem hs
  exact ⟨i,hi,get i hi⟩
def awr (name:Nm) (st:List Nm×Bool) (y:Nm):List Nm×Bool :=
 let st1:=if st.2=false∧¬ y < name then (st.1 ++ [name],true) else st
 if y≠name then (st1.1 ++ [y],st1.2) else st1
def insF (l:List Nm) (name:Nm):List Nm :=
 let st:=l.foldl (awr name) ([],false)
 if st.2=false then st.1 ++ [name] else st.1
theorem dwo (name:Nm):∀ (l o:List Nm),l.foldl (awr name) (o,true)=(o ++ l.filter (fun y=>decide (y≠name)),true)
 | [],o=>by simp
 | y :: l,o=>by
  have:awr name (o,true) y=(if y≠name then o ++ [y] else o,true):=by unfold awr;by_cases h:y=name <;> simp [h]
  rw [jR,this,dwo name l]
  by_cases h:y=name <;> simp [h]
theorem dy3 (name:Nm):∀ (l o:List Nm),l.Pairwise (· < ·)→(let st:=l.foldl (awr name) (o,false);if st.2=false then st.1 ++ [name] else st.1)=o ++ (l.filter (fun y=>decide (y < name)) ++ name :: l.filter (fun y=>decide (name < y)))
 | [],o,_=>by simp
 | y :: l,o,hp=>by
  obtain ⟨h1,h2⟩:=List.pairwise_cons.1 hp
  rw [jR]
  by_cases hlt:y < name
  ·have hne:y≠name:=fun e=>by subst e;exact j5 y hlt
   have hng:¬ name < y:=fun k=>j5 y (List.lt_trans hlt k)
   have:awr name (o,false) y=(o ++ [y],false):=by unfold awr;simp [hlt,hne]
   rw [this]
   have:=dy3 name l (o ++ [y]) h2
   rw [this]
   simp [hlt,hng]
  ·have hge:name≤y:=List.not_lt.1 hlt
   have hrest:∀ z∈l,name < z:=fun z hz=>cq8 hge (h1 z hz)
   have f1:l.filter (fun z=>decide (z < name))=[]:=List.filter_eq_nil_iff.2 fun z hz=>by
    have:=hrest z hz
    simp only [decide_eq_true_eq]
    exact fun k=>j5 z (List.lt_trans k this)
   have f2:l.filter (fun z=>decide (name < z))=l:=List.filter_eq_self.2 fun z hz=>decide_eq_true (hrest z hz)
   have f3:l.filter (fun z=>decide (z≠name))=l:=List.filter_eq_self.2 fun z hz=>decide_eq_true fun e=>by
    have:=hrest z hz;rw [e] at this;exact j5 _ this
   have:awr name (o,false) y=(if y≠name then o ++ [name] ++ [y] else o ++ [name],true):=by unfold awr;by_cases h:y=name <;> simp [h,hlt,j5]
   rw [this,dwo]
   simp only [f3]
   by_cases h:y=name
   ·subst h
    simp [f1,f2,j5]
   ·have hg:name < y:=lt_of_le_ne hge (Ne.symm h)
    simp [h,hlt,hg,f1,f2]
theorem ejb {l:List Nm} (hp:l.Pairwise (· < ·)) (name:Nm):insF l name=l.filter (fun y=>decide (y < name)) ++ name :: l.filter (fun y=>decide (name < y)):=by
 have:=dy3 name l [] hp
 rw [List.nil_append] at this
 exact this
theorem cq1 {l:List Nm} (hp:l.Pairwise (· < ·)) (name:Nm):(insF l name).Pairwise (· < ·)∧∀ s,s∈insF l name↔s=name∨s∈l:=by
 rw [ejb hp]
 refine ⟨List.pairwise_append.2 ⟨hp.filter _,List.pairwise_cons.2 ⟨fun z hz=>?_,hp.filter _⟩,fun a ha b hb=>?_⟩,fun s=>?_⟩
 ·exact of_decide_eq_true (List.mem_filter.1 hz).2
 ·have h1:a < name:=of_decide_eq_true (List.mem_filter.1 ha).2
  rcases jv.1 hb with rfl | hb
  ·exact h1
  ·exact List.lt_trans h1 (of_decide_eq_true (List.mem_filter.1 hb).2)
 ·simp only [jf,List.mem_filter,jv,decide_eq_true_eq]
  constructor
  ·rintro (⟨h,_⟩ | h | ⟨h,_⟩)
   ·exact .inr h
   ·exact .inl h
   ·exact .inr h
  ·rintro (h | h)
   ·exact .inr (.inl h)
   ·by_cases h1:s < name
    ·exact .inl ⟨h,h1⟩
    ·by_cases h2:s=name
     ·exact .inr (.inl h2)
     ·exact .inr (.inr ⟨h,lt_of_le_ne (List.not_lt.1 h1) (Ne.symm h2)⟩)
theorem ezi:∀ (zs o:List Nm),o.Pairwise (· < ·)→(zs.foldl insF o).Pairwise (· < ·)∧∀ s,s∈zs.foldl insF o↔s∈zs∨s∈o
 | [],o,h=>⟨h,by simp⟩
 | z :: zs,o,h=>by
  obtain ⟨h1,h2⟩:=cq1 h z
  obtain ⟨h3,h4⟩:=ezi zs _ h1
  refine ⟨h3,fun s=>?_⟩
  rw [jR,h4,h2]
  simp only [jv]
  constructor
  ·rintro (h | h | h)
   ·exact .inl (.inr h)
   ·exact .inl (.inl h)
   ·exact .inr h
  ·rintro ((h | h) | h)
   ·exact .inr (.inl h)
   ·exact .inl h
   ·exact .inr (.inr h)
theorem dqj (zs:List Nm):zs.foldl insF []=Lib.compact (zs.mergeSort fun x y=>decide (x≤y)):=by
 obtain ⟨h1,h2⟩:=ezi zs [] (by simp)
 obtain ⟨h3,h4⟩:=cwo zs
 exact cq4 h1 h3 fun s=>by rw [h2,h4];simp
end Go.Proofs.YtfhnelkbiihpiaaGreatDoor
/-
 ch. 32: the specification's collection of sections, entries and names, in plain words.
-/
set_option maxHeartbeats 1000000
set_option maxRecDepth 100000
namespace Go.Proofs.YtfhnelkbiihpiaaGreatDoor
open Go.AE
def N0:Nat:=4194304
theorem wid {n:Int} (h:-4611686018427387904≤n∧n≤4611686018427387904):IntKind.wrap .i64 n=n:=eyj (by omega) (by omega)
theorem eyr {α:Type} (b:Bool) (x y:α):(bif b then x else y)=if b=true then x else y:=by cases b <;> rfl
theorem ek7 (z:Int):IntKind.wrap .i64 z=RowKit.wrap64 z:=by
 unfold RowKit.wrap64
 simp [IntKind.wrap,IntKind.bits,IntKind.signed]
 split <;> omega
theorem gd_t {α:Type} (p:Prop) [Decidable p] (x:Option α) (h:p):gd p x=x:=by unfold gd;rw [if_pos h]
def czm {σ α:Type} (f:Nat→σ→α→σ):Nat→List α→σ→σ
 | _,[],s=>s
 | k,a :: l,s=>czm f (k+1) l (f k s a)
theorem byz {σ α X Y:Type} {body:X→Option (X ⊕ Y)} (l:List α) (x:Nat→σ→X) (f:Nat→σ→α→σ) (fin:σ→Y) (I:Nat→σ→Prop)
  (hb:∀ k (hk:k < l.length) s,I k s→body (x k s)=some (.inl (x (k+1) (f k s l[k])))∧I (k+1) (f k s l[k]))
  (he:∀ s,I l.length s→body (x l.length s)=some (.inr (fin s))):∀ (j k:Nat) (s:σ),l.length - k=j→k≤l.length→I k s→∀ n,j < n→azk body n (x k s)=some (fin (czm f k (l.drop k) s))
 | 0,k,s,hj,hk,hI,n,hn=>by
  obtain rfl:k=l.length:=by omega
  obtain ⟨n,rfl⟩:∃ m,n=m+1:=⟨n - 1,by omega⟩
  rw [List.drop_length]
  exact bkw (he s hI)
 | j+1,k,s,hj,hk,hI,n,hn=>by
  obtain ⟨n,rfl⟩:∃ m,n=m+1:=⟨n - 1,by omega⟩
  have hk':k < l.length:=by omega
  obtain ⟨h1,h2⟩:=hb k hk' s hI
  rw [cza h1,byz l x f fin I hb he j (k+1) _ (by omega) (by omega) h2 n (by omega),List.drop_eq_getElem_cons hk']
  rfl
theorem ayz {σ α X Y:Type} {body:X→Option (X ⊕ Y)} (l:List α) (x:Nat→σ→X) (f:Nat→σ→α→σ) (fin:σ→Y) (I:Nat→σ→Prop) {s:σ} (h0:I 0 s)
  (hb:∀ k (hk:k < l.length) s,I k s→body (x k s)=some (.inl (x (k+1) (f k s l[k])))∧I (k+1) (f k s l[k]))
  (he:∀ s,I l.length s→body (x l.length s)=some (.inr (fin s))) {n:Nat} (hn:l.length < n):azk body n (x 0 s)=some (fin (czm f 0 l s)):=by
 have:=byz l x f fin I hb he l.length 0 s (by omega) (by omega) h0 n hn
 simpa using this
theorem ak9 {σ α:Type} (f:σ→α→σ):∀ (l:List α) (k:Nat) (s:σ),czm (fun _=>f) k l s=l.foldl f s
 | [],_,_=>rfl
 | a :: l,k,s=>ak9 f l (k+1) (f s a)
def ixI:Option Nat→Int
 | some k=>(k:Int)
 | none=>-1
theorem djb {α:Type} (p:α→Bool) (l:List α) (k:Nat) (h:k < l.length):(l.drop k).findIdx? p=if p l[k] then some 0 else ((l.drop (k+1)).findIdx? p).map (· + 1):=by
 rw [List.drop_eq_getElem_cons h,List.findIdx?_cons]
theorem bw9 {Y:Type} {body:Int→Option (Int ⊕ (Y ⊕ Unit))} {α:Type} (l:List α) (p:α→Bool) (F:Nat→Y)
  (hb:∀ k (hk:k < l.length),body (k:Int)=some (if p l[k] then .inr (.inl (F k)) else .inl ((k+1:Nat):Int)))
  (he:body (l.length:Int)=some (.inr (.inr ()))):∀ (j k:Nat),l.length - k=j→k≤l.length→∀ n,j < n→azk body n (k:Int)=some (match (l.drop k).findIdx? p with | some i=>.inl (F (k+i)) | none=>.inr ())
 | 0,k,hj,hk,n,hn=>by
  obtain rfl:k=l.length:=by omega
  obtain ⟨n,rfl⟩:∃ m,n=m+1:=⟨n - 1,by omega⟩
  rw [List.drop_length]
  exact bkw he
 | j+1,k,hj,hk,n,hn=>by
  obtain ⟨n,rfl⟩:∃ m,n=m+1:=⟨n - 1,by omega⟩
  have hk':k < l.length:=by omega
  have h1:=hb k hk'
  rw [djb p l k hk']
  cases hp:p l[k] with
  | true =>
   rw [hp] at h1
   simp only [if_true] at h1 ⊢
   exact bkw h1
  | false =>
   rw [hp] at h1
   simp only [Bool.false_eq_true,if_false] at h1 ⊢
   rw [cza h1,bw9 l p F hb he j (k+1) (by omega) (by omega) n (by omega)]
   cases (l.drop (k+1)).findIdx? p with
   | none=>rfl
   | some i=>simp only [Option.map_some];congr 3;omega
def secT (c:Sc):aj5:=⟨c.m,c.x.ID,c.x.Name,c.x.Addr,c.x.Len,0,0⟩
def entT (e:En):ajb:=⟨e.x.Name,(e.s:Int),e.x.Addr⟩
theorem dwl {n:Nat} (hn:N0≤n) (L:List aj1) (S:List Sc) (ents:List ajb) (a b:List Int) (c:List (List UInt8)) (d:List Int) (e:List (List Int)) (f:List UInt8) (g:Bool) (name:List UInt8) (hl:S.length≤1000000) :
  aq3 n L (S.map secT) ents a b c d e f g name=some (ixI (aq4 S name)):=by
 unfold aq3
 have h:=bw9 (body:=fun (x:Int)=>ajl n L (S.map secT) ents a b c d e f g name x) S (fun k=>decide (k.x.Name=name∧name≠[])) (fun k=>(k:Int))
  (fun k hk=>by
   unfold ajl
   have e1:decide ((k:Int) < (((S.map secT).length:Nat):Int))=true:=by simp;omega
   have e2:gt (S.map secT) (Int.toNat (k:Int))=secT S[k]:=by rw [Int.toNat_natCast,ckl (by simpa using hk)];simp
   rw [e1,cond_true,gd_t _ _ (by simp;omega),e2,wid (by omega)]
   by_cases h2:name=[]
   ·by_cases h1:S[k].x.Name=name <;> simp [secT,h1,h2]
   ·have h3:(name != [])=true:=by simp [h2]
    by_cases h1:S[k].x.Name=name <;> simp [secT,h1,h2,h3])
  (by
   unfold ajl
   have e1:decide ((S.length:Int) < (((S.map secT).length:Nat):Int))=false:=by simp
   rw [e1,cond_false]) S.length 0 (by omega) (by omega) n (by unfold N0 at hn;omega)
 have h:azk (fun (x:Int)=>ajl n L (S.map secT) ents a b c d e f g name x) n 0=_:=h
 rw [h,jF,Jw]
 unfold aq4
 cases hf:S.findIdx? (fun k=>decide (k.x.Name=name∧name≠[])) with
 | none=>rfl
 | some i=>simp [ixI]
theorem ekf {n:Nat} (hn:N0≤n) (L:List aj1) (S:List Sc) (ents:List ajb) (a b:List Int) (c:List (List UInt8)) (d:List Int) (e:List (List Int)) (f:List UInt8) (g:Bool) (m id:Int) (hl:S.length≤1000000) :
  aql n L (S.map secT) ents a b c d e f g m id=some (ixI (atIx S (m,id))):=by
 unfold aql
 have h:=bw9 (body:=fun (x:Int)=>ajp n L (S.map secT) ents a b c d e f g m id x) S (fun k=>decide ((k.m,k.x.ID)=(m,id))) (fun k=>(k:Int))
  (fun k hk=>by
   unfold ajp
   have e1:decide ((k:Int) < (((S.map secT).length:Nat):Int))=true:=by simp;omega
   have e2:gt (S.map secT) (Int.toNat (k:Int))=secT S[k]:=by rw [Int.toNat_natCast,ckl (by simpa using hk)];simp
   rw [e1,cond_true,gd_t _ _ (by simp;omega),e2,wid (by omega)]
   by_cases h1:S[k].m=m
   ·have e3:((secT S[k]).Module == m)=true:=by simp [secT,h1]
    rw [e3,cond_true,gd_t _ _ (by simp;omega)]
    by_cases h2:S[k].x.ID=id
    ·simp [secT,h1,h2]
    ·have h4:(S[k].x.ID == id)=false:=by simp [h2]
     simp [secT,h1,h2,h4]
   ·have e3:((secT S[k]).Module == m)=false:=by simp [secT,h1]
    rw [e3,cond_false]
    simp [h1])
  (by
   unfold ajp
   have e1:decide ((S.length:Int) < (((S.map secT).length:Nat):Int))=false:=by simp
   rw [e1,cond_false]) S.length 0 (by omega) (by omega) n (by unfold N0 at hn;omega)
 have h:azk (fun (x:Int)=>ajp n L (S.map secT) ents a b c d e f g m id x) n 0=_:=h
 rw [h,jF,Jw]
 unfold atIx
 cases hf:S.findIdx? (fun k=>decide ((k.m,k.x.ID)=(m,id))) with
 | none=>rfl
 | some i=>simp [ixI]
def defM (S:List Sc) (E:List En) (name:List UInt8):Int×Int :=
 match aq4 S name with
 | some k=>((k:Int),0)
 | none=>match ayd E name with
  | some j=>(((E.getD j default).s:Int),RowKit.wrap64 ((E.getD j default).x.Addr - (S.getD (E.getD j default).s default).x.Addr))
  | none=>(-1,0)
theorem dzs {n:Nat} (hn:N0≤n) (L:List aj1) (S:List Sc) (E:List En) (a b:List Int) (c:List (List UInt8)) (d:List Int) (e:List (List Int)) (f:List UInt8) (g:Bool) (name:List UInt8) (hl:S.length≤1000000) (hE:E.length≤1000000) (hs:∀ x∈E,x.s < S.length) :
  aq5 n L (S.map secT) (E.map entT) a b c d e f g name=some (defM S E name):=by
 unfold aq5
 rw [dwl hn L S _ a b c d e f g name hl,jF]
 unfold defM
 cases hN:aq4 S name with
 | some k =>
  have:decide (ixI (some k) ≥ 0)=true:=by simp [ixI]
  rw [this,cond_true];rfl
 | none =>
  have:decide (ixI none ≥ 0)=false:=by simp [ixI]
  rw [this,cond_false]
  have h:=bw9 (body:=fun (x:Int)=>ajj n L (S.map secT) (E.map entT) a b c d e f g name x) E (fun x=>decide (x.x.Name=name)) (fun j=>(((E.getD j default).s:Int),RowKit.wrap64 ((E.getD j default).x.Addr - (S.getD (E.getD j default).s default).x.Addr)))
   (fun k hk=>by
    unfold ajj
    have e1:decide ((k:Int) < (((E.map entT).length:Nat):Int))=true:=by simp;omega
    have e2:gt (E.map entT) (Int.toNat (k:Int))=entT E[k]:=by rw [Int.toNat_natCast,ckl (by simpa using hk)];simp
    have hk2:=hs E[k] (jC hk)
    have e3:gt (S.map secT) (Int.toNat (E[k].s:Int))=secT S[E[k].s]:=by rw [Int.toNat_natCast,ckl (by simpa using hk2)];simp
    rw [e1,cond_true,gd_t _ _ (by simp;omega),e2,wid (n:=(k:Int)+1) (by omega)]
    by_cases h1:E[k].x.Name=name
    ·have e4:((entT E[k]).Name == name)=true:=by simp [entT,h1]
     have e5:(entT E[k]).Section=(E[k].s:Int):=rfl
     rw [e4,cond_true,gd_t _ _ (by simp;omega),e5,gd_t _ _ (by simp;omega),e3]
     simp only [h1,decide_true,if_true]
     simp only [List.getD_eq_getElem?_getD,Jj hk,Option.getD_some,Jj hk2]
     rw [ek7];rfl
    ·have e4:((entT E[k]).Name == name)=false:=by simp [entT,h1]
     rw [e4,cond_false]
     simp [h1])
   (by
    unfold ajj
    have e1:decide ((E.length:Int) < (((E.map entT).length:Nat):Int))=false:=by simp
    rw [e1,cond_false]) E.length 0 (by omega) (by omega) n (by unfold N0 at hn;omega)
  have h:azk (fun (x:Int)=>ajj n L (S.map secT) (E.map entT) a b c d e f g name x) n 0=_:=h
  rw [h,jF,Jw]
  unfold ayd
  cases hf:E.findIdx? (fun x=>decide (x.x.Name=name)) with
  | none=>rfl
  | some i=>simp
theorem ewg {S:List Sc} {E:List En} {name:List UInt8}:decide ((defM S E name).1 < 0)=decide (bqn S E name=none):=by
 unfold defM bqn
 cases aq4 S name with
 | some k=>simp
 | none =>
  cases ayd E name with
  | some j=>simp
  | none=>simp
end Go.Proofs.YtfhnelkbiihpiaaGreatDoor
/-
 ch. 32: the specification's collect and Unresolved; LinkLacks.
-/
namespace Go.Proofs.YtfhnelkbiihpiaaGreatDoor
open Go.AE
theorem gtN {α:Type} [Inhabited α] {l:List α} {k:Nat} (h:k < l.length):gt l (Int.toNat (k:Int))=l[k]:=by rw [Int.toNat_natCast,ckl h]
theorem ej7 {S:List Sc} {name:List UInt8}:decide (ixI (aq4 S name) < 0)=decide (aq4 S name=none):=by
 cases aq4 S name with
 | none=>rfl
 | some k =>
  have h1:¬ ixI (some k) < 0:=by show ¬ ((k:Int) < 0);omega
  rw [decide_eq_false h1];simp
theorem dys {n:Nat} (hn:N0≤n) (l:List aj1) (k8:List Int) (m:Nat) (hm:m < l.length) (S:List Sc) (hS:S.length+l[m].Esds.length≤1000000) :
  azk (fun (x:(List aj5)×Int)=>ajr n l k8 (m:Int) x.1 x.2) n (S.map secT,0)=some ((l[m].Esds.foldl (aqv m) S).map secT):=by
 have h:=ayz (body:=fun (x:(List aj5)×Int)=>ajr n l k8 (m:Int) x.1 x.2) l[m].Esds (fun k (T:List Sc)=>(T.map secT,(k:Int))) (fun _ T x=>aqv m T x) (fun T=>T.map secT) (fun k T=>T.length≤S.length+k) (s:=S) (by omega)
  (fun k hk T hT=>by
   refine ⟨?_,by have:=cwq m T l[m].Esds[k];omega⟩
   show ajr n l k8 (m:Int) (T.map secT) (k:Int)=_
   unfold ajr
   rw [gtN hm,gd_t _ _ (by omega)]
   have e1:decide ((k:Int) < (l[m].Esds.length:Int))=true:=by simp;omega
   rw [e1,cond_true,gd_t _ _ (by omega),gtN hk]
   obtain ⟨x,hx⟩:∃ x,x=l[m].Esds[k]:=⟨_,rfl⟩
   rw [← hx]
   clear hx
   have hk10:∀ T':List aj5,ajm n l T' k8 (m:Int) (k:Int)=some (.inl (T',((k+1:Nat):Int))):=fun T'=>by
    unfold ajm;rw [wid (by omega)];simp
   have hgd:((T.map secT).length+1)≤2147483648:=by simp;omega
   have hadd:T.map secT ++ [(⟨(m:Int),x.ID,x.Name,x.Addr,x.Len,0,0⟩:aj5)]=(T ++ [(⟨(m:Int),x,0,0,false,[]⟩:Sc)]).map secT:=by simp [secT]
   by_cases h1:x.Kind=1
   ·have e2:(x.Kind == 1)=true:=by simp [h1]
    rw [e2,cond_true]
    by_cases h2:x.Name=[]
    ·have e3:(x.Name == [])=true:=by simp [h2]
     rw [e3,cond_true,gd_t _ _ hgd,hk10,hadd]
     unfold aqv
     rw [if_pos ⟨h1,.inl h2⟩]
    ·have e3:(x.Name == [])=false:=by simp [h2]
     rw [e3,cond_false,gd_t _ _ (by decide),dwl hn l T [] [] k8 [] [] [] [] false x.Name (by omega),jF,ej7,hk10,hk10]
     by_cases h3:aq4 T x.Name=none
     ·rw [decide_eq_true h3,cond_true,gd_t _ _ hgd,hadd]
      unfold aqv
      rw [if_pos ⟨h1,.inr h3⟩]
     ·rw [decide_eq_false h3,cond_false]
      unfold aqv
      rw [if_neg (by simp [h2,h3])]
   ·have e2:(x.Kind == 1)=false:=by simp [h1]
    rw [e2,cond_false,hk10]
    unfold aqv
    rw [if_neg (by simp [h1])])
  (fun T hT=>by
   show ajr n l k8 (m:Int) (T.map secT) (l[m].Esds.length:Int)=_
   unfold ajr
   rw [gtN hm,gd_t _ _ (by omega)]
   have e1:decide ((l[m].Esds.length:Int) < (l[m].Esds.length:Int))=false:=by simp
   rw [e1,cond_false]) (n:=n) (by unfold N0 at hn;omega)
 rw [ak9] at h
 exact h
def tot (l:List aj1):Nat:=(l.map fun o=>o.Esds.length).sum
theorem bzz (o:aj1) (l:List aj1):tot (o :: l)=o.Esds.length+tot l:=by simp [tot]
theorem byb (a b:List aj1):tot (a ++ b)=tot a+tot b:=by simp [tot]
theorem dqa (o:aj1):tot [o]=o.Esds.length:=by simp [tot]
theorem czd (m:Int) (st:List Sc×List En×Bool) (x:TEsd):(aq6 m st x).2.1.length≤st.2.1.length+1:=by
 unfold aq6
 split
 ·split
  ·simp
  ·omega
 ·omega
theorem ck2 {l:List aj1}:∀ {k:Nat} (h:k < l.length),tot (l.take k)+l[k].Esds.length≤tot l:=by
 induction l with
 | nil=>intro k h;simp at h
 | cons o l ih =>
  intro k h
  cases k with
  | zero=>simp [tot]
  | succ k =>
   have:=ih (k:=k) (by simpa using h)
   simp only [List.take_succ_cons,bzz,List.getElem_cons_succ];omega
theorem bqy:∀ (l:List aj1) (m:Nat) (S:List Sc),(az8 m S l).length≤S.length+tot l
 | [],m,S=>by simp [az8,tot]
 | o :: l,m,S=>by
  have h1:=bqy l (m+1) (o.Esds.foldl (aqv m) S)
  have h2:=ayv m o.Esds S
  rw [bzz];simp only [az8];omega
theorem cq6:∀ (l:List aj1) (m:Nat) (S:List Sc),czm (fun k T (o:aj1)=>o.Esds.foldl (aqv k) T) m l S=az8 m S l
 | [],_,_=>rfl
 | o :: l,m,S=>cq6 l (m+1) _
theorem dyp {n:Nat} (hn:N0≤n) (l:List aj1) (k8:List Int) (hl:l.length≤1000000) (ht:tot l≤1000000) :
  azk (fun (x:(List aj5)×Int)=>ajx n l k8 x.1 x.2) n ([],0)=some ((azj l).map secT):=by
 have h:=ayz (body:=fun (x:(List aj5)×Int)=>ajx n l k8 x.1 x.2) l (fun k (T:List Sc)=>(T.map secT,(k:Int))) (fun k T o=>o.Esds.foldl (aqv k) T) (fun T=>T.map secT) (fun k T=>T.length≤tot (l.take k)) (s:=[]) (by simp)
  (fun k hk T hT=>by
   have h0:=ck2 hk
   have h1:=ayv (k:Int) l[k].Esds T
   refine ⟨?_,?_⟩
   ·show ajx n l k8 (T.map secT) (k:Int)=_
    unfold ajx
    have e1:decide ((k:Int) < (l.length:Int))=true:=by simp;omega
    rw [e1,cond_true,dys hn l k8 k hk T (by omega),jF]
    unfold aww
    rw [wid (by omega)];simp
   ·rw [jH hk]
    rw [byb,dqa]
    omega)
  (fun T hT=>by
   show ajx n l k8 (T.map secT) (l.length:Int)=_
   unfold ajx
   have e1:decide ((l.length:Int) < (l.length:Int))=false:=by simp
   rw [e1,cond_false]) (n:=n) (by unfold N0 at hn;omega)
 rw [cq6] at h
 exact h
abbrev St:=List Sc×List En×Bool
theorem ezn {S T:List Sc} (h:T.map secT=S.map secT) (p:Int×Int):atIx T p=atIx S p:=by
 have e:∀ U:List Sc,atIx U p=(U.map secT).findIdx? fun q=>decide ((q.Module,q.ID)=p):=fun U=>by rw [List.findIdx?_map];rfl
 rw [e,e,h]
theorem dw2 (S:List Sc) (k j:Nat):(ay9 S k j).map secT=S.map secT:=by6 secT (fun c es=>rfl) S k j
theorem cq0 (m:Int) (st:St) (x:TEsd):(aq6 m st x).1.map secT=st.1.map secT:=by
 unfold aq6
 split
 ·split
  ·exact dw2 _ _ _
  ·rfl
 ·rfl
theorem ezy {S:List Sc} {p:Int×Int}:decide (ixI (atIx S p) ≥ 0)=(atIx S p).isSome:=by
 cases atIx S p with
 | none=>rfl
 | some k =>
  have h1:ixI (some k) ≥ 0:=by show (k:Int) ≥ 0;omega
  rw [decide_eq_true h1];rfl
theorem dye {n:Nat} (hn:N0≤n) (l:List aj1) (S:List Sc) (k1:List Int) (m:Nat) (hm:m < l.length) (st:St) (hst:st.1.map secT=S.map secT) (hS:S.length≤1000000) (hE:st.2.1.length+l[m].Esds.length≤1000000) :
  azk (fun (x:(List ajb)×Int)=>ajy n l (S.map secT) k1 (m:Int) x.1 x.2) n (st.2.1.map entT,0)=some ((l[m].Esds.foldl (aq6 m) st).2.1.map entT):=by
 have h:=ayz (body:=fun (x:(List ajb)×Int)=>ajy n l (S.map secT) k1 (m:Int) x.1 x.2) l[m].Esds (fun k (t:St)=>(t.2.1.map entT,(k:Int))) (fun _ t x=>aq6 m t x) (fun t=>t.2.1.map entT) (fun k t=>t.1.map secT=S.map secT∧t.2.1.length≤st.2.1.length+k) (s:=st) ⟨hst,by omega⟩
  (fun k hk t ht=>by
   obtain ⟨ht,hl⟩:=ht
   have hle:=czd m t l[m].Esds[k]
   refine ⟨?_,(cq0 _ _ _).trans ht,by omega⟩
   show ajy n l (S.map secT) k1 (m:Int) (t.2.1.map entT) (k:Int)=_
   unfold ajy
   rw [gtN hm,gd_t _ _ (by omega)]
   have e1:decide ((k:Int) < (l[m].Esds.length:Int))=true:=by simp;omega
   rw [e1,cond_true,gd_t _ _ (by omega),gtN hk]
   obtain ⟨x,hx⟩:∃ x,x=l[m].Esds[k]:=⟨_,rfl⟩
   rw [← hx]
   clear hx hle
   have hk6:∀ T':List ajb,aqf n l (S.map secT) T' k1 (m:Int) (k:Int)=some (.inl (T',((k+1:Nat):Int))):=fun T'=>by
    unfold aqf;rw [wid (by omega)];simp
   have hgd:((t.2.1.map entT).length+1)≤2147483648:=by simp;omega
   rw [ekf hn l S (t.2.1.map entT) [] k1 [] [] [] [] false (m:Int) x.ID hS,jF,ezy,← ezn ht,hk6,hk6]
   unfold aq6
   cases hA:atIx t.1 ((m:Int),x.ID) with
   | none=>simp
   | some i =>
    by_cases h2:x.Kind=2
    ·have e2:(x.Kind == 2)=true:=by simp [h2]
     rw [e2]
     simp only [if_true,Option.isSome_some,cond_true,h2]
     rw [gd_t _ _ hgd]
     simp [entT,ixI]
    ·have e2:(x.Kind == 2)=false:=by simp [h2]
     rw [e2]
     simp [h2])
  (fun t ht=>by
   show ajy n l (S.map secT) k1 (m:Int) (t.2.1.map entT) (l[m].Esds.length:Int)=_
   unfold ajy
   rw [gtN hm,gd_t _ _ (by omega)]
   have e1:decide ((l[m].Esds.length:Int) < (l[m].Esds.length:Int))=false:=by simp
   rw [e1,cond_false]) (n:=n) (by unfold N0 at hn;omega)
 rw [ak9] at h
 exact h
theorem bwe (m:Int):∀ (xs:List TEsd) (st:St),(xs.foldl (aq6 m) st).1.map secT=st.1.map secT
 | [],_=>rfl
 | x :: xs,st=>(bwe m xs _).trans (cq0 m st x)
theorem bzj (m:Int):∀ (xs:List TEsd) (st:St),(xs.foldl (aq6 m) st).2.1.length≤st.2.1.length+xs.length
 | [],st=>by simp
 | x :: xs,st=>by
  have h1:=bzj m xs (aq6 m st x)
  have h2:=czd m st x
  simp only [jR,jA];omega
theorem cw7:∀ (l:List aj1) (m:Nat) (st:St),czm (fun k t (o:aj1)=>o.Esds.foldl (aq6 k) t) m l st=aqe m st l
 | [],_,_=>rfl
 | o :: l,m,st=>cw7 l (m+1) _
theorem dkz {n:Nat} (hn:N0≤n) (l:List aj1) (S:List Sc) (k1:List Int) (hl:l.length≤1000000) (ht:tot l≤1000000) (hS:S.length≤1000000) :
  azk (fun (x:(List ajb)×Int)=>ajv n l (S.map secT) k1 x.1 x.2) n ([],0)=some ((aqe 0 (S,[],false) l).2.1.map entT):=by
 have h:=ayz (body:=fun (x:(List ajb)×Int)=>ajv n l (S.map secT) k1 x.1 x.2) l (fun k (t:St)=>(t.2.1.map entT,(k:Int))) (fun k t o=>o.Esds.foldl (aq6 k) t) (fun t=>t.2.1.map entT) (fun k t=>t.1.map secT=S.map secT∧t.2.1.length≤tot (l.take k)) (s:=(S,[],false)) ⟨rfl,by simp⟩
  (fun k hk t htt=>by
   obtain ⟨ht1,ht2⟩:=htt
   have h0:=ck2 hk
   have h1:=bzj (k:Int) l[k].Esds t
   refine ⟨?_,(bwe _ _ _).trans ht1,?_⟩
   ·show ajv n l (S.map secT) k1 (t.2.1.map entT) (k:Int)=_
    unfold ajv
    have e1:decide ((k:Int) < (l.length:Int))=true:=by simp;omega
    rw [e1,cond_true,dye hn l S k1 k hk t ht1 hS (by omega),jF]
    unfold aws
    rw [wid (by omega)];simp
   ·rw [jH hk]
    rw [byb,dqa]
    omega)
  (fun t ht=>by
   show ajv n l (S.map secT) k1 (t.2.1.map entT) (l.length:Int)=_
   unfold ajv
   have e1:decide ((l.length:Int) < (l.length:Int))=false:=by simp
   rw [e1,cond_false]) (n:=n) (by unfold N0 at hn;omega)
 rw [cw7] at h
 exact h
theorem bq3:∀ (l:List aj1) (m:Nat) (st:St),(aqe m st l).1.map secT=st.1.map secT
 | [],_,_=>rfl
 | o :: l,m,st=>(bq3 l (m+1) _).trans (bwe _ _ _)
theorem dk1 {n:Nat} (hn:N0≤n) (l:List aj1) (hl:l.length≤1000000) (ht:tot l≤1000000) :
  awy n l=some (l,(ajq l).1.map secT,(ajq l).2.1.map entT,[],[-1],[],[],[],[],false):=by
 have h1:(azj l).length≤1000000:=by have:=bqy l 0 [];unfold azj;simp only [jO] at this;omega
 unfold awy
 rw [dyp hn l _ hl ht,jF]
 unfold awv
 rw [dkz hn l (azj l) _ hl ht h1,jF]
 unfold awx ajq
 rw [bq3]
end Go.Proofs.YtfhnelkbiihpiaaGreatDoor
/-
 ch. 32: the specification's Unresolved; LinkLacks.
-/
namespace Go.Proofs.YtfhnelkbiihpiaaGreatDoor
open Go.AE
theorem insert_eq {n:Nat} (hn:N0≤n) (l:List Nm) (name:Nm) (hl:l.length≤1000000):ay8 n l name=some (insF l name):=by
 unfold ay8
 have h:=ayz (body:=fun (x:(List (List UInt8))×Bool×Int)=>aqk n l name x.1 x.2.1 x.2.2) l (fun k (s:List Nm×Bool)=>(s.1,s.2,(k:Int))) (fun _ s y=>awr name s y) (fun s=>s) (fun k s=>s.1.length≤2 * k) (s:=([],false)) (by simp)
  (fun k hk s hs=>by
   have hlen:(awr name s l[k]).1.length≤s.1.length+2:=by unfold awr;split <;> split <;> simp
   refine ⟨?_,by omega⟩
   show aqk n l name s.1 s.2 (k:Int)=_
   unfold aqk
   have e1:decide ((k:Int) < (l.length:Int))=true:=by simp;omega
   rw [e1,cond_true,gd_t _ _ (fun _=>by omega),gtN hk]
   obtain ⟨y,hy⟩:∃ y,y=l[k]:=⟨_,rfl⟩
   rw [← hy] at hlen ⊢
   have hk4:∀ (o:List Nm) (d:Bool),awh n l name o d (k:Int)=some (.inl (o,d,((k+1:Nat):Int))):=fun o d=>by
    unfold awh;rw [wid (by omega)];simp
   have hk5:∀ (o:List Nm) (d:Bool),o.length≤2 * k+1→awk n l name o d (k:Int)=some (.inl (if y≠name then o ++ [y] else o,d,((k+1:Nat):Int))):=fun o d ho=>by
    unfold awk
    rw [gd_t _ _ (by omega),gtN hk,← hy,hk4,hk4]
    by_cases h:y=name
    ·have e2:(y != name)=false:=by simp [h]
     rw [e2,cond_false];simp [h]
    ·have e2:(y != name)=true:=by simp [h]
     rw [e2,cond_true,gd_t _ _ (by omega)];simp [h]
   obtain ⟨o,d⟩:=s
   dsimp only at hs ⊢
   rw [bytesLess_eq]
   unfold awr
   cases d with
   | true =>
    simp only [Bool.not_true,Bool.false_eq_true,if_false,cond_false,false_and,Bool.true_eq_false]
    rw [hk5 _ _ (by omega)]
    by_cases h:y=name <;> simp [h]
   | false =>
    by_cases hlt:y < name
    ·simp only [Bool.not_false,if_true,decide_eq_true hlt,Bool.not_true,cond_false]
     rw [hk5 _ _ (by omega)]
     have h:¬ y=name:=fun h=>absurd (h ▸ hlt:name < name) (j5 _)
     simp [h,hlt]
    ·simp only [Bool.not_false,if_true,decide_eq_false hlt,cond_true]
     rw [gd_t _ _ (by omega),hk5 _ _ (by simp;omega)]
     by_cases h:y=name <;> simp [h,hlt,j5])
  (fun s hs=>by
   show aqk n l name s.1 s.2 (l.length:Int)=_
   unfold aqk
   have e1:decide ((l.length:Int) < (l.length:Int))=false:=by simp
   rw [e1,cond_false]) (n:=n) (by unfold N0 at hn;omega)
 have hlen:(l.foldl (awr name) ([],false)).1.length≤2 * l.length:=by
  have:∀ (l:List Nm) (s:List Nm×Bool),(l.foldl (awr name) s).1.length≤s.1.length+2 * l.length:=by
   intro l
   induction l with
   | nil=>intro s;simp
   | cons y l ih =>
    intro s
    have h1:=ih (awr name s y)
    have h2:(awr name s y).1.length≤s.1.length+2:=by unfold awr;split <;> split <;> simp
    simp only [jR,jA];omega
  have:=this l ([],false)
  simpa using this
 have h:azk (fun (x:(List (List UInt8))×Bool×Int)=>aqk n l name x.1 x.2.1 x.2.2) n ([],false,0)=_:=h
 rw [h,jF,ak9]
 unfold akr insF
 obtain ⟨st,hst⟩:∃ st,st=l.foldl (awr name) ([],false):=⟨_,rfl⟩
 rw [← hst] at hlen ⊢
 obtain ⟨o,d⟩:=st
 dsimp only at hlen ⊢
 cases d with
 | true=>rfl
 | false =>
  simp only [Bool.not_false,cond_true,if_true]
  rw [gd_t _ _ (by omega)]
  rfl
def ckk (S:List Sc) (E:List En) (o:List Nm) (x:TEsd):List Nm:=if x.Kind=3∧bqn S E x.Name=none then insF o x.Name else o
theorem eyq (l:List Nm) (name:Nm):(insF l name).length≤l.length+1→(insF l name).length≤l.length+1:=id
theorem ck7 (S:List Sc) (E:List En):∀ (xs:List TEsd) (o:List Nm),xs.foldl (ckk S E) (o.foldl insF [])=(xs.foldl (aw4 S E) o).foldl insF []
 | [],_=>rfl
 | x :: xs,o=>by
  have e:ckk S E (o.foldl insF []) x=(aw4 S E o x).foldl insF []:=by
   unfold ckk aw4
   split
   ·rw [List.foldl_append];rfl
   ·rfl
  rw [jR,jR,e]
  exact ck7 S E xs _
theorem cyt (S:List Sc) (E:List En):∀ (l:List aj1) (o:List Nm),l.foldl (fun o (y:aj1)=>y.Esds.foldl (ckk S E) o) (o.foldl insF [])=(l.foldl (fun o (y:aj1)=>y.Esds.foldl (aw4 S E) o) o).foldl insF []
 | [],_=>rfl
 | y :: l,o=>by
  rw [jR,jR,ck7]
  exact cyt S E l _
theorem dkr (name:Nm):∀ l:List Nm,(l.filter (fun y=>decide (y < name))).length+(l.filter (fun y=>decide (name < y))).length≤l.length
 | []=>by simp
 | y :: l=>by
  have h:=dkr name l
  by_cases h1:y < name
  ·have h2:¬ name < y:=fun k=>j5 y (List.lt_trans h1 k)
   simp [h1,h2];omega
  ·by_cases h2:name < y <;> simp [h1,h2] <;> omega
theorem cq2:∀ (zs o:List Nm),o.Pairwise (· < ·)→(zs.foldl insF o).length≤o.length+zs.length
 | [],o,_=>by simp
 | z :: zs,o,h=>by
  have h1:=cq2 zs (insF o z) (cq1 h z).1
  have h2:(insF o z).length≤o.length+1:=by
   rw [ejb h]
   have:=dkr z o
   simp;omega
  simp only [jR,jA];omega
theorem dkd (zs:List Nm):(zs.foldl insF []).length≤zs.length:=by
 have:=cq2 zs [] (by simp)
 simpa using this
def EnOk (st:St):Prop:=∀ e∈st.2.1,e.s < st.1.length
theorem dw1 (m:Int) (st:St) (x:TEsd) (h:EnOk st):EnOk (aq6 m st x):=by
 unfold aq6
 split
 ·rename_i k hk
  split
  ·intro e he
   show e.s < (ay9 st.1 k st.2.1.length).length
   rw [aq0]
   rcases jf.1 he with he | he
   ·exact h e he
   ·simp only [Jb] at he;subst he;exact byd hk
  ·exact h
 ·exact h
theorem byi (m:Int):∀ (xs:List TEsd) (st:St),EnOk st→EnOk (xs.foldl (aq6 m) st)
 | [],_,h=>h
 | x :: xs,st,h=>byi m xs _ (dw1 m st x h)
theorem bzx:∀ (l:List aj1) (m:Nat) (st:St),EnOk st→EnOk (aqe m st l)
 | [],_,_,h=>h
 | o :: l,m,st,h=>bzx l (m+1) _ (byi _ _ _ h)
theorem byy:∀ (l:List aj1) (m:Nat) (st:St),(aqe m st l).2.1.length≤st.2.1.length+tot l
 | [],m,st=>by simp [aqe]
 | o :: l,m,st=>by
  have h1:=byy l (m+1) (o.Esds.foldl (aq6 m) st)
  have h2:=bzj m o.Esds st
  rw [bzz];simp only [aqe];omega
theorem dqg {n:Nat} (hn:N0≤n) (l:List aj1) (S:List Sc) (E:List En) (k3 k4:List Int) (k5:List (List UInt8)) (k6:List Int) (k7:List (List Int)) (k8:List UInt8) (k9:Bool) (m:Nat) (hm:m < l.length)
  (hS:S.length≤1000000) (hE:E.length≤1000000) (hs:∀ x∈E,x.s < S.length) (o:List Nm) (ho:o.length+l[m].Esds.length≤1000000) :
  azk (fun (x:(List (List UInt8))×Int)=>ajs n l l (S.map secT) (E.map entT) k3 k4 k5 k6 k7 k8 k9 (m:Int) x.1 x.2) n (o.foldl insF [],0)=some (l[m].Esds.foldl (ckk S E) (o.foldl insF [])):=by
 have h:=ayz (body:=fun (x:(List (List UInt8))×Int)=>ajs n l l (S.map secT) (E.map entT) k3 k4 k5 k6 k7 k8 k9 (m:Int) x.1 x.2) l[m].Esds (fun k (t:List Nm)=>(t,(k:Int))) (fun _ t x=>ckk S E t x) (fun t=>t) (fun k t=>∃ p:List Nm,t=p.foldl insF []∧p.length≤o.length+k) (s:=o.foldl insF []) ⟨o,rfl,by omega⟩
  (fun k hk t ht=>by
   obtain ⟨p,rfl,hp⟩:=ht
   obtain ⟨x,hx⟩:∃ x,x=l[m].Esds[k]:=⟨_,rfl⟩
   have hpl:=dkd p
   refine ⟨?_,?_⟩
   ·show ajs n l l (S.map secT) (E.map entT) k3 k4 k5 k6 k7 k8 k9 (m:Int) (p.foldl insF []) (k:Int)=_
    unfold ajs
    rw [gtN hm,gd_t _ _ (by omega)]
    have e1:decide ((k:Int) < (l[m].Esds.length:Int))=true:=by simp;omega
    rw [e1,cond_true,gd_t _ _ (by omega),gtN hk,← hx,dzs hn l S E k3 k4 k5 k6 k7 k8 k9 x.Name hS hE hs,jF,ewg]
    have hk5:∀ T:List Nm,aqg n l l (S.map secT) (E.map entT) k3 k4 k5 k6 k7 k8 k9 T (m:Int) (k:Int)=some (.inl (T,((k+1:Nat):Int))):=fun T=>by
     unfold aqg;rw [wid (by omega)];simp
    unfold ckk
    by_cases h:x.Kind=3∧bqn S E x.Name=none
    ·have e2:(if (x.Kind == 3)=true then (decide (bqn S E x.Name=none)) else false)=true:=by simp [h.1,h.2]
     rw [e2,cond_true,insert_eq hn _ _ (by omega),jF,hk5,if_pos h]
    ·have e2:(if (x.Kind == 3)=true then (decide (bqn S E x.Name=none)) else false)=false:=by
      by_cases h3:x.Kind=3
      ·have h4:¬ bqn S E x.Name=none:=fun h4=>h ⟨h3,h4⟩
       simp [h3,h4]
      ·simp [h3]
     rw [e2,cond_false,hk5,if_neg h]
   ·rw [← hx]
    unfold ckk
    split
    ·exact ⟨p ++ [x.Name],by rw [List.foldl_append];rfl,by simp;omega⟩
    ·exact ⟨p,rfl,by omega⟩)
  (fun t ht=>by
   show ajs n l l (S.map secT) (E.map entT) k3 k4 k5 k6 k7 k8 k9 (m:Int) t (l[m].Esds.length:Int)=_
   unfold ajs
   rw [gtN hm,gd_t _ _ (by omega)]
   have e1:decide ((l[m].Esds.length:Int) < (l[m].Esds.length:Int))=false:=by simp
   rw [e1,cond_false]) (n:=n) (by unfold N0 at hn;omega)
 rw [ak9] at h
 exact h
theorem ew5 {n:Nat} (hn:N0≤n) (l:List aj1) (hl:l.length≤1000000) (ht:tot l≤1000000):awz n l=some (bq6 l):=by
 have h1:(ajq l).1.length≤1000000:=by
  have e:(ajq l).1.length=(azj l).length:=by
   have:=congrArg List.length (bq3 l 0 (azj l,[],false))
   simpa [ajq] using this
  have:=bqy l 0 []
  unfold azj at e
  simp only [jO] at this;omega
 have h2:(ajq l).2.1.length≤1000000:=by
  have:=byy l 0 (azj l,[],false)
  simp only [jO] at this
  unfold ajq;omega
 have h3:∀ x∈(ajq l).2.1,x.s < (ajq l).1.length:=bzx l 0 _ (fun e he=>by cases he)
 unfold awz
 rw [dk1 hn l hl ht,jF]
 dsimp only
 have h:=ayz (body:=fun (x:(List (List UInt8))×Int)=>ajt n l l ((ajq l).1.map secT) ((ajq l).2.1.map entT) [] [-1] [] [] [] [] false x.1 x.2) l (fun k (t:List Nm)=>(t,(k:Int))) (fun _ t (y:aj1)=>y.Esds.foldl (ckk (ajq l).1 (ajq l).2.1) t) (fun t=>t) (fun k t=>∃ p:List Nm,t=p.foldl insF []∧p.length≤tot (l.take k)) (s:=[]) ⟨[],rfl,by simp⟩
  (fun k hk t hpt=>by
   obtain ⟨p,rfl,hp⟩:=hpt
   have h0:=ck2 hk
   refine ⟨?_,(l[k].Esds.foldl (aw4 (ajq l).1 (ajq l).2.1) p),ck7 _ _ _ _,?_⟩
   ·show ajt n l l ((ajq l).1.map secT) ((ajq l).2.1.map entT) [] [-1] [] [] [] [] false (p.foldl insF []) (k:Int)=_
    unfold ajt
    have e1:decide ((k:Int) < (l.length:Int))=true:=by simp;omega
    rw [e1,cond_true,dqg hn l _ _ [] [-1] [] [] [] [] false k hk h1 h2 h3 p (by omega),jF]
    unfold awu
    rw [wid (by omega)];simp
   ·have:=bq0 (ajq l).1 (ajq l).2.1 l[k].Esds p
    rw [jH hk,byb,dqa];omega)
  (fun t ht=>by
   show ajt n l l ((ajq l).1.map secT) ((ajq l).2.1.map entT) [] [-1] [] [] [] [] false t (l.length:Int)=_
   unfold ajt
   have e1:decide ((l.length:Int) < (l.length:Int))=false:=by simp
   rw [e1,cond_false]) (n:=n) (by unfold N0 at hn;omega)
 have h:azk (fun (x:(List (List UInt8))×Int)=>ajt n l l ((ajq l).1.map secT) ((ajq l).2.1.map entT) [] [-1] [] [] [] [] false x.1 x.2) n ([],0)=_:=h
 rw [h,jF,ak9]
 unfold awt bq6 srtL ay5
 rw [← dqj]
 exact congrArg some (cyt (ajq l).1 (ajq l).2.1 l [])
end Go.Proofs.YtfhnelkbiihpiaaGreatDoor
/-
 ch. 32: LinkLacks, the law.
-/
namespace Go.Proofs.YtfhnelkbiihpiaaGreatDoor
open Go.AE
theorem dyv {n:Nat} (hn:N0≤n) (a:List Nm) (ha:a.length≤1000000):azi n a a=some true:=by
 unfold azi
 have e0:((a.length:Int) != (a.length:Int))=false:=by simp
 rw [e0,cond_false]
 have h:=bw9 (body:=fun (x:Int)=>aqn n a a x) a (fun _=>false) (fun _=>false)
  (fun k hk=>by
   unfold aqn
   have e1:decide ((k:Int) < (a.length:Int))=true:=by simp;omega
   rw [e1,cond_true,gd_t _ _ (by omega),gtN hk,wid (by omega)]
   simp)
  (by
   unfold aqn
   have e1:decide ((a.length:Int) < (a.length:Int))=false:=by simp
   rw [e1,cond_false]) a.length 0 (by omega) (by omega) n (by unfold N0 at hn;omega)
 have h:azk (fun (x:Int)=>aqn n a a x) n 0=_:=h
 rw [h,jF,Jw]
 have e2:a.findIdx? (fun _=>false)=none:=by simp
 rw [e2]
 rfl
theorem ek9 (x:TEsd):cbs (aqx x)=x.Name.length+1+1+1+1+1:=by simp [aqx,cbs,cb]
theorem cyr:∀ xs:List TEsd,5 * xs.length≤cbss (xs.map aqx)∧∀ x∈xs,x.Name.length≤cbss (xs.map aqx)
 | []=>by simp [cbss]
 | x :: xs=>by
  obtain ⟨h1,h2⟩:=cyr xs
  simp only [jX,cbss,ek9,jA]
  refine ⟨by omega,fun y hy=>?_⟩
  rcases jv.1 hy with rfl | hy
  ·omega
  ·have:=h2 y hy;omega
theorem eki (o:aj1):cbss (o.Esds.map aqx)+o.Esds.length+4≤cbs (aj2 o):=by
 simp only [aj2,cbs,cb,jL];omega
theorem cys:∀ l:List aj1,6 * tot l+4 * l.length≤cbss (l.map aj2)∧∀ o∈l,o.Esds.length≤cbss (l.map aj2) / 6∧∀ x∈o.Esds,x.Name.length≤cbss (l.map aj2)
 | []=>by simp [cbss,tot]
 | o :: l=>by
  obtain ⟨h1,h2⟩:=cys l
  have h3:=eki o
  obtain ⟨h4,h5⟩:=cyr o.Esds
  simp only [jX,cbss,bzz,jA]
  refine ⟨by omega,fun y hy=>?_⟩
  rcases jv.1 hy with rfl | hy
  ·exact ⟨by omega,fun x hx=>by have:=h5 x hx;omega⟩
  ·obtain ⟨h6,h7⟩:=h2 y hy
   exact ⟨by omega,fun x hx=>by have:=h7 x hx;omega⟩
theorem dwb (n:Nat) (hn:N0≤n) (l:List aj1) (hb:cbss [[.slice (List.map aj2 l)]]≤2097152):akq n l=some true:=by
 obtain ⟨h1,h2⟩:=cys l
 have hb:cbss (l.map aj2)+l.length+1≤2097152:=by
  simp only [cbss,cbs,cb,jL] at hb;omega
 have hl:l.length≤1000000:=by omega
 have ht:tot l≤1000000:=by omega
 have hu:awi n l=some (bq6 l):=by
  unfold awi
  rw [gd_t]
  exact ⟨hl,fun o ho=>⟨by have:=(h2 o ho).1;omega,fun x hx=>by have:=(h2 o ho).2 x hx;omega⟩⟩
 have hlen:(bq6 l).length≤1000000:=by
  refine Nat.le_trans (cw3 l) ?_
  have h3:∀ (S:List Sc) (E:List En) (l:List aj1) (o:List Nm),(l.foldl (fun outs (y:aj1)=>y.Esds.foldl (aw4 S E) outs) o).length≤o.length+tot l:=by
   intro S E l
   induction l with
   | nil=>intro o;simp
   | cons y l ih =>
    intro o
    have h4:=ih (y.Esds.foldl (aw4 S E) o)
    have h5:=bq0 S E y.Esds o
    rw [bzz]
    simp only [jR];omega
  have h6:=h3 (ajq l).1 (ajq l).2.1 l []
  unfold ay5
  simp only [jO] at h6;omega
 unfold akq
 rw [hu,jF,ew5 hn l hl ht,jF,dyv hn _ hlen,jF,gd_t (true=true→(ez4 n).isSome=true) _ (fun _=>rfl)]
 rfl
end Go.Proofs.YtfhnelkbiihpiaaGreatDoor
