/- Text. -/
import Derived.Test.YtkebegfopnlkhaaAE21
import Derived.Test.YtkebegfopnlkhaaF1
import Derived.Test.YtkebegfopnlkhaaF
set_option linter.unusedSimpArgs false
set_option linter.unusedVariables false
set_option maxRecDepth 100000
set_option linter.unusedSimpArgs false
set_option linter.unusedVariables false
namespace Go.Proofs.Ytkebegfopnlkhaa
open Go.AE
def N0:Nat:=4194304
theorem wid {n:Int} (h:-4611686018427387904≤n∧n≤4611686018427387904):IntKind.wrap .i64 n=n:=w64_id (by omega) (by omega)
theorem bif_ite {α:Type} (b:Bool) (x y:α):(bif b then x else y)=if b=true then x else y:=by cases b <;> rfl
theorem ite_tt (p q:Bool):(if p=true then true else q)=(p || q):=by cases p <;> simp
def val (x:TExtent):Bool:=decide (0≤x.At∧1≤x.Len∧x.At < 512∧x.Len≤512 - x.At)
theorem val_iff (x:TExtent):val x=true↔0≤x.At∧1≤x.Len∧x.At < 512∧x.Len≤512 - x.At:=by simp [val]
theorem val_text (x:TExtent):(if (if (if (decide (x.At ≥ 0))=true then (decide (x.Len ≥ 1)) else false)=true then (decide (x.At < 512)) else false)=true then (decide (x.Len≤(IntKind.wrap .i64 (512 - x.At)))) else false)=val x:=by
  by_cases hA:0≤x.At∧x.At < 512
  · rw [wid (by omega)]
    by_cases h2:1≤x.Len <;> by_cases h4:x.Len≤512 - x.At <;> simp [val,hA.1,hA.2,h2,h4]
  · by_cases h1:0≤x.At <;> by_cases h3:x.At < 512
    · exact absurd ⟨h1,h3⟩ hA
    all_goals simp [val,h1,h3]
theorem valid_eq (n:Nat) (x:TExtent):extent_valid n x=some (val x):=by simp only [extent_valid,val_text]
def chk (m:Int):Int→List TExtent→Bool
  | _,[]=>true
  | e,x :: l=>val x && decide (e < x.At) && decide (x.At+x.Len≤m) && chk m (x.At+x.Len) l
theorem Check_eq (n:Nat) (l:List TExtent) (m:Int) (hn:l.length < n) (hl:l.length≤2147483648):extent_Check n l m=some (chk m (-1) l):=by
  have h:=loop_list (σ:=Int) (body:=fun (x:Int×Int)=>extent_Check_b2 n m l (l.length:Int) x.1 x.2) l (fun k e=>(e,(k:Int)))
    (fun e x=>if val x && decide (e < x.At) && decide (x.At+x.Len≤m) then .inl (x.At+x.Len) else .inr (.inl false)) (fun _=>.inr ()) (fun _ _=>True) (s:=-1) trivial
    (fun k hk e _=>by
      have h1:decide ((k:Int) < (l.length:Int))=true:=by simp;omega
      have h2:(0:Int)≤(k:Int)∧(k:Int) < (l.length:Int):=by omega
      simp only [extent_Check_b2,h1,bif_ite,if_true,gd_pos _ h2,valid_eq,Option.bind_some,Int.toNat_natCast,gt_lt hk,ite_tt]
      by_cases hv:val l[k]=true
      · have hv':=(val_iff _).1 hv
        simp only [hv,Bool.not_true,Bool.false_or,Bool.true_and]
        rw [wid (by omega),wid (by omega)]
        have e1:(decide (l[k].At≤e) || decide (l[k].At+l[k].Len > m)) = !(decide (e < l[k].At) && decide (l[k].At+l[k].Len≤m)):=by
          rw [Bool.eq_iff_iff,Bool.or_eq_true,Bool.not_eq_true',Bool.and_eq_false_iff]
          simp only [decide_eq_true_eq,decide_eq_false_iff_not]
          omega
        rw [e1]
        cases (decide (e < l[k].At) && decide (l[k].At+l[k].Len≤m)) <;> simp
      · simp [hv])
    (fun _ _ _ _ _ _=>trivial) (fun e _=>by simp [extent_Check_b2,bif_ite]) hn
  have e:∀ (l:List TExtent) (e:Int),runL (fun e x=>if val x && decide (e < x.At) && decide (x.At+x.Len≤m) then .inl (x.At+x.Len) else (.inr (.inl false):Int ⊕ (Bool ⊕ Unit))) (fun _=>.inr ()) l e=if chk m e l then .inr () else .inl false:=by
    intro l
    induction l with
    | nil=>intro e;simp [runL,chk]
    | cons x l ih =>
      intro e
      simp only [runL,chk]
      by_cases h:(val x && decide (e < x.At) && decide (x.At+x.Len≤m))=true
      · simp only [h,if_true,Bool.true_and,ih]
      · rw [Bool.not_eq_true] at h
        simp [h]
  rw [e] at h
  simp only [extent_Check]
  have h':loopF (fun (x:Int×Int)=>extent_Check_b2 n m l (l.length:Int) x.1 x.2) n (-1,0)=some (if chk m (-1) l then .inr () else .inl false):=h
  rw [h']
  cases chk m (-1) l <;> rfl
def trk (x:TExtent):List Int:=(List.range x.Len.toNat).map fun (j:Nat)=>x.At+(j:Int)
def trks (l:List TExtent):List Int:=l.flatMap trk
def addAll:List Int→List Int→Option (List Int)
  | s,[]=>some s
  | s,k :: t=>if k∈s then none else addAll (s ++ [k]) t
def trkF:List Int→List TExtent→Option (List Int)
  | s,[]=>some s
  | s,x :: l=>if val x then (addAll s (trk x)).bind fun s'=>trkF s' l else none
def mark (s:List Int):List Bool:=(List.range 512).map fun (k:Nat)=>decide ((k:Int)∈s)
theorem addAll_length:∀ {t s s':List Int},addAll s t=some s'→s'=s ++ t
  | [],s,s',h=>by simp only [addAll,Option.some.injEq] at h;simp [h]
  | k :: t,s,s',h=>by
    simp only [addAll] at h
    split at h
    · cases h
    · rw [addAll_length h];simp
theorem trk_length (x:TExtent):(trk x).length=x.Len.toNat:=by simp [trk]
theorem trk_mem {x:TExtent} {k:Int}:k∈trk x↔x.At≤k∧k < x.At+x.Len:=by
  simp only [trk,List.mem_map,List.mem_range]
  constructor
  · rintro ⟨j,hj,rfl⟩;omega
  · rintro ⟨h1,h2⟩;exact ⟨(k - x.At).toNat,by omega,by omega⟩
theorem trk_get {x:TExtent} {k:Nat} (h:k < (trk x).length):(trk x)[k]=x.At+(k:Int):=by simp [trk]
theorem trkF_spec:∀ {l:List TExtent} {s s':List Int},trkF s l=some s'→s'=s ++ trks l∧l.all val=true
  | [],s,s',h=>by simp only [trkF,Option.some.injEq] at h;simp [h,trks]
  | x :: l,s,s',h=>by
    simp only [trkF] at h
    split at h
    · rename_i hv
      obtain ⟨s2,h1,h2⟩:=bind_some h
      obtain ⟨h3,h4⟩:=trkF_spec h2
      rw [addAll_length h1] at h3
      exact ⟨by rw [h3];simp [trks],by simp [hv,h4]⟩
    · cases h
theorem trks_range {l:List TExtent} (h:l.all val=true):∀ k∈trks l,0≤k∧k < 512:=by
  intro k hk
  obtain ⟨x,hx,hk⟩:=List.mem_flatMap.1 hk
  have hv:=(val_iff x).1 (List.all_eq_true.1 h x hx)
  have:=trk_mem.1 hk
  omega
theorem addAll_nodup:∀ {t s s':List Int},addAll s t=some s'→s.Nodup→s'.Nodup
  | [],s,s',h,hs=>by simp only [addAll,Option.some.injEq] at h;subst h;exact hs
  | k :: t,s,s',h,hs=>by
    simp only [addAll] at h
    split at h
    · cases h
    · rename_i hk
      refine addAll_nodup h (List.nodup_append.2 ⟨hs,by simp,?_⟩)
      rintro a ha b hb rfl
      simp only [List.mem_singleton] at hb;subst hb
      exact hk ha
theorem trkF_nodup:∀ {l:List TExtent} {s s':List Int},trkF s l=some s'→s.Nodup→s'.Nodup
  | [],s,s',h,hs=>by simp only [trkF,Option.some.injEq] at h;subst h;exact hs
  | x :: l,s,s',h,hs=>by
    simp only [trkF] at h
    split at h
    · obtain ⟨s2,h1,h2⟩:=bind_some h
      exact trkF_nodup h2 (addAll_nodup h1 hs)
    · cases h
theorem few:∀ {m:Nat} {s:List Int},s.Nodup→(∀ k∈s,0≤k∧k < (m:Int))→s.length≤m
  | 0,s,hn,hr=>by
    cases s with
    | nil=>simp
    | cons k t=>have:=hr k (by simp);omega
  | m+1,s,hn,hr=>by
    have h:=few (m:=m) (s:=s.erase (m:Int)) (hn.erase _) (fun k hk=>by
      have h1:=(List.Nodup.mem_erase_iff hn).1 hk
      have:=hr k h1.2
      have:=h1.1
      omega)
    rw [List.length_erase] at h
    split at h <;> omega
def addT (out:List TExtent) (k:Int):List TExtent :=
  if 0 < out.length∧(gt out (out.length - 1)).At+(gt out (out.length - 1)).Len=k then out.set (out.length - 1) ⟨(gt out (out.length - 1)).At,(gt out (out.length - 1)).Len+1⟩ else out ++ [⟨k,1⟩]
def nrm (p:List Bool):List TExtent:=(List.range 512).foldl (fun out (k:Nat)=>if gt p k then addT out (k:Int) else out) []
theorem gt_last {out:List TExtent} (h:0 < out.length):gt out (out.length - 1)∈out:=by
  rw [gt_lt (by omega)];exact List.getElem_mem _
def nf:Int→List TExtent→Prop
  | _,[]=>True
  | e,x :: l=>val x=true∧e < x.At∧nf (x.At+x.Len) l
def lastE:Int→List TExtent→Int
  | e,[]=>e
  | _,x :: l=>lastE (x.At+x.Len) l
theorem nf_snoc {x:TExtent}:∀ {l:List TExtent} {e:Int},nf e (l ++ [x])↔nf e l∧val x=true∧lastE e l < x.At
  | [],e=>by simp [nf,lastE]
  | y :: l,e=>by simp only [List.cons_append,nf,lastE,nf_snoc];simp only [and_assoc]
theorem lastE_snoc {x:TExtent}:∀ {l:List TExtent} {e:Int},lastE e (l ++ [x])=x.At+x.Len
  | [],e=>rfl
  | y :: l,e=>by simp only [List.cons_append,lastE,lastE_snoc]
theorem snoc_cases {α:Type} (l:List α):l=[]∨∃ i z,l=i ++ [z]:=by
  rcases List.eq_nil_or_concat l with h | ⟨i,z,h⟩
  · exact .inl h
  · exact .inr ⟨i,z,by simpa using h⟩
theorem gt_app_last {α:Type} [Inhabited α] (i:List α) (z:α):gt (i ++ [z]) ((i ++ [z]).length - 1)=z:=by
  rw [gt_lt (by simp)];simp
theorem trks_cons (x:TExtent) (l:List TExtent):trks (x :: l)=trk x ++ trks l:=by simp [trks]
theorem nf_gt:∀ {l:List TExtent} {e:Int},nf e l→∀ k∈trks l,e < k
  | [],_,_,k,hk=>by simp [trks] at hk
  | x :: l,e,h,k,hk=>by
    obtain ⟨h1,h2,h3⟩:=h
    have h1':=(val_iff _).1 h1
    rw [trks_cons,List.mem_append] at hk
    rcases hk with hk | hk
    · have:=trk_mem.1 hk;omega
    · have:=nf_gt h3 k hk;omega
theorem trk_asc (x:TExtent):(trk x).Pairwise (· < ·):=by
  unfold trk
  refine List.pairwise_map.2 (List.Pairwise.imp ?_ List.pairwise_lt_range)
  intro a b h;omega
theorem nf_asc:∀ {l:List TExtent} {e:Int},nf e l→(trks l).Pairwise (· < ·)
  | [],_,_=>by simp [trks]
  | x :: l,e,h=>by
    obtain ⟨h1,h2,h3⟩:=h
    rw [trks_cons,List.pairwise_append]
    refine ⟨trk_asc x,nf_asc h3,fun a ha b hb=>?_⟩
    have:=trk_mem.1 ha
    have:=nf_gt h3 b hb
    omega
theorem nf_val:∀ {l:List TExtent} {e:Int},nf e l→l.all val=true
  | [],_,_=>rfl
  | x :: l,e,h=>by simp [h.1,nf_val h.2.2]
theorem addAll_some:∀ {t s:List Int},(s ++ t).Nodup→addAll s t=some (s ++ t)
  | [],s,_=>by simp [addAll]
  | k :: t,s,h=>by
    have hk:k ∉ s:=fun hk=>(List.nodup_append.1 h).2.2 k hk k List.mem_cons_self rfl
    simp only [addAll,hk,if_false]
    rw [addAll_some (by simpa using h)];simp
theorem trkF_some:∀ {l:List TExtent} {s:List Int},l.all val=true→(s ++ trks l).Nodup→trkF s l=some (s ++ trks l)
  | [],s,_,_=>by simp [trkF,trks]
  | x :: l,s,hv,h=>by
    simp only [List.all_cons,Bool.and_eq_true] at hv
    rw [trks_cons,← List.append_assoc] at h
    simp only [trkF,hv.1,if_true]
    rw [addAll_some (List.nodup_append.1 h).1,Option.bind_some,trkF_some hv.2 h,trks_cons,List.append_assoc]
theorem nf_trkF {l:List TExtent} {e:Int} (h:nf e l):trkF [] l=some (trks l):=by
  have:=trkF_some (s:=[]) (nf_val h) (by
    rw [List.nil_append]
    exact List.Pairwise.imp (fun h=>by omega) (nf_asc h))
  simpa using this
theorem chk_iff (m:Int):∀ (l:List TExtent) (e:Int),chk m e l=true↔nf e l∧∀ k∈trks l,k < m
  | [],e=>by simp [chk,nf,trks]
  | x :: l,e=>by
    simp only [chk,Bool.and_eq_true,decide_eq_true_eq,chk_iff m l,nf,trks_cons,List.mem_append]
    constructor
    · rintro ⟨⟨⟨h1,h2⟩,h3⟩,h4,h5⟩
      refine ⟨⟨h1,h2,h4⟩,?_⟩
      rintro k (hk | hk)
      · have:=trk_mem.1 hk;omega
      · exact h5 k hk
    · rintro ⟨⟨h1,h2,h4⟩,h5⟩
      have h1':=(val_iff _).1 h1
      refine ⟨⟨⟨h1,h2⟩,?_⟩,h4,fun k hk=>h5 k (.inr hk)⟩
      have:=h5 (x.At+x.Len - 1) (.inl (trk_mem.2 (by omega)))
      omega
def isF (r:List TExtent) (w:Int) (k:Nat):Prop:=k < r.length∧w≤(gt r k).Len∧∀ j,j < k→(gt r j).Len < w
def isL (r:List TExtent) (k:Nat):Prop:=k < r.length∧(∀ j,j < r.length→(gt r j).Len≤(gt r k).Len)∧∀ j,j < k→(gt r j).Len < (gt r k).Len
def allS (r:List TExtent) (w:Int):Prop:=∀ j,j < r.length→(gt r j).Len < w
def cut (r:List TExtent) (k:Nat) (w:Int):List TExtent:=if (gt r k).Len=w then r.eraseIdx k else r.set k ⟨(gt r k).At+w,(gt r k).Len - w⟩
def good (r:List TExtent):Prop:=∀ x∈r,val x=true
theorem good_gt {r:List TExtent} (h:good r) {k:Nat} (hk:k < r.length):0≤(gt r k).At∧1≤(gt r k).Len∧(gt r k).At < 512∧(gt r k).Len≤512 - (gt r k).At:=by
  rw [gt_lt hk];exact (val_iff _).1 (h _ (List.getElem_mem hk))
theorem gt_take {row:List TExtent} {len k:Nat} (h:k < len) (hl:len≤row.length):gt (row.take len) k=gt row k:=by
  rw [gt_lt (by simp;omega),gt_lt (by omega)];simp
theorem Delete_eq (n:Nat) (row:List TExtent) (len k:Nat) (hk:k < len) (hl:len≤row.length):∃ row',slices_Delete_f67_M2 n row len (k:Int) ((k:Int)+1)=some (len - 1,row')∧row'.length=row.length∧row'.take (len - 1)=(row.take len).eraseIdx k:=by
  have e1:((k:Int) == (k:Int)+1)=false:=by simp;omega
  have hp:(List.take (Int.toNat ((len:Int) - ((k:Int)+1))) (List.drop (Int.toNat ((k:Int)+1)) row)).length=len - (k+1):=by
    have a1:Int.toNat ((len:Int) - ((k:Int)+1))=len - (k+1):=by omega
    have a2:Int.toNat ((k:Int)+1)=k+1:=by omega
    rw [a1,a2];simp;omega
  have a0:Int.toNat ((k:Int) - 0)=k:=by omega
  have a3:k+(len - (k+1))=len - 1:=by omega
  have a4:Int.toNat (((len:Nat):Int) - ((len - 1:Nat):Int))=1:=by omega
  have a1:Int.toNat ((len:Int) - ((k:Int)+1))=len - (k+1):=by omega
  have a2:Int.toNat ((k:Int)+1)=k+1:=by omega
  refine ⟨overL (overL row k (List.take (len - (k+1)) (List.drop (k+1) row))) (len - 1) (zreps 1 (⟨0,0⟩:TExtent)),?_,by rw [overL_len,overL_len],?_⟩
  · simp only [slices_Delete_f67_M2,hp,a0,a3,e1,bif_ite,Bool.false_eq_true,if_false,a4,a1,a2]
    rw [a1,a2] at hp
    simp only [hp,a3,a4]
    rw [gd_pos _ (by omega),gd_pos _ (by omega),gd_pos _ (by omega)]
  · have hp':(List.take (len - (k+1)) (List.drop (k+1) row)).length=len - (k+1):=by have h:=hp;rw [a1,a2] at h;exact h
    have h1:overL row k (List.take (len - (k+1)) (List.drop (k+1) row))=row.take k ++ List.take (len - (k+1)) (List.drop (k+1) row) ++ row.drop (k+(len - (k+1))):=by
      rw [overL_pos (by rw [hp'];omega),hp']
    have h2:(row.take k ++ List.take (len - (k+1)) (List.drop (k+1) row)).length=len - 1:=by rw [List.length_append,hp',List.length_take];omega
    rw [overL_pos (by rw [overL_len,zreps_len];omega),List.append_assoc,List.take_append_of_le_length (by rw [List.length_take,overL_len];omega),List.take_take,Nat.min_self,h1,List.take_append_of_le_length (by rw [h2];exact Nat.le_refl _),List.take_of_length_le (by rw [h2];exact Nat.le_refl _)]
    rw [List.eraseIdx_eq_take_drop_succ,List.take_take,List.drop_take,Nat.min_eq_left (by omega)]
theorem ext_scan (n:Nat) (w most:Int) (got row:List TExtent) (v:Int) (len:Nat) (hv:v=(len:Int)) (h0:0 < len) (hl:len≤row.length) (hn:len < n) (hw:1≤w) (hb:len≤1073741824) (hgot:got.length+1≤2147483648) (hg:good (row.take len)) :
    (∃ k,isF (row.take len) w k∧loopF (fun (x:Nat×Int×Int)=>extent_Take_b4 n w most got row v x.1 x.2.1 x.2.2) n (len,0,0)=some (.inl (got ++ [⟨(gt (row.take len) k).At,w⟩],cut (row.take len) k w,0))) ∨
    (∃ k,allS (row.take len) w∧isL (row.take len) k∧loopF (fun (x:Nat×Int×Int)=>extent_Take_b4 n w most got row v x.1 x.2.1 x.2.2) n (len,0,0)=some (.inr (len,(k:Int)))):=by
  subst hv
  have hr:(row.take len).length=len:=by simp;omega
  obtain ⟨y,h1,h2⟩:=loopF_inv (body:=fun (x:Nat×Int×Int)=>extent_Take_b4 n w most got row (len:Int) x.1 x.2.1 x.2.2)
    (fun x=>∃ lg i:Nat,x=(len,(lg:Int),(i:Int))∧i≤len∧lg < len∧(∀ j,j < i→(gt (row.take len) j).Len < w)∧(∀ j,j < i→(gt (row.take len) j).Len≤(gt (row.take len) lg).Len)∧(∀ j,j < lg→(gt (row.take len) j).Len < (gt (row.take len) lg).Len))
    (fun x=>len - x.2.2.toNat)
    (fun y=>(∃ k,isF (row.take len) w k∧y = .inl (got ++ [⟨(gt (row.take len) k).At,w⟩],cut (row.take len) k w,0))∨(∃ k,allS (row.take len) w∧isL (row.take len) k∧y = .inr (len,(k:Int)))) (by
      rintro x ⟨lg,i,rfl,hi,hlg,i1,i2,i3⟩
      by_cases hil:i < len
      · have c1:decide ((i:Int) < (len:Int))=true:=by simp;omega
        have c2:(0≤(i:Int)∧(i:Int) < (len:Int))∧i < row.length:=by omega
        have hgi:=good_gt hg (k:=i) (by rw [hr];exact hil)
        have e1:=gt_take hil hl
        have e2:=gt_take hlg hl
        simp only [extent_Take_b4,c1,bif_ite,if_true,Int.toNat_natCast,gd_pos _ c2,← e1,← e2]
        by_cases b1:(gt (row.take len) i).Len > w
        · refine .inr ⟨_,?_,.inl ⟨i,⟨by rw [hr];exact hil,by omega,i1⟩,rfl⟩⟩
          rw [decide_eq_true b1]
          simp only [if_true,gd_pos _ hgot]
          rw [wid (by omega),wid (by omega),List.take_set,cut,if_neg (by omega)]
        · rw [decide_eq_false b1]
          simp only [Bool.false_eq_true,if_false]
          by_cases b2:(gt (row.take len) i).Len=w
          · refine .inr ⟨_,?_,.inl ⟨i,⟨by rw [hr];exact hil,by omega,i1⟩,rfl⟩⟩
            have c3:((gt (row.take len) i).Len == w)=true:=by simp [b2]
            rw [c3]
            simp only [if_true,gd_pos _ hgot]
            rw [wid (by omega)]
            obtain ⟨row',d1,d2,d3⟩:=Delete_eq n row len i hil hl
            rw [d1]
            simp only [Option.bind_some,d3,cut,b2,if_true]
            have:(⟨(gt (row.take len) i).At,w⟩:TExtent)=gt (row.take len) i:=by rw [← b2]
            rw [this]
          · have c3:((gt (row.take len) i).Len == w)=false:=by simp [b2]
            have c4:(0≤(lg:Int)∧(lg:Int) < (len:Int))∧lg < row.length:=by omega
            rw [c3]
            simp only [Bool.false_eq_true,if_false,gd_pos _ c4,extent_Take_k5]
            rw [wid (by omega)]
            by_cases b3:(gt (row.take len) i).Len > (gt (row.take len) lg).Len
            · rw [decide_eq_true b3]
              refine .inl ⟨_,rfl,⟨i,i+1,rfl,hil,hil,fun j hj=>?_,fun j hj=>?_,fun j hj=>?_⟩,by dsimp only;omega⟩
              · by_cases e:j=i
                · subst e;omega
                · exact i1 j (by omega)
              · by_cases e:j=i
                · subst e;omega
                · have:=i2 j (by omega);omega
              · have:=i2 j hj;omega
            · rw [decide_eq_false b3]
              refine .inl ⟨_,rfl,⟨lg,i+1,rfl,hil,hlg,fun j hj=>?_,fun j hj=>?_,i3⟩,by dsimp only;omega⟩
              · by_cases e:j=i
                · subst e;omega
                · exact i1 j (by omega)
              · by_cases e:j=i
                · subst e;omega
                · exact i2 j (by omega)
      · have:i=len:=by omega
        subst this
        refine .inr ⟨.inr (i,(lg:Int)),by simp [extent_Take_b4,bif_ite],.inr ⟨lg,fun j hj=>i1 j (by rw [hr] at hj;exact hj),⟨by rw [hr];exact hlg,fun j hj=>i2 j (by rw [hr] at hj;exact hj),i3⟩,rfl⟩⟩)
    n (len,0,0) ⟨0,0,rfl,by omega,h0,fun j hj=>by omega,fun j hj=>by omega,fun j hj=>by omega⟩ (by simpa using hn)
  rcases h2 with ⟨k,h3,rfl⟩ | ⟨k,h3,h4,rfl⟩
  · exact .inl ⟨k,h3,h1⟩
  · exact .inr ⟨k,h3,h4,h1⟩
theorem Clone_eq (n:Nat) (l:List TExtent) (hl:l.length≤2147483648):slices_Clone_f40 n l=some l:=by
  refine uniB_eq fun b hb=>?_
  cases b with
  | true=>rw [hb rfl];rfl
  | false=>simp [gd_pos _ hl]
def cmpA (x y:TExtent):Int:=if x.At < y.At then -1 else if y.At < x.At then 1 else 0
theorem cmpA_lt (x y:TExtent):cmpA x y < 0↔x.At < y.At:=by
  unfold cmpA
  split
  · simp [*]
  · split <;> simp [*] <;> omega
theorem cmp_eq (n:Nat) (x y:TExtent):extent_sorted_1 n x y=some (cmpA x y):=by
  simp only [extent_sorted_1,cmp_Compare_f80,cmp_isNaN_f86,Option.bind_some,bne_self_eq_false,bif_ite,Bool.false_eq_true,if_false,cmpA,decide_eq_true_eq,gt_iff_lt]
  split
  · rfl
  · split <;> rfl
theorem swoA:Go.Sort.SWO (Go.Proofs.ltOf cmpA):=by
  have h:∀ x y,Go.Proofs.ltOf cmpA x y=decide (x.At < y.At):=fun x y=>by
    unfold Go.Proofs.ltOf
    exact decide_eq_decide.2 (cmpA_lt x y)
  refine ⟨fun x=>?_,fun x y z=>?_,fun x y z=>?_⟩
  · rw [h];simp
  · rw [h,h,h];simp only [decide_eq_true_eq];omega
  · rw [h,h,h];simp only [decide_eq_false_iff_not];omega
theorem sorted_eq (n:Nat) (l:List TExtent) (hl:l.length≤2147483648):∃ r,extent_sorted n l=some r∧r.Perm l∧r.Pairwise fun x y=>x.At≤y.At:=by
  obtain ⟨r,h1,h2,h3⟩:=sortG_eq (f:=fun x y=>extent_sorted_1 n x y) (c:=cmpA) (l:=l) (fun x _ y _=>cmp_eq n x y) swoA
  refine ⟨r,?_,h2,h3.imp fun {x y} h=>?_⟩
  · simp only [extent_sorted,Clone_eq n l hl,Option.bind_some,slices_SortFunc_f78_c79,h1]
    rw [List.take_of_length_le (by rw [h2.length_eq];exact Nat.le_refl _)]
  · rw [cmpA_lt] at h;omega
def apart (x y:TExtent):Prop:=x.At+x.Len≤y.At
def adj (r:List TExtent):Prop:=∀ j,0 < j→j < r.length→(gt r (j - 1)).At+(gt r (j - 1)).Len≤(gt r j).At
theorem adj_iff {r:List TExtent} (hv:r.all val=true):adj r↔r.Pairwise apart:=by
  rw [List.pairwise_iff_getElem]
  constructor
  · intro h i j hi hj hij
    have key:∀ d,i+1+d < r.length→(gt r i).At+(gt r i).Len≤(gt r (i+1+d)).At:=by
      intro d
      induction d with
      | zero=>intro hd;simpa using h (i+1) (by omega) hd
      | succ d ih =>
        intro hd
        have h1:=ih (by omega)
        have h2:=h (i+1+(d+1)) (by omega) hd
        have e:i+1+(d+1) - 1=i+1+d:=by omega
        rw [e] at h2
        have h3:val (gt r (i+1+d))=true:=by
          rw [gt_lt (by omega)];exact List.all_eq_true.1 hv _ (List.getElem_mem _)
        have h3':=(val_iff _).1 h3
        omega
    have:=key (j - i - 1) (by omega)
    have e:i+1+(j - i - 1)=j:=by omega
    rw [e,gt_lt hi,gt_lt hj] at this
    exact this
  · intro h j h0 hj
    have:=h (j - 1) j (by omega) hj (by omega)
    rw [gt_lt (by omega),gt_lt hj]
    exact this
theorem trk_nodup (x:TExtent):(trk x).Nodup:=(trk_asc x).imp fun h=>by omega
theorem nodup_trks {r:List TExtent}:(trks r).Nodup↔r.Pairwise fun a b=>∀ x∈trk a,∀ y∈trk b,x≠y:=by
  unfold trks List.Nodup
  rw [List.pairwise_flatMap]
  exact ⟨fun h=>h.2,fun h=>⟨fun a _=>trk_nodup a,h⟩⟩
theorem nodup_apart {r:List TExtent} (hv:r.all val=true) (hs:r.Pairwise fun x y=>x.At≤y.At):(trks r).Nodup↔r.Pairwise apart:=by
  rw [nodup_trks]
  constructor
  · intro h
    refine List.Pairwise.imp_of_mem ?_ (hs.and h)
    rintro a b ha hb ⟨h1,h2⟩
    have va:=(val_iff _).1 (List.all_eq_true.1 hv a ha)
    have vb:=(val_iff _).1 (List.all_eq_true.1 hv b hb)
    unfold apart
    rcases Int.lt_or_le b.At (a.At+a.Len) with h3 | h3
    · exact absurd rfl (h2 b.At (trk_mem.2 (by omega)) b.At (trk_mem.2 (by omega)))
    · exact h3
  · intro h
    refine h.imp fun {a b} hab x hx y hy=>?_
    have:=trk_mem.1 hx
    have:=trk_mem.1 hy
    unfold apart at hab
    omega
theorem trkF_isSome (l:List TExtent):(trkF [] l).isSome=true↔l.all val=true∧(trks l).Nodup:=by
  constructor
  · intro h
    obtain ⟨s,hs⟩:=Option.isSome_iff_exists.1 h
    obtain ⟨h1,h2⟩:=trkF_spec hs
    have h3:=trkF_nodup hs List.nodup_nil
    rw [h1] at h3
    exact ⟨h2,by simpa using h3⟩
  · rintro ⟨h1,h2⟩
    rw [trkF_some h1 (by simpa using h2)];rfl
theorem len_le_trks:∀ {l:List TExtent},l.all val=true→l.length≤(trks l).length
  | [],_=>by simp
  | x :: l,h=>by
    simp only [List.all_cons,Bool.and_eq_true] at h
    have:=len_le_trks h.2
    have:=(val_iff _).1 h.1
    rw [trks_cons,List.length_append,trk_length,List.length_cons]
    omega
theorem perm_trks {r l:List TExtent} (h:r.Perm l):(trks r).Perm (trks l):=h.flatMap_right trk
theorem perm_all {r l:List TExtent} (h:r.Perm l):r.all val=l.all val:=by
  rw [Bool.eq_iff_iff,List.all_eq_true,List.all_eq_true]
  exact ⟨fun H x hx=>H x (h.mem_iff.2 hx),fun H x hx=>H x (h.mem_iff.1 hx)⟩
theorem Valid_loop (n:Nat) (r:List TExtent) (hv:r.all val=true) (hn:r.length+1 < n) (hl:r.length≤1073741824):∃ y,loopF (fun (x:Int)=>extent_Valid_b3 n r x) n 1=some y∧((y = .inl false∧¬ adj r)∨(y = .inr ()∧adj r)):=by
  refine loopF_inv (body:=fun (x:Int)=>extent_Valid_b3 n r x) (fun x=>∃ k:Nat,x=(k:Int)∧1≤k∧(k≤r.length∨k=1)∧∀ j,0 < j→j < k→j < r.length→(gt r (j - 1)).At+(gt r (j - 1)).Len≤(gt r j).At) (fun x=>r.length - x.toNat)
    _ ?_ n 1 ⟨1,rfl,Nat.le_refl _,.inr rfl,fun j h0 h1=>by omega⟩ (by omega)
  rintro x ⟨k,rfl,hk1,hk,hj⟩
  by_cases hkl:k < r.length
  · have c1:decide ((k:Int) < (r.length:Int))=true:=by simp;omega
    have e1:IntKind.wrap .i64 ((k:Int) - 1)=((k - 1:Nat):Int):=by rw [wid (by omega)];omega
    have c2:(0≤(k:Int)∧(k:Int) < (r.length:Int))∧(0≤((k - 1:Nat):Int)∧((k - 1:Nat):Int) < (r.length:Int))∧(0≤((k - 1:Nat):Int)∧((k - 1:Nat):Int) < (r.length:Int)):=by omega
    have v1:val (gt r (k - 1))=true:=by
      rw [gt_lt (by omega)];exact List.all_eq_true.1 hv _ (List.getElem_mem _)
    have v1':=(val_iff _).1 v1
    simp only [extent_Valid_b3,c1,bif_ite,if_true,e1,gd_pos _ c2,Int.toNat_natCast]
    rw [wid (n:=(gt r (k - 1)).At+(gt r (k - 1)).Len) (by omega)]
    by_cases b:(gt r k).At < (gt r (k - 1)).At+(gt r (k - 1)).Len
    · refine .inr ⟨.inl false,by simp [b],.inl ⟨rfl,fun h=>?_⟩⟩
      have:=h k (by omega) hkl
      omega
    · refine .inl ⟨((k+1:Nat):Int),by rw [wid (by omega)];simp [b],⟨k+1,rfl,by omega,.inl hkl,fun j h0 h1 h2=>?_⟩,by omega⟩
      by_cases e:j=k
      · subst e;omega
      · exact hj j h0 (by omega) h2
  · have c1:decide ((k:Int) < (r.length:Int))=false:=by simp;omega
    refine .inr ⟨.inr (),by simp only [extent_Valid_b3,c1,bif_ite,Bool.false_eq_true,if_false],.inr ⟨rfl,fun j h0 h1=>hj j h0 (by omega) h1⟩⟩
theorem Valid_eq (n:Nat) (hn:N0≤n) (l:List TExtent) (hl:l.length≤1073741824):extent_Valid n l=some (trkF [] l).isSome:=by
  by_cases h512:512 < l.length
  · have c1:decide ((l.length:Int) > 512)=true:=by simp;omega
    have:(trkF [] l).isSome=false:=by
      rw [← Bool.not_eq_true,trkF_isSome]
      rintro ⟨h1,h2⟩
      have:=len_le_trks h1
      have:=few (m:=512) h2 (trks_range h1)
      omega
    simp only [extent_Valid,c1,bif_ite,if_true,this]
  · have c1:decide ((l.length:Int) > 512)=false:=by simp;omega
    have h:=loop_any (n:=n) (body:=fun (x:Int)=>extent_Valid_b4 n l (l.length:Int) x) l (fun x=>!val x) (.inl false) (.inr ())
      (fun k hk=>by
        have h1:decide ((k:Int) < ((l.length:Nat):Int))=true:=by simp;omega
        have h2:0≤(k:Int)∧(k:Int) < (l.length:Int):=by omega
        simp only [extent_Valid_b4,h1,bif_ite,if_true,Int.toNat_natCast,gd_pos _ h2,gt_lt hk,valid_eq,Option.bind_some]
        rw [wid (by omega)]
        cases val l[k] <;> simp)
      (by simp [extent_Valid_b4,bif_ite]) (by unfold N0 at hn;omega)
    simp only [extent_Valid,c1,bif_ite,Bool.false_eq_true,if_false]
    rw [h]
    by_cases hv:l.all val=true
    · have ha:(l.any fun x=>!val x)=false:=by
        rw [← Bool.not_eq_true,List.any_eq_true]
        rintro ⟨x,hx,hx2⟩
        have:=List.all_eq_true.1 hv x hx
        simp [this] at hx2
      obtain ⟨r,r1,r2,r3⟩:=sorted_eq n l (by omega)
      have hrl:=r2.length_eq
      have hrv:r.all val=true:=by rw [perm_all r2];exact hv
      obtain ⟨y,y1,y2⟩:=Valid_loop n r hrv (by unfold N0 at hn;omega) (by omega)
      simp only [ha,Bool.false_eq_true,if_false,Option.bind_some,extent_Valid_k1,r1,y1]
      have e1:adj r↔(trks l).Nodup:=by
        rw [adj_iff hrv,← nodup_apart hrv r3];exact (perm_trks r2).nodup_iff
      rcases y2 with ⟨rfl,hy⟩ | ⟨rfl,hy⟩
      · have:(trkF [] l).isSome=false:=by
          rw [← Bool.not_eq_true,trkF_isSome]
          rintro ⟨_,h2⟩
          exact hy (e1.2 h2)
        simp [this]
      · have:(trkF [] l).isSome=true:=(trkF_isSome l).2 ⟨hv,e1.1 hy⟩
        simp [this,extent_Valid_k2]
    · have ha:(l.any fun x=>!val x)=true:=by
        rw [List.any_eq_true]
        rw [Bool.not_eq_true,List.all_eq_false] at hv
        obtain ⟨x,hx,hx2⟩:=hv
        exact ⟨x,hx,by simpa using hx2⟩
      have:(trkF [] l).isSome=false:=by
        rw [← Bool.not_eq_true,trkF_isSome]
        rintro ⟨h1,_⟩
        exact hv h1
      simp [ha,this]
def mn (a b:Int):Int:=if a < b then a else b
def fr (m:Int):Int→List TExtent→List TExtent
  | a,[]=>if a < m then [⟨a,m - a⟩] else []
  | a,x :: l=>(if a < mn m x.At then [⟨a,mn m x.At - a⟩] else []) ++ fr m (x.At+x.Len) l
def addX (out:List TExtent) (x:TExtent):List TExtent :=
  if 0 < out.length∧(gt out (out.length - 1)).At+(gt out (out.length - 1)).Len=x.At then out.set (out.length - 1) ⟨(gt out (out.length - 1)).At,(gt out (out.length - 1)).Len+x.Len⟩ else out ++ [x]
theorem addX_nil (x:TExtent):addX [] x=[x]:=by simp [addX]
theorem addX_snoc (i:List TExtent) (z x:TExtent):addX (i ++ [z]) x=if z.At+z.Len=x.At then i ++ [⟨z.At,z.Len+x.Len⟩] else i ++ [z] ++ [x]:=by
  unfold addX
  rw [gt_app_last]
  have h:0 < (i ++ [z]).length:=by simp
  simp only [h,true_and]
  split
  · simp [List.set_append]
  · rfl
theorem addX_len (out:List TExtent) (x:TExtent):(addX out x).length≤out.length+1:=by unfold addX;split <;> simp
theorem trks_app (a b:List TExtent):trks (a ++ b)=trks a ++ trks b:=by simp [trks]
theorem trks_one (x:TExtent):trks [x]=trk x:=by simp [trks]
theorem addX_nf {e:Int} {out:List TExtent} {x:TExtent} (h:nf e out) (hx:val x=true) (hl:lastE e out≤x.At) (he:e < x.At):nf e (addX out x)∧lastE e (addX out x)=x.At+x.Len∧∀ k,k∈trks (addX out x)↔k∈trks out∨k∈trk x:=by
  have v:=(val_iff _).1 hx
  rcases snoc_cases out with rfl | ⟨i,z,rfl⟩
  · rw [addX_nil]
    exact ⟨⟨hx,he,trivial⟩,rfl,fun k=>by simp [trks]⟩
  · rw [addX_snoc]
    rw [lastE_snoc] at hl
    obtain ⟨h1,h2,h3⟩:=nf_snoc.1 h
    have h2':=(val_iff _).1 h2
    split
    · rename_i heq
      refine ⟨nf_snoc.2 ⟨h1,(val_iff _).2 (by dsimp only;omega),h3⟩,by rw [lastE_snoc];dsimp only;omega,fun k=>?_⟩
      rw [trks_app,trks_app,trks_one,trks_one,List.mem_append,List.mem_append,trk_mem,trk_mem,trk_mem]
      dsimp only
      constructor
      · rintro (h | h)
        · exact .inl (.inl h)
        · by_cases hk:k < x.At
          · exact .inl (.inr (by omega))
          · exact .inr (by omega)
      · rintro ((h | h) | h)
        · exact .inl h
        · exact .inr (by omega)
        · exact .inr (by omega)
    · rename_i hne
      refine ⟨nf_snoc.2 ⟨h,hx,by rw [lastE_snoc];omega⟩,by rw [lastE_snoc],fun k=>?_⟩
      rw [trks_app (i ++ [z]),trks_one,List.mem_append]
theorem mg_spec:∀ (r out:List TExtent),nf (-1) out→r.all val=true→r.Pairwise apart→(∀ x∈r,lastE (-1) out≤x.At)→nf (-1) (r.foldl addX out)∧∀ k,k∈trks (r.foldl addX out)↔k∈trks out∨k∈trks r
  | [],out,h,_,_,_=>by simp [h,trks]
  | x :: r,out,h,hv,hp,hx=>by
    simp only [List.all_cons,Bool.and_eq_true] at hv
    obtain ⟨hp1,hp2⟩:=List.pairwise_cons.1 hp
    have v:=(val_iff _).1 hv.1
    obtain ⟨h1,h2,h3⟩:=addX_nf h hv.1 (hx x List.mem_cons_self) (by omega)
    obtain ⟨h4,h5⟩:=mg_spec r (addX out x) h1 hv.2 hp2 (fun y hy=>by rw [h2];exact hp1 y hy)
    refine ⟨h4,fun k=>?_⟩
    rw [List.foldl_cons,h5,h3,trks_cons,List.mem_append,or_assoc]
theorem Give_loop (n:Nat) (r:List TExtent) (hv:r.all val=true) (hn:r.length < n) (hl:r.length≤1073741824):loopF (fun (x:(List TExtent)×Int)=>extent_Give_b2 n r (r.length:Int) x.1 x.2) n ([],0)=some (r.foldl addX []):=by
  have h:=loop_list (n:=n) (σ:=List TExtent) (body:=fun (x:(List TExtent)×Int)=>extent_Give_b2 n r (r.length:Int) x.1 x.2) r (fun k s=>(s,(k:Int)))
    (fun out x=>.inl (addX out x)) (fun out=>out) (fun k s=>s.length≤k∧∀ y∈s,0≤y.At∧0≤y.Len∧y.At+y.Len≤512) (s:=[]) (by simp)
    (fun k hk s hs=>by
      obtain ⟨hs1,hs2⟩:=hs
      have c1:decide ((k:Int) < (r.length:Int))=true:=by simp;omega
      have c2:0≤(k:Int)∧(k:Int) < (r.length:Int):=by omega
      have v:=(val_iff _).1 (List.all_eq_true.1 hv _ (List.getElem_mem hk))
      simp only [extent_Give_b2,extent_Give_k3,c1,bif_ite,if_true,Int.toNat_natCast,gd_pos _ c2,gt_lt hk]
      by_cases h0:0 < s.length
      · have hm:=hs2 _ (gt_last h0)
        have e1:IntKind.wrap .i64 (((s.length:Nat):Int) - 1)=((s.length - 1:Nat):Int):=by rw [wid (by omega)];omega
        have e0:decide (((s.length:Nat):Int) > 0)=true:=by simp;omega
        simp only [e1,e0,Int.toNat_natCast,if_true]
        have h3:0≤((s.length - 1:Nat):Int)∧((s.length - 1:Nat):Int) < (s.length:Int):=by omega
        have h4:s.length - 1 < s.length:=by omega
        rw [gd_pos _ ⟨fun _=>h3,fun _=>h4,fun _=>h3,fun _=>h4⟩]
        rw [wid (n:=(gt s (s.length - 1)).At+(gt s (s.length - 1)).Len) (by omega)]
        simp only [beq_iff_eq,addX,h0,true_and]
        by_cases h5:(gt s (s.length - 1)).At+(gt s (s.length - 1)).Len=r[k].At
        · simp only [h5,if_true,gd_pos _ (show ((0≤((s.length - 1:Nat):Int)∧((s.length - 1:Nat):Int) < (s.length:Int))∧s.length - 1 < s.length∧(0≤((s.length - 1:Nat):Int)∧((s.length - 1:Nat):Int) < (s.length:Int))∧s.length - 1 < s.length) from ⟨h3,h4,h3,h4⟩)]
          rw [wid (by omega),wid (by omega)];simp
        · simp only [h5,if_false,gd_pos _ (show s.length+1≤2147483648 by omega)]
          rw [wid (by omega)];simp
      · have e:s=[]:=List.eq_nil_of_length_eq_zero (by omega)
        subst e
        rw [gd_pos _ (by simp)]
        simp only [List.length_nil]
        rw [if_neg (by simp),gd_pos _ (by simp),wid (by omega)]
        simp [addX])
    (fun k hk s hs s' hf=>by
      obtain ⟨hs1,hs2⟩:=hs
      have v:=(val_iff _).1 (List.all_eq_true.1 hv _ (List.getElem_mem hk))
      simp only [Sum.inl.injEq] at hf
      subst hf
      refine ⟨by have:=addX_len s r[k];omega,?_⟩
      unfold addX
      split
      · rename_i h
        obtain ⟨h0,h5⟩:=h
        have hm:=hs2 _ (gt_last h0)
        intro y hy
        rcases List.mem_or_eq_of_mem_set hy with hy | rfl
        · exact hs2 y hy
        · dsimp only;omega
      · intro y hy
        rcases List.mem_append.1 hy with hy | hy
        · exact hs2 y hy
        · simp only [List.mem_singleton] at hy;subst hy;omega)
    (fun s _=>by simp [extent_Give_b2,bif_ite]) hn
  have e:∀ (t s:List TExtent),runL (fun out x=>(.inl (addX out x):List TExtent ⊕ List TExtent)) (fun out=>out) t s=t.foldl addX s:=by
    intro t
    induction t with
    | nil=>intro s;simp [runL]
    | cons k t ih=>intro s;simp [runL,ih]
  rw [e] at h
  exact h
theorem Overlap_eq (n:Nat) (hn:N0≤n) (a b:List TExtent) (ha:a.length≤2097152) (hb:b.length≤2097152):extent_Overlap n a b=some ((trkF [] a).isSome && (trkF [] b).isSome && !(trkF [] (a ++ b)).isSome):=by
  simp only [extent_Overlap,Valid_eq n hn a (by omega),Valid_eq n hn b (by omega),Option.bind_some,Option.isSome_some,Option.getD_some]
  rw [gd_pos _ (by simp)]
  by_cases h1:(trkF [] a).isSome=true
  · by_cases h2:(trkF [] b).isSome=true
    · simp only [h1,h2,if_true,bif_ite,Clone_eq n a (by omega),Option.bind_some,Bool.true_and]
      rw [gd_pos _ trivial,gd_pos _ (by omega),Valid_eq n hn (a ++ b) (by rw [List.length_append];omega)]
      simp
    · rw [Bool.not_eq_true] at h2;simp [h1,h2]
  · rw [Bool.not_eq_true] at h1;simp [h1]
theorem nf_weak {e e':Int} (h:e'≤e):∀ {l:List TExtent},nf e l→nf e' l
  | [],_=>trivial
  | x :: l,⟨h1,h2,h3⟩=>⟨h1,by omega,h3⟩
theorem nf_erase:∀ {l:List TExtent} {e:Int} (k:Nat),nf e l→nf e (l.eraseIdx k)
  | [],_,_,_=>by simp [nf]
  | x :: l,e,0,⟨h1,h2,h3⟩=>by
    have v:=(val_iff _).1 h1
    exact nf_weak (by omega) h3
  | x :: l,e,k+1,⟨h1,h2,h3⟩=>⟨h1,h2,nf_erase k h3⟩
theorem nf_set:∀ {l:List TExtent} {e:Int} {k:Nat} {w:Int},nf e l→k < l.length→1≤w→w < (gt l k).Len→nf e (l.set k ⟨(gt l k).At+w,(gt l k).Len - w⟩)
  | [],_,_,_,_,h,_,_=>by simp at h
  | x :: l,e,0,w,⟨h1,h2,h3⟩,_,hw,hw2=>by
    have v:=(val_iff _).1 h1
    simp only [gt_zero] at hw2
    refine ⟨(val_iff _).2 (by simp only [gt_zero];omega),by simp only [gt_zero];omega,?_⟩
    have e1:x.At+w+(x.Len - w)=x.At+x.Len:=by omega
    simp only [gt_zero,e1];exact h3
  | x :: l,e,k+1,w,⟨h1,h2,h3⟩,hk,hw,hw2=>by
    simp only [gt_succ] at hw2
    simp only [gt_succ,List.set_cons_succ]
    exact ⟨h1,h2,nf_set h3 (by simpa using hk) hw hw2⟩
theorem trk_split (a n w:Int) (h1:0≤w) (h2:w≤n):trk ⟨a,n⟩=trk ⟨a,w⟩ ++ trk ⟨a+w,n - w⟩:=by
  unfold trk
  have e:n.toNat=w.toNat+(n - w).toNat:=by omega
  rw [e,List.range_add,List.map_append,List.map_map]
  congr 1
  refine List.map_congr_left fun j _=>?_
  simp only [Function.comp]
  omega
theorem trks_erase:∀ {r:List TExtent} {k:Nat},k < r.length→(trk (gt r k) ++ trks (r.eraseIdx k)).Perm (trks r)
  | [],k,h=>by simp at h
  | x :: r,0,_=>by simp [trks_cons]
  | x :: r,k+1,h=>by
    simp only [gt_succ,List.eraseIdx_cons_succ,trks_cons]
    refine List.Perm.trans ?_ (List.Perm.append_left (trk x) (trks_erase (by simpa using h)))
    rw [← List.append_assoc,← List.append_assoc]
    exact List.Perm.append_right _ List.perm_append_comm
theorem trks_set:∀ {r:List TExtent} {k:Nat} {w:Int},k < r.length→0≤w→w≤(gt r k).Len→(trk ⟨(gt r k).At,w⟩ ++ trks (r.set k ⟨(gt r k).At+w,(gt r k).Len - w⟩)).Perm (trks r)
  | [],k,_,h,_,_=>by simp at h
  | x :: r,0,w,_,h1,h2=>by
    simp only [gt_zero] at h2
    simp only [gt_zero,List.set_cons_zero,trks_cons]
    rw [← List.append_assoc,← trk_split x.At x.Len w h1 h2]
  | x :: r,k+1,w,h,h1,h2=>by
    simp only [gt_succ] at h2
    simp only [gt_succ,List.set_cons_succ,trks_cons]
    refine List.Perm.trans ?_ (List.Perm.append_left (trk x) (trks_set (by simpa using h) h1 h2))
    rw [← List.append_assoc,← List.append_assoc]
    exact List.Perm.append_right _ List.perm_append_comm
theorem nf_good {e:Int} {l:List TExtent} (h:nf e l):good l:=fun x hx=>List.all_eq_true.1 (nf_val h) x hx
inductive Sel:Nat→List TExtent→Int→Prop
  | zero (r:List TExtent):Sel 0 r 0
  | nil (c:Nat):Sel c [] 0
  | step (c:Nat) (r:List TExtent) (k:Nat) (s:Int) (h:isL r k) (hs:Sel c (r.eraseIdx k) s):Sel (c+1) r ((gt r k).Len+s)
theorem Take_inv (N:Nat) (most:Int):∀ (m1 len:Nat) (w:Int) (got row:List TExtent),len < m1→len≤row.length→len < N→1≤w→w≤9223372036854775807→got.length+len≤1073741823→nf (-1) (row.take len)→got.all val=true →
    ∃ y,loopF (fun (x:Int×(List TExtent)×(List TExtent)×Nat)=>extent_Take_b2 N most x.1 x.2.1 x.2.2.1 x.2.2.2) m1 (w,got,row,len)=some y ∧
      (∀ v,y = .inl v→v.2.2=0∧nf (-1) v.2.1∧v.1.all val=true∧(trks v.1 ++ trks v.2.1).Perm (trks got ++ trks (row.take len))∧(((trks v.1).length:Nat):Int)=(((trks got).length:Nat):Int)+w∧((v.1.length:Nat):Int)≤most) ∧
      (y = .inr ()→∃ s,Sel (most - (got.length:Int)).toNat (row.take len) s∧s < w)
  | 0,len,_,_,_,h,_,_,_,_,_,_,_=>by omega
  | m1+1,len,w,got,row,h1,hl,hN,hw,hw2,hgl,hnf,hgv=>by
    have hg:=nf_good hnf
    have hr:(row.take len).length=len:=by simp;omega
    by_cases c:((got.length:Nat):Int) < most∧0 < len
    · have c1:(if (decide (((got.length:Nat):Int) < most))=true then (decide (((len:Nat):Int) > 0)) else false)=true:=by simp [c.1];omega
      rcases ext_scan N w most got row ((len:Nat):Int) len rfl c.2 hl hN hw (by omega) (by omega) hg with ⟨k,hk,hA⟩ | ⟨k,hk1,hk2,hA⟩
      · have hA':extent_Take_b2 N most w got row len=some (.inr (.inl (got ++ [⟨(gt (row.take len) k).At,w⟩],cut (row.take len) k w,0))):=by
          simp only [extent_Take_b2,c1,bif_ite,if_true,hA];rfl
        rw [loopF_done hA']
        have hkl:=hk.1
        have hgk:=good_gt hg hkl
        have hwk:=hk.2.1
        refine ⟨_,rfl,fun v hv=>?_,fun hv=>by cases hv⟩
        cases hv
        have hvw:val ⟨(gt (row.take len) k).At,w⟩=true:=(val_iff _).2 (by dsimp only;omega)
        have hlw:(trk ⟨(gt (row.take len) k).At,w⟩).length=w.toNat:=trk_length _
        refine ⟨rfl,?_,by rw [List.all_append,hgv];simp [hvw],?_,?_,?_⟩
        · dsimp only
          unfold cut
          split
          · exact nf_erase k hnf
          · exact nf_set hnf hkl hw (by omega)
        · dsimp only
          rw [trks_app,trks_one,List.append_assoc]
          refine List.Perm.append_left _ ?_
          unfold cut
          split
          · rename_i e
            have h:=trks_erase hkl
            have e2:(⟨(gt (row.take len) k).At,w⟩:TExtent)=gt (row.take len) k:=by rw [← e]
            rw [e2];exact h
          · exact trks_set hkl (by omega) hwk
        · dsimp only
          rw [trks_app,trks_one,List.length_append,hlw];omega
        · dsimp only
          rw [List.length_append];simp only [List.length_cons,List.length_nil];omega
      · have hkl:k < (row.take len).length:=hk2.1
        have hkl':k < len:=by omega
        have hgk:=good_gt hg hkl
        have hwk:=hk1 k hkl
        obtain ⟨row',e1,e2,e3⟩:=Delete_eq N row len k hkl' hl
        have e4:=gt_take hkl' hl
        have hA':extent_Take_b2 N most w got row len=some (.inl (w - (gt (row.take len) k).Len,got ++ [gt (row.take len) k],row',len - 1)):=by
          have d1:(0≤(k:Int)∧(k:Int) < (len:Int))∧k < row.length∧got.length+1≤2147483648:=by omega
          have d2:(0≤(k:Int)∧(k:Int) < (len:Int))∧k < row.length:=by omega
          simp only [extent_Take_b2,c1,bif_ite,if_true,hA,Option.bind_some,extent_Take_k3,Int.toNat_natCast,gd_pos _ d1,gd_pos _ d2]
          rw [wid (by omega),e1,← e4,w64_id (by omega) (by omega)]
          rfl
        have hgl':(got ++ [gt (row.take len) k]).length=got.length+1:=by simp
        have hvk:val (gt (row.take len) k)=true:=(val_iff _).2 hgk
        rw [loopF_step hA']
        obtain ⟨y,q1,q2,q3⟩:=Take_inv N most m1 (len - 1) (w - (gt (row.take len) k).Len) (got ++ [gt (row.take len) k]) row' (by omega) (by omega) (by omega) (by omega) (by omega) (by rw [hgl'];omega) (by rw [e3];exact nf_erase k hnf) (by rw [List.all_append,hgv];simp [hvk])
        refine ⟨y,q1,fun v hv=>?_,fun hv=>?_⟩
        · obtain ⟨b1,b2,b3,b4,b5,b6⟩:=q2 v hv
          refine ⟨b1,b2,b3,?_,?_,b6⟩
          · refine b4.trans ?_
            rw [e3,trks_app,trks_one,List.append_assoc]
            exact List.Perm.append_left _ (trks_erase hkl)
          · rw [b5,trks_app,trks_one,List.length_append,trk_length];omega
        · obtain ⟨s,s1,s2⟩:=q3 hv
          rw [e3,hgl'] at s1
          have e5:(most - (got.length:Int)).toNat=(most - ((got.length+1:Nat):Int)).toNat+1:=by omega
          refine ⟨_,by rw [e5];exact Sel.step _ _ k s hk2 s1,by omega⟩
    · have c1:(if (decide (((got.length:Nat):Int) < most))=true then (decide (((len:Nat):Int) > 0)) else false)=false:=by
        rw [← Bool.not_eq_true]
        intro h
        split at h
        · rename_i h3
          simp at h h3
          omega
        · cases h
      refine ⟨.inr (),loopF_done ?_,fun v hv=>by (cases hv),fun _=>⟨0,?_,by omega⟩⟩
      · simp only [extent_Take_b2,c1,bif_ite,Bool.false_eq_true,if_false]
      · by_cases c2:0 < len
        · have:(most - (got.length:Int)).toNat=0:=by omega
          rw [this];exact Sel.zero _
        · have:row.take len=[]:=List.eq_nil_of_length_eq_zero (by omega)
          rw [this];exact Sel.nil _
theorem Take_out (n:Nat) (hn:N0≤n) (l:List TExtent) (w most:Int) (hl:l.length≤2097152) (hw2:w≤9223372036854775807) :
    (extent_Take n l w most=some ([],[],1)∧¬ ((chk 512 (-1) l=true∧1≤w)∧1≤most)) ∨
    (chk 512 (-1) l=true∧∃ v,extent_Take n l w most=some v∧v.2.2=0∧nf (-1) v.2.1∧v.1.all val=true∧(trks v.1 ++ trks v.2.1).Perm (trks l)∧(((trks v.1).length:Nat):Int)=w∧((v.1.length:Nat):Int)≤most) ∨
    (chk 512 (-1) l=true∧extent_Take n l w most=some ([],[],200)∧∃ s,Sel most.toNat l s∧s < w):=by
  have hln:l.length < n:=by unfold N0 at hn;omega
  simp only [extent_Take,Check_eq n l 512 hln (by omega),Option.bind_some]
  by_cases c:(chk 512 (-1) l=true∧1≤w)∧1≤most
  · have c1:(if (if (!(chk 512 (-1) l))=true then true else (decide (w < 1)))=true then true else (decide (most < 1)))=false:=by
      have h1:¬ w < 1:=by omega
      have h2:¬ most < 1:=by omega
      simp [c.1.1,h1,h2]
    have hnf:=((chk_iff 512 l (-1)).1 c.1.1).1
    obtain ⟨y,h1,h2,h3⟩:=Take_inv n most n l.length w [] l hln (Nat.le_refl _) hln c.1.2 hw2 (by simp;omega) (by rw [List.take_length];exact hnf) rfl
    rw [List.take_length] at h2 h3
    simp only [c1,bif_ite,Bool.false_eq_true,if_false,Clone_eq n l (by omega),Option.bind_some]
    rw [h1]
    cases y with
    | inl v =>
      obtain ⟨b1,b2,b3,b4,b5,b6⟩:=h2 v rfl
      refine .inr (.inl ⟨c.1.1,v,rfl,b1,b2,b3,by simpa [trks] using b4,by simpa [trks] using b5,b6⟩)
    | inr v =>
      obtain ⟨s,s1,s2⟩:=h3 rfl
      exact .inr (.inr ⟨c.1.1,rfl,s,by simpa using s1,s2⟩)
  · have c1:(if (if (!(chk 512 (-1) l))=true then true else (decide (w < 1)))=true then true else (decide (most < 1)))=true:=by
      by_cases h0:chk 512 (-1) l=true
      · by_cases h1:w < 1
        · simp [h0,h1]
        · have h2:most < 1:=by
            by_cases h2:most < 1
            · exact h2
            · exact absurd ⟨⟨h0,by omega⟩,by omega⟩ c
          simp [h2]
      · simp [h0]
    simp only [c1,bif_ite,if_true]
    exact .inl ⟨trivial,c⟩
end Go.Proofs.Ytkebegfopnlkhaa
/-
  ch. 39: what spool.Tracks computes.
-/
set_option maxRecDepth 100000
namespace Go.Proofs.Ytkebegfopnlkhaa
open Go.AE
def idx (a:Int):List Int:=[IntKind.wrap .u8 (Int.fdiv (IntKind.wrap .u32 a) (2 ^ 24)),IntKind.wrap .u8 (Int.fdiv (IntKind.wrap .u32 a) (2 ^ 16)),IntKind.wrap .u8 (Int.fdiv (IntKind.wrap .u32 a) (2 ^ 8)),IntKind.wrap .u8 (IntKind.wrap .u32 a)]
theorem idx_len (a:Int):(idx a).length=4:=rfl
theorem fits_eq (n:Nat) (b:List Int) (h:b.length=4):word_fits n b 0 4=some true:=by
  simp only [word_fits,h]
  rw [wid (by omega)]
  rfl
theorem put_eq (n:Nat) (a b c d:Int):word_put n (zreps 4 0) 0 [a,b,c,d]=some ([a,b,c,d],true):=by
  have h:=fits_eq n (zreps 4 0) rfl
  have e:(([a,b,c,d]:List Int).length:Int)=4:=rfl
  simp only [word_put,e,h,Option.bind_some]
  rfl
theorem index_eq (n:Nat) (a:Int):spool_index n a=some (idx a):=by
  simp only [spool_index,word_PutFull,put_eq,Option.bind_some]
  rw [gd_pos _ (by decide)]
  rfl
def lb (x:TLine):List Int:=[IntKind.wrap .u8 x.Ctl,IntKind.wrap .u8 (x.Text.length:Int)] ++ fromStr8 x.Text
theorem lb_len (x:TLine):(lb x).length=2+x.Text.length:=by simp [lb,fromStr8_len];omega
def gdata (a:Nat) (g:List TLine):List Int:=idx (a:Int) ++ g.flatMap lb
def shortL (l:List TLine):Prop:=∀ x∈l,x.Text.length≤132
theorem runL_app {α β:Type} (f:α→List β):∀ (g:List α) (b:List β),runL (fun b x=>(.inl (b ++ f x):List β ⊕ List β)) (fun b=>b) g b=b ++ g.flatMap f
  | [],b=>by simp [runL]
  | x :: g,b=>by simp [runL,runL_app f g]
theorem group_loop (n:Nat) (rs:List TRec) (l g:List TLine) (b:List Int) (hn:g.length < n) (hg:shortL g) (hl:g.length≤4096) (hb:b.length≤1024) :
    loopF (fun (x:(List Int)×Int)=>spool_Tracks_b8 n rs l g (g.length:Int) x.1 x.2) n (b,0)=some (b ++ g.flatMap lb):=by
  have h:=loop_list (σ:=List Int) (body:=fun (x:(List Int)×Int)=>spool_Tracks_b8 n rs l g (g.length:Int) x.1 x.2) g (fun k b=>(b,(k:Int))) (fun b x=>.inl (b ++ lb x)) (fun b=>b) (fun k b=>b.length≤1024+134 * k) (s:=b) (by omega)
    (fun k hk b hI=>by
      have h1:decide ((k:Int) < (g.length:Int))=true:=by simp;omega
      have h2:(0:Int)≤(k:Int)∧(k:Int) < (g.length:Int):=by omega
      have h3:=hg g[k] (List.getElem_mem hk)
      simp only [spool_Tracks_b8,h1,bif_ite,if_true,gd_pos _ h2,Int.toNat_natCast,gt_lt hk]
      rw [gd_pos _ (by omega),wid (by omega)]
      simp [lb])
    (fun k hk b hI s' he=>by
      simp only [Sum.inl.injEq] at he
      subst he
      have h3:=hg g[k] (List.getElem_mem hk)
      rw [List.length_append,lb_len];omega)
    (fun b _=>by simp [spool_Tracks_b8,bif_ite]) hn
  rw [runL_app] at h
  exact h
def mkRec (b:List Int):TRec:=⟨0,[],b,false⟩
theorem b6_eq (n:Nat) (rs:List TRec) (l g:List TLine) (a:Nat) (hn:g.length < n) (hg:shortL g) (hl:g.length≤4096) (hr:rs.length≤4096) :
    spool_Tracks_b6 n rs l (a:Int) g=some (rs ++ [mkRec (gdata a g)]):=by
  simp only [spool_Tracks_b6,index_eq,Option.bind_some,group_loop n rs l g (idx a) hn hg hl (by rw [idx_len];omega),spool_Tracks_k7]
  rw [gd_pos _ (by omega)]
  rfl
theorem divF_len (cs:List Int) (room:Int):∀ q fr,(divF cs room q fr).length≤q
  | 0,fr=>by simp [divF]
  | q+1,fr=>by
    unfold divF;split
    · have:=divF_len cs room q (reachP cs fr cs.length fr room)
      simp only [List.length_cons];omega
    · simp
theorem divP_mem {cs:List Int} {room:Int} {e:Nat×Nat} (h:e∈divP cs room):e.1 < e.2∧e.2≤cs.length:=by
  obtain ⟨k,hk,rfl⟩:=List.getElem_of_mem h
  exact divF_mem cs room cs.length 0 k _ (List.getElem?_eq_getElem hk)
def piece {α:Type} (l:List α) (e:Nat×Nat):List α:=List.take (e.2 - e.1) (List.drop e.1 l)
theorem piece_len {α:Type} {l:List α} {e:Nat×Nat} (h:e.2≤l.length):(piece l e).length=e.2 - e.1:=by simp [piece];omega
theorem piece_mem {α:Type} {l:List α} {e:Nat×Nat} {x:α} (h:x∈piece l e):x∈l:=List.mem_of_mem_drop (List.mem_of_mem_take h)
def recsL (l:List TLine):List TRec:=(divP (List.map szLine l) 1020).map fun e=>mkRec (gdata e.1 (piece l e))
theorem first_loop (n:Nat) (l:List TLine) (hn:4096 < n) (hl:l.length≤4096) (hs:shortL l) :
    rangeL (fun (x:(List TRec)) (e:Nat×Nat)=>spool_Tracks_b6 n x l (e.1:Int) (List.take (e.2 - e.1) (List.drop e.1 l))) [] (divP (List.map szLine l) 1020)=some (recsL l):=by
  have hL:(divP (List.map szLine l) 1020).length≤4096:=by
    have:=divF_len (List.map szLine l) 1020 (List.map szLine l).length 0
    rw [List.length_map] at this
    unfold divP;rw [List.length_map];omega
  have key:∀ (L:List (Nat×Nat)) (x:List TRec),(∀ e∈L,e∈divP (List.map szLine l) 1020)→x.length+L.length≤4096 →
      rangeL (fun (x:(List TRec)) (e:Nat×Nat)=>spool_Tracks_b6 n x l (e.1:Int) (List.take (e.2 - e.1) (List.drop e.1 l))) x L=some (x ++ L.map fun e=>mkRec (gdata e.1 (piece l e))):=by
    intro L
    induction L with
    | nil=>intro x _ _;simp [rangeL]
    | cons e L ih =>
      intro x he hx
      obtain ⟨h1,h2⟩:=divP_mem (he e (by simp))
      rw [List.length_map] at h2
      have hp:=piece_len h2
      have h:=b6_eq n x l (piece l e) e.1 (by omega) (fun y hy=>hs y (piece_mem hy)) (by omega) (by omega)
      simp only [List.length_cons] at hx
      simp only [rangeL]
      rw [show List.take (e.2 - e.1) (List.drop e.1 l)=piece l e from rfl,h]
      simp only [Option.bind_some]
      rw [ih _ (fun e' h'=>he e' (by simp [h'])) (by simp;omega)]
      simp
  have:=key _ [] (fun e h=>h) (by simpa using hL)
  simpa [recsL] using this
def numb (t:List TRec):List TRec:=t.mapIdx fun i r=>⟨((i+1:Nat):Int),r.Key,r.Data,r.Bad⟩
theorem numb_len (t:List TRec):(numb t).length=t.length:=by simp [numb]
theorem clone_eq (n:Nat) (s:List TRec) (o m:Nat) (h:s.length≤4096):slices_Clone_f50_M1 n s o m=some (List.take m (List.drop o s)):=by
  simp only [slices_Clone_f50_M1]
  have h2:(List.take m (List.drop o s)).length≤2147483648:=by simp;omega
  generalize List.take m (List.drop o s)=t at h2 ⊢
  cases t with
  | nil=>rfl
  | cons x t=>simp only [uniB,List.isEmpty_cons,Bool.false_eq_true,if_false,cond_false];rw [gd_pos _ h2]
def numAt (s:List TRec) (o k:Nat):List TRec:=s.mapIdx fun i r=>if o≤i∧i < o+k then ⟨((i - o+1:Nat):Int),r.Key,r.Data,r.Bad⟩ else r
theorem numAt_len (s:List TRec) (o k:Nat):(numAt s o k).length=s.length:=by simp [numAt]
theorem numAt_get {s:List TRec} {o k i:Nat} (h:i < (numAt s o k).length):(numAt s o k)[i]=if o≤i∧i < o+k then ⟨((i - o+1:Nat):Int),(s[i]'(by rw [numAt_len] at h;exact h)).Key,(s[i]'(by rw [numAt_len] at h;exact h)).Data,(s[i]'(by rw [numAt_len] at h;exact h)).Bad⟩ else s[i]'(by rw [numAt_len] at h;exact h):=by simp [numAt]
theorem numAt_zero (s:List TRec) (o:Nat):numAt s o 0=s:=by
  apply List.ext_getElem
  · exact numAt_len s o 0
  · intro i h1 h2
    rw [numAt_get,if_neg (by omega)]
theorem numAt_sz (s:List TRec) (o k:Nat):List.map szRec (numAt s o k)=List.map szRec s:=by
  apply List.ext_getElem
  · simp [numAt_len]
  · intro i h1 h2
    rw [List.getElem_map,List.getElem_map,numAt_get]
    split <;> rfl
theorem numAt_drop (s:List TRec) (o k:Nat):List.drop (o+k) (numAt s o k)=List.drop (o+k) s:=by
  apply List.ext_getElem
  · simp [numAt_len]
  · intro i h1 h2
    rw [List.getElem_drop,List.getElem_drop,numAt_get,if_neg (by omega)]
theorem numAt_piece (s:List TRec) (o k:Nat):List.take k (List.drop o (numAt s o k))=numb (List.take k (List.drop o s)):=by
  apply List.ext_getElem
  · simp [numAt_len,numb_len]
  · intro i h1 h2
    have hi:i < k:=by rw [List.length_take] at h1;omega
    rw [List.getElem_take,List.getElem_drop,numAt_get,if_pos (by omega)]
    simp [numb]
theorem numAt_set (s:List TRec) (o k:Nat) (h:o+k < s.length):List.set (numAt s o k) (o+k) ⟨((k+1:Nat):Int),(gt (numAt s o k) (o+k)).Key,(gt (numAt s o k) (o+k)).Data,(gt (numAt s o k) (o+k)).Bad⟩=numAt s o (k+1):=by
  have h':o+k < (numAt s o k).length:=by rw [numAt_len];exact h
  apply List.ext_getElem
  · rw [List.length_set,numAt_len,numAt_len]
  · intro i h1 h2
    rw [List.getElem_set,numAt_get (k:=k+1)]
    by_cases e:o+k=i
    · subst e
      rw [if_pos rfl,if_pos (by omega),gt_lt h',numAt_get,if_neg (by omega)]
      congr 2;omega
    · rw [if_neg e,numAt_get]
      by_cases c:o≤i∧i < o+k
      · rw [if_pos c,if_pos (by omega)]
      · rw [if_neg c,if_neg (by omega)]
theorem num_loop (n:Nat) (out:List (List TRec)) (s:List TRec) (o m:Nat) (h:o+m≤s.length) (hs:s.length≤4096) (hn:4096 < n) :
    loopF (fun (x:(List TRec)×Int)=>spool_Tracks_b5 n out o m ((m:Nat):Int) x.1 x.2) n (s,0)=some (numAt s o m):=by
  have hl:=loop_list (σ:=Unit) (body:=fun (x:(List TRec)×Int)=>spool_Tracks_b5 n out o m ((m:Nat):Int) x.1 x.2) (List.range m) (fun k _=>(numAt s o k,(k:Int)))
    (fun _ _=>.inl ()) (fun _=>numAt s o m) (fun _ _=>True) (s:=()) trivial
    (fun k hk _ _=>by
      rw [List.length_range] at hk
      have h1:decide ((k:Int) < ((m:Nat):Int))=true:=by simp;omega
      have h2:(0≤(k:Int)∧(k:Int) < (m:Int))∧(o+k) < (numAt s o k).length:=by
        rw [numAt_len];omega
      simp only [spool_Tracks_b5,h1,bif_ite,if_true,Int.toNat_natCast]
      rw [gd_pos _ h2,wid (by omega)]
      have:=numAt_set s o k (by omega)
      simp only [Int.natCast_add,Int.cast_ofNat_Int] at this
      rw [this]
      rfl)
    (fun _ _ _ _ _ _=>trivial)
    (fun _ _=>by simp [spool_Tracks_b5,bif_ite]) (n:=n) (by rw [List.length_range];omega)
  rw [numAt_zero] at hl
  rw [show (fun (x:(List TRec)×Int)=>spool_Tracks_b5 n out o m ((m:Nat):Int) x.1 x.2)=(fun (x:(List TRec)×Int)=>spool_Tracks_b5 n out o m ((m:Nat):Int) x.1 x.2) from rfl]
  have e:∀ l:List Nat,runL (fun (_:Unit) (_:Nat)=>(.inl ():Unit ⊕ List TRec)) (fun _=>numAt s o m) l ()=numAt s o m:=by
    intro l
    induction l with
    | nil=>rfl
    | cons a l ih=>simp only [runL,ih]
  rw [e] at hl
  exact hl
def tracksR (rs:List TRec):List (List TRec):=(divP (List.map szRec rs) 2048).map fun e=>numb (piece rs e)
theorem second_loop (n:Nat) (rs:List TRec) (hn:4096 < n) (hl:rs.length≤4096) :
    ∃ y,rangeL (fun (x:(List (List TRec))×(List TRec)) (e:Nat×Nat)=>(spool_Tracks_b3 n x.1 x.2 e.1 (e.2 - e.1)).bind fun x2=>gd (List.map szRec x2.2=(List.map szRec rs)) (some x2)) ([],rs) (divP (List.map szRec rs) 2048)=some y∧y.1=tracksR rs:=by
  have key:∀ (q fr:Nat) (out:List (List TRec)) (s:List TRec),fr≤rs.length→List.map szRec s=List.map szRec rs→List.drop fr s=List.drop fr rs→out.length+q≤4096 →
      ∃ y,rangeL (fun (x:(List (List TRec))×(List TRec)) (e:Nat×Nat)=>(spool_Tracks_b3 n x.1 x.2 e.1 (e.2 - e.1)).bind fun x2=>gd (List.map szRec x2.2=(List.map szRec rs)) (some x2)) (out,s) (divF (List.map szRec rs) 2048 q fr)=some y∧y.1=out ++ (divF (List.map szRec rs) 2048 q fr).map fun e=>numb (piece rs e):=by
    intro q
    induction q with
    | zero=>intro fr out s _ _ _ _;exact ⟨_,rfl,by simp [divF]⟩
    | succ q ih =>
      intro fr out s hfr hsz hdr hq
      have hlen:s.length=rs.length:=by have:=congrArg List.length hsz;simpa using this
      unfold divF
      split
      · rename_i hlt
        have hrl:(List.map szRec rs).length=rs.length:=by simp
        obtain ⟨to,hto⟩:∃ to,reachP (List.map szRec rs) fr (List.map szRec rs).length fr 2048=to:=⟨_,rfl⟩
        have h1:fr≤to:=by rw [← hto];exact reachP_ge _ _ _ _ _
        have h2:to≤rs.length:=by rw [← hto,← hrl];exact reachP_le _ _ _ _ _ (by omega)
        rw [hto]
        have hdp:List.take (to - fr) (List.drop fr s)=List.take (to - fr) (List.drop fr rs):=by rw [hdr]
        have hb3:spool_Tracks_b3 n out s fr (to - fr)=some (out ++ [numb (piece rs (fr,to))],numAt s fr (to - fr)):=by
          simp only [spool_Tracks_b3,num_loop n out s fr (to - fr) (by omega) (by omega) hn,Option.bind_some,spool_Tracks_k4]
          rw [clone_eq n _ _ _ (by rw [numAt_len];omega),Option.bind_some,gd_pos _ (by omega),numAt_piece,hdp]
          rfl
        simp only [rangeL,hb3,Option.bind_some]
        rw [gd_pos _ (by rw [numAt_sz];exact hsz)]
        simp only [Option.bind_some]
        have e1:fr+(to - fr)=to:=by omega
        have hd2:=numAt_drop s fr (to - fr)
        rw [e1] at hd2
        have hd3:List.drop to s=List.drop to rs:=by
          have:List.drop (to - fr) (List.drop fr s)=List.drop (to - fr) (List.drop fr rs):=by rw [hdr]
          rw [List.drop_drop,List.drop_drop,e1] at this
          exact this
        obtain ⟨y,y1,y2⟩:=ih to (out ++ [numb (piece rs (fr,to))]) (numAt s fr (to - fr)) h2 (by rw [numAt_sz];exact hsz) (by rw [hd2,hd3]) (by simp;omega)
        exact ⟨y,y1,by rw [y2];simp⟩
      · exact ⟨_,rfl,by simp⟩
  obtain ⟨y,h1,h2⟩:=key (List.map szRec rs).length 0 [] rs (Nat.zero_le _) rfl rfl (by simpa using hl)
  exact ⟨y,h1,by simpa [tracksR,divP] using h2⟩
theorem find_loop {α:Type} (l:List α) (p:α→Bool) {body:Int→Option (Int ⊕ (Int ⊕ Unit))} (hb:∀ k (hk:k < l.length),body (k:Int)=some (if p l[k] then .inr (.inl (k:Int)) else .inl ((k+1:Nat):Int)))
    (he:body (l.length:Int)=some (.inr (.inr ()))) {n:Nat} (hn:l.length < n):∃ y,loopF body n 0=some y∧((∃ k:Nat,y = .inl (k:Int)∧l.any p=true)∨(y = .inr ()∧l.any p=false)):=by
  have h:=loop_list (σ:=Nat) (body:=body) l (fun k _=>(k:Int)) (fun s a=>if p a then .inr (.inl (s:Int)) else .inl (s+1)) (fun _=>.inr ()) (fun k s=>s=k) (s:=0) rfl
    (fun k hk s hI=>by subst hI;rw [hb s hk];by_cases hp:p l[s]=true <;> simp [hp])
    (fun k hk s hI s' he=>by
      subst hI
      by_cases hp:p l[s]=true
      · simp [hp] at he
      · simp [hp] at he;omega)
    (fun _ _=>he) hn
  refine ⟨_,h,?_⟩
  have e:∀ (l:List α) (s:Nat),(∃ k:Nat,runL (fun (s:Nat) a=>if p a then (.inr (.inl (s:Int)):Nat ⊕ (Int ⊕ Unit)) else .inl (s+1)) (fun _=>.inr ()) l s = .inl (k:Int)∧l.any p=true)∨(runL (fun (s:Nat) a=>if p a then (.inr (.inl (s:Int)):Nat ⊕ (Int ⊕ Unit)) else .inl (s+1)) (fun _=>.inr ()) l s = .inr ()∧l.any p=false):=by
    intro l
    induction l with
    | nil=>intro s;right;simp [runL]
    | cons a l ih =>
      intro s
      by_cases hp:p a=true
      · left;exact ⟨s,by simp [runL,hp],by simp [hp]⟩
      · rw [Bool.not_eq_true] at hp
        simp only [runL,hp,Bool.false_eq_true,if_false,List.any_cons,Bool.false_or]
        exact ih (s+1)
  exact e l 0
def longT (x:TLine):Bool:=decide ((x.Text.length:Int) > 132)
def badC (x:TLine):Bool:=if (decide (x.Ctl < 0))=true then true else (decide (x.Ctl > 255))
theorem contains1 (n:Nat) (l:List TLine) (hn:l.length < n) (hl:l.length≤4096):slices_ContainsFunc_f42_M1 n l=some (l.any longT):=by
  obtain ⟨y,h1,h2⟩:=find_loop l longT (body:=fun (x:Int)=>slices_IndexFunc_f68_M1_b2 n l (l.length:Int) x) (n:=n)
    (fun k hk=>by
      have h1:decide ((k:Int) < (l.length:Int))=true:=by simp;omega
      have h2:(0:Int)≤(k:Int)∧(k:Int) < (l.length:Int):=by omega
      simp only [slices_IndexFunc_f68_M1_b2,h1,bif_ite,if_true,gd_pos _ h2,spool_Tracks_1,Option.bind_some,Int.toNat_natCast,gt_lt hk]
      rw [wid (by omega)]
      show (if longT l[k]=true then _ else _)=_
      by_cases hp:longT l[k]=true <;> simp [hp])
    (by simp [slices_IndexFunc_f68_M1_b2,bif_ite]) hn
  simp only [slices_ContainsFunc_f42_M1,slices_IndexFunc_f68_M1,h1,Option.bind_some]
  rcases h2 with ⟨k,rfl,h⟩ | ⟨rfl,h⟩
  · rw [h];simp
  · rw [h];rfl
theorem contains2 (n:Nat) (l:List TLine) (hn:l.length < n) (hl:l.length≤4096):slices_ContainsFunc_f42_M2 n l=some (l.any badC):=by
  obtain ⟨y,h1,h2⟩:=find_loop l badC (body:=fun (x:Int)=>slices_IndexFunc_f68_M2_b2 n l (l.length:Int) x) (n:=n)
    (fun k hk=>by
      have h1:decide ((k:Int) < (l.length:Int))=true:=by simp;omega
      have h2:(0:Int)≤(k:Int)∧(k:Int) < (l.length:Int):=by omega
      simp only [slices_IndexFunc_f68_M2_b2,h1,bif_ite,if_true,gd_pos _ h2,spool_Tracks_2,Option.bind_some,Int.toNat_natCast,gt_lt hk]
      rw [wid (by omega)]
      show (if badC l[k]=true then _ else _)=_
      by_cases hp:badC l[k]=true <;> simp [hp])
    (by simp [slices_IndexFunc_f68_M2_b2,bif_ite]) hn
  simp only [slices_ContainsFunc_f42_M2,slices_IndexFunc_f68_M2,h1,Option.bind_some]
  rcases h2 with ⟨k,rfl,h⟩ | ⟨rfl,h⟩
  · rw [h];simp
  · rw [h];rfl
def trkL (l:List TLine):List (List TRec):=tracksR (recsL l)
def tracksS (l:List TLine):List (List TRec)×Int :=
  if l.length > 4096 then ([],2) else if l.any longT=true then ([],2) else if l.any badC=true then ([],1) else (trkL l,0)
theorem recsL_len (l:List TLine):(recsL l).length≤l.length:=by
  have:=divF_len (List.map szLine l) 1020 (List.map szLine l).length 0
  rw [recsL,List.length_map]
  unfold divP
  rw [List.length_map] at *
  exact this
theorem Tracks_S (n:Nat) (l:List TLine) (hn:N0≤n):spool_Tracks n l=some (tracksS l):=by
  have hn0:4194304≤n:=hn
  unfold tracksS
  by_cases c1:l.length > 4096
  · have:decide ((l.length:Int) > 4096)=true:=by simp;omega
    simp only [spool_Tracks,this,cond_true,c1,if_true]
  · have:decide ((l.length:Int) > 4096)=false:=by simp;omega
    simp only [spool_Tracks,this,cond_false,c1,if_false,Bool.not_false,contains1 n l (by omega) (by omega),contains2 n l (by omega) (by omega),Option.bind_some]
    rw [gd_pos _ trivial]
    by_cases c2:l.any longT=true
    · simp only [c2,cond_true,if_true]
    · rw [Bool.not_eq_true] at c2
      by_cases c3:l.any badC=true
      · simp only [c2,c3,cond_true,cond_false,if_true,Bool.false_eq_true,if_false]
      · rw [Bool.not_eq_true] at c3
        simp only [c2,c3,cond_false,Bool.false_eq_true,if_false]
        have hs:shortL l:=by
          intro x hx
          have:=List.any_eq_false.1 c2 x hx
          simp [longT] at this
          omega
        rw [first_loop n l (by omega) (by omega) hs]
        simp only [Option.bind_some,spool_Tracks_k1]
        rw [gd_pos _ trivial]
        have hr:=recsL_len l
        obtain ⟨y,y1,y2⟩:=second_loop n (recsL l) (by omega) (by omega)
        rw [y1]
        simp only [Option.bind_some,spool_Tracks_k2,y2]
        rfl
end Go.Proofs.Ytkebegfopnlkhaa
/-
  ch. 39: the chapter's examples.
-/
set_option maxRecDepth 1000000
namespace Go.Proofs.Ytkebegfopnlkhaa
open Go.AE Go.RowKit
theorem works_N0:law39_works N0=some true:=by decide +kernel
end Go.Proofs.Ytkebegfopnlkhaa
