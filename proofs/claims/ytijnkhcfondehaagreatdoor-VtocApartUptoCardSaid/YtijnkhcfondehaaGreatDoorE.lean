/- Text. -/
import Derived.Test.YtijnkhcfondehaaGreatDoorAE21
import Derived.Test.YtijnkhcfondehaaGreatDoorM
set_option linter.unusedSimpArgs false
set_option linter.unusedVariables false
set_option maxRecDepth 100000
open _root_.Bool renaming not_true→jT,true_and→JL,not_eq_true→Ju,and_eq_true→je,false_eq_true→jn
open _root_.Int renaming toNat_natCast→jy
open _root_.List renaming range→Jg,mem_append→jk,mem_singleton→JB,mem_flatMap→j9,all_eq_true→jx,nil_append→Je,nodup_append→Jm,cons_append→Jj,mem_cons_self→j4,append_assoc→jM,getElem_mem→jw,length_append→ji,length_take→jl,take_append_of_le_length→jX,take_of_length_le→jN,length_cons→jv,pairwise_cons→JU,length_nil→jZ,map_map→JR,take_length→JF
open _root_.Nat renaming le_refl→js
open _root_.Option renaming bind_some→jf,isSome_iff_exists→j3
open _root_.Option.some renaming injEq→jb
namespace Go.Proofs.YtijnkhcfondehaaGreatDoor
open Go.AE
def N0:Nat:=4194304
theorem wid {n:Int} (h:-4611686018427387904≤n∧n≤4611686018427387904):IntKind.wrap .i64 n=n:=w64_id (by omega) (by omega)
theorem bif_ite {α:Type} (b:Bool) (x y:α):(bif b then x else y)=if b=true then x else y:=by cases b <;> rfl
theorem ite_ff (p q:Bool):(if p=true then q else false)=(p && q):=by cases p <;> simp
theorem ite_tt (p q:Bool):(if p=true then true else q)=(p || q):=by cases p <;> simp
def val (x:TExtent):Bool:=decide (0≤x.At∧1≤x.Len∧x.At < 512∧x.Len≤512 - x.At)
theorem val_iff (x:TExtent):val x=true↔0≤x.At∧1≤x.Len∧x.At < 512∧x.Len≤512 - x.At:=by simp [val]
theorem val_text (x:TExtent):(if (if (if (decide (x.At ≥ 0))=true then (decide (x.Len ≥ 1)) else false)=true then (decide (x.At < 512)) else false)=true then (decide (x.Len≤(IntKind.wrap .i64 (512 - x.At)))) else false)=val x:=by
  by_cases hA:0≤x.At∧x.At < 512
  · rw [wid (by omega)]
    by_cases h2:1≤x.Len <;> by_cases h4:x.Len≤512 - x.At <;> simp [val,hA.1,hA.2,h2,h4]
  · by_cases h1:0≤x.At <;> by_cases h3:x.At < 512
    · exact absurd ⟨h1,h3⟩ hA
    all_goals simp [val,h1,h3]
theorem valid_eq (n:Nat) (x:TExtent):extent_valid n x=some (val x):=by simp only [extent_valid,val_text]
def chk (m:Int):Int→List TExtent→Bool
  | _,[]=>true
  | e,x :: l=>val x && decide (e < x.At) && decide (x.At+x.Len≤m) && chk m (x.At+x.Len) l
theorem Check_eq (n:Nat) (l:List TExtent) (m:Int) (hn:l.length < n) (hl:l.length≤2147483648):extent_Check n l m=some (chk m (-1) l):=by
  have h:=loop_list (σ:=Int) (body:=fun (x:Int×Int)=>extent_Check_b2 n m l (l.length:Int) x.1 x.2) l (fun k e=>(e,(k:Int)))
    (fun e x=>if val x && decide (e < x.At) && decide (x.At+x.Len≤m) then .inl (x.At+x.Len) else .inr (.inl false)) (fun _=>.inr ()) (fun _ _=>True) (s:=-1) trivial
    (fun k hk e _=>by
      have h1:decide ((k:Int) < (l.length:Int))=true:=by simp;omega
      have h2:(0:Int)≤(k:Int)∧(k:Int) < (l.length:Int):=by omega
      simp only [extent_Check_b2,h1,bif_ite,if_true,gd_pos _ h2,valid_eq,jf,jy,gt_lt hk,ite_tt]
      by_cases hv:val l[k]=true
      · have hv':=(val_iff _).1 hv
        simp only [hv,jT,Bool.false_or,JL]
        rw [wid (by omega),wid (by omega)]
        have e1:(decide (l[k].At≤e) || decide (l[k].At+l[k].Len > m)) = !(decide (e < l[k].At) && decide (l[k].At+l[k].Len≤m)):=by
          rw [Bool.eq_iff_iff,Bool.or_eq_true,Bool.not_eq_true',Bool.and_eq_false_iff]
          simp only [decide_eq_true_eq,decide_eq_false_iff_not]
          omega
        rw [e1]
        cases (decide (e < l[k].At) && decide (l[k].At+l[k].Len≤m)) <;> simp
      · simp [hv])
    (fun _ _ _ _ _ _=>trivial) (fun e _=>by simp [extent_Check_b2,bif_ite]) hn
  have e:∀ (l:List TExtent) (e:Int),runL (fun e x=>if val x && decide (e < x.At) && decide (x.At+x.Len≤m) then .inl (x.At+x.Len) else (.inr (.inl false):Int ⊕ (Bool ⊕ Unit))) (fun _=>.inr ()) l e=if chk m e l then .inr () else .inl false:=by
    intro l
    induction l with
    | nil=>intro e;simp [runL,chk]
    | cons x l ih =>
      intro e
      simp only [runL,chk]
      by_cases h:(val x && decide (e < x.At) && decide (x.At+x.Len≤m))=true
      · simp only [h,if_true,JL,ih]
      · rw [Ju] at h
        simp [h]
  rw [e] at h
  simp only [extent_Check]
  have h':loopF (fun (x:Int×Int)=>extent_Check_b2 n m l (l.length:Int) x.1 x.2) n (-1,0)=some (if chk m (-1) l then .inr () else .inl false):=h
  rw [h']
  cases chk m (-1) l <;> rfl
def trk (x:TExtent):List Int:=(Jg x.Len.toNat).map fun (j:Nat)=>x.At+(j:Int)
def trks (l:List TExtent):List Int:=l.flatMap trk
def addAll:List Int→List Int→Option (List Int)
  | s,[]=>some s
  | s,k :: t=>if k∈s then none else addAll (s ++ [k]) t
def trkF:List Int→List TExtent→Option (List Int)
  | s,[]=>some s
  | s,x :: l=>if val x then (addAll s (trk x)).bind fun s'=>trkF s' l else none
def mark (s:List Int):List Bool:=(Jg 512).map fun (k:Nat)=>decide ((k:Int)∈s)
theorem mark_len (s:List Int):(mark s).length=512:=by simp [mark]
theorem mark_set (s:List Int) {k:Int} (h:0≤k∧k < 512):List.set (mark s) k.toNat true=mark (s ++ [k]):=by
  refine List.ext_getElem (by simp [mark]) fun i h1 h2=>?_
  simp only [List.length_set,mark_len] at h1
  rw [List.getElem_set]
  simp only [mark,List.getElem_map,List.getElem_range,jk,JB]
  by_cases e:k.toNat=i
  · have:(i:Int)=k:=by omega
    simp [e,this]
  · have:¬ (i:Int)=k:=by omega
    simp [e,this]
theorem addAll_length:∀ {t s s':List Int},addAll s t=some s'→s'=s ++ t
  | [],s,s',h=>by simp only [addAll,jb] at h;simp [h]
  | k :: t,s,s',h=>by
    simp only [addAll] at h
    split at h
    · cases h
    · rw [addAll_length h];simp
theorem trk_length (x:TExtent):(trk x).length=x.Len.toNat:=by simp [trk]
theorem trk_mem {x:TExtent} {k:Int}:k∈trk x↔x.At≤k∧k < x.At+x.Len:=by
  simp only [trk,List.mem_map,List.mem_range]
  constructor
  · rintro ⟨j,hj,rfl⟩;omega
  · rintro ⟨h1,h2⟩;exact ⟨(k - x.At).toNat,by omega,by omega⟩
theorem trk_get {x:TExtent} {k:Nat} (h:k < (trk x).length):(trk x)[k]=x.At+(k:Int):=by simp [trk]
theorem trkF_spec:∀ {l:List TExtent} {s s':List Int},trkF s l=some s'→s'=s ++ trks l∧l.all val=true
  | [],s,s',h=>by simp only [trkF,jb] at h;simp [h,trks]
  | x :: l,s,s',h=>by
    simp only [trkF] at h
    split at h
    · rename_i hv
      obtain ⟨s2,h1,h2⟩:=bind_some h
      obtain ⟨h3,h4⟩:=trkF_spec h2
      rw [addAll_length h1] at h3
      exact ⟨by rw [h3];simp [trks],by simp [hv,h4]⟩
    · cases h
theorem trks_range {l:List TExtent} (h:l.all val=true):∀ k∈trks l,0≤k∧k < 512:=by
  intro k hk
  obtain ⟨x,hx,hk⟩:=j9.1 hk
  have hv:=(val_iff x).1 (jx.1 h x hx)
  have:=trk_mem.1 hk
  omega
def trkO (l:List TExtent):List Int:=(trkF [] l).getD []
theorem trkO_range (l:List TExtent):∀ k∈trkO l,0≤k∧k < 512:=by
  unfold trkO
  cases h:trkF [] l with
  | none=>simp
  | some s =>
    obtain ⟨h1,h2⟩:=trkF_spec h
    simp only [Je] at h1
    subst h1
    simpa using trks_range h2
theorem addAll_nodup:∀ {t s s':List Int},addAll s t=some s'→s.Nodup→s'.Nodup
  | [],s,s',h,hs=>by simp only [addAll,jb] at h;subst h;exact hs
  | k :: t,s,s',h,hs=>by
    simp only [addAll] at h
    split at h
    · cases h
    · rename_i hk
      refine addAll_nodup h (Jm.2 ⟨hs,by simp,?_⟩)
      rintro a ha b hb rfl
      simp only [JB] at hb;subst hb
      exact hk ha
theorem trkF_nodup:∀ {l:List TExtent} {s s':List Int},trkF s l=some s'→s.Nodup→s'.Nodup
  | [],s,s',h,hs=>by simp only [trkF,jb] at h;subst h;exact hs
  | x :: l,s,s',h,hs=>by
    simp only [trkF] at h
    split at h
    · obtain ⟨s2,h1,h2⟩:=bind_some h
      exact trkF_nodup h2 (addAll_nodup h1 hs)
    · cases h
theorem few:∀ {m:Nat} {s:List Int},s.Nodup→(∀ k∈s,0≤k∧k < (m:Int))→s.length≤m
  | 0,s,hn,hr=>by
    cases s with
    | nil=>simp
    | cons k t=>have:=hr k (by simp);omega
  | m+1,s,hn,hr=>by
    have h:=few (m:=m) (s:=s.erase (m:Int)) (hn.erase _) (fun k hk=>by
      have h1:=(List.Nodup.mem_erase_iff hn).1 hk
      have:=hr k h1.2
      have:=h1.1
      omega)
    rw [List.length_erase] at h
    split at h <;> omega
theorem trkO_few (l:List TExtent):(trkO l).length≤512:=by
  refine few ?_ (trkO_range l)
  unfold trkO
  cases h:trkF [] l with
  | none=>simp
  | some s=>simpa using trkF_nodup h List.nodup_nil
def addT (out:List TExtent) (k:Int):List TExtent :=
  if 0 < out.length∧(gt out (out.length - 1)).At+(gt out (out.length - 1)).Len=k then out.set (out.length - 1) ⟨(gt out (out.length - 1)).At,(gt out (out.length - 1)).Len+1⟩ else out ++ [⟨k,1⟩]
def nrm (p:List Bool):List TExtent:=(Jg 512).foldl (fun out (k:Nat)=>if gt p k then addT out (k:Int) else out) []
def nf:Int→List TExtent→Prop
  | _,[]=>True
  | e,x :: l=>val x=true∧e < x.At∧nf (x.At+x.Len) l
def lastE:Int→List TExtent→Int
  | e,[]=>e
  | _,x :: l=>lastE (x.At+x.Len) l
theorem nf_snoc {x:TExtent}:∀ {l:List TExtent} {e:Int},nf e (l ++ [x])↔nf e l∧val x=true∧lastE e l < x.At
  | [],e=>by simp [nf,lastE]
  | y :: l,e=>by simp only [Jj,nf,lastE,nf_snoc];simp only [and_assoc]
theorem trks_cons (x:TExtent) (l:List TExtent):trks (x :: l)=trk x ++ trks l:=by simp [trks]
theorem nf_gt:∀ {l:List TExtent} {e:Int},nf e l→∀ k∈trks l,e < k
  | [],_,_,k,hk=>by simp [trks] at hk
  | x :: l,e,h,k,hk=>by
    obtain ⟨h1,h2,h3⟩:=h
    have h1':=(val_iff _).1 h1
    rw [trks_cons,jk] at hk
    rcases hk with hk | hk
    · have:=trk_mem.1 hk;omega
    · have:=nf_gt h3 k hk;omega
theorem trk_asc (x:TExtent):(trk x).Pairwise (· < ·):=by
  unfold trk
  refine List.pairwise_map.2 (List.Pairwise.imp ?_ List.pairwise_lt_range)
  intro a b h;omega
theorem nf_asc:∀ {l:List TExtent} {e:Int},nf e l→(trks l).Pairwise (· < ·)
  | [],_,_=>by simp [trks]
  | x :: l,e,h=>by
    obtain ⟨h1,h2,h3⟩:=h
    rw [trks_cons,List.pairwise_append]
    refine ⟨trk_asc x,nf_asc h3,fun a ha b hb=>?_⟩
    have:=trk_mem.1 ha
    have:=nf_gt h3 b hb
    omega
theorem nf_val:∀ {l:List TExtent} {e:Int},nf e l→l.all val=true
  | [],_,_=>rfl
  | x :: l,e,h=>by simp [h.1,nf_val h.2.2]
theorem addAll_some:∀ {t s:List Int},(s ++ t).Nodup→addAll s t=some (s ++ t)
  | [],s,_=>by simp [addAll]
  | k :: t,s,h=>by
    have hk:k ∉ s:=fun hk=>(Jm.1 h).2.2 k hk k j4 rfl
    simp only [addAll,hk,if_false]
    rw [addAll_some (by simpa using h)];simp
theorem trkF_some:∀ {l:List TExtent} {s:List Int},l.all val=true→(s ++ trks l).Nodup→trkF s l=some (s ++ trks l)
  | [],s,_,_=>by simp [trkF,trks]
  | x :: l,s,hv,h=>by
    simp only [List.all_cons,je] at hv
    rw [trks_cons,← jM] at h
    simp only [trkF,hv.1,if_true]
    rw [addAll_some (Jm.1 h).1,jf,trkF_some hv.2 h,trks_cons,jM]
theorem nf_trkF {l:List TExtent} {e:Int} (h:nf e l):trkF [] l=some (trks l):=by
  have:=trkF_some (s:=[]) (nf_val h) (by
    rw [Je]
    exact List.Pairwise.imp (fun h=>by omega) (nf_asc h))
  simpa using this
theorem chk_iff (m:Int):∀ (l:List TExtent) (e:Int),chk m e l=true↔nf e l∧∀ k∈trks l,k < m
  | [],e=>by simp [chk,nf,trks]
  | x :: l,e=>by
    simp only [chk,je,decide_eq_true_eq,chk_iff m l,nf,trks_cons,jk]
    constructor
    · rintro ⟨⟨⟨h1,h2⟩,h3⟩,h4,h5⟩
      refine ⟨⟨h1,h2,h4⟩,?_⟩
      rintro k (hk | hk)
      · have:=trk_mem.1 hk;omega
      · exact h5 k hk
    · rintro ⟨⟨h1,h2,h4⟩,h5⟩
      have h1':=(val_iff _).1 h1
      refine ⟨⟨⟨h1,h2⟩,?_⟩,h4,fun k hk=>h5 k (.inr hk)⟩
      have:=h5 (x.At+x.Len - 1) (.inl (trk_mem.2 (by omega)))
      omega
def isF (r:List TExtent) (w:Int) (k:Nat):Prop:=k < r.length∧w≤(gt r k).Len∧∀ j,j < k→(gt r j).Len < w
def isL (r:List TExtent) (k:Nat):Prop:=k < r.length∧(∀ j,j < r.length→(gt r j).Len≤(gt r k).Len)∧∀ j,j < k→(gt r j).Len < (gt r k).Len
def allS (r:List TExtent) (w:Int):Prop:=∀ j,j < r.length→(gt r j).Len < w
def cut (r:List TExtent) (k:Nat) (w:Int):List TExtent:=if (gt r k).Len=w then r.eraseIdx k else r.set k ⟨(gt r k).At+w,(gt r k).Len - w⟩
def good (r:List TExtent):Prop:=∀ x∈r,val x=true
theorem good_gt {r:List TExtent} (h:good r) {k:Nat} (hk:k < r.length):0≤(gt r k).At∧1≤(gt r k).Len∧(gt r k).At < 512∧(gt r k).Len≤512 - (gt r k).At:=by
  rw [gt_lt hk];exact (val_iff _).1 (h _ (jw hk))
theorem gt_take {row:List TExtent} {len k:Nat} (h:k < len) (hl:len≤row.length):gt (row.take len) k=gt row k:=by
  rw [gt_lt (by simp;omega),gt_lt (by omega)];simp
theorem Delete_eq (n:Nat) (row:List TExtent) (len k:Nat) (hk:k < len) (hl:len≤row.length):∃ row',slices_Delete_f138_M2 n row len (k:Int) ((k:Int)+1)=some (len - 1,row')∧row'.length=row.length∧row'.take (len - 1)=(row.take len).eraseIdx k:=by
  have e1:((k:Int) == (k:Int)+1)=false:=by simp;omega
  have hp:(List.take (Int.toNat ((len:Int) - ((k:Int)+1))) (List.drop (Int.toNat ((k:Int)+1)) row)).length=len - (k+1):=by
    have a1:Int.toNat ((len:Int) - ((k:Int)+1))=len - (k+1):=by omega
    have a2:Int.toNat ((k:Int)+1)=k+1:=by omega
    rw [a1,a2];simp;omega
  have a0:Int.toNat ((k:Int) - 0)=k:=by omega
  have a3:k+(len - (k+1))=len - 1:=by omega
  have a4:Int.toNat (((len:Nat):Int) - ((len - 1:Nat):Int))=1:=by omega
  have a1:Int.toNat ((len:Int) - ((k:Int)+1))=len - (k+1):=by omega
  have a2:Int.toNat ((k:Int)+1)=k+1:=by omega
  refine ⟨overL (overL row k (List.take (len - (k+1)) (List.drop (k+1) row))) (len - 1) (zreps 1 (⟨0,0⟩:TExtent)),?_,by rw [overL_len,overL_len],?_⟩
  · simp only [slices_Delete_f138_M2,hp,a0,a3,e1,bif_ite,jn,if_false,a4,a1,a2]
    rw [a1,a2] at hp
    simp only [hp,a3,a4]
    rw [gd_pos _ (by omega),gd_pos _ (by omega),gd_pos _ (by omega)]
  · have hp':(List.take (len - (k+1)) (List.drop (k+1) row)).length=len - (k+1):=by have h:=hp;rw [a1,a2] at h;exact h
    have h1:overL row k (List.take (len - (k+1)) (List.drop (k+1) row))=row.take k ++ List.take (len - (k+1)) (List.drop (k+1) row) ++ row.drop (k+(len - (k+1))):=by
      rw [overL_pos (by rw [hp'];omega),hp']
    have h2:(row.take k ++ List.take (len - (k+1)) (List.drop (k+1) row)).length=len - 1:=by rw [ji,hp',jl];omega
    rw [overL_pos (by rw [overL_len,zreps_len];omega),jM,jX (by rw [jl,overL_len];omega),List.take_take,Nat.min_self,h1,jX (by rw [h2];exact js _),jN (by rw [h2];exact js _)]
    rw [List.eraseIdx_eq_take_drop_succ,List.take_take,List.drop_take,Nat.min_eq_left (by omega)]
theorem ext_scan (n:Nat) (w most:Int) (got row:List TExtent) (v:Int) (len:Nat) (hv:v=(len:Int)) (h0:0 < len) (hl:len≤row.length) (hn:len < n) (hw:1≤w) (hb:len≤1073741824) (hgot:got.length+1≤2147483648) (hg:good (row.take len)) :
    (∃ k,isF (row.take len) w k∧loopF (fun (x:Nat×Int×Int)=>extent_Take_b4 n w most got row v x.1 x.2.1 x.2.2) n (len,0,0)=some (.inl (got ++ [⟨(gt (row.take len) k).At,w⟩],cut (row.take len) k w,0))) ∨
    (∃ k,allS (row.take len) w∧isL (row.take len) k∧loopF (fun (x:Nat×Int×Int)=>extent_Take_b4 n w most got row v x.1 x.2.1 x.2.2) n (len,0,0)=some (.inr (len,(k:Int)))):=by
  subst hv
  have hr:(row.take len).length=len:=by simp;omega
  obtain ⟨y,h1,h2⟩:=loopF_inv (body:=fun (x:Nat×Int×Int)=>extent_Take_b4 n w most got row (len:Int) x.1 x.2.1 x.2.2)
    (fun x=>∃ lg i:Nat,x=(len,(lg:Int),(i:Int))∧i≤len∧lg < len∧(∀ j,j < i→(gt (row.take len) j).Len < w)∧(∀ j,j < i→(gt (row.take len) j).Len≤(gt (row.take len) lg).Len)∧(∀ j,j < lg→(gt (row.take len) j).Len < (gt (row.take len) lg).Len))
    (fun x=>len - x.2.2.toNat)
    (fun y=>(∃ k,isF (row.take len) w k∧y = .inl (got ++ [⟨(gt (row.take len) k).At,w⟩],cut (row.take len) k w,0))∨(∃ k,allS (row.take len) w∧isL (row.take len) k∧y = .inr (len,(k:Int)))) (by
      rintro x ⟨lg,i,rfl,hi,hlg,i1,i2,i3⟩
      by_cases hil:i < len
      · have c1:decide ((i:Int) < (len:Int))=true:=by simp;omega
        have c2:(0≤(i:Int)∧(i:Int) < (len:Int))∧i < row.length:=by omega
        have hgi:=good_gt hg (k:=i) (by rw [hr];exact hil)
        have e1:=gt_take hil hl
        have e2:=gt_take hlg hl
        simp only [extent_Take_b4,c1,bif_ite,if_true,jy,gd_pos _ c2,← e1,← e2]
        by_cases b1:(gt (row.take len) i).Len > w
        · refine .inr ⟨_,?_,.inl ⟨i,⟨by rw [hr];exact hil,by omega,i1⟩,rfl⟩⟩
          rw [decide_eq_true b1]
          simp only [if_true,gd_pos _ hgot]
          rw [wid (by omega),wid (by omega),List.take_set,cut,if_neg (by omega)]
        · rw [decide_eq_false b1]
          simp only [jn,if_false]
          by_cases b2:(gt (row.take len) i).Len=w
          · refine .inr ⟨_,?_,.inl ⟨i,⟨by rw [hr];exact hil,by omega,i1⟩,rfl⟩⟩
            have c3:((gt (row.take len) i).Len == w)=true:=by simp [b2]
            rw [c3]
            simp only [if_true,gd_pos _ hgot]
            rw [wid (by omega)]
            obtain ⟨row',d1,d2,d3⟩:=Delete_eq n row len i hil hl
            rw [d1]
            simp only [jf,d3,cut,b2,if_true]
            have:(⟨(gt (row.take len) i).At,w⟩:TExtent)=gt (row.take len) i:=by rw [← b2]
            rw [this]
          · have c3:((gt (row.take len) i).Len == w)=false:=by simp [b2]
            have c4:(0≤(lg:Int)∧(lg:Int) < (len:Int))∧lg < row.length:=by omega
            rw [c3]
            simp only [jn,if_false,gd_pos _ c4,extent_Take_k5]
            rw [wid (by omega)]
            by_cases b3:(gt (row.take len) i).Len > (gt (row.take len) lg).Len
            · rw [decide_eq_true b3]
              refine .inl ⟨_,rfl,⟨i,i+1,rfl,hil,hil,fun j hj=>?_,fun j hj=>?_,fun j hj=>?_⟩,by dsimp only;omega⟩
              · by_cases e:j=i
                · subst e;omega
                · exact i1 j (by omega)
              · by_cases e:j=i
                · subst e;omega
                · have:=i2 j (by omega);omega
              · have:=i2 j hj;omega
            · rw [decide_eq_false b3]
              refine .inl ⟨_,rfl,⟨lg,i+1,rfl,hil,hlg,fun j hj=>?_,fun j hj=>?_,i3⟩,by dsimp only;omega⟩
              · by_cases e:j=i
                · subst e;omega
                · exact i1 j (by omega)
              · by_cases e:j=i
                · subst e;omega
                · exact i2 j (by omega)
      · have:i=len:=by omega
        subst this
        refine .inr ⟨.inr (i,(lg:Int)),by simp [extent_Take_b4,bif_ite],.inr ⟨lg,fun j hj=>i1 j (by rw [hr] at hj;exact hj),⟨by rw [hr];exact hlg,fun j hj=>i2 j (by rw [hr] at hj;exact hj),i3⟩,rfl⟩⟩)
    n (len,0,0) ⟨0,0,rfl,by omega,h0,fun j hj=>by omega,fun j hj=>by omega,fun j hj=>by omega⟩ (by simpa using hn)
  rcases h2 with ⟨k,h3,rfl⟩ | ⟨k,h3,h4,rfl⟩
  · exact .inl ⟨k,h3,h1⟩
  · exact .inr ⟨k,h3,h4,h1⟩
theorem Clone_eq (n:Nat) (l:List TExtent) (hl:l.length≤2147483648):slices_Clone_f118 n l=some l:=by
  refine uniB_eq fun b hb=>?_
  cases b with
  | true=>rw [hb rfl];rfl
  | false=>simp [gd_pos _ hl]
def cmpA (x y:TExtent):Int:=if x.At < y.At then -1 else if y.At < x.At then 1 else 0
theorem cmpA_lt (x y:TExtent):cmpA x y < 0↔x.At < y.At:=by
  unfold cmpA
  split
  · simp [*]
  · split <;> simp [*] <;> omega
theorem cmpE_eq (n:Nat) (x y:TExtent):extent_sorted_1 n x y=some (cmpA x y):=by
  simp only [extent_sorted_1,cmp_Compare_f166,cmp_isNaN_f197,jf,bne_self_eq_false,bif_ite,jn,if_false,cmpA,decide_eq_true_eq,gt_iff_lt]
  split
  · rfl
  · split <;> rfl
theorem swoA:Go.Sort.SWO (Go.Proofs.ltOf cmpA):=by
  have h:∀ x y,Go.Proofs.ltOf cmpA x y=decide (x.At < y.At):=fun x y=>by
    unfold Go.Proofs.ltOf
    exact decide_eq_decide.2 (cmpA_lt x y)
  refine ⟨fun x=>?_,fun x y z=>?_,fun x y z=>?_⟩
  · rw [h];simp
  · rw [h,h,h];simp only [decide_eq_true_eq];omega
  · rw [h,h,h];simp only [decide_eq_false_iff_not];omega
theorem sorted_eq (n:Nat) (l:List TExtent) (hl:l.length≤2147483648):∃ r,extent_sorted n l=some r∧r.Perm l∧r.Pairwise fun x y=>x.At≤y.At:=by
  obtain ⟨r,h1,h2,h3⟩:=sortG_eq (f:=fun x y=>extent_sorted_1 n x y) (c:=cmpA) (l:=l) (fun x _ y _=>cmpE_eq n x y) swoA
  refine ⟨r,?_,h2,h3.imp fun {x y} h=>?_⟩
  · simp only [extent_sorted,Clone_eq n l hl,jf,slices_SortFunc_f164_c165,h1]
    rw [jN (by rw [h2.length_eq];exact js _)]
  · rw [cmpA_lt] at h;omega
def apart (x y:TExtent):Prop:=x.At+x.Len≤y.At
def adj (r:List TExtent):Prop:=∀ j,0 < j→j < r.length→(gt r (j - 1)).At+(gt r (j - 1)).Len≤(gt r j).At
theorem adj_iff {r:List TExtent} (hv:r.all val=true):adj r↔r.Pairwise apart:=by
  rw [List.pairwise_iff_getElem]
  constructor
  · intro h i j hi hj hij
    have key:∀ d,i+1+d < r.length→(gt r i).At+(gt r i).Len≤(gt r (i+1+d)).At:=by
      intro d
      induction d with
      | zero=>intro hd;simpa using h (i+1) (by omega) hd
      | succ d ih =>
        intro hd
        have h1:=ih (by omega)
        have h2:=h (i+1+(d+1)) (by omega) hd
        have e:i+1+(d+1) - 1=i+1+d:=by omega
        rw [e] at h2
        have h3:val (gt r (i+1+d))=true:=by
          rw [gt_lt (by omega)];exact jx.1 hv _ (jw _)
        have h3':=(val_iff _).1 h3
        omega
    have:=key (j - i - 1) (by omega)
    have e:i+1+(j - i - 1)=j:=by omega
    rw [e,gt_lt hi,gt_lt hj] at this
    exact this
  · intro h j h0 hj
    have:=h (j - 1) j (by omega) hj (by omega)
    rw [gt_lt (by omega),gt_lt hj]
    exact this
theorem trk_nodup (x:TExtent):(trk x).Nodup:=(trk_asc x).imp fun h=>by omega
theorem nodup_trks {r:List TExtent}:(trks r).Nodup↔r.Pairwise fun a b=>∀ x∈trk a,∀ y∈trk b,x≠y:=by
  unfold trks List.Nodup
  rw [List.pairwise_flatMap]
  exact ⟨fun h=>h.2,fun h=>⟨fun a _=>trk_nodup a,h⟩⟩
theorem nodup_apart {r:List TExtent} (hv:r.all val=true) (hs:r.Pairwise fun x y=>x.At≤y.At):(trks r).Nodup↔r.Pairwise apart:=by
  rw [nodup_trks]
  constructor
  · intro h
    refine List.Pairwise.imp_of_mem ?_ (hs.and h)
    rintro a b ha hb ⟨h1,h2⟩
    have va:=(val_iff _).1 (jx.1 hv a ha)
    have vb:=(val_iff _).1 (jx.1 hv b hb)
    unfold apart
    rcases Int.lt_or_le b.At (a.At+a.Len) with h3 | h3
    · exact absurd rfl (h2 b.At (trk_mem.2 (by omega)) b.At (trk_mem.2 (by omega)))
    · exact h3
  · intro h
    refine h.imp fun {a b} hab x hx y hy=>?_
    have:=trk_mem.1 hx
    have:=trk_mem.1 hy
    unfold apart at hab
    omega
theorem trkF_isSome (l:List TExtent):(trkF [] l).isSome=true↔l.all val=true∧(trks l).Nodup:=by
  constructor
  · intro h
    obtain ⟨s,hs⟩:=j3.1 h
    obtain ⟨h1,h2⟩:=trkF_spec hs
    have h3:=trkF_nodup hs List.nodup_nil
    rw [h1] at h3
    exact ⟨h2,by simpa using h3⟩
  · rintro ⟨h1,h2⟩
    rw [trkF_some h1 (by simpa using h2)];rfl
theorem trkO_of {l:List TExtent} (h:(trkF [] l).isSome=true):trkO l=trks l:=by
  obtain ⟨s,hs⟩:=j3.1 h
  have h1:=(trkF_spec hs).1
  simp [trkO,hs,h1]
theorem trkO_none {l:List TExtent} (h:(trkF [] l).isSome=false):trkO l=[]:=by
  have:trkF [] l=none:=by simpa using h
  simp [trkO,this]
theorem len_le_trks:∀ {l:List TExtent},l.all val=true→l.length≤(trks l).length
  | [],_=>by simp
  | x :: l,h=>by
    simp only [List.all_cons,je] at h
    have:=len_le_trks h.2
    have:=(val_iff _).1 h.1
    rw [trks_cons,ji,trk_length,jv]
    omega
theorem perm_trks {r l:List TExtent} (h:r.Perm l):(trks r).Perm (trks l):=h.flatMap_right trk
theorem perm_all {r l:List TExtent} (h:r.Perm l):r.all val=l.all val:=by
  rw [Bool.eq_iff_iff,jx,jx]
  exact ⟨fun H x hx=>H x (h.mem_iff.2 hx),fun H x hx=>H x (h.mem_iff.1 hx)⟩
theorem Valid_loop (n:Nat) (r:List TExtent) (hv:r.all val=true) (hn:r.length+1 < n) (hl:r.length≤1073741824):∃ y,loopF (fun (x:Int)=>extent_Valid_b3 n r x) n 1=some y∧((y = .inl false∧¬ adj r)∨(y = .inr ()∧adj r)):=by
  refine loopF_inv (body:=fun (x:Int)=>extent_Valid_b3 n r x) (fun x=>∃ k:Nat,x=(k:Int)∧1≤k∧(k≤r.length∨k=1)∧∀ j,0 < j→j < k→j < r.length→(gt r (j - 1)).At+(gt r (j - 1)).Len≤(gt r j).At) (fun x=>r.length - x.toNat)
    _ ?_ n 1 ⟨1,rfl,js _,.inr rfl,fun j h0 h1=>by omega⟩ (by omega)
  rintro x ⟨k,rfl,hk1,hk,hj⟩
  by_cases hkl:k < r.length
  · have c1:decide ((k:Int) < (r.length:Int))=true:=by simp;omega
    have e1:IntKind.wrap .i64 ((k:Int) - 1)=((k - 1:Nat):Int):=by rw [wid (by omega)];omega
    have c2:(0≤(k:Int)∧(k:Int) < (r.length:Int))∧(0≤((k - 1:Nat):Int)∧((k - 1:Nat):Int) < (r.length:Int))∧(0≤((k - 1:Nat):Int)∧((k - 1:Nat):Int) < (r.length:Int)):=by omega
    have v1:val (gt r (k - 1))=true:=by
      rw [gt_lt (by omega)];exact jx.1 hv _ (jw _)
    have v1':=(val_iff _).1 v1
    simp only [extent_Valid_b3,c1,bif_ite,if_true,e1,gd_pos _ c2,jy]
    rw [wid (n:=(gt r (k - 1)).At+(gt r (k - 1)).Len) (by omega)]
    by_cases b:(gt r k).At < (gt r (k - 1)).At+(gt r (k - 1)).Len
    · refine .inr ⟨.inl false,by simp [b],.inl ⟨rfl,fun h=>?_⟩⟩
      have:=h k (by omega) hkl
      omega
    · refine .inl ⟨((k+1:Nat):Int),by rw [wid (by omega)];simp [b],⟨k+1,rfl,by omega,.inl hkl,fun j h0 h1 h2=>?_⟩,by omega⟩
      by_cases e:j=k
      · subst e;omega
      · exact hj j h0 (by omega) h2
  · have c1:decide ((k:Int) < (r.length:Int))=false:=by simp;omega
    refine .inr ⟨.inr (),by simp only [extent_Valid_b3,c1,bif_ite,jn,if_false],.inr ⟨rfl,fun j h0 h1=>hj j h0 (by omega) h1⟩⟩
theorem Valid_eq (n:Nat) (hn:N0≤n) (l:List TExtent) (hl:l.length≤1073741824):extent_Valid n l=some (trkF [] l).isSome:=by
  by_cases h512:512 < l.length
  · have c1:decide ((l.length:Int) > 512)=true:=by simp;omega
    have:(trkF [] l).isSome=false:=by
      rw [← Ju,trkF_isSome]
      rintro ⟨h1,h2⟩
      have:=len_le_trks h1
      have:=few (m:=512) h2 (trks_range h1)
      omega
    simp only [extent_Valid,c1,bif_ite,if_true,this]
  · have c1:decide ((l.length:Int) > 512)=false:=by simp;omega
    have h:=loop_any (n:=n) (body:=fun (x:Int)=>extent_Valid_b4 n l (l.length:Int) x) l (fun x=>!val x) (.inl false) (.inr ())
      (fun k hk=>by
        have h1:decide ((k:Int) < ((l.length:Nat):Int))=true:=by simp;omega
        have h2:0≤(k:Int)∧(k:Int) < (l.length:Int):=by omega
        simp only [extent_Valid_b4,h1,bif_ite,if_true,jy,gd_pos _ h2,gt_lt hk,valid_eq,jf]
        rw [wid (by omega)]
        cases val l[k] <;> simp)
      (by simp [extent_Valid_b4,bif_ite]) (by unfold N0 at hn;omega)
    simp only [extent_Valid,c1,bif_ite,jn,if_false]
    rw [h]
    by_cases hv:l.all val=true
    · have ha:(l.any fun x=>!val x)=false:=by
        rw [← Ju,List.any_eq_true]
        rintro ⟨x,hx,hx2⟩
        have:=jx.1 hv x hx
        simp [this] at hx2
      obtain ⟨r,r1,r2,r3⟩:=sorted_eq n l (by omega)
      have hrl:=r2.length_eq
      have hrv:r.all val=true:=by rw [perm_all r2];exact hv
      obtain ⟨y,y1,y2⟩:=Valid_loop n r hrv (by unfold N0 at hn;omega) (by omega)
      simp only [ha,jn,if_false,jf,extent_Valid_k1,r1,y1]
      have e1:adj r↔(trks l).Nodup:=by
        rw [adj_iff hrv,← nodup_apart hrv r3];exact (perm_trks r2).nodup_iff
      rcases y2 with ⟨rfl,hy⟩ | ⟨rfl,hy⟩
      · have:(trkF [] l).isSome=false:=by
          rw [← Ju,trkF_isSome]
          rintro ⟨_,h2⟩
          exact hy (e1.2 h2)
        simp [this]
      · have:(trkF [] l).isSome=true:=(trkF_isSome l).2 ⟨hv,e1.1 hy⟩
        simp [this,extent_Valid_k2]
    · have ha:(l.any fun x=>!val x)=true:=by
        rw [List.any_eq_true]
        rw [Ju,List.all_eq_false] at hv
        obtain ⟨x,hx,hx2⟩:=hv
        exact ⟨x,hx,by simpa using hx2⟩
      have:(trkF [] l).isSome=false:=by
        rw [← Ju,trkF_isSome]
        rintro ⟨h1,_⟩
        exact hv h1
      simp [ha,this]
theorem Total_eq (n:Nat) (hn:N0≤n) (l:List TExtent) (hl:l.length≤1073741824):extent_Total n l=some (((trkO l).length:Nat):Int):=by
  simp only [extent_Total,Valid_eq n hn l hl,jf]
  by_cases hs:(trkF [] l).isSome=true
  · obtain ⟨hv,hnd⟩:=(trkF_isSome l).1 hs
    have h1:=len_le_trks hv
    have h2:=few (m:=512) hnd (trks_range hv)
    have h:=loop_list (n:=n) (σ:=Int) (body:=fun (x:Int×Int)=>extent_Total_b2 n l (l.length:Int) x.1 x.2) l (fun k s=>(s,(k:Int))) (fun s x=>.inl (s+x.Len)) (fun s=>s) (fun k s=>0≤s∧s≤512 * (k:Int)) (s:=0) (by simp)
      (fun k hk s hs=>by
        have c1:decide ((k:Int) < (l.length:Int))=true:=by simp;omega
        have c2:0≤(k:Int)∧(k:Int) < (l.length:Int):=by omega
        have v:=(val_iff _).1 (jx.1 hv _ (jw hk))
        simp only [extent_Total_b2,c1,bif_ite,if_true,gd_pos _ c2,jy,gt_lt hk]
        rw [wid (by omega),wid (by omega)];simp)
      (fun k hk s hs s' hf=>by
        have v:=(val_iff _).1 (jx.1 hv _ (jw hk))
        simp only [Sum.inl.injEq] at hf
        omega)
      (fun s _=>by simp [extent_Total_b2,bif_ite]) (by unfold N0 at hn;omega)
    have e:∀ (l:List TExtent) (s:Int),l.all val=true→runL (fun s x=>(.inl (s+x.Len):Int ⊕ Int)) (fun s=>s) l s=s+(((trks l).length:Nat):Int):=by
      intro l
      induction l with
      | nil=>intro s _;simp [runL,trks]
      | cons x l ih =>
        intro s hv
        simp only [List.all_cons,je] at hv
        have v:=(val_iff _).1 hv.1
        simp only [runL,ih _ hv.2,trks_cons,ji,trk_length]
        omega
    rw [e l 0 hv] at h
    have h':loopF (fun (x:Int×Int)=>extent_Total_b2 n l (l.length:Int) x.1 x.2) n (0,0)=some (((trks l).length:Nat):Int):=by simpa using h
    simp only [hs,jT,bif_ite,jn,if_false,h',jf,extent_Total_k1,trkO_of hs]
  · rw [Ju] at hs
    simp [hs,trkO_none hs]
def mn (a b:Int):Int:=if a < b then a else b
def fr (m:Int):Int→List TExtent→List TExtent
  | a,[]=>if a < m then [⟨a,m - a⟩] else []
  | a,x :: l=>(if a < mn m x.At then [⟨a,mn m x.At - a⟩] else []) ++ fr m (x.At+x.Len) l
theorem fr_nf {m:Int} (hm:m≤512):∀ {r:List TExtent} {e a:Int},e < a→0≤a→r.all val=true→r.Pairwise apart→(∀ x∈r,a≤x.At)→nf e (fr m a r)
  | [],e,a,he,ha,_,_,_=>by
    unfold fr
    split
    · exact ⟨(val_iff _).2 (by dsimp only;omega),he,trivial⟩
    · trivial
  | x :: l,e,a,he,ha,hv,hp,hx=>by
    simp only [List.all_cons,je] at hv
    obtain ⟨hp1,hp2⟩:=JU.1 hp
    have v:=(val_iff _).1 hv.1
    have hax:=hx x j4
    have key:∀ e',e' < x.At+x.Len→nf e' (fr m (x.At+x.Len) l):=fun e' he'=>fr_nf hm he' (by omega) hv.2 hp2 (fun y hy=>hp1 y hy)
    unfold fr
    by_cases c:a < mn m x.At
    · have h1:mn m x.At≤m∧mn m x.At≤x.At:=by unfold mn;split <;> omega
      simp only [c,if_true,List.singleton_append,Jj,Je]
      refine ⟨(val_iff _).2 (by dsimp only;omega),he,key _ (by dsimp only;omega)⟩
    · simp only [c,if_false,Je]
      exact key _ (by omega)
theorem fr_mem {m:Int}:∀ {r:List TExtent} {a:Int},r.all val=true→r.Pairwise apart→(∀ x∈r,a≤x.At)→∀ k,k∈trks (fr m a r)↔a≤k∧k < m∧k ∉ trks r
  | [],a,_,_,_,k=>by
    unfold fr
    split
    · simp only [trks_cons,jk,trk_mem]
      simp only [trks,List.flatMap_nil,List.not_mem_nil,or_false,not_false_eq_true,and_true]
      constructor <;> intro h <;> omega
    · simp only [trks,List.flatMap_nil,List.not_mem_nil,false_iff,not_false_eq_true,and_true]
      omega
  | x :: l,a,hv,hp,hx,k=>by
    simp only [List.all_cons,je] at hv
    obtain ⟨hp1,hp2⟩:=JU.1 hp
    have v:=(val_iff _).1 hv.1
    have hax:=hx x j4
    have ih:=fr_mem (m:=m) (a:=x.At+x.Len) hv.2 hp2 (fun y hy=>hp1 y hy) k
    have hlow:k∈trks l→x.At+x.Len≤k:=by
      intro hk
      obtain ⟨y,hy,hk⟩:=j9.1 hk
      have:=hp1 y hy
      have:=trk_mem.1 hk
      unfold apart at *
      omega
    have hmn:(k < mn m x.At)↔(k < m∧k < x.At):=by unfold mn;split <;> omega
    have hrhs:k ∉ trks (x :: l)↔¬ (x.At≤k∧k < x.At+x.Len)∧k ∉ trks l:=by
      rw [trks_cons,jk,trk_mem];exact not_or
    rw [hrhs]
    unfold fr
    have hl:k∈trks ((if a < mn m x.At then [⟨a,mn m x.At - a⟩] else []) ++ fr m (x.At+x.Len) l)↔(a≤k∧k < mn m x.At)∨k∈trks (fr m (x.At+x.Len) l):=by
      by_cases c:a < mn m x.At
      · simp only [c,if_true,List.singleton_append,Jj,Je,trks_cons,jk,trk_mem]
        constructor
        · rintro (h | h)
          · exact .inl (by omega)
          · exact .inr h
        · rintro (h | h)
          · exact .inl (by omega)
          · exact .inr h
      · simp only [c,if_false,Je]
        constructor
        · exact .inr
        · rintro (h | h)
          · exact absurd (show a < mn m x.At by omega) c
          · exact h
    rw [hl,ih,hmn]
    by_cases hk:k∈trks l
    · have h7:=hlow hk
      constructor
      · rintro (⟨_,_,h⟩ | ⟨_,_,h⟩)
        · omega
        · exact absurd hk h
      · rintro ⟨_,_,_,h⟩
        exact absurd hk h
    · simp only [hk,not_false_eq_true,and_true]
      omega
theorem Free_loop (n:Nat) (m:Int) (hm:0≤m∧m≤512) (r:List TExtent) (hv:r.all val=true) (hn:r.length < n) (hl:r.length≤1073741824) :
    ((loopF (fun (x:(List TExtent)×Int×Int)=>extent_Free_b3 n m r (r.length:Int) x.1 x.2.1 x.2.2) n ([],0,0)).bind fun y=>extent_Free_k1 n m y.1 y.2)=some (fr m 0 r):=by
  have h:=loop_list (n:=n) (σ:=List TExtent×Int) (body:=fun (x:(List TExtent)×Int×Int)=>extent_Free_b3 n m r (r.length:Int) x.1 x.2.1 x.2.2) r (fun k s=>(s.1,s.2,(k:Int)))
    (fun s x=>.inl (s.1 ++ (if s.2 < mn m x.At then [⟨s.2,mn m x.At - s.2⟩] else []),x.At+x.Len)) (fun s=>s) (fun k s=>s.1.length≤k∧0≤s.2∧s.2≤1024) (s:=([],0)) (by simp)
    (fun k hk s hs=>by
      have c1:decide ((k:Int) < (r.length:Int))=true:=by simp;omega
      have c2:0≤(k:Int)∧(k:Int) < (r.length:Int):=by omega
      have c3:s.1.length+1≤2147483648:=by omega
      have v:=(val_iff _).1 (jx.1 hv _ (jw hk))
      have hmn:0≤mn m r[k].At∧mn m r[k].At≤512:=by unfold mn;split <;> omega
      have e1:(if m < r[k].At then m else r[k].At)=mn m r[k].At:=rfl
      simp only [extent_Free_b3,extent_Free_k5,extent_Free_k4,c1,bif_ite,if_true,gd_pos _ c2,jy,gt_lt hk,e1,gd_pos _ c3]
      rw [wid (n:=r[k].At+r[k].Len) (by omega),wid (n:=(k:Int)+1) (by omega),wid (n:=mn m r[k].At - s.2) (by omega)]
      by_cases c:s.2 < mn m r[k].At
      · simp [c]
      · simp [c])
    (fun k hk s hs s' hf=>by
      have v:=(val_iff _).1 (jx.1 hv _ (jw hk))
      simp only [Sum.inl.injEq] at hf
      subst hf
      refine ⟨?_,by dsimp only;omega,by dsimp only;omega⟩
      dsimp only
      split
      · rw [ji];simp only [jv,jZ];omega
      · rw [ji];simp only [jZ];omega)
    (fun s _=>by simp [extent_Free_b3,bif_ite]) hn
  have e:∀ (l:List TExtent) (s:List TExtent×Int),l.all val=true→0≤s.2→s.2≤1024→s.1.length+l.length≤1073741824 →
      ∃ y,runL (fun s x=>(.inl (s.1 ++ (if s.2 < mn m x.At then [⟨s.2,mn m x.At - s.2⟩] else []),x.At+x.Len):(List TExtent×Int) ⊕ (List TExtent×Int))) (fun s=>s) l s=y∧extent_Free_k1 n m y.1 y.2=some (s.1 ++ fr m s.2 l):=by
    intro l
    induction l with
    | nil =>
      intro s _ h0 h1 h2
      refine ⟨s,rfl,?_⟩
      simp only [jZ] at h2
      have c3:s.1.length+1≤2147483648:=by omega
      simp only [extent_Free_k1,extent_Free_k2,bif_ite,gd_pos _ c3,decide_eq_true_eq,gt_iff_lt,fr]
      rw [wid (by omega)]
      split <;> simp
    | cons x l ih =>
      intro s hv h0 h1 h2
      simp only [List.all_cons,je] at hv
      have v:=(val_iff _).1 hv.1
      simp only [jv] at h2
      obtain ⟨y,y1,y2⟩:=ih (s.1 ++ (if s.2 < mn m x.At then [⟨s.2,mn m x.At - s.2⟩] else []),x.At+x.Len) hv.2 (by dsimp only;omega) (by dsimp only;omega) (by
        dsimp only
        split
        · rw [ji];simp only [jv,jZ];omega
        · rw [ji];simp only [jZ];omega)
      refine ⟨y,by simp only [runL];exact y1,?_⟩
      rw [y2]
      simp only [fr,jM]
  obtain ⟨y,y1,y2⟩:=e r ([],0) hv (by simp) (by simp) (by simpa using hl)
  rw [y1] at h
  have h':loopF (fun (x:(List TExtent)×Int×Int)=>extent_Free_b3 n m r (r.length:Int) x.1 x.2.1 x.2.2) n ([],0,0)=some y:=h
  rw [h',jf,y2];simp
theorem trks_app (a b:List TExtent):trks (a ++ b)=trks a ++ trks b:=by simp [trks]
theorem trks_one (x:TExtent):trks [x]=trk x:=by simp [trks]
theorem nf_weak {e e':Int} (h:e'≤e):∀ {l:List TExtent},nf e l→nf e' l
  | [],_=>trivial
  | x :: l,⟨h1,h2,h3⟩=>⟨h1,by omega,h3⟩
theorem nf_erase:∀ {l:List TExtent} {e:Int} (k:Nat),nf e l→nf e (l.eraseIdx k)
  | [],_,_,_=>by simp [nf]
  | x :: l,e,0,⟨h1,h2,h3⟩=>by
    have v:=(val_iff _).1 h1
    exact nf_weak (by omega) h3
  | x :: l,e,k+1,⟨h1,h2,h3⟩=>⟨h1,h2,nf_erase k h3⟩
theorem nf_set:∀ {l:List TExtent} {e:Int} {k:Nat} {w:Int},nf e l→k < l.length→1≤w→w < (gt l k).Len→nf e (l.set k ⟨(gt l k).At+w,(gt l k).Len - w⟩)
  | [],_,_,_,_,h,_,_=>by simp at h
  | x :: l,e,0,w,⟨h1,h2,h3⟩,_,hw,hw2=>by
    have v:=(val_iff _).1 h1
    simp only [gt_zero] at hw2
    refine ⟨(val_iff _).2 (by simp only [gt_zero];omega),by simp only [gt_zero];omega,?_⟩
    have e1:x.At+w+(x.Len - w)=x.At+x.Len:=by omega
    simp only [gt_zero,e1];exact h3
  | x :: l,e,k+1,w,⟨h1,h2,h3⟩,hk,hw,hw2=>by
    simp only [gt_succ] at hw2
    simp only [gt_succ,List.set_cons_succ]
    exact ⟨h1,h2,nf_set h3 (by simpa using hk) hw hw2⟩
theorem trk_split (a n w:Int) (h1:0≤w) (h2:w≤n):trk ⟨a,n⟩=trk ⟨a,w⟩ ++ trk ⟨a+w,n - w⟩:=by
  unfold trk
  have e:n.toNat=w.toNat+(n - w).toNat:=by omega
  rw [e,List.range_add,List.map_append,JR]
  congr 1
  refine List.map_congr_left fun j _=>?_
  simp only [Function.comp]
  omega
theorem trks_erase:∀ {r:List TExtent} {k:Nat},k < r.length→(trk (gt r k) ++ trks (r.eraseIdx k)).Perm (trks r)
  | [],k,h=>by simp at h
  | x :: r,0,_=>by simp [trks_cons]
  | x :: r,k+1,h=>by
    simp only [gt_succ,List.eraseIdx_cons_succ,trks_cons]
    refine List.Perm.trans ?_ (List.Perm.append_left (trk x) (trks_erase (by simpa using h)))
    rw [← jM,← jM]
    exact List.Perm.append_right _ List.perm_append_comm
theorem trks_set:∀ {r:List TExtent} {k:Nat} {w:Int},k < r.length→0≤w→w≤(gt r k).Len→(trk ⟨(gt r k).At,w⟩ ++ trks (r.set k ⟨(gt r k).At+w,(gt r k).Len - w⟩)).Perm (trks r)
  | [],k,_,h,_,_=>by simp at h
  | x :: r,0,w,_,h1,h2=>by
    simp only [gt_zero] at h2
    simp only [gt_zero,List.set_cons_zero,trks_cons]
    rw [← jM,← trk_split x.At x.Len w h1 h2]
  | x :: r,k+1,w,h,h1,h2=>by
    simp only [gt_succ] at h2
    simp only [gt_succ,List.set_cons_succ,trks_cons]
    refine List.Perm.trans ?_ (List.Perm.append_left (trk x) (trks_set (by simpa using h) h1 h2))
    rw [← jM,← jM]
    exact List.Perm.append_right _ List.perm_append_comm
theorem nf_good {e:Int} {l:List TExtent} (h:nf e l):good l:=fun x hx=>jx.1 (nf_val h) x hx
inductive Sel:Nat→List TExtent→Int→Prop
  | zero (r:List TExtent):Sel 0 r 0
  | nil (c:Nat):Sel c [] 0
  | step (c:Nat) (r:List TExtent) (k:Nat) (s:Int) (h:isL r k) (hs:Sel c (r.eraseIdx k) s):Sel (c+1) r ((gt r k).Len+s)
theorem Take_inv (N:Nat) (most:Int):∀ (m1 len:Nat) (w:Int) (got row:List TExtent),len < m1→len≤row.length→len < N→1≤w→w≤9223372036854775807→got.length+len≤1073741823→nf (-1) (row.take len)→got.all val=true →
    ∃ y,loopF (fun (x:Int×(List TExtent)×(List TExtent)×Nat)=>extent_Take_b2 N most x.1 x.2.1 x.2.2.1 x.2.2.2) m1 (w,got,row,len)=some y ∧
      (∀ v,y = .inl v→v.2.2=0∧nf (-1) v.2.1∧v.1.all val=true∧(trks v.1 ++ trks v.2.1).Perm (trks got ++ trks (row.take len))∧(((trks v.1).length:Nat):Int)=(((trks got).length:Nat):Int)+w∧((v.1.length:Nat):Int)≤most) ∧
      (y = .inr ()→∃ s,Sel (most - (got.length:Int)).toNat (row.take len) s∧s < w)
  | 0,len,_,_,_,h,_,_,_,_,_,_,_=>by omega
  | m1+1,len,w,got,row,h1,hl,hN,hw,hw2,hgl,hnf,hgv=>by
    have hg:=nf_good hnf
    have hr:(row.take len).length=len:=by simp;omega
    by_cases c:((got.length:Nat):Int) < most∧0 < len
    · have c1:(if (decide (((got.length:Nat):Int) < most))=true then (decide (((len:Nat):Int) > 0)) else false)=true:=by simp [c.1];omega
      rcases ext_scan N w most got row ((len:Nat):Int) len rfl c.2 hl hN hw (by omega) (by omega) hg with ⟨k,hk,hA⟩ | ⟨k,hk1,hk2,hA⟩
      · have hA':extent_Take_b2 N most w got row len=some (.inr (.inl (got ++ [⟨(gt (row.take len) k).At,w⟩],cut (row.take len) k w,0))):=by
          simp only [extent_Take_b2,c1,bif_ite,if_true,hA];rfl
        rw [loopF_done hA']
        have hkl:=hk.1
        have hgk:=good_gt hg hkl
        have hwk:=hk.2.1
        refine ⟨_,rfl,fun v hv=>?_,fun hv=>by cases hv⟩
        cases hv
        have hvw:val ⟨(gt (row.take len) k).At,w⟩=true:=(val_iff _).2 (by dsimp only;omega)
        have hlw:(trk ⟨(gt (row.take len) k).At,w⟩).length=w.toNat:=trk_length _
        refine ⟨rfl,?_,by rw [List.all_append,hgv];simp [hvw],?_,?_,?_⟩
        · dsimp only
          unfold cut
          split
          · exact nf_erase k hnf
          · exact nf_set hnf hkl hw (by omega)
        · dsimp only
          rw [trks_app,trks_one,jM]
          refine List.Perm.append_left _ ?_
          unfold cut
          split
          · rename_i e
            have h:=trks_erase hkl
            have e2:(⟨(gt (row.take len) k).At,w⟩:TExtent)=gt (row.take len) k:=by rw [← e]
            rw [e2];exact h
          · exact trks_set hkl (by omega) hwk
        · dsimp only
          rw [trks_app,trks_one,ji,hlw];omega
        · dsimp only
          rw [ji];simp only [jv,jZ];omega
      · have hkl:k < (row.take len).length:=hk2.1
        have hkl':k < len:=by omega
        have hgk:=good_gt hg hkl
        have hwk:=hk1 k hkl
        obtain ⟨row',e1,e2,e3⟩:=Delete_eq N row len k hkl' hl
        have e4:=gt_take hkl' hl
        have hA':extent_Take_b2 N most w got row len=some (.inl (w - (gt (row.take len) k).Len,got ++ [gt (row.take len) k],row',len - 1)):=by
          have d1:(0≤(k:Int)∧(k:Int) < (len:Int))∧k < row.length∧got.length+1≤2147483648:=by omega
          have d2:(0≤(k:Int)∧(k:Int) < (len:Int))∧k < row.length:=by omega
          simp only [extent_Take_b2,c1,bif_ite,if_true,hA,jf,extent_Take_k3,jy,gd_pos _ d1,gd_pos _ d2]
          rw [wid (by omega),e1,← e4,w64_id (by omega) (by omega)]
          rfl
        have hgl':(got ++ [gt (row.take len) k]).length=got.length+1:=by simp
        have hvk:val (gt (row.take len) k)=true:=(val_iff _).2 hgk
        rw [loopF_step hA']
        obtain ⟨y,q1,q2,q3⟩:=Take_inv N most m1 (len - 1) (w - (gt (row.take len) k).Len) (got ++ [gt (row.take len) k]) row' (by omega) (by omega) (by omega) (by omega) (by omega) (by rw [hgl'];omega) (by rw [e3];exact nf_erase k hnf) (by rw [List.all_append,hgv];simp [hvk])
        refine ⟨y,q1,fun v hv=>?_,fun hv=>?_⟩
        · obtain ⟨b1,b2,b3,b4,b5,b6⟩:=q2 v hv
          refine ⟨b1,b2,b3,?_,?_,b6⟩
          · refine b4.trans ?_
            rw [e3,trks_app,trks_one,jM]
            exact List.Perm.append_left _ (trks_erase hkl)
          · rw [b5,trks_app,trks_one,ji,trk_length];omega
        · obtain ⟨s,s1,s2⟩:=q3 hv
          rw [e3,hgl'] at s1
          have e5:(most - (got.length:Int)).toNat=(most - ((got.length+1:Nat):Int)).toNat+1:=by omega
          refine ⟨_,by rw [e5];exact Sel.step _ _ k s hk2 s1,by omega⟩
    · have c1:(if (decide (((got.length:Nat):Int) < most))=true then (decide (((len:Nat):Int) > 0)) else false)=false:=by
        rw [← Ju]
        intro h
        split at h
        · rename_i h3
          simp at h h3
          omega
        · cases h
      refine ⟨.inr (),loopF_done ?_,fun v hv=>by (cases hv),fun _=>⟨0,?_,by omega⟩⟩
      · simp only [extent_Take_b2,c1,bif_ite,jn,if_false]
      · by_cases c2:0 < len
        · have:(most - (got.length:Int)).toNat=0:=by omega
          rw [this];exact Sel.zero _
        · have:row.take len=[]:=List.eq_nil_of_length_eq_zero (by omega)
          rw [this];exact Sel.nil _
theorem Take_out (n:Nat) (hn:N0≤n) (l:List TExtent) (w most:Int) (hl:l.length≤2097152) (hw2:w≤9223372036854775807) :
    (extent_Take n l w most=some ([],[],1)∧¬ ((chk 512 (-1) l=true∧1≤w)∧1≤most)) ∨
    (chk 512 (-1) l=true∧∃ v,extent_Take n l w most=some v∧v.2.2=0∧nf (-1) v.2.1∧v.1.all val=true∧(trks v.1 ++ trks v.2.1).Perm (trks l)∧(((trks v.1).length:Nat):Int)=w∧((v.1.length:Nat):Int)≤most) ∨
    (chk 512 (-1) l=true∧extent_Take n l w most=some ([],[],200)∧∃ s,Sel most.toNat l s∧s < w):=by
  have hln:l.length < n:=by unfold N0 at hn;omega
  simp only [extent_Take,Check_eq n l 512 hln (by omega),jf]
  by_cases c:(chk 512 (-1) l=true∧1≤w)∧1≤most
  · have c1:(if (if (!(chk 512 (-1) l))=true then true else (decide (w < 1)))=true then true else (decide (most < 1)))=false:=by
      have h1:¬ w < 1:=by omega
      have h2:¬ most < 1:=by omega
      simp [c.1.1,h1,h2]
    have hnf:=((chk_iff 512 l (-1)).1 c.1.1).1
    obtain ⟨y,h1,h2,h3⟩:=Take_inv n most n l.length w [] l hln (js _) hln c.1.2 hw2 (by simp;omega) (by rw [JF];exact hnf) rfl
    rw [JF] at h2 h3
    simp only [c1,bif_ite,jn,if_false,Clone_eq n l (by omega),jf]
    rw [h1]
    cases y with
    | inl v =>
      obtain ⟨b1,b2,b3,b4,b5,b6⟩:=h2 v rfl
      refine .inr (.inl ⟨c.1.1,v,rfl,b1,b2,b3,by simpa [trks] using b4,by simpa [trks] using b5,b6⟩)
    | inr v =>
      obtain ⟨s,s1,s2⟩:=h3 rfl
      exact .inr (.inr ⟨c.1.1,rfl,s,by simpa using s1,s2⟩)
  · have c1:(if (if (!(chk 512 (-1) l))=true then true else (decide (w < 1)))=true then true else (decide (most < 1)))=true:=by
      by_cases h0:chk 512 (-1) l=true
      · by_cases h1:w < 1
        · simp [h0,h1]
        · have h2:most < 1:=by
            by_cases h2:most < 1
            · exact h2
            · exact absurd ⟨⟨h0,by omega⟩,by omega⟩ c
          simp [h2]
      · simp [h0]
    simp only [c1,bif_ite,if_true]
    exact .inl ⟨trivial,c⟩
theorem upT_snd (l:List TExtent):∀ k,k≤l.length→(upT (exF l) k).map Prod.snd=trks (l.take k)
  | 0,_=>by simp [upT,trks]
  | k+1,h=>by
    have hk:k < l.length:=by omega
    rw [List.take_succ_eq_append_getElem hk]
    simp only [upT,List.map_append,JR,upT_snd l k (by omega)]
    have e:trks (l.take k ++ [l[k]])=trks (l.take k) ++ trk l[k]:=by simp only [trks,List.flatMap_append,List.flatMap_cons,List.flatMap_nil,List.append_nil]
    rw [e]
    congr 1
    unfold trk exF
    rw [gt_lt hk]
    rfl
theorem upT_all (l:List TExtent):(upT (exF l) l.length).map Prod.snd=trks l:=by
  rw [upT_snd l l.length (js _),JF]
theorem firstT_snd {track:Int}:∀ {ps:List (Nat×Int)},(firstT track ps).2=decide (track∈ps.map Prod.snd)
  | []=>by simp [firstT]
  | p :: ps=>by
    simp only [firstT,List.map_cons,List.mem_cons]
    by_cases h:p.2=track
    · simp [h]
    · have h':¬ track=p.2:=fun e=>h e.symm
      simp only [h,if_false,h',false_or]
      exact firstT_snd
theorem okL_of {l:List TExtent} (h:(trkF [] l).isSome=true):okL l:=by
  obtain ⟨hv,hnd⟩:=(trkF_isSome l).1 h
  have h1:=len_le_trks hv
  have h2:=few (m:=512) hnd (trks_range hv)
  have h3:(upT (exF l) l.length).length=(trks l).length:=by rw [← upT_all l,List.length_map]
  refine ⟨by omega,fun j hj=>?_,by omega⟩
  have v:val (gt l j)=true:=by rw [gt_lt hj];exact jx.1 hv _ (jw _)
  have v':=(val_iff _).1 v
  simp only [exF]
  omega
theorem Index_eq (n:Nat) (hn:N0≤n) (l:List TExtent) (track:Int) (hl:l.length≤1073741824):extent_Index n l track=some (if (trkF [] l).isSome=true then firstT track (upT (exF l) l.length) else (0,false)):=by
  simp only [extent_Index,Valid_eq n hn l hl,jf]
  by_cases h:(trkF [] l).isSome=true
  · simp only [h,if_true];rw [gd_pos _ (okL_of h)]
  · rw [Ju] at h;simp [h]
theorem Free_val (n:Nat) (hn:N0≤n) (l:List TExtent) (m:Int) (hl:l.length≤2097152) (h:(trkF [] l).isSome=true) (hm:0≤m∧m≤512) :
    ∃ R,extent_Free n l m=some R∧nf (-1) R∧(∀ k,k∈trks R↔0≤k∧k < m∧k ∉ trks l)∧R.length≤512:=by
  obtain ⟨hv,hnd⟩:=(trkF_isSome l).1 h
  obtain ⟨r,r1,r2,r3⟩:=sorted_eq n l (by omega)
  have hrl:=r2.length_eq
  have hrv:r.all val=true:=by rw [perm_all r2];exact hv
  have hap:r.Pairwise apart:=(nodup_apart hrv r3).1 ((perm_trks r2).nodup_iff.2 hnd)
  have hle:=len_le_trks hv
  have hfw:=few (m:=512) hnd (trks_range hv)
  have hlo:∀ x∈r,0≤x.At:=fun x hx=>((val_iff _).1 (jx.1 hrv x hx)).1
  have hnf:nf (-1) (fr m 0 r):=fr_nf hm.2 (by omega) (by omega) hrv hap hlo
  have hF:=Free_loop n m hm r hrv (by unfold N0 at hn;omega) (by omega)
  have c1:(if (if (!(trkF [] l).isSome)=true then true else (decide (m < 0)))=true then true else (decide (m > 512)))=false:=by
    have h1:¬ m < 0:=by omega
    have h2:¬ m > 512:=by omega
    simp [h,h1,h2]
  refine ⟨fr m 0 r,?_,hnf,fun k=>?_,?_⟩
  · simp only [extent_Free,Valid_eq n hn l (by omega),jf,c1,bif_ite,jn,if_false,r1]
    exact hF
  · rw [fr_mem hrv hap hlo,(perm_trks r2).mem_iff]
  · have h1:=len_le_trks (nf_val hnf)
    have h2:=few (m:=512) ((nf_asc hnf).imp fun h=>by omega) (trks_range (nf_val hnf))
    omega
def tk (w:Int) (x:TExtent):Int:=if x.Len < w then x.Len else w
def kpA:Int→List TExtent→List TExtent
  | _,[]=>[]
  | w,x :: l=>(if 0 < tk w x then [⟨x.At,tk w x⟩] else []) ++ kpA (w - tk w x) l
def kpB:Int→List TExtent→List TExtent
  | _,[]=>[]
  | w,x :: l=>(if tk w x < x.Len then [⟨x.At+tk w x,x.Len - tk w x⟩] else []) ++ kpB (w - tk w x) l
theorem Keep_loop (n:Nat) (l:List TExtent) (hv:l.all val=true) (w:Int) (hw:0≤w∧w≤9223372036854775807) (hn:l.length < n) (hl:l.length≤1073741824) :
    loopF (fun (x:Int×(List TExtent)×(List TExtent)×Int)=>extent_Keep_b2 n l (l.length:Int) x.1 x.2.1 x.2.2.1 x.2.2.2) n (w,[],[],0)=some (kpA w l,kpB w l):=by
  have h:=loop_list (n:=n) (σ:=Int×List TExtent×List TExtent) (body:=fun (x:Int×(List TExtent)×(List TExtent)×Int)=>extent_Keep_b2 n l (l.length:Int) x.1 x.2.1 x.2.2.1 x.2.2.2) l (fun k s=>(s.1,s.2.1,s.2.2,(k:Int)))
    (fun s x=>.inl (s.1 - tk s.1 x,s.2.1 ++ (if 0 < tk s.1 x then [⟨x.At,tk s.1 x⟩] else []),s.2.2 ++ (if tk s.1 x < x.Len then [⟨x.At+tk s.1 x,x.Len - tk s.1 x⟩] else []))) (fun s=>(s.2.1,s.2.2)) (fun k s=>0≤s.1∧s.1≤9223372036854775807∧s.2.1.length≤k∧s.2.2.length≤k) (s:=(w,[],[])) (by simp [hw])
    (fun k hk s hs=>by
      have c1:decide ((k:Int) < (l.length:Int))=true:=by simp;omega
      have c2:0≤(k:Int)∧(k:Int) < (l.length:Int):=by omega
      have v:=(val_iff _).1 (jx.1 hv _ (jw hk))
      have e1:(if l[k].Len < s.1 then l[k].Len else s.1)=tk s.1 l[k]:=rfl
      have ht:0≤tk s.1 l[k]∧tk s.1 l[k]≤l[k].Len∧tk s.1 l[k]≤s.1:=by unfold tk;split <;> omega
      have c3:s.2.1.length+1≤2147483648:=by omega
      have c4:s.2.2.length+1≤2147483648:=by omega
      simp only [extent_Keep_b2,extent_Keep_k4,extent_Keep_k5,extent_Keep_k3,c1,bif_ite,if_true,gd_pos _ c2,jy,gt_lt hk,e1,gd_pos _ c3,gd_pos _ c4,decide_eq_true_eq,gt_iff_lt]
      rw [w64_id (n:=s.1 - tk s.1 l[k]) (by omega) (by omega),wid (n:=(k:Int)+1) (by omega),wid (n:=l[k].At+tk s.1 l[k]) (by omega),wid (n:=l[k].Len - tk s.1 l[k]) (by omega)]
      by_cases h1:0 < tk s.1 l[k] <;> by_cases h2:tk s.1 l[k] < l[k].Len <;> simp [h1,h2])
    (fun k hk s hs s' hf=>by
      have v:=(val_iff _).1 (jx.1 hv _ (jw hk))
      have ht:0≤tk s.1 l[k]∧tk s.1 l[k]≤l[k].Len∧tk s.1 l[k]≤s.1:=by unfold tk;split <;> omega
      simp only [Sum.inl.injEq] at hf
      subst hf
      dsimp only
      refine ⟨by omega,by omega,?_,?_⟩
      · rw [ji];split <;> simp <;> omega
      · rw [ji];split <;> simp <;> omega)
    (fun s _=>by simp [extent_Keep_b2,bif_ite]) hn
  have e:∀ (l:List TExtent) (s:Int×List TExtent×List TExtent),runL (fun (s:Int×List TExtent×List TExtent) (x:TExtent)=>(.inl (s.1 - tk s.1 x,s.2.1 ++ (if 0 < tk s.1 x then [⟨x.At,tk s.1 x⟩] else []),s.2.2 ++ (if tk s.1 x < x.Len then [⟨x.At+tk s.1 x,x.Len - tk s.1 x⟩] else [])):(Int×List TExtent×List TExtent) ⊕ (List TExtent×List TExtent))) (fun s=>(s.2.1,s.2.2)) l s=(s.2.1 ++ kpA s.1 l,s.2.2 ++ kpB s.1 l):=by
    intro l
    induction l with
    | nil=>intro s;simp [runL,kpA,kpB]
    | cons x l ih=>intro s;simp only [runL,ih,kpA,kpB,jM]
  rw [e] at h
  simpa using h
def mx (w:Int):Int:=if 0 > w then 0 else w
def t0 (w:Int) (x:TExtent):Int:=if (if x.Len < w then x.Len else w) > 0 then (if x.Len < w then x.Len else w) else 0
theorem kp_len:∀ (l:List TExtent) (w:Int),(kpA w l).length≤l.length∧(kpB w l).length≤l.length
  | [],w=>by simp [kpA,kpB]
  | x :: l,w=>by
    obtain ⟨h1,h2⟩:=kp_len l (w - tk w x)
    simp only [kpA,kpB,ji,jv]
    constructor <;> (split <;> simp <;> omega)
end Go.Proofs.YtijnkhcfondehaaGreatDoor
