/- Text. -/
import Derived.Test.YtijnkhcfondehaaGreatDoorAE21
import Derived.Test.YtijnkhcfondehaaGreatDoorM
set_option linter.unusedSimpArgs false
set_option linter.unusedVariables false
set_option maxRecDepth 100000
namespace Go.Proofs.YtijnkhcfondehaaGreatDoor
open Go.AE
def N0:Nat:=4194304
theorem wid {n:Int} (h:-4611686018427387904≤n∧n≤4611686018427387904):IntKind.wrap .i64 n=n:=w64_id (by omega) (by omega)
theorem bif_ite {α:Type} (b:Bool) (x y:α):(bif b then x else y)=if b=true then x else y:=by cases b <;> rfl
theorem ite_ff (p q:Bool):(if p=true then q else false)=(p && q):=by cases p <;> simp
theorem ite_tt (p q:Bool):(if p=true then true else q)=(p || q):=by cases p <;> simp
def val (x:TExtent):Bool:=decide (0≤x.At∧1≤x.Len∧x.At < 512∧x.Len≤512 - x.At)
theorem val_iff (x:TExtent):val x=true↔0≤x.At∧1≤x.Len∧x.At < 512∧x.Len≤512 - x.At:=by simp [val]
theorem val_text (x:TExtent):(if (if (if (decide (x.At ≥ 0))=true then (decide (x.Len ≥ 1)) else false)=true then (decide (x.At < 512)) else false)=true then (decide (x.Len≤(IntKind.wrap .i64 (512 - x.At)))) else false)=val x:=by
  by_cases hA:0≤x.At∧x.At < 512
  · rw [wid (by omega)]
    by_cases h2:1≤x.Len <;> by_cases h4:x.Len≤512 - x.At <;> simp [val,hA.1,hA.2,h2,h4]
  · by_cases h1:0≤x.At <;> by_cases h3:x.At < 512
    · exact absurd ⟨h1,h3⟩ hA
    all_goals simp [val,h1,h3]
theorem valid_eq (n:Nat) (x:TExtent):extent_valid n x=some (val x):=by simp only [extent_valid,val_text]
theorem one_eq (n:Nat) (x:TExtent):ref20_one n x=some (val x):=by simp only [ref20_one,val_text]
def chk (m:Int):Int→List TExtent→Bool
  | _,[]=>true
  | e,x :: l=>val x && decide (e < x.At) && decide (x.At+x.Len≤m) && chk m (x.At+x.Len) l
theorem Check_eq (n:Nat) (l:List TExtent) (m:Int) (hn:l.length < n) (hl:l.length≤2147483648):extent_Check n l m=some (chk m (-1) l):=by
  have h:=loop_list (σ:=Int) (body:=fun (x:Int×Int)=>extent_Check_b2 n m l (l.length:Int) x.1 x.2) l (fun k e=>(e,(k:Int)))
    (fun e x=>if val x && decide (e < x.At) && decide (x.At+x.Len≤m) then .inl (x.At+x.Len) else .inr (.inl false)) (fun _=>.inr ()) (fun _ _=>True) (s:=-1) trivial
    (fun k hk e _=>by
      have h1:decide ((k:Int) < (l.length:Int))=true:=by simp;omega
      have h2:(0:Int)≤(k:Int)∧(k:Int) < (l.length:Int):=by omega
      simp only [extent_Check_b2,h1,bif_ite,if_true,gd_pos _ h2,valid_eq,Option.bind_some,Int.toNat_natCast,gt_lt hk,ite_tt]
      by_cases hv:val l[k]=true
      · have hv':=(val_iff _).1 hv
        simp only [hv,Bool.not_true,Bool.false_or,Bool.true_and]
        rw [wid (by omega),wid (by omega)]
        have e1:(decide (l[k].At≤e) || decide (l[k].At+l[k].Len > m)) = !(decide (e < l[k].At) && decide (l[k].At+l[k].Len≤m)):=by
          rw [Bool.eq_iff_iff,Bool.or_eq_true,Bool.not_eq_true',Bool.and_eq_false_iff]
          simp only [decide_eq_true_eq,decide_eq_false_iff_not]
          omega
        rw [e1]
        cases (decide (e < l[k].At) && decide (l[k].At+l[k].Len≤m)) <;> simp
      · simp [hv])
    (fun _ _ _ _ _ _=>trivial) (fun e _=>by simp [extent_Check_b2,bif_ite]) hn
  have e:∀ (l:List TExtent) (e:Int),runL (fun e x=>if val x && decide (e < x.At) && decide (x.At+x.Len≤m) then .inl (x.At+x.Len) else (.inr (.inl false):Int ⊕ (Bool ⊕ Unit))) (fun _=>.inr ()) l e=if chk m e l then .inr () else .inl false:=by
    intro l
    induction l with
    | nil=>intro e;simp [runL,chk]
    | cons x l ih =>
      intro e
      simp only [runL,chk]
      by_cases h:(val x && decide (e < x.At) && decide (x.At+x.Len≤m))=true
      · simp only [h,if_true,Bool.true_and,ih]
      · rw [Bool.not_eq_true] at h
        simp [h]
  rw [e] at h
  simp only [extent_Check]
  have h':loopF (fun (x:Int×Int)=>extent_Check_b2 n m l (l.length:Int) x.1 x.2) n (-1,0)=some (if chk m (-1) l then .inr () else .inl false):=h
  rw [h']
  cases chk m (-1) l <;> rfl
def trk (x:TExtent):List Int:=(List.range x.Len.toNat).map fun (j:Nat)=>x.At+(j:Int)
def trks (l:List TExtent):List Int:=l.flatMap trk
def addAll:List Int→List Int→Option (List Int)
  | s,[]=>some s
  | s,k :: t=>if k∈s then none else addAll (s ++ [k]) t
def trkF:List Int→List TExtent→Option (List Int)
  | s,[]=>some s
  | s,x :: l=>if val x then (addAll s (trk x)).bind fun s'=>trkF s' l else none
def mark (s:List Int):List Bool:=(List.range 512).map fun (k:Nat)=>decide ((k:Int)∈s)
theorem mark_len (s:List Int):(mark s).length=512:=by simp [mark]
theorem mark_gt (s:List Int) {k:Int} (h:0≤k∧k < 512):gt (mark s) k.toNat=decide (k∈s):=by
  have h1:k.toNat < 512:=by omega
  rw [gt_lt (by rw [mark_len];exact h1)]
  simp only [mark,List.getElem_map,List.getElem_range]
  have:((k.toNat:Nat):Int)=k:=by omega
  rw [this]
theorem mark_set (s:List Int) {k:Int} (h:0≤k∧k < 512):List.set (mark s) k.toNat true=mark (s ++ [k]):=by
  refine List.ext_getElem (by simp [mark]) fun i h1 h2=>?_
  simp only [List.length_set,mark_len] at h1
  rw [List.getElem_set]
  simp only [mark,List.getElem_map,List.getElem_range,List.mem_append,List.mem_singleton]
  by_cases e:k.toNat=i
  · have:(i:Int)=k:=by omega
    simp [e,this]
  · have:¬ (i:Int)=k:=by omega
    simp [e,this]
theorem mark_nil:zreps 512 false=mark []:=by
  have e:mark []=List.replicate 512 false:=by
    unfold mark
    rw [List.eq_replicate_iff]
    refine ⟨by simp,fun b hb=>?_⟩
    obtain ⟨k,_,rfl⟩:=List.mem_map.1 hb
    simp
  rw [e];rfl
theorem addAll_length:∀ {t s s':List Int},addAll s t=some s'→s'=s ++ t
  | [],s,s',h=>by simp only [addAll,Option.some.injEq] at h;simp [h]
  | k :: t,s,s',h=>by
    simp only [addAll] at h
    split at h
    · cases h
    · rw [addAll_length h];simp
theorem trk_length (x:TExtent):(trk x).length=x.Len.toNat:=by simp [trk]
theorem trk_mem {x:TExtent} {k:Int}:k∈trk x↔x.At≤k∧k < x.At+x.Len:=by
  simp only [trk,List.mem_map,List.mem_range]
  constructor
  · rintro ⟨j,hj,rfl⟩;omega
  · rintro ⟨h1,h2⟩;exact ⟨(k - x.At).toNat,by omega,by omega⟩
theorem trk_get {x:TExtent} {k:Nat} (h:k < (trk x).length):(trk x)[k]=x.At+(k:Int):=by simp [trk]
theorem Tracks_in (n:Nat) (l:List TExtent) (i:Nat) (hi:i < l.length) (hv:val l[i]=true) (s:List Int) (hs:s.length≤1073741824) (hn:512 < n) :
    loopF (fun (x:(List Bool)×(List Int)×Int)=>ref20_Tracks_b4 n l (i:Int) x.1 x.2.1 x.2.2) n (mark s,s,l[i].At)=some (match addAll s (trk l[i]) with | some s'=>.inr (mark s',s') | none=>.inl ([],false)):=by
  have hv':=(val_iff _).1 hv
  have h:=loop_list (n:=n) (σ:=List Int) (body:=fun (x:(List Bool)×(List Int)×Int)=>ref20_Tracks_b4 n l (i:Int) x.1 x.2.1 x.2.2) (trk l[i]) (fun k s=>(mark s,s,l[i].At+(k:Int)))
    (fun s k=>if k∈s then .inr (.inl ([],false)) else .inl (s ++ [k])) (fun s=>.inr (mark s,s)) (fun k s'=>s'.length≤s.length+k) (s:=s) (by omega)
    (fun k hk s2 hs2=>by
      revert hs2
      generalize hs0:s.length=sl
      rw [hs0] at hs
      clear hs0
      revert s2
      intro s hs2
      have hk':=hk
      rw [trk_length] at hk'
      have h1:(0≤(i:Int)∧(i:Int) < (l.length:Int))∧(0≤(i:Int)∧(i:Int) < (l.length:Int)):=by omega
      have h2:decide (l[i].At+(k:Int) < IntKind.wrap .i64 (l[i].At+l[i].Len))=true:=by rw [wid (by omega)];simp;omega
      have h3:0≤l[i].At+(k:Int)∧l[i].At+(k:Int) < 512:=by omega
      have h4:(0≤l[i].At+(k:Int)∧l[i].At+(k:Int) < 512∧(mark s).length=512)∧(l[i].At+(k:Int)).toNat < (mark s).length:=by rw [mark_len];omega
      simp only [ref20_Tracks_b4,gd_pos _ h1,Int.toNat_natCast,gt_lt hi,h2,bif_ite,if_true,gd_pos _ h4,mark_gt s h3,trk_get hk,decide_eq_true_eq]
      by_cases hm:l[i].At+(k:Int)∈s
      · simp [hm]
      · have h5:s.length+1≤2147483648:=by omega
        simp only [hm,if_false,gd_pos _ h5,mark_set s h3]
        rw [wid (by omega)]
        have e5:l[i].At+(k:Int)+1=l[i].At+((k+1:Nat):Int):=by omega
        rw [e5])
    (fun k hk s hs s' hf=>by
      split at hf
      · cases hf
      · simp only [Sum.inl.injEq] at hf;subst hf;simp;omega)
    (fun s hs=>by
      have h1:(0≤(i:Int)∧(i:Int) < (l.length:Int))∧(0≤(i:Int)∧(i:Int) < (l.length:Int)):=by omega
      have h2:decide (l[i].At+(((trk l[i]).length:Nat):Int) < IntKind.wrap .i64 (l[i].At+l[i].Len))=false:=by
        have e:=trk_length l[i]
        rw [wid (by omega)]
        simp only [decide_eq_false_iff_not]
        omega
      simp only [ref20_Tracks_b4,gd_pos _ h1,Int.toNat_natCast,gt_lt hi,h2,bif_ite,Bool.false_eq_true,if_false]) (by rw [trk_length];omega)
  have e:∀ (t s:List Int),runL (fun s k=>if k∈s then (.inr (.inl ([],false)):List Int ⊕ ((List Int×Bool) ⊕ (List Bool×List Int))) else .inl (s ++ [k])) (fun s=>.inr (mark s,s)) t s=match addAll s t with | some s'=>.inr (mark s',s') | none=>.inl ([],false):=by
    intro t
    induction t with
    | nil=>intro s;simp [runL,addAll]
    | cons k t ih =>
      intro s
      simp only [runL,addAll]
      by_cases hm:k∈s
      · simp [hm]
      · simp only [hm,if_false,ih]
  rw [e] at h
  simpa using h
theorem Tracks_eq (n:Nat) (l:List TExtent) (hn:l.length < n) (hn2:512 < n) (hl:l.length≤2097152):ref20_Tracks n l=some (match trkF [] l with | some s=>(s,true) | none=>([],false)):=by
  have h:=loop_list (σ:=List Int) (body:=fun (x:(List Bool)×(List Int)×Int)=>ref20_Tracks_b2 n l x.1 x.2.1 x.2.2) l (fun k s=>(mark s,s,(k:Int)))
    (fun s x=>if val x then (match addAll s (trk x) with | some s'=>.inl s' | none=>.inr (.inl ([],false))) else .inr (.inl ([],false))) (fun s=>.inr s) (fun k s=>s.length≤512 * k) (s:=[]) (by simp)
    (fun k hk s hs=>by
      have h1:decide ((k:Int) < (l.length:Int))=true:=by simp;omega
      have h2:0≤(k:Int)∧(k:Int) < (l.length:Int):=by omega
      simp only [ref20_Tracks_b2,h1,bif_ite,if_true,gd_pos _ h2,one_eq,Option.bind_some,Int.toNat_natCast,gt_lt hk]
      by_cases hv:val l[k]=true
      · simp only [hv,Bool.not_true,Bool.false_eq_true,if_false,if_true]
        rw [Tracks_in n l k hk hv s (by omega) hn2]
        simp only [Option.bind_some]
        cases addAll s (trk l[k]) with
        | none=>rfl
        | some s' =>
          simp only [ref20_Tracks_k3]
          rw [wid (by omega)];simp
      · simp [hv])
    (fun k hk s hs s' hf=>by
      split at hf
      · rename_i hv
        have hv':=(val_iff _).1 hv
        split at hf
        · rename_i s2 h2
          simp only [Sum.inl.injEq] at hf;subst hf
          rw [addAll_length h2,List.length_append,trk_length];omega
        · cases hf
      · cases hf)
    (fun s hs=>by simp [ref20_Tracks_b2,bif_ite]) hn
  have e:∀ (l:List TExtent) (s:List Int),runL (fun s x=>if val x then (match addAll s (trk x) with | some s'=>.inl s' | none=>(.inr (.inl ([],false)):List Int ⊕ ((List Int×Bool) ⊕ List Int))) else .inr (.inl ([],false))) (fun s=>.inr s) l s=match trkF s l with | some s'=>.inr s' | none=>.inl ([],false):=by
    intro l
    induction l with
    | nil=>intro s;simp [runL,trkF]
    | cons x l ih =>
      intro s
      simp only [runL,trkF]
      by_cases hv:val x=true
      · simp only [hv,if_true]
        cases addAll s (trk x) with
        | none=>rfl
        | some s'=>simp only [Option.bind_some,ih]
      · simp [hv]
  rw [e] at h
  have h':loopF (fun (x:(List Bool)×(List Int)×Int)=>ref20_Tracks_b2 n l x.1 x.2.1 x.2.2) n (mark [],[],0)=_:=h
  simp only [ref20_Tracks,mark_nil,h',Option.bind_some]
  cases trkF [] l <;> rfl
theorem trkF_spec:∀ {l:List TExtent} {s s':List Int},trkF s l=some s'→s'=s ++ trks l∧l.all val=true
  | [],s,s',h=>by simp only [trkF,Option.some.injEq] at h;simp [h,trks]
  | x :: l,s,s',h=>by
    simp only [trkF] at h
    split at h
    · rename_i hv
      obtain ⟨s2,h1,h2⟩:=bind_some h
      obtain ⟨h3,h4⟩:=trkF_spec h2
      rw [addAll_length h1] at h3
      exact ⟨by rw [h3];simp [trks],by simp [hv,h4]⟩
    · cases h
theorem trks_range {l:List TExtent} (h:l.all val=true):∀ k∈trks l,0≤k∧k < 512:=by
  intro k hk
  obtain ⟨x,hx,hk⟩:=List.mem_flatMap.1 hk
  have hv:=(val_iff x).1 (List.all_eq_true.1 h x hx)
  have:=trk_mem.1 hk
  omega
def trkO (l:List TExtent):List Int:=(trkF [] l).getD []
theorem trkO_range (l:List TExtent):∀ k∈trkO l,0≤k∧k < 512:=by
  unfold trkO
  cases h:trkF [] l with
  | none=>simp
  | some s =>
    obtain ⟨h1,h2⟩:=trkF_spec h
    simp only [List.nil_append] at h1
    subst h1
    simpa using trks_range h2
theorem addAll_nodup:∀ {t s s':List Int},addAll s t=some s'→s.Nodup→s'.Nodup
  | [],s,s',h,hs=>by simp only [addAll,Option.some.injEq] at h;subst h;exact hs
  | k :: t,s,s',h,hs=>by
    simp only [addAll] at h
    split at h
    · cases h
    · rename_i hk
      refine addAll_nodup h (List.nodup_append.2 ⟨hs,by simp,?_⟩)
      rintro a ha b hb rfl
      simp only [List.mem_singleton] at hb;subst hb
      exact hk ha
theorem trkF_nodup:∀ {l:List TExtent} {s s':List Int},trkF s l=some s'→s.Nodup→s'.Nodup
  | [],s,s',h,hs=>by simp only [trkF,Option.some.injEq] at h;subst h;exact hs
  | x :: l,s,s',h,hs=>by
    simp only [trkF] at h
    split at h
    · obtain ⟨s2,h1,h2⟩:=bind_some h
      exact trkF_nodup h2 (addAll_nodup h1 hs)
    · cases h
theorem few:∀ {m:Nat} {s:List Int},s.Nodup→(∀ k∈s,0≤k∧k < (m:Int))→s.length≤m
  | 0,s,hn,hr=>by
    cases s with
    | nil=>simp
    | cons k t=>have:=hr k (by simp);omega
  | m+1,s,hn,hr=>by
    have h:=few (m:=m) (s:=s.erase (m:Int)) (hn.erase _) (fun k hk=>by
      have h1:=(List.Nodup.mem_erase_iff hn).1 hk
      have:=hr k h1.2
      have:=h1.1
      omega)
    rw [List.length_erase] at h
    split at h <;> omega
theorem trkO_few (l:List TExtent):(trkO l).length≤512:=by
  refine few ?_ (trkO_range l)
  unfold trkO
  cases h:trkF [] l with
  | none=>simp
  | some s=>simpa using trkF_nodup h List.nodup_nil
theorem Tracks_eq' (n:Nat) (l:List TExtent) (hn:N0≤n) (hl:l.length≤2097152):ref20_Tracks n l=some (trkO l,(trkF [] l).isSome):=by
  rw [Tracks_eq n l (by unfold N0 at hn;omega) (by unfold N0 at hn;omega) hl]
  unfold trkO
  cases trkF [] l <;> rfl
def addT (out:List TExtent) (k:Int):List TExtent :=
  if 0 < out.length∧(gt out (out.length - 1)).At+(gt out (out.length - 1)).Len=k then out.set (out.length - 1) ⟨(gt out (out.length - 1)).At,(gt out (out.length - 1)).Len+1⟩ else out ++ [⟨k,1⟩]
def nrm (p:List Bool):List TExtent:=(List.range 512).foldl (fun out (k:Nat)=>if gt p k then addT out (k:Int) else out) []
def nf:Int→List TExtent→Prop
  | _,[]=>True
  | e,x :: l=>val x=true∧e < x.At∧nf (x.At+x.Len) l
theorem snoc_cases {α:Type} (l:List α):l=[]∨∃ i z,l=i ++ [z]:=by
  rcases List.eq_nil_or_concat l with h | ⟨i,z,h⟩
  · exact .inl h
  · exact .inr ⟨i,z,by simpa using h⟩
theorem addT_nil (k:Int):addT [] k=[⟨k,1⟩]:=by simp [addT]
theorem gt_app_last {α:Type} [Inhabited α] (i:List α) (z:α):gt (i ++ [z]) ((i ++ [z]).length - 1)=z:=by
  rw [gt_lt (by simp)];simp
theorem addT_snoc (i:List TExtent) (z:TExtent) (k:Int):addT (i ++ [z]) k=if z.At+z.Len=k then i ++ [⟨z.At,z.Len+1⟩] else i ++ [z] ++ [⟨k,1⟩]:=by
  unfold addT
  rw [gt_app_last]
  have h:0 < (i ++ [z]).length:=by simp
  simp only [h,true_and]
  split
  · simp [List.set_append]
  · rfl
theorem trks_cons (x:TExtent) (l:List TExtent):trks (x :: l)=trk x ++ trks l:=by simp [trks]
theorem nf_gt:∀ {l:List TExtent} {e:Int},nf e l→∀ k∈trks l,e < k
  | [],_,_,k,hk=>by simp [trks] at hk
  | x :: l,e,h,k,hk=>by
    obtain ⟨h1,h2,h3⟩:=h
    have h1':=(val_iff _).1 h1
    rw [trks_cons,List.mem_append] at hk
    rcases hk with hk | hk
    · have:=trk_mem.1 hk;omega
    · have:=nf_gt h3 k hk;omega
theorem trk_asc (x:TExtent):(trk x).Pairwise (· < ·):=by
  unfold trk
  refine List.pairwise_map.2 (List.Pairwise.imp ?_ List.pairwise_lt_range)
  intro a b h;omega
theorem nf_asc:∀ {l:List TExtent} {e:Int},nf e l→(trks l).Pairwise (· < ·)
  | [],_,_=>by simp [trks]
  | x :: l,e,h=>by
    obtain ⟨h1,h2,h3⟩:=h
    rw [trks_cons,List.pairwise_append]
    refine ⟨trk_asc x,nf_asc h3,fun a ha b hb=>?_⟩
    have:=trk_mem.1 ha
    have:=nf_gt h3 b hb
    omega
theorem nf_val:∀ {l:List TExtent} {e:Int},nf e l→l.all val=true
  | [],_,_=>rfl
  | x :: l,e,h=>by simp [h.1,nf_val h.2.2]
theorem addAll_some:∀ {t s:List Int},(s ++ t).Nodup→addAll s t=some (s ++ t)
  | [],s,_=>by simp [addAll]
  | k :: t,s,h=>by
    have hk:k ∉ s:=fun hk=>(List.nodup_append.1 h).2.2 k hk k List.mem_cons_self rfl
    simp only [addAll,hk,if_false]
    rw [addAll_some (by simpa using h)];simp
theorem trkF_some:∀ {l:List TExtent} {s:List Int},l.all val=true→(s ++ trks l).Nodup→trkF s l=some (s ++ trks l)
  | [],s,_,_=>by simp [trkF,trks]
  | x :: l,s,hv,h=>by
    simp only [List.all_cons,Bool.and_eq_true] at hv
    rw [trks_cons,← List.append_assoc] at h
    simp only [trkF,hv.1,if_true]
    rw [addAll_some (List.nodup_append.1 h).1,Option.bind_some,trkF_some hv.2 h,trks_cons,List.append_assoc]
theorem nf_trkF {l:List TExtent} {e:Int} (h:nf e l):trkF [] l=some (trks l):=by
  have:=trkF_some (s:=[]) (nf_val h) (by
    rw [List.nil_append]
    exact List.Pairwise.imp (fun h=>by omega) (nf_asc h))
  simpa using this
theorem add_trk_aux (x:TExtent) (out:List TExtent) (ho:∀ i z,out=i ++ [z]→z.At+z.Len≠x.At):∀ m:Nat,((List.range m).map fun (j:Nat)=>x.At+(j:Int)).foldl addT out=if m=0 then out else out ++ [⟨x.At,(m:Int)⟩]
  | 0=>by simp
  | m+1=>by
    rw [List.range_succ,List.map_append,List.foldl_append,add_trk_aux x out ho m]
    simp only [List.map_cons,List.map_nil,List.foldl_cons,List.foldl_nil]
    by_cases hm:m=0
    · subst hm
      simp only [if_true]
      rcases snoc_cases out with rfl | ⟨i,z,rfl⟩
      · rw [addT_nil];simp
      · rw [addT_snoc]
        have:=ho i z rfl
        rw [if_neg (by simpa using this)]
        simp
    · simp only [hm,if_false]
      rw [addT_snoc];simp
def isL (r:List TExtent) (k:Nat):Prop:=k < r.length∧(∀ j,j < r.length→(gt r j).Len≤(gt r k).Len)∧∀ j,j < k→(gt r j).Len < (gt r k).Len
def cut (r:List TExtent) (k:Nat) (w:Int):List TExtent:=if (gt r k).Len=w then r.eraseIdx k else r.set k ⟨(gt r k).At+w,(gt r k).Len - w⟩
theorem Clone_eq (n:Nat) (l:List TExtent) (hl:l.length≤2147483648):slices_Clone_f118 n l=some l:=by
  refine uniB_eq fun b hb=>?_
  cases b with
  | true=>rw [hb rfl];rfl
  | false=>simp [gd_pos _ hl]
def cmpA (x y:TExtent):Int:=if x.At < y.At then -1 else if y.At < x.At then 1 else 0
theorem cmpA_lt (x y:TExtent):cmpA x y < 0↔x.At < y.At:=by
  unfold cmpA
  split
  · simp [*]
  · split <;> simp [*] <;> omega
theorem cmpE_eq (n:Nat) (x y:TExtent):extent_sorted_1 n x y=some (cmpA x y):=by
  simp only [extent_sorted_1,cmp_Compare_f166,cmp_isNaN_f197,Option.bind_some,bne_self_eq_false,bif_ite,Bool.false_eq_true,if_false,cmpA,decide_eq_true_eq,gt_iff_lt]
  split
  · rfl
  · split <;> rfl
theorem swoA:Go.Sort.SWO (Go.Proofs.ltOf cmpA):=by
  have h:∀ x y,Go.Proofs.ltOf cmpA x y=decide (x.At < y.At):=fun x y=>by
    unfold Go.Proofs.ltOf
    exact decide_eq_decide.2 (cmpA_lt x y)
  refine ⟨fun x=>?_,fun x y z=>?_,fun x y z=>?_⟩
  · rw [h];simp
  · rw [h,h,h];simp only [decide_eq_true_eq];omega
  · rw [h,h,h];simp only [decide_eq_false_iff_not];omega
theorem sorted_eq (n:Nat) (l:List TExtent) (hl:l.length≤2147483648):∃ r,extent_sorted n l=some r∧r.Perm l∧r.Pairwise fun x y=>x.At≤y.At:=by
  obtain ⟨r,h1,h2,h3⟩:=sortG_eq (f:=fun x y=>extent_sorted_1 n x y) (c:=cmpA) (l:=l) (fun x _ y _=>cmpE_eq n x y) swoA
  refine ⟨r,?_,h2,h3.imp fun {x y} h=>?_⟩
  · simp only [extent_sorted,Clone_eq n l hl,Option.bind_some,slices_SortFunc_f164_c165,h1]
    rw [List.take_of_length_le (by rw [h2.length_eq];exact Nat.le_refl _)]
  · rw [cmpA_lt] at h;omega
def apart (x y:TExtent):Prop:=x.At+x.Len≤y.At
def adj (r:List TExtent):Prop:=∀ j,0 < j→j < r.length→(gt r (j - 1)).At+(gt r (j - 1)).Len≤(gt r j).At
theorem adj_iff {r:List TExtent} (hv:r.all val=true):adj r↔r.Pairwise apart:=by
  rw [List.pairwise_iff_getElem]
  constructor
  · intro h i j hi hj hij
    have key:∀ d,i+1+d < r.length→(gt r i).At+(gt r i).Len≤(gt r (i+1+d)).At:=by
      intro d
      induction d with
      | zero=>intro hd;simpa using h (i+1) (by omega) hd
      | succ d ih =>
        intro hd
        have h1:=ih (by omega)
        have h2:=h (i+1+(d+1)) (by omega) hd
        have e:i+1+(d+1) - 1=i+1+d:=by omega
        rw [e] at h2
        have h3:val (gt r (i+1+d))=true:=by
          rw [gt_lt (by omega)];exact List.all_eq_true.1 hv _ (List.getElem_mem _)
        have h3':=(val_iff _).1 h3
        omega
    have:=key (j - i - 1) (by omega)
    have e:i+1+(j - i - 1)=j:=by omega
    rw [e,gt_lt hi,gt_lt hj] at this
    exact this
  · intro h j h0 hj
    have:=h (j - 1) j (by omega) hj (by omega)
    rw [gt_lt (by omega),gt_lt hj]
    exact this
theorem trk_nodup (x:TExtent):(trk x).Nodup:=(trk_asc x).imp fun h=>by omega
theorem nodup_trks {r:List TExtent}:(trks r).Nodup↔r.Pairwise fun a b=>∀ x∈trk a,∀ y∈trk b,x≠y:=by
  unfold trks List.Nodup
  rw [List.pairwise_flatMap]
  exact ⟨fun h=>h.2,fun h=>⟨fun a _=>trk_nodup a,h⟩⟩
theorem nodup_apart {r:List TExtent} (hv:r.all val=true) (hs:r.Pairwise fun x y=>x.At≤y.At):(trks r).Nodup↔r.Pairwise apart:=by
  rw [nodup_trks]
  constructor
  · intro h
    refine List.Pairwise.imp_of_mem ?_ (hs.and h)
    rintro a b ha hb ⟨h1,h2⟩
    have va:=(val_iff _).1 (List.all_eq_true.1 hv a ha)
    have vb:=(val_iff _).1 (List.all_eq_true.1 hv b hb)
    unfold apart
    rcases Int.lt_or_le b.At (a.At+a.Len) with h3 | h3
    · exact absurd rfl (h2 b.At (trk_mem.2 (by omega)) b.At (trk_mem.2 (by omega)))
    · exact h3
  · intro h
    refine h.imp fun {a b} hab x hx y hy=>?_
    have:=trk_mem.1 hx
    have:=trk_mem.1 hy
    unfold apart at hab
    omega
theorem trkF_isSome (l:List TExtent):(trkF [] l).isSome=true↔l.all val=true∧(trks l).Nodup:=by
  constructor
  · intro h
    obtain ⟨s,hs⟩:=Option.isSome_iff_exists.1 h
    obtain ⟨h1,h2⟩:=trkF_spec hs
    have h3:=trkF_nodup hs List.nodup_nil
    rw [h1] at h3
    exact ⟨h2,by simpa using h3⟩
  · rintro ⟨h1,h2⟩
    rw [trkF_some h1 (by simpa using h2)];rfl
theorem trkO_of {l:List TExtent} (h:(trkF [] l).isSome=true):trkO l=trks l:=by
  obtain ⟨s,hs⟩:=Option.isSome_iff_exists.1 h
  have h1:=(trkF_spec hs).1
  simp [trkO,hs,h1]
theorem trkO_none {l:List TExtent} (h:(trkF [] l).isSome=false):trkO l=[]:=by
  have:trkF [] l=none:=by simpa using h
  simp [trkO,this]
theorem len_le_trks:∀ {l:List TExtent},l.all val=true→l.length≤(trks l).length
  | [],_=>by simp
  | x :: l,h=>by
    simp only [List.all_cons,Bool.and_eq_true] at h
    have:=len_le_trks h.2
    have:=(val_iff _).1 h.1
    rw [trks_cons,List.length_append,trk_length,List.length_cons]
    omega
theorem perm_trks {r l:List TExtent} (h:r.Perm l):(trks r).Perm (trks l):=h.flatMap_right trk
theorem perm_all {r l:List TExtent} (h:r.Perm l):r.all val=l.all val:=by
  rw [Bool.eq_iff_iff,List.all_eq_true,List.all_eq_true]
  exact ⟨fun H x hx=>H x (h.mem_iff.2 hx),fun H x hx=>H x (h.mem_iff.1 hx)⟩
theorem Valid_loop (n:Nat) (r:List TExtent) (hv:r.all val=true) (hn:r.length+1 < n) (hl:r.length≤1073741824):∃ y,loopF (fun (x:Int)=>extent_Valid_b3 n r x) n 1=some y∧((y = .inl false∧¬ adj r)∨(y = .inr ()∧adj r)):=by
  refine loopF_inv (body:=fun (x:Int)=>extent_Valid_b3 n r x) (fun x=>∃ k:Nat,x=(k:Int)∧1≤k∧(k≤r.length∨k=1)∧∀ j,0 < j→j < k→j < r.length→(gt r (j - 1)).At+(gt r (j - 1)).Len≤(gt r j).At) (fun x=>r.length - x.toNat)
    _ ?_ n 1 ⟨1,rfl,Nat.le_refl _,.inr rfl,fun j h0 h1=>by omega⟩ (by omega)
  rintro x ⟨k,rfl,hk1,hk,hj⟩
  by_cases hkl:k < r.length
  · have c1:decide ((k:Int) < (r.length:Int))=true:=by simp;omega
    have e1:IntKind.wrap .i64 ((k:Int) - 1)=((k - 1:Nat):Int):=by rw [wid (by omega)];omega
    have c2:(0≤(k:Int)∧(k:Int) < (r.length:Int))∧(0≤((k - 1:Nat):Int)∧((k - 1:Nat):Int) < (r.length:Int))∧(0≤((k - 1:Nat):Int)∧((k - 1:Nat):Int) < (r.length:Int)):=by omega
    have v1:val (gt r (k - 1))=true:=by
      rw [gt_lt (by omega)];exact List.all_eq_true.1 hv _ (List.getElem_mem _)
    have v1':=(val_iff _).1 v1
    simp only [extent_Valid_b3,c1,bif_ite,if_true,e1,gd_pos _ c2,Int.toNat_natCast]
    rw [wid (n:=(gt r (k - 1)).At+(gt r (k - 1)).Len) (by omega)]
    by_cases b:(gt r k).At < (gt r (k - 1)).At+(gt r (k - 1)).Len
    · refine .inr ⟨.inl false,by simp [b],.inl ⟨rfl,fun h=>?_⟩⟩
      have:=h k (by omega) hkl
      omega
    · refine .inl ⟨((k+1:Nat):Int),by rw [wid (by omega)];simp [b],⟨k+1,rfl,by omega,.inl hkl,fun j h0 h1 h2=>?_⟩,by omega⟩
      by_cases e:j=k
      · subst e;omega
      · exact hj j h0 (by omega) h2
  · have c1:decide ((k:Int) < (r.length:Int))=false:=by simp;omega
    refine .inr ⟨.inr (),by simp only [extent_Valid_b3,c1,bif_ite,Bool.false_eq_true,if_false],.inr ⟨rfl,fun j h0 h1=>hj j h0 (by omega) h1⟩⟩
theorem Valid_eq (n:Nat) (hn:N0≤n) (l:List TExtent) (hl:l.length≤1073741824):extent_Valid n l=some (trkF [] l).isSome:=by
  by_cases h512:512 < l.length
  · have c1:decide ((l.length:Int) > 512)=true:=by simp;omega
    have:(trkF [] l).isSome=false:=by
      rw [← Bool.not_eq_true,trkF_isSome]
      rintro ⟨h1,h2⟩
      have:=len_le_trks h1
      have:=few (m:=512) h2 (trks_range h1)
      omega
    simp only [extent_Valid,c1,bif_ite,if_true,this]
  · have c1:decide ((l.length:Int) > 512)=false:=by simp;omega
    have h:=loop_any (n:=n) (body:=fun (x:Int)=>extent_Valid_b4 n l (l.length:Int) x) l (fun x=>!val x) (.inl false) (.inr ())
      (fun k hk=>by
        have h1:decide ((k:Int) < ((l.length:Nat):Int))=true:=by simp;omega
        have h2:0≤(k:Int)∧(k:Int) < (l.length:Int):=by omega
        simp only [extent_Valid_b4,h1,bif_ite,if_true,Int.toNat_natCast,gd_pos _ h2,gt_lt hk,valid_eq,Option.bind_some]
        rw [wid (by omega)]
        cases val l[k] <;> simp)
      (by simp [extent_Valid_b4,bif_ite]) (by unfold N0 at hn;omega)
    simp only [extent_Valid,c1,bif_ite,Bool.false_eq_true,if_false]
    rw [h]
    by_cases hv:l.all val=true
    · have ha:(l.any fun x=>!val x)=false:=by
        rw [← Bool.not_eq_true,List.any_eq_true]
        rintro ⟨x,hx,hx2⟩
        have:=List.all_eq_true.1 hv x hx
        simp [this] at hx2
      obtain ⟨r,r1,r2,r3⟩:=sorted_eq n l (by omega)
      have hrl:=r2.length_eq
      have hrv:r.all val=true:=by rw [perm_all r2];exact hv
      obtain ⟨y,y1,y2⟩:=Valid_loop n r hrv (by unfold N0 at hn;omega) (by omega)
      simp only [ha,Bool.false_eq_true,if_false,Option.bind_some,extent_Valid_k1,r1,y1]
      have e1:adj r↔(trks l).Nodup:=by
        rw [adj_iff hrv,← nodup_apart hrv r3];exact (perm_trks r2).nodup_iff
      rcases y2 with ⟨rfl,hy⟩ | ⟨rfl,hy⟩
      · have:(trkF [] l).isSome=false:=by
          rw [← Bool.not_eq_true,trkF_isSome]
          rintro ⟨_,h2⟩
          exact hy (e1.2 h2)
        simp [this]
      · have:(trkF [] l).isSome=true:=(trkF_isSome l).2 ⟨hv,e1.1 hy⟩
        simp [this,extent_Valid_k2]
    · have ha:(l.any fun x=>!val x)=true:=by
        rw [List.any_eq_true]
        rw [Bool.not_eq_true,List.all_eq_false] at hv
        obtain ⟨x,hx,hx2⟩:=hv
        exact ⟨x,hx,by simpa using hx2⟩
      have:(trkF [] l).isSome=false:=by
        rw [← Bool.not_eq_true,trkF_isSome]
        rintro ⟨h1,_⟩
        exact hv h1
      simp [ha,this]
theorem RValid_eq (n:Nat) (hn:N0≤n) (l:List TExtent) (hl:l.length≤2097152):ref20_Valid n l=some (trkF [] l).isSome:=by
  simp only [ref20_Valid,Tracks_eq' n l hn hl,Option.bind_some]
theorem Total_eq (n:Nat) (hn:N0≤n) (l:List TExtent) (hl:l.length≤1073741824):extent_Total n l=some (((trkO l).length:Nat):Int):=by
  simp only [extent_Total,Valid_eq n hn l hl,Option.bind_some]
  by_cases hs:(trkF [] l).isSome=true
  · obtain ⟨hv,hnd⟩:=(trkF_isSome l).1 hs
    have h1:=len_le_trks hv
    have h2:=few (m:=512) hnd (trks_range hv)
    have h:=loop_list (n:=n) (σ:=Int) (body:=fun (x:Int×Int)=>extent_Total_b2 n l (l.length:Int) x.1 x.2) l (fun k s=>(s,(k:Int))) (fun s x=>.inl (s+x.Len)) (fun s=>s) (fun k s=>0≤s∧s≤512 * (k:Int)) (s:=0) (by simp)
      (fun k hk s hs=>by
        have c1:decide ((k:Int) < (l.length:Int))=true:=by simp;omega
        have c2:0≤(k:Int)∧(k:Int) < (l.length:Int):=by omega
        have v:=(val_iff _).1 (List.all_eq_true.1 hv _ (List.getElem_mem hk))
        simp only [extent_Total_b2,c1,bif_ite,if_true,gd_pos _ c2,Int.toNat_natCast,gt_lt hk]
        rw [wid (by omega),wid (by omega)];simp)
      (fun k hk s hs s' hf=>by
        have v:=(val_iff _).1 (List.all_eq_true.1 hv _ (List.getElem_mem hk))
        simp only [Sum.inl.injEq] at hf
        omega)
      (fun s _=>by simp [extent_Total_b2,bif_ite]) (by unfold N0 at hn;omega)
    have e:∀ (l:List TExtent) (s:Int),l.all val=true→runL (fun s x=>(.inl (s+x.Len):Int ⊕ Int)) (fun s=>s) l s=s+(((trks l).length:Nat):Int):=by
      intro l
      induction l with
      | nil=>intro s _;simp [runL,trks]
      | cons x l ih =>
        intro s hv
        simp only [List.all_cons,Bool.and_eq_true] at hv
        have v:=(val_iff _).1 hv.1
        simp only [runL,ih _ hv.2,trks_cons,List.length_append,trk_length]
        omega
    rw [e l 0 hv] at h
    have h':loopF (fun (x:Int×Int)=>extent_Total_b2 n l (l.length:Int) x.1 x.2) n (0,0)=some (((trks l).length:Nat):Int):=by simpa using h
    simp only [hs,Bool.not_true,bif_ite,Bool.false_eq_true,if_false,h',Option.bind_some,extent_Total_k1,trkO_of hs]
  · rw [Bool.not_eq_true] at hs
    simp [hs,trkO_none hs]
theorem RTotal_eq (n:Nat) (hn:N0≤n) (l:List TExtent) (hl:l.length≤2097152):ref20_Total n l=some (((trkO l).length:Nat):Int):=by
  simp only [ref20_Total,Tracks_eq' n l hn hl,Option.bind_some]
def mn (a b:Int):Int:=if a < b then a else b
def fr (m:Int):Int→List TExtent→List TExtent
  | a,[]=>if a < m then [⟨a,m - a⟩] else []
  | a,x :: l=>(if a < mn m x.At then [⟨a,mn m x.At - a⟩] else []) ++ fr m (x.At+x.Len) l
inductive Sel:Nat→List TExtent→Int→Prop
  | zero (r:List TExtent):Sel 0 r 0
  | nil (c:Nat):Sel c [] 0
  | step (c:Nat) (r:List TExtent) (k:Nat) (s:Int) (h:isL r k) (hs:Sel c (r.eraseIdx k) s):Sel (c+1) r ((gt r k).Len+s)
theorem upT_snd (l:List TExtent):∀ k,k≤l.length→(upT (exF l) k).map Prod.snd=trks (l.take k)
  | 0,_=>by simp [upT,trks]
  | k+1,h=>by
    have hk:k < l.length:=by omega
    rw [List.take_succ_eq_append_getElem hk]
    simp only [upT,List.map_append,List.map_map,upT_snd l k (by omega)]
    have e:trks (l.take k ++ [l[k]])=trks (l.take k) ++ trk l[k]:=by simp only [trks,List.flatMap_append,List.flatMap_cons,List.flatMap_nil,List.append_nil]
    rw [e]
    congr 1
    unfold trk exF
    rw [gt_lt hk]
    rfl
theorem upT_all (l:List TExtent):(upT (exF l) l.length).map Prod.snd=trks l:=by
  rw [upT_snd l l.length (Nat.le_refl _),List.take_length]
theorem okL_of {l:List TExtent} (h:(trkF [] l).isSome=true):okL l:=by
  obtain ⟨hv,hnd⟩:=(trkF_isSome l).1 h
  have h1:=len_le_trks hv
  have h2:=few (m:=512) hnd (trks_range hv)
  have h3:(upT (exF l) l.length).length=(trks l).length:=by rw [← upT_all l,List.length_map]
  refine ⟨by omega,fun j hj=>?_,by omega⟩
  have v:val (gt l j)=true:=by rw [gt_lt hj];exact List.all_eq_true.1 hv _ (List.getElem_mem _)
  have v':=(val_iff _).1 v
  simp only [exF]
  omega
theorem Index_eq (n:Nat) (hn:N0≤n) (l:List TExtent) (track:Int) (hl:l.length≤1073741824):extent_Index n l track=some (if (trkF [] l).isSome=true then firstT track (upT (exF l) l.length) else (0,false)):=by
  simp only [extent_Index,Valid_eq n hn l hl,Option.bind_some]
  by_cases h:(trkF [] l).isSome=true
  · simp only [h,if_true];rw [gd_pos _ (okL_of h)]
  · rw [Bool.not_eq_true] at h;simp [h]
theorem upT_fst (f:Nat→Int×Int):∀ k,(upT f k).map Prod.fst=List.range (upT f k).length
  | 0=>by simp [upT]
  | k+1=>by
    simp only [upT,List.map_append,upT_fst f k,List.map_map,List.length_append,List.length_map,List.length_range]
    rw [List.range_add]
    congr 1
theorem firstT_ix (track:Int):∀ (t:List Int) (i:Nat) (ps:List (Nat×Int)),ps.map Prod.snd=t→ps.map Prod.fst=(List.range t.length).map (i + ·) →
    firstT track ps=match t.findIdx? (fun k=>k == track) with | some j=>(((i+j:Nat):Int),true) | none=>(0,false)
  | [],i,ps,h1,h2=>by
    have:ps=[]:=by simpa using h1
    subst this;rfl
  | k :: t,i,[],h1,h2=>by simp at h1
  | k :: t,i,p :: ps,h1,h2=>by
    simp only [List.map_cons,List.cons.injEq] at h1
    rw [List.length_cons,List.range_succ_eq_map] at h2
    simp only [List.map_cons,List.cons.injEq,List.map_map] at h2
    have ih:=firstT_ix track t (i+1) ps h1.2 (by
      rw [h2.2]
      refine List.map_congr_left fun j _=>?_
      simp only [Function.comp];omega)
    simp only [firstT,h1.1,List.findIdx?_cons,beq_iff_eq]
    by_cases hk:k=track
    · simp only [hk,if_true]
      have:p.1=i:=by simpa using h2.1
      rw [this];simp
    · simp only [hk,if_false,ih]
      cases t.findIdx? (fun k=>k == track) with
      | none=>rfl
      | some j =>
        simp only [Option.map_some,Prod.mk.injEq,and_true]
        omega
theorem RIndex_loop (n:Nat) (track:Int) (t:List Int) (hn:t.length < n) (hl:t.length≤1073741824) :
    loopF (fun (x:Int)=>ref20_Index_b2 n track t x) n 0=some (match t.findIdx? (fun k=>k == track) with | some j=>.inl ((j:Int),true) | none=>.inr ()):=by
  have h:=loop_list (n:=n) (σ:=Nat) (body:=fun (x:Int)=>ref20_Index_b2 n track t x) t (fun k _=>(k:Int)) (fun i k=>if (k == track)=true then .inr (.inl ((i:Int),true)) else .inl (i+1)) (fun _=>.inr ()) (fun k i=>i=k) (s:=0) rfl
    (fun k hk s hs=>by
      subst hs
      have c1:decide ((s:Int) < ((t.length:Nat):Int))=true:=by simp;omega
      have c2:(0≤(s:Int)∧(s:Int) < (t.length:Int))∧s < t.length:=by omega
      simp only [ref20_Index_b2,c1,bif_ite,if_true,Int.toNat_natCast,gd_pos _ c2,gt_lt hk]
      rw [wid (by omega)]
      split <;> simp)
    (fun k hk s hs s' hf=>by
      split at hf
      · cases hf
      · simp only [Sum.inl.injEq] at hf;omega)
    (fun s _=>by simp [ref20_Index_b2,bif_ite]) hn
  have e:∀ (t:List Int) (i:Nat),runL (fun (i:Nat) (k:Int)=>if (k == track)=true then (.inr (.inl ((i:Int),true)):Nat ⊕ ((Int×Bool) ⊕ Unit)) else .inl (i+1)) (fun _=>.inr ()) t i=match t.findIdx? (fun k=>k == track) with | some j=>.inl (((i+j:Nat):Int),true) | none=>.inr ():=by
    intro t
    induction t with
    | nil=>intro i;simp [runL]
    | cons k t ih =>
      intro i
      simp only [runL,List.findIdx?_cons]
      by_cases hk:(k == track)=true
      · simp [hk]
      · rw [Bool.not_eq_true] at hk
        simp only [hk,Bool.false_eq_true,if_false,ih]
        cases t.findIdx? (fun k=>k == track) with
        | none=>rfl
        | some j =>
          simp only [Option.map_some]
          have e1:((i+1+j:Nat):Int)=((i+(j+1):Nat):Int):=by omega
          rw [e1]
  rw [e] at h
  have h':loopF (fun (x:Int)=>ref20_Index_b2 n track t x) n 0=_:=h
  rw [h']
  cases t.findIdx? (fun k=>k == track) with
  | none=>rfl
  | some j=>simp
theorem RIndex_eq (n:Nat) (hn:N0≤n) (l:List TExtent) (track:Int) (hl:l.length≤2097152):ref20_Index n l track=extent_Index n l track:=by
  have hn0:4194304≤n:=hn
  have hf:=trkO_few l
  rw [Index_eq n hn l track (by omega)]
  simp only [ref20_Index,Tracks_eq' n l hn hl,Option.bind_some]
  rw [RIndex_loop n track (trkO l) (by omega) (by omega)]
  by_cases h:(trkF [] l).isSome=true
  · have h1:=firstT_ix track (trks l) 0 (upT (exF l) l.length) (upT_all l) (by
      rw [upT_fst,← upT_all l,List.length_map]
      simp)
    simp only [h,if_true,trkO_of h,h1]
    cases (trks l).findIdx? (fun k=>k == track) with
    | none=>rfl
    | some j=>simp
  · rw [Bool.not_eq_true] at h
    simp [h,trkO_none h,ref20_Index_k1]
def mx (w:Int):Int:=if 0 > w then 0 else w
def t0 (w:Int) (x:TExtent):Int:=if (if x.Len < w then x.Len else w) > 0 then (if x.Len < w then x.Len else w) else 0
end Go.Proofs.YtijnkhcfondehaaGreatDoor
