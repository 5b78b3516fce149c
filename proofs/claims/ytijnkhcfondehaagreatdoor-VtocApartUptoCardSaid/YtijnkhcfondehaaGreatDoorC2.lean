/- Text. -/
import Derived.Test.YtijnkhcfondehaaGreatDoorU
import Derived.Test.YtijnkhcfondehaaGreatDoorM
import Derived.Test.YtijnkhcfondehaaGreatDoorFL
set_option linter.unusedSimpArgs false
set_option linter.unusedVariables false
set_option maxHeartbeats 8000000
set_option maxRecDepth 100000
open _root_.Bool renaming and_eq_true→je,not_true→jT,not_false→Jh,false_eq_true→jn
open _root_.Int renaming toNat_natCast→jy,tmod→JC
open Go.IntKind renaming wrap→jc
open _root_.List renaming getElem_of_mem→jU,getElem_mem→jw,all_eq_true→jx,mem_flatMap→j9,length_cons→jv,mem_append→jk,nodup_append→Jm,take_append_drop→Jo,length_set→jV,append_assoc→jM,length_append→ji,flatMap_cons→Jw,take_append_of_le_length→jX,take_of_length_le→jN,append_nil→Jf,length_take→jl,take_length→JF,getD_cons_zero→jW,range→Jg,getElem_map→JO,take_succ_eq_append_getElem→JQ,mem_cons_self→j4,mem_cons_of_mem→Jb,mem_cons→jO
open _root_.Nat renaming eq_zero_or_pos→JA,le_refl→js
open _root_.Option renaming bind_some→jf,isSome_some→JN,getD_some→Jd
namespace Go.Proofs.YtijnkhcfondehaaGreatDoor
open Go.AE
theorem head_c {v:TVtoc} (h:head v=true):capV v=v.Cyls * v.Heads∧1≤capV v∧capV v≤512∧v.Size+1≤capV v:=by
  have hz:=head_z h
  unfold head headB inB at h
  simp only [je,decide_eq_true_eq] at h
  obtain ⟨⟨⟨_,h1,h2⟩,h3,h4⟩,h5,h6⟩:=h
  have e1:1≤v.Cyls * v.Heads:=by
    have:0 < v.Cyls * v.Heads:=Int.mul_pos (by omega) (by omega)
    omega
  have e2:v.Cyls * v.Heads≤512:=by
    have a:v.Cyls * v.Heads≤64 * v.Heads:=Int.mul_le_mul_of_nonneg_right h2 (by omega)
    omega
  have ec:capV v=v.Cyls * v.Heads:=wid (by omega)
  rw [wid (n:=v.Cyls * v.Heads) (by omega),wid (n:=v.Cyls * v.Heads - 1) (by omega)] at h6
  exact ⟨ec,by omega,by omega,by omega⟩
def okD (v:TVtoc) (d:TDscb):Prop:=pLbl v d=true∧∀ x∈d.Extents,v.Size < x.At
theorem rV_all {v:TVtoc}:rV v=true↔head v=true∧v.Sets.length≤64∧(v.Sets.length:Int)≤14 * v.Size∧(∀ d∈v.Sets,okD v d)∧v.Sets.Pairwise wlt∧(trkF [] (exts v.Sets)).isSome=true:=by
  rw [rV_iff]
  constructor
  · rintro ⟨h1,h2,h3,h4,h5⟩
    refine ⟨h1,h2,h3,fun d hd=>?_,ord_iff.1 fun k hk=>(h4 k hk).2,h5⟩
    obtain ⟨k,hk,rfl⟩:=jU hd
    have:=(h4 k hk).1
    rw [gt_lt hk] at this
    exact this
  · rintro ⟨h1,h2,h3,h4,h5,h6⟩
    refine ⟨h1,h2,h3,fun k hk=>⟨?_,ord_iff.2 h5 k hk⟩,h6⟩
    rw [gt_lt hk]
    exact h4 _ (jw hk)
def onV (v:TVtoc) (X:List TExtent):Prop:=X.all val=true∧(trks X).Nodup∧∀ k∈trks X,v.Size < k∧k < capV v
theorem onV_ext {v:TVtoc} {X:List TExtent} (h:onV v X) {x:TExtent} (hx:x∈X):v.Size < x.At∧x.At+x.Len≤capV v∧val x=true:=by
  have hv:=jx.1 h.1 x hx
  have v1:=(val_iff x).1 hv
  have a:=h.2.2 x.At (j9.2 ⟨x,hx,trk_mem.2 ⟨by omega,by omega⟩⟩)
  have b:=h.2.2 (x.At+x.Len - 1) (j9.2 ⟨x,hx,trk_mem.2 ⟨by omega,by omega⟩⟩)
  exact ⟨a.1,by omega,hv⟩
theorem onV_over {v:TVtoc} {X:List TExtent} (h:onV v X):X.any (overB v)=false:=by
  rw [List.any_eq_false]
  intro x hx
  obtain ⟨h1,h2,h3⟩:=onV_ext h hx
  have v1:=(val_iff x).1 h3
  unfold overB
  rw [wid (by omega)]
  simp;omega
theorem onV_some {v:TVtoc} {X:List TExtent} (h:onV v X):(trkF [] X).isSome=true:=(trkF_isSome X).2 ⟨h.1,h.2.1⟩
theorem okD_iff {v:TVtoc} (hh:head v=true) {d:TDscb}:okD v d↔nameB d.Name=true∧dscB d.Dcb=true∧(1≤d.Extents.length∧d.Extents.length≤8)∧onV v d.Extents∧0≤d.Used∧d.Used≤(((trks d.Extents).length:Nat):Int):=by
  have hz:=head_z hh
  unfold okD pLbl inB
  simp only [je,Bool.not_eq_true',decide_eq_true_eq]
  constructor
  · rintro ⟨⟨⟨⟨⟨⟨h1,h2⟩,h3⟩,h4⟩,h5⟩,h6⟩,h7⟩
    have ⟨a1,a2⟩:=(trkF_isSome _).1 h4
    rw [trkO_of h4] at h6
    refine ⟨h1,h2,by omega,⟨a1,a2,fun k hk=>?_⟩,h6.1,h6.2⟩
    obtain ⟨x,hx,hk⟩:=j9.1 hk
    have hk:=trk_mem.1 hk
    have v1:=(val_iff x).1 (jx.1 a1 x hx)
    have:=h7 x hx
    have ho:=List.any_eq_false.1 h5 x hx
    unfold overB at ho
    rw [wid (by omega)] at ho
    simp at ho
    omega
  · rintro ⟨h1,h2,h3,h4,h5,h6⟩
    refine ⟨⟨⟨⟨⟨⟨h1,h2⟩,by omega⟩,onV_some h4⟩,onV_over h4⟩,?_⟩,fun x hx=>(onV_ext h4 hx).1⟩
    rw [trkO_of (onV_some h4)];exact ⟨h5,h6⟩
theorem vFree_val (n:Nat) (hn:N0≤n) (v:TVtoc) (hv:light v) (hr:rV v=true):∃ R,vtoc_Free n v=some R∧nf (-1) R∧(∀ k,k∈trks R↔v.Size < k∧k < capV v∧k ∉ trks (exts v.Sets))∧R.length≤512:=by
  have hn0:4194304≤n:=hn
  have hel:=exts_len hv.2.2
  have h70:=hv.1
  obtain ⟨q1,q2,q3,q4,q5,q6⟩:=rV_all.1 hr
  obtain ⟨c1,c2,c3,c4⟩:=head_c q1
  have hz:=head_z q1
  have w2:jc .i64 (v.Size+1)=v.Size+1:=wid (by omega)
  have hsome:(trkF [] ((⟨0,v.Size+1⟩:TExtent) :: exts v.Sets)).isSome=true:=(behind_iff (by omega) _).2 ⟨q6,fun x hx=>by
    obtain ⟨d,hd,hx⟩:=j9.1 hx
    exact (q4 d hd).2 x hx⟩
  have key:=vFree_loop n hn v hv [⟨0,v.Size+1⟩] (by simp) v.Sets.length 0 n (by omega) (by omega)
  simp only [List.take_zero] at key
  have key':loopF (fun (x:(List TExtent)×Int)=>vtoc_Free_b2 n v (v.Sets.length:Int) x.1 x.2) n ([(⟨0,v.Size+1⟩:TExtent)],0)=some ([(⟨0,v.Size+1⟩:TExtent)] ++ exts v.Sets):=key
  obtain ⟨R,r1,r2,r3,r4⟩:=Free_val n hn ((⟨0,v.Size+1⟩:TExtent) :: exts v.Sets) (capV v) (by rw [jv];omega) hsome (by omega)
  refine ⟨R,?_,r2,fun k=>?_,r4⟩
  · unfold vtoc_Free
    rw [Check_all n hn v hv,pV_rV,hr,jf]
    simp only [if_true,bne_self_eq_false,cond_false,w2]
    rw [key',jf,List.singleton_append,vtoc_Free_k1]
    show (extent_Free n _ (capV v)).bind _=_
    rw [r1,jf]
  · rw [r3,trks_cons,jk,trk_mem]
    simp only
    constructor
    · rintro ⟨a,b,c⟩
      refine ⟨?_,b,fun h=>c (.inr h)⟩
      by_cases h:k < v.Size+1
      · exact absurd (.inl ⟨a,by omega⟩) c
      · omega
    · rintro ⟨a,b,c⟩
      refine ⟨by omega,b,?_⟩
      rintro (h | h)
      · omega
      · exact c h
theorem take_val (n:Nat) (hn:N0≤n) (v:TVtoc) (hv:light v) (hr:rV v=true) (N most:Int) (hN:N≤9223372036854775807):∃ R r,vtoc_Free n v=some R∧extent_Take n R N most=some r ∧
    (r.2.2=0→1≤N∧onV v r.1∧(((trks r.1).length:Nat):Int)=N∧((r.1.length:Nat):Int)≤most∧∀ k∈trks r.1,k ∉ trks (exts v.Sets))∧(r.1=[]∨((r.1.length:Nat):Int)≤most)∧(r.2.2≠0→r.1=[]):=by
  obtain ⟨R,f1,f2,f3,f4⟩:=vFree_val n hn v hv hr
  refine ⟨R,?_⟩
  rcases Take_out n hn R N most (by omega) hN with ⟨h3,h4⟩ | ⟨h0,r,h3,a1,a2,a3,a4,a5,a6⟩ | ⟨_,h3,_⟩
  · exact ⟨_,f1,h3,fun h=>by simp at h,.inl rfl,fun _=>rfl⟩
  · refine ⟨r,f1,h3,fun _=>⟨?_,⟨a3,?_,fun k hk=>?_⟩,a5,a6,fun k hk=>?_⟩,.inr a6,fun h=>absurd a1 h⟩
    · by_cases h:1≤N
      · exact h
      · have c1:extent_Take n R N most=some ([],[],1):=by
          have hn0:4194304≤n:=hn
          simp only [extent_Take,Check_eq n R 512 (by omega) (by omega),jf]
          have:decide (N < 1)=true:=decide_eq_true (by omega)
          rw [this];simp
        rw [h3] at c1
        have:=Option.some.inj c1
        rw [this] at a1;simp at a1
    · have hnd:(trks r.1 ++ trks r.2.1).Nodup:=a4.nodup_iff.2 ((nf_asc f2).imp fun h=>by omega)
      exact (Jm.1 hnd).1
    · have:=(f3 k).1 (a4.mem_iff.1 (List.mem_append_left _ hk))
      exact ⟨this.1,this.2.1⟩
    · exact ((f3 k).1 (a4.mem_iff.1 (List.mem_append_left _ hk))).2.2
  · exact ⟨_,f1,h3,fun h=>by simp at h,.inl rfl,fun _=>rfl⟩
end Go.Proofs.YtijnkhcfondehaaGreatDoor
/-
  ch. 21: Create and Extend keep a table valid (the program alone).
-/
namespace Go.Proofs.YtijnkhcfondehaaGreatDoor
open Go.AE
theorem tbl_valid {v:TVtoc} {l:List TDscb} (h1:head v=true) (h2:l.length≤64) (h3:(l.length:Int)≤14 * v.Size) (h4:∀ d∈l,okD v d) (h5:l.Pairwise wlt) (h6:(trks (exts l)).Nodup):rV ⟨v.Serial,v.Cyls,v.Heads,v.Size,l⟩=true:=by
  refine rV_all.2 ⟨h1,h2,h3,h4,h5,(trkF_isSome _).2 ⟨?_,h6⟩⟩
  rw [jx]
  intro x hx
  obtain ⟨d,hd,hx⟩:=j9.1 hx
  exact (onV_ext ((okD_iff h1).1 (h4 d hd)).2.2.2.1 hx).2.2
theorem ins_perm (d:TDscb):∀ l:List TDscb,(ins d l).Perm (d :: l)
  | []=>List.Perm.refl _
  | x :: r=>by
    rw [ins];split
    · exact List.Perm.refl _
    · exact ((ins_perm d r).cons x).trans (List.Perm.swap d x r)
theorem exts_perm {a b:List TDscb} (h:a.Perm b):(exts a).Perm (exts b):=h.flatMap_right _
theorem set_split {α:Type} {l:List α} {k:Nat} (h:k < l.length) (d:α):l.set k d=l.take k ++ d :: l.drop (k+1):=by
  rw [List.set_eq_take_append_cons_drop,if_pos h]
theorem get_split {α:Type} [Inhabited α] {l:List α} {k:Nat} (h:k < l.length):l=l.take k ++ gt l k :: l.drop (k+1):=by
  rw [gt_lt h,← List.drop_eq_getElem_cons h,Jo]
def others (name:List UInt8) (to:List UInt8) (l m:List TDscb):Prop:=(∀ d∈l,d.Name≠name→d∈m)∧∀ d∈m,d∈l∨d.Name=name∨d.Name=to
theorem ins_valid {v:TVtoc} (hr:rV v=true) {d:TDscb} (hd:okD v d) (hn:hasN v.Sets d.Name=false) (h1:v.Sets.length < 64) (h2:(v.Sets.length:Int) < 14 * v.Size) (hx:∀ k∈trks d.Extents,k ∉ trks (exts v.Sets)) :
    rV ⟨v.Serial,v.Cyls,v.Heads,v.Size,ins d v.Sets⟩=true:=by
  obtain ⟨q1,q2,q3,q4,q5,q6⟩:=rV_all.1 hr
  refine tbl_valid q1 (by rw [ins_len];omega) (by rw [ins_len];omega) (fun x hx=>?_) (ins_sorted q5 (hasN_false hn)) ?_
  · rcases mem_ins.1 hx with rfl | h
    · exact hd
    · exact q4 x h
  · have hp:=perm_trks (exts_perm (ins_perm d v.Sets))
    rw [hp.nodup_iff,exts_cons,trks_app,Jm]
    exact ⟨((okD_iff q1).1 hd).2.2.2.1.2.1,((trkF_isSome _).1 q6).2,fun a ha b hb e=>hx a ha (e ▸ hb)⟩
theorem set_valid {v:TVtoc} (hr:rV v=true) {k:Nat} (hk:k < v.Sets.length) {d:TDscb} (hd:okD v d) (hn:d.Name=(gt v.Sets k).Name) {nm:List UInt8} (hnm:(gt v.Sets k).Name=nm) (hx:(trks (exts (v.Sets.set k d))).Nodup) :
    rV ⟨v.Serial,v.Cyls,v.Heads,v.Size,v.Sets.set k d⟩=true∧others nm nm v.Sets (v.Sets.set k d):=by
  subst hnm
  obtain ⟨q1,q2,q3,q4,q5,q6⟩:=rV_all.1 hr
  have hset:=set_ins q5 hk hn
  refine ⟨tbl_valid q1 (by rw [jV];exact q2) (by rw [jV];exact q3) (fun x hx=>?_) ?_ hx,fun x hx hne=>?_,fun x hx=>?_⟩
  · rcases List.mem_or_eq_of_mem_set hx with h | rfl
    · exact q4 x h
    · exact hd
  · rw [hset];exact ins_sorted (q5.filter _) fun x hx=>(mem_wo.1 hx).2
  · rw [hset];exact mem_ins.2 (.inr (mem_wo.2 ⟨hx,by rw [hn];exact hne⟩))
  · rw [hset] at hx
    rcases mem_ins.1 hx with rfl | h
    · exact .inr (.inl hn)
    · exact .inl (mem_wo.1 h).1
def good21 (v:TVtoc) (name to:List UInt8) (r:TVtoc×Int):Prop:=light r.1∧(r.2≠0→r.1.Sets=[])∧(r.2=0→rV r.1=true∧others name to v.Sets r.1.Sets)
theorem good_bad {v:TVtoc} {name to:List UInt8} {e:Int} (h:e≠0):good21 v name to ((⟨[],0,0,0,[]⟩:TVtoc),e):=⟨light_tz,fun _=>rfl,fun h'=>absurd h' h⟩
theorem Create_val (n:Nat) (hn:N0≤n) (v:TVtoc) (hv:light v) (hr:rV v=true) (nm:List UInt8) (c:TDcb) (x:List TExtent) (u N:Int) (hnm:nm.length≤100) (hN:N≤9223372036854775807) :
    ∃ r,vtoc_Create n v ⟨nm,c,x,u⟩ N=some r∧good21 v nm nm r∧(r.2=0→hasN v.Sets nm=false∧∃ X,r.1=⟨v.Serial,v.Cyls,v.Heads,v.Size,ins ⟨nm,c,X,0⟩ v.Sets⟩):=by
  have hn0:4194304≤n:=hn
  obtain ⟨hs,hl,hl2,hz,hm⟩:=val_facts hr
  obtain ⟨q1,q2,q3,q4,q5,q6⟩:=rV_all.1 hr
  simp only [vtoc_Create,Check_all n hn v hv,pV_rV,jf,hr,if_true,bne_self_eq_false,cond_false,Name_eq n _ hn,desc_eq,JN,Jd,implies_true]
  rw [gd_pos _ trivial]
  cases hc:(if (if (!nameB nm)=true then true else !dscB c)=true then true else decide (N < 1)) with
  | true=>exact ⟨_,rfl,good_bad (by decide),fun h=>by simp at h⟩
  | false =>
    simp only [cond_false,index_eq n hn v nm hs (by omega),jf]
    cases hh:hasN v.Sets nm with
    | true=>exact ⟨_,rfl,good_bad (by decide),fun h=>by simp at h⟩
    | false =>
      simp only [cond_false]
      have w1:jc .i64 (14 * v.Size)=14 * v.Size:=wid (by omega)
      rw [w1]
      cases hf:((v.Sets.length:Int) == if 14 * v.Size < 64 then 14 * v.Size else 64) with
      | true=>exact ⟨_,rfl,good_bad (by decide),fun h=>by simp at h⟩
      | false =>
        obtain ⟨R,r,t1,t2,t3,t4,t5⟩:=take_val n hn v hv hr N 8 hN
        simp only [cond_false,t1,t2,jf]
        cases he:r.2.2 != 0 with
        | true =>
          have:r.2.2≠0:=by simpa using he
          exact ⟨_,rfl,good_bad this,fun h=>absurd h this⟩
        | false =>
          have he0:r.2.2=0:=by simpa using he
          obtain ⟨g1,g2,g3,g4,g5⟩:=t3 he0
          have hlo:=lowN_le v.Sets nm
          have hno:=hasN_false hh
          simp only [cond_false,copied_eq n hn v hv,jf,slices_Insert_h,jy]
          rw [gd_pos _ (by simp only [jv,List.length_nil];omega),jf]
          have ei:=ins_low (d:=⟨nm,c,r.1,0⟩) (l:=v.Sets) hno
          have hx8:r.1.length≤8:=by omega
          have hne:1≤r.1.length:=by
            rcases JA r.1.length with h | h
            · have:r.1=[]:=List.length_eq_zero_iff.1 h
              rw [this] at g3;simp [trks] at g3;omega
            · exact h
          have hnd:nameB nm=true∧dscB c=true:=by
            rw [ite_tt,ite_tt] at hc
            simp only [Bool.or_eq_false_iff,Bool.not_eq_false'] at hc
            exact ⟨hc.1.1,hc.1.2⟩
          have hok:okD v ⟨nm,c,r.1,0⟩:=(okD_iff q1).2 ⟨hnd.1,hnd.2,⟨hne,hx8⟩,g2,by simp,by simp only;omega⟩
          have hlen:v.Sets.length < 64∧(v.Sets.length:Int) < 14 * v.Size:=by
            have:¬ ((v.Sets.length:Int)=if 14 * v.Size < 64 then 14 * v.Size else 64):=by simpa using hf
            split at this <;> omega
          refine ⟨_,rfl,⟨?_,fun h=>absurd rfl h,fun _=>⟨?_,?_⟩⟩,fun _=>⟨trivial,r.1,by rw [ei]⟩⟩
          · have:=light_ins (d:=⟨nm,c,r.1,0⟩) hv hl (fun x hx=>hx) hnm (by show r.1.length≤20;omega)
            rw [ei] at this
            exact this
          · have:=ins_valid hr hok hh hlen.1 hlen.2 g5
            rw [ei] at this
            exact this
          · show others nm nm v.Sets _
            rw [← ei]
            exact ⟨fun d hd _=>mem_ins.2 (.inr hd),fun d hd=>by
              rcases mem_ins.1 hd with rfl | h
              · exact .inr (.inl rfl)
              · exact .inl h⟩
end Go.Proofs.YtijnkhcfondehaaGreatDoor
/-
  ch. 21: Extend, Update and Scratch keep a table valid (the program alone).
-/
namespace Go.Proofs.YtijnkhcfondehaaGreatDoor
open Go.AE
theorem onV_app {v:TVtoc} {A X:List TExtent} (ha:onV v A) (hx:onV v X) (hd:∀ k∈trks X,k ∉ trks A):onV v (A ++ X):=by
  refine ⟨by rw [List.all_append,ha.1,hx.1];rfl,?_,fun k hk=>?_⟩
  · rw [trks_app,Jm]
    exact ⟨ha.2.1,hx.2.1,fun a h1 b h2 e=>hd b h2 (e ▸ h1)⟩
  · rw [trks_app,jk] at hk
    rcases hk with h | h
    · exact ha.2.2 k h
    · exact hx.2.2 k h
theorem exts_set {l:List TDscb} {k:Nat} (hk:k < l.length) (d:TDscb) (X:List TExtent) (he:d.Extents=(gt l k).Extents ++ X):(exts (l.set k d)).Perm (X ++ exts l):=by
  have e2:exts l=exts (l.take k) ++ ((gt l k).Extents ++ exts (l.drop (k+1))):=by
    rw [← exts_cons,← exts_app];exact congrArg exts (get_split hk)
  rw [set_split hk,exts_app,exts_cons,he,e2]
  rw [jM ((gt l k).Extents) X]
  exact ((List.perm_append_comm_assoc (gt l k).Extents X _).append_left _).trans (List.perm_append_comm_assoc _ X _)
theorem mem_exts_of {l:List TDscb} {k:Nat} (hk:k < l.length) {t:Int} (h:t∈trks (gt l k).Extents):t∈trks (exts l):=by
  obtain ⟨x,hx,ht⟩:=j9.1 h
  exact j9.2 ⟨x,mem_exts.2 ⟨k,hk,hx⟩,ht⟩
theorem Extend_val (n:Nat) (hn:N0≤n) (v:TVtoc) (hv:light v) (hr:rV v=true) (nm:List UInt8) (N:Int) (hnm:nm.length≤100) (hN:N≤9223372036854775807) :
    ∃ r,vtoc_Extend n v nm N=some r∧good21 v nm nm r∧(r.2=0→hasN v.Sets nm=true∧∃ X,r.1=⟨v.Serial,v.Cyls,v.Heads,v.Size,v.Sets.set (lowN v.Sets nm) ⟨(gt v.Sets (lowN v.Sets nm)).Name,(gt v.Sets (lowN v.Sets nm)).Dcb,(gt v.Sets (lowN v.Sets nm)).Extents ++ X,(gt v.Sets (lowN v.Sets nm)).Used⟩⟩):=by
  have hn0:4194304≤n:=hn
  obtain ⟨hs,hl,hl2,hz,hm⟩:=val_facts hr
  obtain ⟨q1,q2,q3,q4,q5,q6⟩:=rV_all.1 hr
  simp only [vtoc_Extend,vtoc_change_L,Check_all n hn v hv,pV_rV,jf,hr,if_true,bne_self_eq_false,cond_false,index_eq n hn v nm hs (by omega)]
  cases hh:hasN v.Sets nm with
  | false=>exact ⟨_,rfl,good_bad (by decide),fun h=>by simp at h⟩
  | true =>
    obtain ⟨h1,h2,h3,h4⟩:=has_facts hr hh
    have hlt:((lowN v.Sets nm:Nat):Int) < (v.Sets.length:Int):=by omega
    simp only [jT,cond_false,copied_eq n hn v hv,jf]
    rw [gd_pos _ ⟨⟨by omega,hlt⟩,by first | trivial | rfl⟩]
    simp only [vtoc_Extend_1,jy]
    cases decide (N < 1) with
    | true=>exact ⟨_,rfl,good_bad (e:=1) (by decide),fun h=>by simp at h⟩
    | false =>
      have w8:jc .i64 (8 - ((gt v.Sets (lowN v.Sets nm)).Extents.length:Int))=8 - ((gt v.Sets (lowN v.Sets nm)).Extents.length:Int):=wid (by omega)
      simp only [cond_false,w8]
      cases 8 - ((gt v.Sets (lowN v.Sets nm)).Extents.length:Int) == 0 with
      | true=>exact ⟨_,rfl,good_bad (e:=200) (by decide),fun h=>by simp at h⟩
      | false =>
        obtain ⟨R,r,t1,t2,t3,t4,t5⟩:=take_val n hn v hv hr N (8 - ((gt v.Sets (lowN v.Sets nm)).Extents.length:Int)) hN
        have hx8:(gt v.Sets (lowN v.Sets nm)).Extents.length+r.1.length≤8:=by
          rcases t4 with h3 | h3
          · rw [h3];simp;exact h4
          · omega
        simp only [cond_false,t1,t2,jf]
        rw [gd_pos _ (by omega),jf]
        cases he:r.2.2 != 0 with
        | true =>
          have:r.2.2≠0:=by simpa using he
          exact ⟨_,rfl,good_bad this,fun h=>absurd h this⟩
        | false =>
          have he0:r.2.2=0:=by simpa using he
          obtain ⟨g1,g2,g3,g4,g5⟩:=t3 he0
          simp only [cond_false,jf]
          have hk:=(okD_iff q1).1 (q4 _ h3)
          have hok:okD v ⟨(gt v.Sets (lowN v.Sets nm)).Name,(gt v.Sets (lowN v.Sets nm)).Dcb,(gt v.Sets (lowN v.Sets nm)).Extents ++ r.1,(gt v.Sets (lowN v.Sets nm)).Used⟩:=(okD_iff q1).2 ⟨hk.1,hk.2.1,by simp only [ji];omega,onV_app hk.2.2.2.1 g2 (fun k hk' h=>g5 k hk' (mem_exts_of h1 h)),hk.2.2.2.2.1,by simp only [trks_app,ji];omega⟩
          have hnd:(trks (exts (v.Sets.set (lowN v.Sets nm) ⟨(gt v.Sets (lowN v.Sets nm)).Name,(gt v.Sets (lowN v.Sets nm)).Dcb,(gt v.Sets (lowN v.Sets nm)).Extents ++ r.1,(gt v.Sets (lowN v.Sets nm)).Used⟩))).Nodup:=by
            rw [(perm_trks (exts_set h1 _ r.1 rfl)).nodup_iff,trks_app,Jm]
            exact ⟨g2.2.1,((trkF_isSome _).1 q6).2,fun a ha b hb e=>g5 a ha (e ▸ hb)⟩
          obtain ⟨s1,s2⟩:=set_valid hr h1 hok rfl h2 hnd
          exact ⟨_,rfl,⟨light_set hv (by rw [h2];exact hnm) (by simp only [ji];omega),fun h=>absurd rfl h,fun _=>⟨s1,s2⟩⟩,fun _=>⟨trivial,r.1,rfl⟩⟩
theorem exts_set_same {l:List TDscb} {k:Nat} (hk:k < l.length) (d:TDscb) (he:d.Extents=(gt l k).Extents):exts (l.set k d)=exts l:=by
  have e2:exts l=exts (l.take k) ++ ((gt l k).Extents ++ exts (l.drop (k+1))):=by
    rw [← exts_cons,← exts_app];exact congrArg exts (get_split hk)
  rw [set_split hk,exts_app,exts_cons,he,e2]
theorem Update_val (n:Nat) (hn:N0≤n) (v:TVtoc) (hv:light v) (hr:rV v=true) (nm:List UInt8) (c:TDcb) (N:Int) (hnm:nm.length≤100) :
    ∃ r,vtoc_Update n v nm c N=some r∧good21 v nm nm r:=by
  have hn0:4194304≤n:=hn
  obtain ⟨hs,hl,hl2,hz,hm⟩:=val_facts hr
  obtain ⟨q1,q2,q3,q4,q5,q6⟩:=rV_all.1 hr
  simp only [vtoc_Update,vtoc_change_M2,Check_all n hn v hv,pV_rV,jf,hr,if_true,bne_self_eq_false,cond_false,index_eq n hn v nm hs (by omega)]
  cases hh:hasN v.Sets nm with
  | false=>exact ⟨_,rfl,good_bad (by decide)⟩
  | true =>
    obtain ⟨h1,h2,h3,h4⟩:=has_facts hr hh
    have hlt:((lowN v.Sets nm:Nat):Int) < (v.Sets.length:Int):=by omega
    simp only [jT,cond_false,copied_eq n hn v hv,jf]
    rw [gd_pos _ ⟨by omega,hlt⟩]
    simp only [vtoc_Update_1_M1,jy,desc_eq,jf]
    cases hc:dscB c with
    | false =>
      simp only [Jh,cond_true,jf]
      rw [gd_pos _ (by first | trivial | rfl)]
      exact ⟨_,rfl,good_bad (by decide)⟩
    | true =>
      simp only [jT,cond_false]
      rw [gd_pos _ h1]
      simp only [Total_eq n hn (gt v.Sets (lowN v.Sets nm)).Extents (by omega),in_eq,jf]
      cases hi:inB N 0 ((trkO (gt v.Sets (lowN v.Sets nm)).Extents).length:Int) with
      | false =>
        simp only [Jh,cond_true,jf]
        rw [gd_pos _ (by first | trivial | rfl)]
        exact ⟨_,rfl,good_bad (by decide)⟩
      | true =>
        simp only [jT,cond_false]
        rw [gd_pos _ ⟨h1,h1⟩]
        simp only [jf,set_len]
        rw [gd_pos _ (by first | trivial | rfl)]
        simp only [bne_self_eq_false,cond_false,jf,gset_eq _ _ _ h1,List.set_set]
        have hk:=(okD_iff q1).1 (q4 _ h3)
        unfold inB at hi
        rw [je,decide_eq_true_eq,decide_eq_true_eq,trkO_of (onV_some hk.2.2.2.1)] at hi
        have hok:okD v ⟨(gt v.Sets (lowN v.Sets nm)).Name,c,(gt v.Sets (lowN v.Sets nm)).Extents,N⟩:=(okD_iff q1).2 ⟨hk.1,hc,hk.2.2.1,hk.2.2.2.1,hi.1,hi.2⟩
        obtain ⟨s1,s2⟩:=set_valid hr h1 hok rfl h2 (by rw [exts_set_same h1 _ (by rfl)];exact ((trkF_isSome _).1 q6).2)
        exact ⟨_,rfl,light_set hv (by rw [h2];exact hnm) (by show (gt v.Sets (lowN v.Sets nm)).Extents.length≤20;omega),fun h=>absurd rfl h,fun _=>⟨s1,s2⟩⟩
theorem flat_sub {α β:Type} (f:α→List β) {a b:List α} (h:a.Sublist b):(a.flatMap f).Sublist (b.flatMap f):=by
  induction h with
  | slnil=>exact List.Sublist.refl _
  | cons x _ ih=>rw [Jw];exact ih.trans (List.sublist_append_right _ _)
  | cons_cons x _ ih=>rw [Jw,Jw];exact ih.append_left _
theorem trks_sub {a b:List TDscb} (h:a.Sublist b):(trks (exts a)).Sublist (trks (exts b)):=flat_sub _ (flat_sub _ h)
theorem Scratch_val (n:Nat) (hn:N0≤n) (v:TVtoc) (hv:light v) (hr:rV v=true) (nm:List UInt8) :
    ∃ r,vtoc_Scratch n v nm=some r∧good21 v nm nm r∧(hasN v.Sets nm=true→r=(⟨v.Serial,v.Cyls,v.Heads,v.Size,wo nm v.Sets⟩,0)):=by
  have hn0:4194304≤n:=hn
  obtain ⟨hs,hl,hl2,hz,hm⟩:=val_facts hr
  obtain ⟨q1,q2,q3,q4,q5,q6⟩:=rV_all.1 hr
  simp only [vtoc_Scratch,vtoc_change_M3,Check_all n hn v hv,pV_rV,jf,hr,if_true,bne_self_eq_false,cond_false,index_eq n hn v nm hs (by omega)]
  cases hh:hasN v.Sets nm with
  | false=>exact ⟨_,rfl,good_bad (by decide),fun h=>by cases h⟩
  | true =>
    obtain ⟨h1,h2,h3,h4⟩:=has_facts hr hh
    have hlt:((lowN v.Sets nm:Nat):Int) < (v.Sets.length:Int):=by omega
    simp only [jT,cond_false,copied_eq n hn v hv,jf]
    rw [gd_pos _ ⟨by omega,hlt⟩]
    simp only [vtoc_Scratch_1_M1,jf,bne_self_eq_false,cond_false]
    obtain ⟨r,d1,d2⟩:=DeleteF_eq n hn v.Sets nm (by omega) (lowN v.Sets nm) h1 (fun k hk=>bl_ne (lowN_below k hk)) h2
    rw [d1,jf,d2]
    have hwl:=wo_len nm v.Sets
    have hsub:(wo nm v.Sets).Sublist v.Sets:=List.filter_sublist
    refine ⟨_,rfl,⟨⟨by show (wo nm v.Sets).length≤70;omega,hv.2.1,fun x hx=>hv.2.2 x (mem_wo.1 hx).1⟩,fun h=>absurd rfl h,fun _=>⟨?_,fun d hd hne=>mem_wo.2 ⟨hd,hne⟩,fun d hd=>.inl (mem_wo.1 hd).1⟩⟩,fun _=>rfl⟩
    exact tbl_valid q1 (by omega) (by omega) (fun d hd=>q4 d (mem_wo.1 hd).1) (q5.filter _) ((trks_sub hsub).nodup ((trkF_isSome _).1 q6).2)
end Go.Proofs.YtijnkhcfondehaaGreatDoor
/-
  ch. 21: Release and Rename keep a table valid; any change (the program alone).
-/
namespace Go.Proofs.YtijnkhcfondehaaGreatDoor
open Go.AE
theorem trk_take (a n:Int) {w:Int} (h0:0≤w) (h1:w≤n):trk ⟨a,w⟩=(trk ⟨a,n⟩).take w.toNat:=by
  rw [trk_split a n w h0 h1,jX (by rw [trk_length];exact js _),jN (by rw [trk_length];exact js _)]
theorem kpA_take:∀ (l:List TExtent) (w:Int),l.all val=true→0≤w→(kpA w l).all val=true∧trks (kpA w l)=(trks l).take w.toNat
  | [],w,_,_=>by simp [kpA,trks]
  | x :: l,w,hv,hw=>by
    rw [List.all_cons,je] at hv
    have v1:=(val_iff x).1 hv.1
    have hlen:=trk_length x
    rw [kpA,trks_cons]
    by_cases h1:x.Len < w
    · have ht:tk w x=x.Len:=by unfold tk;rw [if_pos h1]
      obtain ⟨i1,i2⟩:=kpA_take l (w - x.Len) hv.2 (by omega)
      rw [ht,if_pos (by omega)]
      refine ⟨by rw [List.all_append,i1];simp;exact hv.1,?_⟩
      rw [trks_app,trks_one,i2,List.take_append,hlen]
      have e1:(trk x).take w.toNat=trk x:=jN (by omega)
      have e2:w.toNat - x.Len.toNat=(w - x.Len).toNat:=by omega
      rw [e1,e2]
    · have ht:tk w x=w:=by unfold tk;rw [if_neg h1]
      obtain ⟨i1,i2⟩:=kpA_take l (w - w) hv.2 (by omega)
      rw [ht]
      have e0:(w - w).toNat=0:=by omega
      rw [e0,List.take_zero] at i2
      rw [trks_app,i2,Jf,jX (by omega)]
      by_cases h0:0 < w
      · rw [if_pos h0]
        refine ⟨by rw [List.all_append,i1];simp;exact (val_iff _).2 ⟨by simp only;omega,by simp only;omega,by simp only;omega,by simp only;omega⟩,?_⟩
        rw [trks_one];exact trk_take x.At x.Len hw (by omega)
      · have:w=0:=by omega
        subst this
        refine ⟨by rw [if_neg h0,List.nil_append];exact i1,?_⟩
        simp [trks]
theorem Release_val (n:Nat) (hn:N0≤n) (v:TVtoc) (hv:light v) (hr:rV v=true) (nm:List UInt8) (N:Int) (hnm:nm.length≤100) (hN:-9223372036854775808≤N∧N≤9223372036854775807) :
    ∃ r,vtoc_Release n v nm N=some r∧good21 v nm nm r∧(hasN v.Sets nm=true→∃ w,1≤w∧N≤w∧(gt v.Sets (lowN v.Sets nm)).Used≤w∧(w=1∨w=N∨w=(gt v.Sets (lowN v.Sets nm)).Used)∧r=(⟨v.Serial,v.Cyls,v.Heads,v.Size,v.Sets.set (lowN v.Sets nm) ⟨(gt v.Sets (lowN v.Sets nm)).Name,(gt v.Sets (lowN v.Sets nm)).Dcb,kpA w (gt v.Sets (lowN v.Sets nm)).Extents,(gt v.Sets (lowN v.Sets nm)).Used⟩⟩,0)):=by
  have hn0:4194304≤n:=hn
  obtain ⟨hs,hl,hl2,hz,hm⟩:=val_facts hr
  obtain ⟨q1,q2,q3,q4,q5,q6⟩:=rV_all.1 hr
  simp only [vtoc_Release,vtoc_change_M1,Check_all n hn v hv,pV_rV,jf,hr,if_true,bne_self_eq_false,cond_false,index_eq n hn v nm hs (by omega)]
  cases hh:hasN v.Sets nm with
  | false=>exact ⟨_,rfl,good_bad (by decide),fun h=>by cases h⟩
  | true =>
    obtain ⟨h1,h2,h3,h4⟩:=has_facts hr hh
    have hlt:((lowN v.Sets nm:Nat):Int) < (v.Sets.length:Int):=by omega
    have hk:=(okD_iff q1).1 (q4 _ h3)
    obtain ⟨k1,k2,k3,k4,k5,k6⟩:=hk
    simp only [jT,cond_false,copied_eq n hn v hv,jf]
    rw [gd_pos _ ⟨by omega,hlt⟩]
    simp only [vtoc_Release_1_M1,jy]
    rw [gd_pos _ ⟨h1,h1⟩]
    obtain ⟨w,hw⟩:∃ w,w=(if 1 > (if (gt v.Sets (lowN v.Sets nm)).Used > N then (gt v.Sets (lowN v.Sets nm)).Used else N) then 1 else (if (gt v.Sets (lowN v.Sets nm)).Used > N then (gt v.Sets (lowN v.Sets nm)).Used else N)):=⟨_,rfl⟩
    have hu:(gt v.Sets (lowN v.Sets nm)).Used≤512:=by
      have:=trkO_few (gt v.Sets (lowN v.Sets nm)).Extents
      rw [trkO_of (onV_some k4)] at this
      omega
    have hwf:1≤w∧N≤w∧(gt v.Sets (lowN v.Sets nm)).Used≤w∧(w=1∨w=N∨w=(gt v.Sets (lowN v.Sets nm)).Used):=by
      rw [hw]
      by_cases c1:(gt v.Sets (lowN v.Sets nm)).Used > N
      · simp only [if_pos c1];split <;> omega
      · simp only [if_neg c1];split <;> omega
    have hwr:w≤9223372036854775807:=by rcases hwf.2.2.2 with h | h | h <;> omega
    have hmx:(if 0 > w then 0 else w)=w:=if_neg (by omega)
    have hK:=Keep_loop n (gt v.Sets (lowN v.Sets nm)).Extents k4.1 w ⟨by omega,hwr⟩ (by omega) (by omega)
    have hke:extent_Keep n (gt v.Sets (lowN v.Sets nm)).Extents w=some (kpA w (gt v.Sets (lowN v.Sets nm)).Extents,kpB w (gt v.Sets (lowN v.Sets nm)).Extents):=by
      simp only [extent_Keep,Valid_eq n hn (gt v.Sets (lowN v.Sets nm)).Extents (by omega),onV_some k4,jf,jT,cond_false,hmx]
      rw [hK,jf,extent_Keep_k1]
    rw [← hw,hke,jf,gd_pos _ h1,jf]
    simp only [set_len]
    rw [gd_pos _ (by first | trivial | rfl)]
    simp only [bne_self_eq_false,cond_false,jf]
    obtain ⟨a1,a2⟩:=kpA_take (gt v.Sets (lowN v.Sets nm)).Extents w k4.1 (by omega)
    have hkl:=(kp_len (gt v.Sets (lowN v.Sets nm)).Extents w).1
    have htl:1≤(trks (gt v.Sets (lowN v.Sets nm)).Extents).length:=by
      have:=len_le_trks k4.1
      omega
    have htk:(trks (kpA w (gt v.Sets (lowN v.Sets nm)).Extents)).length=min w.toNat (trks (gt v.Sets (lowN v.Sets nm)).Extents).length:=by rw [a2,jl]
    have hne:1≤(kpA w (gt v.Sets (lowN v.Sets nm)).Extents).length:=by
      rcases JA (kpA w (gt v.Sets (lowN v.Sets nm)).Extents).length with h | h
      · have h0:(trks (kpA w (gt v.Sets (lowN v.Sets nm)).Extents)).length=0:=by rw [List.length_eq_zero_iff.1 h];rfl
        rw [htk] at h0
        omega
      · exact h
    have hsub:(trks (kpA w (gt v.Sets (lowN v.Sets nm)).Extents)).Sublist (trks (gt v.Sets (lowN v.Sets nm)).Extents):=by rw [a2];exact List.take_sublist _ _
    have hok:okD v ⟨(gt v.Sets (lowN v.Sets nm)).Name,(gt v.Sets (lowN v.Sets nm)).Dcb,kpA w (gt v.Sets (lowN v.Sets nm)).Extents,(gt v.Sets (lowN v.Sets nm)).Used⟩:=(okD_iff q1).2 ⟨k1,k2,by simp only;omega,⟨a1,hsub.nodup k4.2.1,fun k hk=>k4.2.2 k (hsub.subset hk)⟩,k5,by simp only [htk];omega⟩
    have hnd:(trks (exts (v.Sets.set (lowN v.Sets nm) ⟨(gt v.Sets (lowN v.Sets nm)).Name,(gt v.Sets (lowN v.Sets nm)).Dcb,kpA w (gt v.Sets (lowN v.Sets nm)).Extents,(gt v.Sets (lowN v.Sets nm)).Used⟩))).Nodup:=by
      refine List.Sublist.nodup ?_ ((trkF_isSome _).1 q6).2
      have e2:exts v.Sets=exts (v.Sets.take (lowN v.Sets nm)) ++ ((gt v.Sets (lowN v.Sets nm)).Extents ++ exts (v.Sets.drop (lowN v.Sets nm+1))):=by
        rw [← exts_cons,← exts_app];exact congrArg exts (get_split h1)
      rw [set_split h1,exts_app,exts_cons,e2,trks_app,trks_app,trks_app,trks_app]
      exact (hsub.append_right _).append_left _
    obtain ⟨s1,s2⟩:=set_valid hr h1 hok rfl h2 hnd
    exact ⟨_,rfl,⟨light_set hv (by rw [h2];exact hnm) (by simp only;omega),fun h=>absurd rfl h,fun _=>⟨s1,s2⟩⟩,fun _=>⟨w,hwf.1,hwf.2.1,hwf.2.2.1,hwf.2.2.2,rfl⟩⟩
theorem Rename_val (n:Nat) (hn:N0≤n) (v:TVtoc) (hv:light v) (hr:rV v=true) (old nm:List UInt8) (hnm:nm.length≤100) :
    ∃ r,vtoc_Rename n v old nm=some r∧good21 v old nm r∧(r.2=0→hasN v.Sets old=true∧hasN v.Sets nm=false∧nameB nm=true∧r.1=⟨v.Serial,v.Cyls,v.Heads,v.Size,ins ⟨nm,(gt v.Sets (lowN v.Sets old)).Dcb,(gt v.Sets (lowN v.Sets old)).Extents,(gt v.Sets (lowN v.Sets old)).Used⟩ (wo old v.Sets)⟩) ∧
      (hasN v.Sets old=true→hasN v.Sets nm=false→nameB nm=true→r.2=0):=by
  have hn0:4194304≤n:=hn
  have bad:∀ e:Int,e≠0→∃ r,((some ((⟨[],0,0,0,[]⟩:TVtoc),e)).bind fun r1=>(slices_SortFunc_f92_c93 n r1.1.Sets).bind fun r2=>some ((⟨r1.1.Serial,r1.1.Cyls,r1.1.Heads,r1.1.Size,(List.take r1.1.Sets.length r2)⟩:TVtoc),r1.2))=some r∧good21 v old nm r∧r.2=e:=by
    intro e he
    refine ⟨((⟨[],0,0,0,[]⟩:TVtoc),e),?_,good_bad he,rfl⟩
    simp only [jf,sort_nil]
    rfl
  obtain ⟨hs,hl,hl2,hz,hm⟩:=val_facts hr
  obtain ⟨q1,q2,q3,q4,q5,q6⟩:=rV_all.1 hr
  simp only [vtoc_Rename,vtoc_change_M4,Check_all n hn v hv,pV_rV,hr,if_true,bne_self_eq_false,cond_false,index_eq n hn v old hs (by omega),jf]
  cases hh:hasN v.Sets old with
  | false =>
    obtain ⟨r,b1,b2,b3⟩:=bad 3 (by decide)
    exact ⟨r,b1,b2,fun h=>by rw [b3] at h;exact absurd h (by decide),fun h=>by cases h⟩
  | true =>
    obtain ⟨h1,h2,h3,h4⟩:=has_facts hr hh
    have hlt:((lowN v.Sets old:Nat):Int) < (v.Sets.length:Int):=by omega
    simp only [jT,cond_false,copied_eq n hn v hv,jf]
    rw [gd_pos _ ⟨by omega,hlt⟩]
    simp only [vtoc_Rename_1_M1,jy,Name_eq n _ hn,jf]
    cases hc:nameB nm with
    | false =>
      simp only [Jh,cond_true,jf]
      rw [gd_pos _ (by first | trivial | rfl)]
      obtain ⟨r,b1,b2,b3⟩:=bad 1 (by decide)
      exact ⟨r,b1,b2,fun h=>by rw [b3] at h;exact absurd h (by decide),fun _ _ h=>by cases h⟩
    | true =>
      have hi:vtoc_Vtoc__index n ⟨v.Serial,v.Cyls,v.Heads,v.Size,v.Sets⟩ nm=some (((lowN v.Sets nm:Nat):Int),hasN v.Sets nm):=index_eq n hn v nm hs (by omega)
      simp only [jT,cond_false,hi,jf]
      cases hx:hasN v.Sets nm with
      | true =>
        simp only [cond_true,jf]
        rw [gd_pos _ (by first | trivial | rfl)]
        obtain ⟨r,b1,b2,b3⟩:=bad 4 (by decide)
        exact ⟨r,b1,b2,fun h=>by rw [b3] at h;exact absurd h (by decide),fun _ h=>by cases h⟩
      | false =>
        simp only [cond_false]
        rw [gd_pos _ h1,jf]
        simp only [set_len]
        rw [gd_pos _ (by first | trivial | rfl)]
        obtain ⟨r,s1,s2,s3⟩:=sort_set n (d:=⟨nm,(gt v.Sets (lowN v.Sets old)).Dcb,(gt v.Sets (lowN v.Sets old)).Extents,(gt v.Sets (lowN v.Sets old)).Used⟩) hs h1 h2 hx
        simp only [bne_self_eq_false,cond_false,jf,s1,set_len]
        rw [← s3,JF,s2]
        have hwl:=wo_len old v.Sets
        have hno:=hasN_false hx
        have hok:okD v ⟨nm,(gt v.Sets (lowN v.Sets old)).Dcb,(gt v.Sets (lowN v.Sets old)).Extents,(gt v.Sets (lowN v.Sets old)).Used⟩:=by
          have:=(okD_iff q1).1 (q4 _ h3)
          exact (okD_iff q1).2 ⟨hc,this.2⟩
        have hself:v.Sets.set (lowN v.Sets old) (gt v.Sets (lowN v.Sets old))=v.Sets:=by
          rw [gt_lt h1];exact List.set_getElem_self h1
        have hins:=set_ins q5 h1 (d:=gt v.Sets (lowN v.Sets old)) rfl
        rw [hself,h2] at hins
        have hnd:(trks (exts (ins ⟨nm,(gt v.Sets (lowN v.Sets old)).Dcb,(gt v.Sets (lowN v.Sets old)).Extents,(gt v.Sets (lowN v.Sets old)).Used⟩ (wo old v.Sets)))).Nodup:=by
          have p1:=perm_trks (exts_perm (ins_perm ⟨nm,(gt v.Sets (lowN v.Sets old)).Dcb,(gt v.Sets (lowN v.Sets old)).Extents,(gt v.Sets (lowN v.Sets old)).Used⟩ (wo old v.Sets)))
          have p2:=perm_trks (exts_perm (ins_perm (gt v.Sets (lowN v.Sets old)) (wo old v.Sets)))
          rw [← hins] at p2
          rw [p1.nodup_iff]
          have:=p2.nodup_iff.1 ((trkF_isSome _).1 q6).2
          exact this
        refine ⟨_,rfl,⟨light_ins hv (by omega) (fun x hx=>(mem_wo.1 hx).1) hnm (by show (gt v.Sets (lowN v.Sets old)).Extents.length≤20;omega),fun h=>absurd rfl h,fun _=>⟨?_,fun d hd hne=>mem_ins.2 (.inr (mem_wo.2 ⟨hd,hne⟩)),fun d hd=>?_⟩⟩,fun _=>⟨trivial,trivial,trivial,rfl⟩,fun _ _ _=>rfl⟩
        · have hl1:(ins ⟨nm,(gt v.Sets (lowN v.Sets old)).Dcb,(gt v.Sets (lowN v.Sets old)).Extents,(gt v.Sets (lowN v.Sets old)).Used⟩ (wo old v.Sets)).length=v.Sets.length:=by rw [← s2,s3]
          exact tbl_valid q1 (by rw [hl1];exact q2) (by rw [hl1];exact q3) (fun d hd=>by
            rcases mem_ins.1 hd with rfl | h
            · exact hok
            · exact q4 d (mem_wo.1 h).1) (ins_sorted (q5.filter _) fun x hx=>hno x (mem_wo.1 hx).1) hnd
        · rcases mem_ins.1 hd with rfl | h
          · exact .inr (.inr rfl)
          · exact .inl (mem_wo.1 h).1
end Go.Proofs.YtijnkhcfondehaaGreatDoor
/-
  ch. 21: runs of changes; the labels of others (the program alone).
-/
namespace Go.Proofs.YtijnkhcfondehaaGreatDoor
open Go.AE
theorem good_mono {v:TVtoc} {nm:List UInt8} {r:TVtoc×Int} (to:List UInt8) (h:good21 v nm nm r):good21 v nm to r :=
  ⟨h.1,h.2.1,fun e=>⟨(h.2.2 e).1,(h.2.2 e).2.1,fun d hd=>by
    rcases (h.2.2 e).2.2 d hd with h | h | h
    · exact .inl h
    · exact .inr (.inl h)
    · exact .inr (.inl h)⟩⟩
def toOf (a:TAct):List UInt8:=if (JC a.Kind 6 == 5)=true then a.To else a.Name
def okAct (a:TAct):Prop:=0≤a.Kind∧-9223372036854775808≤a.N∧a.N≤9223372036854775807
theorem act_val (n:Nat) (hn:N0≤n) (v:TVtoc) (hv:light v) (hr:rV v=true) (a:TAct) (h1:a.Name.length≤100) (h2:a.To.length≤100) (ha:okAct a) :
    ∃ r,law21_act n v a=some r∧good21 v a.Name (toOf a) r:=by
  obtain ⟨hk,hN⟩:=ha
  have em:JC a.Kind 6=a.Kind % 6:=Int.tmod_eq_emod_of_nonneg hk
  unfold law21_act
  cases e0:JC a.Kind 6 == 0 with
  | true =>
    obtain ⟨r,c1,c2,_⟩:=Create_val n hn v hv hr a.Name a.Dcb [(⟨1,1⟩:TExtent)] 7 a.N h1 hN.2
    simp only [cond_true,c1,jf]
    exact ⟨_,rfl,good_mono _ c2⟩
  | false =>
    rw [cond_false]
    cases e1:JC a.Kind 6 == 1 with
    | true =>
      obtain ⟨r,c1,c2,_⟩:=Extend_val n hn v hv hr a.Name a.N h1 hN.2
      simp only [cond_true,c1,jf]
      exact ⟨_,rfl,good_mono _ c2⟩
    | false =>
      rw [cond_false]
      cases e2:JC a.Kind 6 == 2 with
      | true =>
        obtain ⟨r,c1,c2,_⟩:=Release_val n hn v hv hr a.Name a.N h1 hN
        simp only [cond_true,c1,jf]
        exact ⟨_,rfl,good_mono _ c2⟩
      | false =>
        rw [cond_false]
        cases e3:JC a.Kind 6 == 3 with
        | true =>
          obtain ⟨r,c1,c2⟩:=Update_val n hn v hv hr a.Name a.Dcb a.N h1
          simp only [cond_true,c1,jf]
          exact ⟨_,rfl,good_mono _ c2⟩
        | false =>
          rw [cond_false]
          cases e4:JC a.Kind 6 == 4 with
          | true =>
            obtain ⟨r,c1,c2,_⟩:=Scratch_val n hn v hv hr a.Name
            simp only [cond_true,c1,jf]
            exact ⟨_,rfl,good_mono _ c2⟩
          | false =>
            obtain ⟨r,c1,c2,_⟩:=Rename_val n hn v hv hr a.Name a.To h2
            simp only [cond_false,c1,jf]
            have e5:toOf a=a.To:=by
              unfold toOf
              simp only [beq_eq_false_iff_ne] at e0 e1 e2 e3 e4
              rw [if_pos (by rw [beq_iff_eq];omega)]
            rw [e5]
            exact ⟨_,rfl,c2⟩
theorem empty_eq (n:Nat) (hn:N0≤n) (s:TStart) (h1:0≤s.Cyls) (h2:0≤s.Heads) (h3:0≤s.Size):∃ v,law21_empty n s=some (v,0)∧v.Sets=[]∧v.Serial.length≤100∧head v=true:=by
  have e1:JC s.Cyls 4=s.Cyls % 4:=Int.tmod_eq_emod_of_nonneg h1
  have e2:JC s.Heads 3=s.Heads % 3:=Int.tmod_eq_emod_of_nonneg h2
  have e3:JC s.Size 2=s.Size % 2:=Int.tmod_eq_emod_of_nonneg h3
  simp only [law21_empty,vtoc_New,Check0_eq n hn _ _ _ _ (by decide:([86,49]:List UInt8).length≤2097152),e1,e2,e3]
  have c1:s.Cyls % 4=0∨s.Cyls % 4=1∨s.Cyls % 4=2∨s.Cyls % 4=3:=by omega
  have c2:s.Heads % 3=0∨s.Heads % 3=1∨s.Heads % 3=2:=by omega
  have c3:s.Size % 2=0∨s.Size % 2=1:=by omega
  generalize s.Cyls % 4=a at *
  generalize s.Heads % 3=b at *
  generalize s.Size % 2=c at *
  have hh:∀ a∈([0,1,2,3]:List Int),∀ b∈([0,1,2]:List Int),∀ c∈([0,1]:List Int),
      (jc .i64 ((jc .i64 ((jc .i64 (jc .i64 a+1)) * (jc .i64 (jc .i64 b+2)))) - 1)≠0) ∧
      headB [86,49] (jc .i64 (jc .i64 a+1)) (jc .i64 (jc .i64 b+2)) (jc .i64 (JC (jc .i64 c) (jc .i64 ((jc .i64 ((jc .i64 (jc .i64 a+1)) * (jc .i64 (jc .i64 b+2)))) - 1))+1))=true:=by decide +kernel
  obtain ⟨g1,g2⟩:=hh a (by rcases c1 with h | h | h | h <;> simp [h]) b (by rcases c2 with h | h | h <;> simp [h]) c (by rcases c3 with h | h <;> simp [h])
  rw [gd_pos _ g1,g2]
  exact ⟨_,rfl,rfl,by show ([86,49]:List UInt8).length≤100;decide,g2⟩
theorem play_loop (n:Nat) (hn:N0≤n) (l:List TAct) (hl:l.length≤2097152) (ha:∀ a∈l,okAct a):∀ j k m v,k+j=l.length→j < m→light v→rV v=true →
    ∃ y w,loopF (fun (x:(List UInt8)×Int×Int×Int×(List TDscb)×Int)=>law21_play_b2 n l x.1 x.2.1 x.2.2.1 x.2.2.2.1 x.2.2.2.2.1 x.2.2.2.2.2) m (v.Serial,v.Cyls,v.Heads,v.Size,v.Sets,(k:Int))=some y∧light w∧rV w=true∧(y = .inl w∨y = .inr (w.Serial,w.Cyls,w.Heads,w.Size,w.Sets)):=by
  intro j
  induction j with
  | zero =>
    intro k m v hj hm hv hr
    obtain ⟨m,rfl⟩:∃ q,m=q+1:=⟨m - 1,by omega⟩
    refine ⟨_,v,loopF_done (y:=.inr (v.Serial,v.Cyls,v.Heads,v.Size,v.Sets)) ?_,hv,hr,.inr rfl⟩
    unfold law21_play_b2
    dsimp only
    rw [decide_eq_false (by omega)]
    rfl
  | succ j ih =>
    intro k m v hj hm hv hr
    obtain ⟨m,rfl⟩:∃ q,m=q+1:=⟨m - 1,by omega⟩
    have hk:k < l.length:=by omega
    have hlt:((k:Nat):Int) < (l.length:Int):=by omega
    have hw:=wid (n:=(k:Int)+1) (by omega)
    by_cases h40:(k:Int) < 40
    · by_cases hc:(if decide ((((gt l k).Name).length:Int) > 100)=true then true else decide ((((gt l k).To).length:Int) > 100))=true
      · refine ⟨_,v,loopF_done (y:=.inl v) ?_,hv,hr,.inl rfl⟩
        unfold law21_play_b2
        simp only [decide_eq_true hlt,decide_eq_true h40,if_true,cond_true,jy,hc]
        rw [gd_pos _ ⟨⟨by omega,hlt⟩,fun _=>⟨by omega,hlt⟩⟩]
      · have hc':(if decide ((((gt l k).Name).length:Int) > 100)=true then true else decide ((((gt l k).To).length:Int) > 100))=false:=by simpa using hc
        have hn1:(gt l k).Name.length≤100∧(gt l k).To.length≤100:=by
          rw [ite_tt,Bool.or_eq_false_iff,decide_eq_false_iff_not,decide_eq_false_iff_not] at hc'
          omega
        obtain ⟨r,a1,a2,a3,a4⟩:=act_val n hn v hv hr (gt l k) hn1.1 hn1.2 (ha _ (by rw [gt_lt hk];exact jw hk))
        have a1':law21_act n ⟨v.Serial,v.Cyls,v.Heads,v.Size,v.Sets⟩ (gt l k)=some r:=a1
        obtain ⟨v',hv',hr',hb⟩:∃ v',light v'∧rV v'=true∧law21_play_b2 n l v.Serial v.Cyls v.Heads v.Size v.Sets (k:Int)=some (.inl (v'.Serial,v'.Cyls,v'.Heads,v'.Size,v'.Sets,((k+1:Nat):Int))):=by
          have hb0:law21_play_b2 n l v.Serial v.Cyls v.Heads v.Size v.Sets (k:Int)=(bif (r.2 == 0) then law21_play_k3 n l r.1.Serial r.1.Cyls r.1.Heads r.1.Size r.1.Sets (k:Int) else law21_play_k3 n l v.Serial v.Cyls v.Heads v.Size v.Sets (k:Int)):=by
            unfold law21_play_b2
            simp only [decide_eq_true hlt,decide_eq_true h40,if_true,cond_true,jy,hc',cond_false,a1',jf]
            rw [gd_pos _ ⟨⟨by omega,hlt⟩,fun _=>⟨by omega,hlt⟩⟩,gd_pos _ ⟨by omega,hlt⟩]
          rw [hb0]
          cases e:r.2 == 0 with
          | true=>exact ⟨r.1,a2,(a4 (by simpa using e)).1,by simp only [cond_true,law21_play_k3,hw];rfl⟩
          | false=>exact ⟨v,hv,hr,by simp only [cond_false,law21_play_k3,hw];rfl⟩
        obtain ⟨y,w,y1,y2⟩:=ih (k+1) m v' (by omega) (by omega) hv' hr'
        exact ⟨y,w,(loopF_step hb).trans y1,y2⟩
    · refine ⟨_,v,loopF_done (y:=.inr (v.Serial,v.Cyls,v.Heads,v.Size,v.Sets)) ?_,hv,hr,.inr rfl⟩
      unfold law21_play_b2
      dsimp only
      rw [decide_eq_true hlt,decide_eq_false h40]
      rfl
theorem play_val (n:Nat) (hn:N0≤n) (s:TStart) (l:List TAct) (h1:0≤s.Cyls) (h2:0≤s.Heads) (h3:0≤s.Size) (hl:l.length≤2097152) (ha:∀ a∈l,okAct a):∃ w,law21_play n s l=some w∧light w∧rV w=true:=by
  have hn0:4194304≤n:=hn
  obtain ⟨v,v1,v2,v3,v4⟩:=empty_eq n hn s h1 h2 h3
  have hv:light v:=⟨by rw [v2];simp,v3,by rw [v2];simp⟩
  have hz:=head_z v4
  have hr:rV v=true:=rV_all.2 ⟨v4,by rw [v2];simp,by rw [v2];simp;omega,by rw [v2];simp,by rw [v2];simp,by rw [v2];rfl⟩
  obtain ⟨y,w,y1,y2,y3,y4⟩:=play_loop n hn l hl ha l.length 0 n v (by omega) (by omega) hv hr
  rw [v2] at y1
  have y1':loopF (fun (x:(List UInt8)×Int×Int×Int×(List TDscb)×Int)=>law21_play_b2 n l x.1 x.2.1 x.2.2.1 x.2.2.2.1 x.2.2.2.2.1 x.2.2.2.2.2) n (v.Serial,v.Cyls,v.Heads,v.Size,[],0)=some y:=y1
  refine ⟨w,?_,y2,y3⟩
  simp only [law21_play,v1,jf]
  rw [y1',jf]
  rcases y4 with rfl | rfl <;> rfl
theorem acts_ns {l:List TAct} (h:CanL Tryz.prog [.slice 62] [.slice (List.map e_TAct l)]):∀ a∈l,-9223372036854775808≤a.N∧a.N≤9223372036854775807:=by
  intro a ha
  have h0:=h.2 0 (by decide)
  have h1:=can_elt ty62 e_TAct (l:=l) h0 a ha
  have h2:=h1.2 11 (by simp)
  simp only [e_TAct,cg_zero,cg_succ,jW,List.getD_cons_succ] at h2
  cases h2 with
  | int _ _ hr =>
    have h3:IntKind.i64.min = -9223372036854775808:=by decide
    have h4:IntKind.i64.max=9223372036854775807:=by decide
    simp only [InR,h3,h4] at hr;omega
theorem byte_of {x:Int} (h:Go.AE.Can Tryz.prog (Kd.int .u8) (C.int x)):0≤x:=by
  cases h with
  | int _ _ hr =>
    have h3:IntKind.u8.min=0:=by decide
    simp only [InR,h3] at hr;omega
theorem acts_ok {l:List TAct} (h:CanL Tryz.prog [.slice 62] [.slice (List.map e_TAct l)]):∀ a∈l,okAct a:=by
  intro a ha
  have h0:=h.2 0 (by decide)
  have h1:=can_elt ty62 e_TAct (l:=l) h0 a ha
  have h2:=h1.2 0 (by simp)
  simp only [e_TAct,cg_zero,jW] at h2
  exact ⟨byte_of h2,acts_ns h a ha⟩
end Go.Proofs.YtijnkhcfondehaaGreatDoor
/-
  ch. 21: what belongs to whom, counted track by track.
-/
namespace Go.Proofs.YtijnkhcfondehaaGreatDoor
open Go.AE
def own (m:Nat) (S:List Int):List Int:=(Jg m).map fun (t:Nat)=>((S.count ((t:Nat):Int):Nat):Int)
def nam (m:Nat) (f:Int→List UInt8):List (List UInt8):=(Jg m).map fun (t:Nat)=>f ((t:Nat):Int)
theorem own_len (m:Nat) (S:List Int):(own m S).length=m:=by simp [own]
theorem nam_len (m:Nat) (f:Int→List UInt8):(nam m f).length=m:=by simp [nam]
theorem own_gt {m:Nat} {S:List Int} {T:Nat} (h:T < m):gt (own m S) T=((S.count (T:Int):Nat):Int):=by
  rw [gt_lt (by rw [own_len];exact h)];simp [own]
theorem nam_gt {m:Nat} {f:Int→List UInt8} {T:Nat} (h:T < m):gt (nam m f) T=f (T:Int):=by
  rw [gt_lt (by rw [nam_len];exact h)];simp [nam]
theorem own_zero (m:Nat):zreps m (0:Int)=own m []:=by
  simp [zreps,own,List.map_const']
theorem nam_zero (m:Nat):zreps m ([]:List UInt8)=nam m fun _=>[]:=by
  simp [zreps,nam,List.map_const']
theorem own_set {m:Nat} {S:List Int} {T:Nat} (h:T < m):(own m S).set T (((S.count (T:Int):Nat):Int)+1)=own m (S ++ [(T:Int)]):=by
  apply List.ext_getElem
  · simp [own]
  · intro i h1 h2
    rw [own_len] at h2
    simp only [own,List.getElem_set,JO,List.getElem_range,List.count_append,List.count_singleton]
    by_cases e:T=i
    · subst e;simp
    · have e2:((T:Nat):Int)≠(i:Int):=by omega
      simp [e,e2]
theorem nam_set {m:Nat} {f:Int→List UInt8} {T:Nat} (nm:List UInt8) (h:T < m):(nam m f).set T nm=nam m fun t=>if t=(T:Int) then nm else f t:=by
  apply List.ext_getElem
  · simp [nam]
  · intro i h1 h2
    simp only [nam,List.getElem_set,JO,List.getElem_range]
    by_cases e:T=i
    · subst e;simp
    · have e2:¬ ((i:Nat):Int)=(T:Int):=by omega
      simp [e,e2]
def giv (S:List Int) (nm:List UInt8) (f:Int→List UInt8):Int→List UInt8:=fun t=>if t∈S then nm else f t
theorem giv_nil (nm:List UInt8) (f:Int→List UInt8):giv [] nm f=f:=by funext t;simp [giv]
theorem giv_app (a b:List Int) (nm:List UInt8) (f:Int→List UInt8):giv b nm (giv a nm f)=giv (a ++ b) nm f:=by
  funext t
  simp only [giv,jk]
  by_cases h1:t∈a <;> by_cases h2:t∈b <;> simp [h1,h2]
theorem trk_take_succ {x:TExtent} {k:Nat} (h:k < x.Len.toNat):(trk x).take (k+1)=(trk x).take k ++ [x.At+(k:Int)]:=by
  have hl:k < (trk x).length:=by rw [trk_length];exact h
  rw [JQ hl,trk_get hl]
theorem names_loop (n:Nat) (s:List UInt8) (a1 a2 a3 n_:Int) (sets:List TDscb) (free:List TExtent) (k:Nat) (hk:k < sets.length) (ii:Int) (m:Nat) (hm:m≤512) (x:TExtent) (hx:val x=true) (hxm:x.At+x.Len≤(m:Int)) (S:List Int) (hS:S.length≤100000) (f:Int→List UInt8) :
    ∀ j i N,i+j=x.Len.toNat→j < N →
    loopF (fun (y:(List Int)×(List (List UInt8))×Int)=>law21_VtocApart_b12 n s a1 a2 a3 sets n_ free (k:Int) ii x.At x.Len y.1 y.2.1 y.2.2) N (own m (S ++ (trk x).take i),nam m (giv ((trk x).take i) (gt sets k).Name f),x.At+(i:Int)) =
      some (own m (S ++ trk x),nam m (giv (trk x) (gt sets k).Name f)):=by
  obtain ⟨v1,v2,v3,v4⟩:=(val_iff x).1 hx
  have hw:jc .i64 (x.At+x.Len)=x.At+x.Len:=wid (by omega)
  intro j
  induction j with
  | zero =>
    intro i N hi hN
    obtain ⟨N,rfl⟩:∃ q,N=q+1:=⟨N - 1,by omega⟩
    refine loopF_done ?_
    unfold law21_VtocApart_b12
    have hd:decide (x.At+(i:Int) < x.At+x.Len)=false:=decide_eq_false (by omega)
    have ht:(trk x).take i=trk x:=jN (by rw [trk_length];omega)
    simp only [hw,hd,cond_false,ht]
  | succ j ih =>
    intro i N hi hN
    obtain ⟨N,rfl⟩:∃ q,N=q+1:=⟨N - 1,by omega⟩
    have hd:decide (x.At+(i:Int) < x.At+x.Len)=true:=decide_eq_true (by omega)
    have hT:(x.At+(i:Int)).toNat < m:=by omega
    have hTe:(((x.At+(i:Int)).toNat:Nat):Int)=x.At+(i:Int):=by omega
    have hcnt:(S ++ (trk x).take i).count (x.At+(i:Int))≤200000:=by
      have h1:=List.count_le_length (a:=x.At+(i:Int)) (l:=S ++ (trk x).take i)
      rw [ji,jl,trk_length] at h1
      omega
    refine (loopF_step (x':=(own m (S ++ (trk x).take (i+1)),nam m (giv ((trk x).take (i+1)) (gt sets k).Name f),x.At+((i+1:Nat):Int))) ?_).trans (ih (i+1) N (by omega) (by omega))
    unfold law21_VtocApart_b12
    simp only [hw,hd,cond_true,own_len,nam_len,jy]
    rw [gd_pos _ (by omega),gd_pos _ (by omega),own_gt hT,hTe,wid (n:=x.At+(i:Int)+1) (by omega),wid (n:=(((S ++ (trk x).take i).count (x.At+(i:Int)):Nat):Int)+1) (by omega)]
    have e1:=own_set (S:=S ++ (trk x).take i) hT
    rw [hTe] at e1
    have e2:=nam_set (f:=giv ((trk x).take i) (gt sets k).Name f) (gt sets k).Name hT
    rw [hTe] at e2
    rw [e1,e2,trk_take_succ (by omega),jM,← giv_app]
    have e3:(fun t=>if t=x.At+(i:Int) then (gt sets k).Name else giv ((trk x).take i) (gt sets k).Name f t)=giv [x.At+(i:Int)] (gt sets k).Name (giv ((trk x).take i) (gt sets k).Name f):=by
      funext t;simp [giv]
    rw [e3]
    have e4:x.At+(i:Int)+1=x.At+((i+1:Nat):Int):=by omega
    rw [e4]
theorem trks_take_succ {l:List TExtent} {i:Nat} (h:i < l.length):trks (l.take (i+1))=trks (l.take i) ++ trk (gt l i):=by
  rw [JQ h,trks_app,trks_one,gt_lt h]
theorem label_loop (n:Nat) (hn:N0≤n) (s:List UInt8) (a1 a2 a3 n_:Int) (sets:List TDscb) (free:List TExtent) (k:Nat) (hk:k < sets.length) (m:Nat) (hm:m≤512) (hx:∀ x∈(gt sets k).Extents,val x=true∧x.At+x.Len≤(m:Int)) (hl:(gt sets k).Extents.length≤20) (S:List Int) (hS:S.length≤50000) (f:Int→List UInt8) :
    ∀ j i N,i+j=(gt sets k).Extents.length→j < N →
    loopF (fun (y:(List Int)×(List (List UInt8))×Int)=>law21_VtocApart_b10 n s a1 a2 a3 sets n_ free (k:Int) y.1 y.2.1 y.2.2) N (own m (S ++ trks ((gt sets k).Extents.take i)),nam m (giv (trks ((gt sets k).Extents.take i)) (gt sets k).Name f),(i:Int)) =
      some (own m (S ++ trks (gt sets k).Extents),nam m (giv (trks (gt sets k).Extents) (gt sets k).Name f)):=by
  have hn0:4194304≤n:=hn
  have hlt:((k:Nat):Int) < (sets.length:Int):=by omega
  intro j
  induction j with
  | zero =>
    intro i N hi hN
    obtain ⟨N,rfl⟩:∃ q,N=q+1:=⟨N - 1,by omega⟩
    have hi':i=(gt sets k).Extents.length:=by omega
    subst hi'
    refine loopF_done ?_
    unfold law21_VtocApart_b10
    simp only [jy,Int.lt_irrefl,decide_false,cond_false,JF]
    rw [gd_pos _ ⟨by omega,hlt⟩]
  | succ j ih =>
    intro i N hi hN
    obtain ⟨N,rfl⟩:∃ q,N=q+1:=⟨N - 1,by omega⟩
    have hil:i < (gt sets k).Extents.length:=by omega
    have hii:((i:Nat):Int) < ((gt sets k).Extents.length:Int):=by omega
    have hmem:gt (gt sets k).Extents i∈(gt sets k).Extents:=by rw [gt_lt hil];exact jw hil
    obtain ⟨hv,hvm⟩:=hx _ hmem
    have hv':=(val_iff _).1 hv
    have hb:(trks ((gt sets k).Extents.take i)).length≤20 * 512:=by
      have:∀ l:List TExtent,(∀ x∈l,val x=true)→(trks l).length≤l.length * 512:=by
        intro l
        induction l with
        | nil=>intro _;simp [trks]
        | cons x l ih =>
          intro h
          have h1:=(val_iff _).1 (h x (by simp))
          have h2:=ih fun y hy=>h y (by simp [hy])
          rw [trks_cons,ji,trk_length,jv]
          omega
      have h1:=this ((gt sets k).Extents.take i) fun x hx'=>(hx x (List.mem_of_mem_take hx')).1
      rw [jl] at h1
      omega
    have key:=names_loop n s a1 a2 a3 n_ sets free k hk (i:Int) m hm (gt (gt sets k).Extents i) hv hvm (S ++ trks ((gt sets k).Extents.take i)) (by rw [ji];omega) (giv (trks ((gt sets k).Extents.take i)) (gt sets k).Name f) (gt (gt sets k).Extents i).Len.toNat 0 n (by omega) (by omega)
    simp only [List.take_zero,Jf,giv_nil,Int.natCast_zero,Int.add_zero,giv_app] at key
    rw [jM,← trks_take_succ hil] at key
    refine (loopF_step (x':=(own m (S ++ trks ((gt sets k).Extents.take (i+1))),nam m (giv (trks ((gt sets k).Extents.take (i+1))) (gt sets k).Name f),((i+1:Nat):Int))) ?_).trans (ih (i+1) N (by omega) (by omega))
    unfold law21_VtocApart_b10
    simp only [jy,decide_eq_true hii,cond_true]
    rw [gd_pos _ ⟨by omega,hlt⟩,gd_pos _ ⟨⟨by omega,hlt⟩,by omega,hii⟩]
    erw [key]
    simp only [jf,law21_VtocApart_k11]
    rw [wid (n:=(i:Int)+1) (by omega)]
    rfl
def nmF:List TDscb→(Int→List UInt8)→Int→List UInt8
  | [],f=>f
  | d :: l,f=>nmF l (giv (trks d.Extents) d.Name f)
theorem nmF_app (a b:List TDscb):∀ f,nmF (a ++ b) f=nmF b (nmF a f):=by
  induction a with
  | nil=>intro f;rfl
  | cons d a ih=>intro f;exact ih _
theorem labels_loop (n:Nat) (hn:N0≤n) (s:List UInt8) (a1 a2 a3 n_:Int) (sets:List TDscb) (free:List TExtent) (m:Nat) (hm:m≤512) (hx:∀ d∈sets,(∀ x∈d.Extents,val x=true∧x.At+x.Len≤(m:Int))∧d.Extents.length≤20) (hS:(trks (exts sets)).length≤512) (hl:sets.length≤1000) :
    ∀ j k N,k+j=sets.length→j < N →
    loopF (fun (y:(List Int)×(List (List UInt8))×Int)=>law21_VtocApart_b8 n s a1 a2 a3 sets n_ free y.1 y.2.1 y.2.2) N (own m (trks (exts (sets.take k))),nam m (nmF (sets.take k) fun _=>[]),(k:Int)) =
      some (own m (trks (exts sets)),nam m (nmF sets fun _=>[])):=by
  have hn0:4194304≤n:=hn
  intro j
  induction j with
  | zero =>
    intro k N hk hN
    obtain ⟨N,rfl⟩:∃ q,N=q+1:=⟨N - 1,by omega⟩
    have hk':k=sets.length:=by omega
    subst hk'
    refine loopF_done ?_
    unfold law21_VtocApart_b8
    simp only [Int.lt_irrefl,decide_false,cond_false,JF]
  | succ j ih =>
    intro k N hk hN
    obtain ⟨N,rfl⟩:∃ q,N=q+1:=⟨N - 1,by omega⟩
    have hkl:k < sets.length:=by omega
    have hlt:((k:Nat):Int) < (sets.length:Int):=by omega
    obtain ⟨g1,g2⟩:=hx _ (by rw [gt_lt hkl];exact jw hkl:gt sets k∈sets)
    have ht:sets.take (k+1)=sets.take k ++ [gt sets k]:=by rw [JQ hkl,gt_lt hkl]
    have hle:(trks (exts (sets.take k))).length≤512:=by
      have:trks (exts sets)=trks (exts (sets.take k)) ++ trks (exts (sets.drop k)):=by rw [← trks_app,← exts_app,Jo]
      rw [this,ji] at hS
      omega
    have key:=label_loop n hn s a1 a2 a3 n_ sets free k hkl m hm g1 g2 (trks (exts (sets.take k))) (by omega) (nmF (sets.take k) fun _=>[]) (gt sets k).Extents.length 0 n (by omega) (by omega)
    have z0:trks ((gt sets k).Extents.take 0)=[]:=by simp [trks]
    rw [z0,Jf,giv_nil] at key
    have e1:trks (exts (sets.take (k+1)))=trks (exts (sets.take k)) ++ trks (gt sets k).Extents:=by
      rw [ht,exts_app,trks_app];simp [exts]
    have e2:nmF (sets.take (k+1)) (fun _=>[])=giv (trks (gt sets k).Extents) (gt sets k).Name (nmF (sets.take k) fun _=>[]):=by
      rw [ht,nmF_app];rfl
    refine (loopF_step (x':=(own m (trks (exts (sets.take (k+1)))),nam m (nmF (sets.take (k+1)) fun _=>[]),((k+1:Nat):Int))) ?_).trans (ih (k+1) N (by omega) (by omega))
    unfold law21_VtocApart_b8
    simp only [decide_eq_true hlt,cond_true]
    erw [key]
    simp only [jf,law21_VtocApart_k9]
    rw [wid (n:=(k:Int)+1) (by omega),e1,e2]
    rfl
theorem free1_loop (n:Nat) (s:List UInt8) (a1 a2 a3 n_:Int) (sets:List TDscb) (names:List (List UInt8)) (free:List TExtent) (i:Nat) (hi:i < free.length) (m:Nat) (hm:m≤512) (x:TExtent) (hxe:gt free (Int.toNat ((i:Nat):Int))=x) (hx:val x=true) (hxm:x.At+x.Len≤(m:Int)) (S:List Int) (hS:S.length≤100000) :
    ∀ j q N,q+j=x.Len.toNat→j < N →
    loopF (fun (y:(List Int)×Int)=>law21_VtocApart_b7 n s a1 a2 a3 sets n_ names free (i:Int) y.1 y.2) N (own m (S ++ (trk x).take q),x.At+(q:Int))=some (own m (S ++ trk x)):=by
  have hlt:((i:Nat):Int) < (free.length:Int):=by omega
  have hgd:(0≤((i:Nat):Int)∧((i:Nat):Int) < (free.length:Int))∧Int.toNat ((i:Nat):Int) < free.length∧(0≤((i:Nat):Int)∧((i:Nat):Int) < (free.length:Int))∧Int.toNat ((i:Nat):Int) < free.length:=⟨⟨by omega,hlt⟩,hi,⟨by omega,hlt⟩,hi⟩
  intro j
  induction j with
  | zero =>
    intro q N hq hN
    obtain ⟨N,rfl⟩:∃ q,N=q+1:=⟨N - 1,by omega⟩
    refine loopF_done ?_
    unfold law21_VtocApart_b7
    rw [hxe]
    obtain ⟨v1,v2,v3,v4⟩:=(val_iff x).1 hx
    have hw:jc .i64 (x.At+x.Len)=x.At+x.Len:=wid (by omega)
    have hd:decide (x.At+(q:Int) < x.At+x.Len)=false:=decide_eq_false (by omega)
    have ht:(trk x).take q=trk x:=jN (by rw [trk_length];omega)
    rw [gd_pos _ hgd,hw,hd,cond_false,ht]
  | succ j ih =>
    intro q N hq hN
    obtain ⟨N,rfl⟩:∃ q,N=q+1:=⟨N - 1,by omega⟩
    refine (loopF_step (x':=(own m (S ++ (trk x).take (q+1)),x.At+((q+1:Nat):Int))) ?_).trans (ih (q+1) N (by omega) (by omega))
    unfold law21_VtocApart_b7
    rw [hxe,own_len]
    obtain ⟨v1,v2,v3,v4⟩:=(val_iff x).1 hx
    have hw:jc .i64 (x.At+x.Len)=x.At+x.Len:=wid (by omega)
    have hd:decide (x.At+(q:Int) < x.At+x.Len)=true:=decide_eq_true (by omega)
    have hT:(x.At+(q:Int)).toNat < m:=by omega
    have hTe:(((x.At+(q:Int)).toNat:Nat):Int)=x.At+(q:Int):=by omega
    have hcnt:(S ++ (trk x).take q).count (x.At+(q:Int))≤200000:=by
      have h1:=List.count_le_length (a:=x.At+(q:Int)) (l:=S ++ (trk x).take q)
      rw [ji,jl,trk_length] at h1
      omega
    have e1:=own_set (S:=S ++ (trk x).take q) hT
    rw [hTe] at e1
    rw [gd_pos _ hgd,hw,hd,cond_true,gd_pos _ (by omega),own_gt hT,hTe,wid (n:=x.At+(q:Int)+1) (by omega),wid (n:=(((S ++ (trk x).take q).count (x.At+(q:Int)):Nat):Int)+1) (by omega),e1,trk_take_succ (by omega),jM]
    have e4:x.At+(q:Int)+1=x.At+((q+1:Nat):Int):=by omega
    rw [e4]
theorem free_loop (n:Nat) (hn:N0≤n) (s:List UInt8) (a1 a2 a3 n_:Int) (sets:List TDscb) (names:List (List UInt8)) (free:List TExtent) (m:Nat) (hm:m≤512) (hx:∀ x∈free,val x=true∧x.At+x.Len≤(m:Int)) (hl:free.length≤512) (hF:(trks free).length≤512) (S:List Int) (hS:S.length≤50000) :
    ∀ j i N,i+j=free.length→j < N →
    loopF (fun (y:(List Int)×Int)=>law21_VtocApart_b5 n s a1 a2 a3 sets n_ names free y.1 y.2) N (own m (S ++ trks (free.take i)),(i:Int))=some (own m (S ++ trks free)):=by
  have hn0:4194304≤n:=hn
  intro j
  induction j with
  | zero =>
    intro i N hi hN
    obtain ⟨N,rfl⟩:∃ q,N=q+1:=⟨N - 1,by omega⟩
    have hi':i=free.length:=by omega
    subst hi'
    refine loopF_done ?_
    unfold law21_VtocApart_b5
    simp only [Int.lt_irrefl,decide_false,cond_false,JF]
  | succ j ih =>
    intro i N hi hN
    obtain ⟨N,rfl⟩:∃ q,N=q+1:=⟨N - 1,by omega⟩
    have hil:i < free.length:=by omega
    have hlt:((i:Nat):Int) < (free.length:Int):=by omega
    obtain ⟨g1,g2⟩:=hx _ (by rw [gt_lt hil];exact jw hil:gt free i∈free)
    have g3:=(val_iff _).1 g1
    have hle:(trks (free.take i)).length≤512:=by
      have:trks free=trks (free.take i) ++ trks (free.drop i):=by rw [← trks_app,Jo]
      rw [this,ji] at hF
      omega
    have key:=free1_loop n s a1 a2 a3 n_ sets names free i hil m hm (gt free i) rfl g1 g2 (S ++ trks (free.take i)) (by rw [ji];omega) (gt free i).Len.toNat 0 n (by omega) (by omega)
    rw [List.take_zero,Jf,Int.natCast_zero,Int.add_zero,jM,← trks_take_succ hil] at key
    refine (loopF_step (x':=(own m (S ++ trks (free.take (i+1))),((i+1:Nat):Int))) ?_).trans (ih (i+1) N (by omega) (by omega))
    unfold law21_VtocApart_b5
    simp only [decide_eq_true hlt,cond_true,jy]
    rw [gd_pos _ ⟨⟨by omega,hlt⟩,hil⟩]
    erw [key]
    simp only [jf,law21_VtocApart_k6]
    rw [wid (n:=(i:Int)+1) (by omega)]
    rfl
end Go.Proofs.YtijnkhcfondehaaGreatDoor
/-
  ch. 21: each track behind the table has one owner.
-/
namespace Go.Proofs.YtijnkhcfondehaaGreatDoor
open Go.AE
theorem trks_exts_cons (d:TDscb) (l:List TDscb):trks (exts (d :: l))=trks d.Extents ++ trks (exts l):=by rw [exts_cons,trks_app]
theorem mem_trks_exts {l:List TDscb} {t:Int}:t∈trks (exts l)↔∃ d,d∈l∧t∈trks d.Extents:=by
  induction l with
  | nil=>simp [exts,trks]
  | cons d l ih =>
    rw [trks_exts_cons,jk,ih]
    constructor
    · rintro (h | ⟨e,h1,h2⟩)
      · exact ⟨d,j4,h⟩
      · exact ⟨e,Jb _ h1,h2⟩
    · rintro ⟨e,h1,h2⟩
      rcases jO.1 h1 with rfl | h1
      · exact .inl h2
      · exact .inr ⟨e,h1,h2⟩
theorem uniq {t:Int}:∀ {l:List TDscb},(trks (exts l)).Nodup→∀ {d e:TDscb},d∈l→e∈l→t∈trks d.Extents→t∈trks e.Extents→d=e
  | [],_,_,_,h,_,_,_=>by simp at h
  | a :: l,hn,d,e,hd,he,ht,hu=>by
    rw [trks_exts_cons,Jm] at hn
    obtain ⟨_,h2,h3⟩:=hn
    rcases jO.1 hd with rfl | hd' <;> rcases jO.1 he with rfl | he'
    · rfl
    · exact absurd rfl (h3 t ht t (mem_trks_exts.2 ⟨e,he',hu⟩))
    · exact absurd rfl (h3 t hu t (mem_trks_exts.2 ⟨d,hd',ht⟩))
    · exact uniq h2 hd' he' ht hu
theorem nmF_none {t:Int}:∀ {l:List TDscb} (f:Int→List UInt8),(∀ d,d∈l→t ∉ trks d.Extents)→nmF l f t=f t
  | [],_,_=>rfl
  | a :: l,f,h=>by
    simp only [nmF]
    rw [nmF_none _ fun d hd=>h d (Jb _ hd)]
    simp [giv,h a j4]
theorem nmF_some {t:Int}:∀ {l:List TDscb} (f:Int→List UInt8) {d:TDscb},d∈l→t∈trks d.Extents→(∀ e,e∈l→t∈trks e.Extents→e=d)→nmF l f t=d.Name
  | [],_,_,h,_,_=>by simp at h
  | a :: l,f,d,hd,ht,hu=>by
    simp only [nmF]
    by_cases h:∃ e,e∈l∧t∈trks e.Extents
    · obtain ⟨e,h1,h2⟩:=h
      have e0:=hu e (Jb _ h1) h2
      subst e0
      exact nmF_some _ h1 ht fun e he=>hu e (Jb _ he)
    · rw [nmF_none _ fun e he h2=>h ⟨e,he,h2⟩]
      rcases jO.1 hd with rfl | hd'
      · simp [giv,ht]
      · exact absurd ⟨d,hd',ht⟩ h
theorem firstT_lt {track:Int} {N:Nat}:∀ {ps:List (Nat×Int)},(∀ p∈ps,p.1 < N)→(firstT track ps).2=true→0≤(firstT track ps).1∧(firstT track ps).1 < (N:Int)
  | [],_,h=>by simp [firstT] at h
  | p :: ps,h,h2=>by
    simp only [firstT] at h2 ⊢
    split
    · have:=h p j4
      simp only;omega
    · rename_i hne
      simp only [hne,if_false] at h2
      exact firstT_lt (fun q hq=>h q (Jb _ hq)) h2
theorem owner_loop (n:Nat) (hn:N0≤n) (v:TVtoc) (hv:light v) (hh:head v=true) (hok:∀ d∈v.Sets,okD v d) (t:Int):∀ j k N,k+j=v.Sets.length→j < N→(∀ i,i < k→t ∉ trks (gt v.Sets i).Extents) →
    ∃ y,loopF (fun (x:Int)=>vtoc_Owner_b2 n t v (v.Sets.length:Int) x) N (k:Int)=some y ∧
      ((∃ d ix,d∈v.Sets∧t∈trks d.Extents∧0≤ix∧ix < capV v∧y = .inl (d.Name,ix,true))∨((∀ d,d∈v.Sets→t ∉ trks d.Extents)∧y = .inr ())):=by
  obtain ⟨l1,l2,l3⟩:=hv
  intro j
  induction j with
  | zero =>
    intro k N hk hN hb
    obtain ⟨N,rfl⟩:∃ q,N=q+1:=⟨N - 1,by omega⟩
    refine ⟨_,loopF_done (y:=.inr ()) ?_,.inr ⟨fun d hd=>?_,rfl⟩⟩
    · unfold vtoc_Owner_b2
      rw [decide_eq_false (by omega),cond_false]
    · obtain ⟨i,hi,rfl⟩:=jU hd
      rw [← gt_lt hi];exact hb i (by omega)
  | succ j ih =>
    intro k N hk hN hb
    obtain ⟨N,rfl⟩:∃ q,N=q+1:=⟨N - 1,by omega⟩
    have hkl:k < v.Sets.length:=by omega
    have hlt:((k:Nat):Int) < (v.Sets.length:Int):=by omega
    have hmem:gt v.Sets k∈v.Sets:=by rw [gt_lt hkl];exact jw hkl
    have hx:=(l3 _ hmem).2
    obtain ⟨o1,o2,o3,o4,o5⟩:=(okD_iff hh).1 (hok _ hmem)
    have hs:=onV_some o4
    have hI:=Index_eq n hn (gt v.Sets k).Extents t (by omega)
    rw [if_pos hs] at hI
    have hsnd:(firstT t (upT (exF (gt v.Sets k).Extents) (gt v.Sets k).Extents.length)).2=decide (t∈trks (gt v.Sets k).Extents):=by rw [firstT_snd,upT_all]
    have hN2:(upT (exF (gt v.Sets k).Extents) (gt v.Sets k).Extents.length).length=(trks (gt v.Sets k).Extents).length:=by rw [← upT_all,List.length_map]
    have hrg:=firstT_lt (track:=t) (upT_lt (exF (gt v.Sets k).Extents) (gt v.Sets k).Extents.length)
    rw [hN2] at hrg
    obtain ⟨c1,c2,c3,c4⟩:=head_c hh
    have hfew:(trks (gt v.Sets k).Extents).length≤(capV v).toNat:=few o4.2.1 fun x hx=>by
      have:=(trks_range o4.1) x hx
      have:=o4.2.2 x hx
      omega
    generalize firstT t (upT (exF (gt v.Sets k).Extents) (gt v.Sets k).Extents.length)=r at hI hsnd hrg
    have hbody:vtoc_Owner_b2 n t v (v.Sets.length:Int) (k:Int)=some (if r.2=true then .inr (.inl ((gt v.Sets k).Name,r.1,true)) else .inl ((k+1:Nat):Int)):=by
      unfold vtoc_Owner_b2
      simp only [decide_eq_true hlt,cond_true,jy,hI,jf]
      rw [gd_pos _ ⟨by omega,hlt⟩,wid (n:=(k:Int)+1) (by omega)]
      cases r.2 <;> rfl
    by_cases hm:t∈trks (gt v.Sets k).Extents
    · rw [decide_eq_true hm] at hsnd
      rw [if_pos hsnd] at hbody
      obtain ⟨r1,r2⟩:=hrg hsnd
      exact ⟨_,loopF_done hbody,.inl ⟨_,r.1,hmem,hm,r1,by omega,rfl⟩⟩
    · rw [decide_eq_false hm] at hsnd
      rw [hsnd,if_neg (by simp)] at hbody
      obtain ⟨y,y1,y2⟩:=ih (k+1) N (by omega) (by omega) (fun i hi=>by
        by_cases e:i=k
        · subst e;exact hm
        · exact hb i (by omega))
      exact ⟨y,(loopF_step hbody).trans y1,y2⟩
theorem Owner_val (n:Nat) (hn:N0≤n) (v:TVtoc) (hv:light v) (hr:rV v=true) (t:Int):∃ r,vtoc_Owner n v t=some r ∧
    ((∃ d,d∈v.Sets∧t∈trks d.Extents∧0≤r.2.1∧r.2.1 < capV v∧r.1=d.Name∧r.2.2=true)∨((∀ d,d∈v.Sets→t ∉ trks d.Extents)∧r=([],0,false))):=by
  have hn0:4194304≤n:=hn
  obtain ⟨q1,q2,q3,q4,q5,q6⟩:=rV_all.1 hr
  have hC:=Check_all n hn v hv
  rw [pV_rV,hr] at hC
  obtain ⟨y,y1,y2⟩:=owner_loop n hn v hv q1 q4 t v.Sets.length 0 n (by omega) (by have:=hv.1;omega) (fun i hi=>by omega)
  have y1':loopF (fun (x:Int)=>vtoc_Owner_b2 n t v (v.Sets.length:Int) x) n 0=some y:=y1
  rcases y2 with ⟨d,ix,h1,h2,h3,h4,rfl⟩ | ⟨h1,rfl⟩
  · refine ⟨(d.Name,ix,true),?_,.inl ⟨d,h1,h2,h3,h4,rfl,rfl⟩⟩
    simp only [vtoc_Owner,hC,jf,if_true,bne_self_eq_false,cond_false,y1']
  · refine ⟨([],0,false),?_,.inr ⟨h1,rfl⟩⟩
    simp only [vtoc_Owner,hC,jf,if_true,bne_self_eq_false,cond_false,y1',vtoc_Owner_k1]
theorem p_law21_VtocApart (x0:TStart) (x1:List TAct) (hc:∀ i,i < 2→CanL Tryz.prog (([(true,[.int .u8,.int .u8,.int .u8]),(false,[.slice 62])]:List (Bool×List Kd)).getD i (false,[])).2 (([[.int x0.Cyls,.int x0.Heads,.int x0.Size],[.slice (List.map e_TAct x1)]]:List (List C)).getD i []))
    (hb:cbss [[.int x0.Cyls,.int x0.Heads,.int x0.Size],[.slice (List.map e_TAct x1)]]≤2097152):law21_VtocApart N0 x0 x1=some true:=by
  have hn:=js N0
  have hl:=len_of_cbss hb (xs:=[.slice (List.map e_TAct x1)]) (l:=x1) (f:=e_TAct) (by simp) (by simp)
  have h0:=hc 0 (by decide)
  have ha:=acts_ok (hc 1 (by decide))
  obtain ⟨w,hw,hv,hr⟩:=play_val N0 hn x0 x1 (byte_of (h0.2 0 (by decide))) (byte_of (h0.2 1 (by decide))) (byte_of (h0.2 2 (by decide))) hl ha
  obtain ⟨q1,q2,q3,q4,q5,q6⟩:=rV_all.1 hr
  obtain ⟨c1,c2,c3,c4⟩:=head_c q1
  have hC:=Check_all N0 hn w hv
  rw [pV_rV,hr,if_pos rfl] at hC
  obtain ⟨R,hR,r1,r2,r3⟩:=vFree_val N0 hn w hv hr
  obtain ⟨A1,A2⟩:=(trkF_isSome _).1 q6
  have hz:1≤w.Size:=by
    have h:=q1
    simp only [head,headB,inB,je,decide_eq_true_eq] at h
    exact h.2.1
  obtain ⟨m,hm⟩:∃ m:Nat,m=(capV w).toNat:=⟨_,rfl⟩
  have hcm:(m:Int)=capV w:=by omega
  have hexts:∀ d∈w.Sets,(∀ x∈d.Extents,val x=true∧x.At+x.Len≤(m:Int))∧d.Extents.length≤20:=by
    intro d hd
    obtain ⟨o1,o2,o3,o4,o5⟩:=(okD_iff q1).1 (q4 d hd)
    exact ⟨fun x hx=>by
      obtain ⟨a,b,c⟩:=onV_ext o4 hx
      exact ⟨c,by omega⟩,(hv.2.2 d hd).2⟩
  have hS:(trks (exts w.Sets)).length≤512:=few A2 (trks_range A1)
  have RB:=nf_val r1
  have hRm:∀ x∈R,val x=true∧x.At+x.Len≤(m:Int):=by
    intro x hx
    have h1:=jx.1 RB x hx
    have h2:=(val_iff x).1 h1
    have h3:x.At+x.Len - 1∈trks R:=j9.2 ⟨x,hx,trk_mem.2 (by omega)⟩
    have h4:=(r2 _).1 h3
    exact ⟨h1,by omega⟩
  have RN:(trks R).Nodup:=(nf_asc r1).imp fun h=>by omega
  have hRl:(trks R).length≤512:=few RN (trks_range RB)
  have k1:=labels_loop N0 hn w.Serial w.Cyls w.Heads w.Size (capV w) w.Sets R m (by omega) hexts hS (by have:=hv.1;omega) w.Sets.length 0 N0 (by omega) (by have:=hv.1;have:N0=4194304:=rfl;omega)
  rw [List.take_zero] at k1
  have z0:trks (exts ([]:List TDscb))=[]:=by simp [exts,trks]
  rw [z0] at k1
  have k2:=free_loop N0 hn w.Serial w.Cyls w.Heads w.Size (capV w) w.Sets (nam m (nmF w.Sets fun _=>[])) R m (by omega) hRm r3 hRl (trks (exts w.Sets)) (by omega) R.length 0 N0 (by omega) (by have:N0=4194304:=rfl;omega)
  have z1:trks (R.take 0)=[]:=by simp [trks]
  rw [z1,Jf] at k2
  have k3:loopF (fun (x:Int)=>law21_VtocApart_b4 N0 w.Serial w.Cyls w.Heads w.Size w.Sets (capV w) (own m (trks (exts w.Sets) ++ trks R)) (nam m (nmF w.Sets fun _=>[])) x) N0 0=some (.inr ()):=by
    have e:=loop_any (body:=fun (x:Int)=>law21_VtocApart_b4 N0 w.Serial w.Cyls w.Heads w.Size w.Sets (capV w) (own m (trks (exts w.Sets) ++ trks R)) (nam m (nmF w.Sets fun _=>[])) x) (Jg m) (fun _=>false) (.inl false:Bool ⊕ Unit) (.inr ()) (n:=N0)
      (fun T hT=>by
        rw [List.length_range] at hT
        have ht:0≤((T:Nat):Int)∧((T:Nat):Int) < (m:Int):=by omega
        have htc:((T:Nat):Int) < capV w:=by omega
        obtain ⟨r,hO,hcase⟩:=Owner_val N0 hn w hv hr (T:Int)
        have hO':vtoc_Owner N0 ⟨w.Serial,w.Cyls,w.Heads,w.Size,w.Sets⟩ (T:Int)=some r:=hO
        have hcnt:(((trks (exts w.Sets) ++ trks R).count ((T:Nat):Int):Nat):Int)=if w.Size < (T:Int) then 1 else 0:=by
          by_cases hs:w.Size < (T:Int)
          · rw [if_pos hs]
            have hnd:(trks (exts w.Sets) ++ trks R).Nodup:=Jm.2 ⟨A2,RN,fun a h1 b h2 e=>((r2 b).1 h2).2.2 (e ▸ h1)⟩
            have hme:(T:Int)∈trks (exts w.Sets) ++ trks R:=by
              rw [jk]
              by_cases h:(T:Int)∈trks (exts w.Sets)
              · exact .inl h
              · exact .inr ((r2 _).2 ⟨hs,htc,h⟩)
            rw [hnd.count,if_pos hme];rfl
          · rw [if_neg hs,List.count_eq_zero.2]
            · rfl
            · rw [jk]
              rintro (h | h)
              · obtain ⟨d,hd,h⟩:=mem_trks_exts.1 h
                obtain ⟨o1,o2,o3,o4,o5⟩:=(okD_iff q1).1 (q4 d hd)
                exact hs (o4.2.2 _ h).1
              · exact hs ((r2 _).1 h).1
        have hnm:r.1=nmF w.Sets (fun _=>[]) (T:Int)∧r.2.2=(nmF w.Sets (fun _=>[]) (T:Int) != [])∧0≤r.2.1∧r.2.1 < capV w:=by
          rcases hcase with ⟨d,d1,d2,d3,d4,d5,d6⟩ | ⟨d1,rfl⟩
          · have hnm:=nmF_some (fun _=>[]) d1 d2 fun e he h2=>uniq A2 he d1 h2 d2
            obtain ⟨o1,o2,o3,o4,o5⟩:=(okD_iff q1).1 (q4 d d1)
            have hne:d.Name≠[]:=by
              intro e;rw [e] at o1;revert o1;decide
            rw [hnm]
            exact ⟨d5,by rw [d6];symm;exact bne_iff_ne.2 hne,d3,d4⟩
          · rw [nmF_none _ d1]
            exact ⟨rfl,rfl,by show (0:Int)≤0;omega,by show (0:Int) < capV w;omega⟩
        obtain ⟨n1,n2,n3,n4⟩:=hnm
        have e1:decide (r.2.1 < 0)=false:=decide_eq_false (by omega)
        have e2:decide (r.2.1 ≥ capV w)=false:=decide_eq_false (by omega)
        have hg:gt (own m (trks (exts w.Sets) ++ trks R)) (Int.toNat ((T:Nat):Int))=if w.Size < (T:Int) then 1 else 0:=(own_gt hT).trans hcnt
        have hgn:gt (nam m (nmF w.Sets fun _=>[])) (Int.toNat ((T:Nat):Int))=nmF w.Sets (fun _=>[]) (T:Int):=nam_gt hT
        have e3:((gt (own m (trks (exts w.Sets) ++ trks R)) (Int.toNat ((T:Nat):Int)) == 1) != decide ((T:Int) > w.Size))=false:=by
          rw [hg]
          by_cases hs:w.Size < (T:Int)
          · rw [if_pos hs,decide_eq_true hs];rfl
          · rw [if_neg hs,decide_eq_false hs];rfl
        have e4:decide (gt (own m (trks (exts w.Sets) ++ trks R)) (Int.toNat ((T:Nat):Int)) > 1)=false:=by
          apply decide_eq_false
          rw [hg]
          split <;> omega
        unfold law21_VtocApart_b4
        simp only [decide_eq_true htc,cond_true,hO',jf,own_len,nam_len]
        rw [gd_pos _ ⟨ht,hT,fun _=>ht,fun _=>hT,fun _=>ht,fun _=>hT,fun _=>ht,fun _=>hT⟩,wid (n:=(T:Int)+1) (by omega)]
        simp only [e1,e2,e3,e4,hgn,n1,n2,bne_self_eq_false,jn,if_false,cond_false]
        rfl)
      (by
        rw [List.length_range]
        unfold law21_VtocApart_b4
        rw [decide_eq_false (by omega),cond_false]) (by
        rw [List.length_range]
        have:N0=4194304:=rfl
        omega)
    simpa using e
  have hwk:w=⟨w.Serial,w.Cyls,w.Heads,w.Size,w.Sets⟩:=rfl
  have hcap:jc .i64 (w.Cyls * w.Heads)=capV w:=rfl
  have hcz:(capV w).toNat=m:=hm.symm
  simp only [law21_VtocApart,hw,hC,jf,works_N0,JN,Jd,implies_true,bne_self_eq_false,jn,if_false,jT,cond_false,hcap,hR,hcz,own_zero,nam_zero]
  rw [gd_pos _ trivial,gd_pos _ ⟨by omega,by omega,by omega⟩,gd_pos _ ⟨by omega,by omega,by omega⟩]
  erw [k1]
  simp only [jf,law21_VtocApart_k1]
  erw [k2]
  simp only [jf,law21_VtocApart_k2,k3,law21_VtocApart_k3]
end Go.Proofs.YtijnkhcfondehaaGreatDoor
