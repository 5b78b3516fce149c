/- Text. -/
import Derived.Test.YtijnkhcfondehaaGreatDoorU
import Derived.Test.YtijnkhcfondehaaGreatDoorM
import Derived.Test.YtijnkhcfondehaaGreatDoorFL
set_option linter.unusedSimpArgs false
set_option linter.unusedVariables false
set_option maxHeartbeats 8000000
set_option linter.unusedVariables false
set_option linter.unusedSimpArgs false
set_option maxRecDepth 100000
namespace Go.Proofs.YtijnkhcfondehaaGreatDoor
open Go.AE
theorem head_c {v:TVtoc} (h:head v=true):capV v=v.Cyls * v.Heads∧1≤capV v∧capV v≤512∧v.Size+1≤capV v:=by
  have hz:=head_z h
  unfold head headB inB at h
  simp only [Bool.and_eq_true,decide_eq_true_eq] at h
  obtain ⟨⟨⟨_,h1,h2⟩,h3,h4⟩,h5,h6⟩:=h
  have e1:1≤v.Cyls * v.Heads:=by
    have:0 < v.Cyls * v.Heads:=Int.mul_pos (by omega) (by omega)
    omega
  have e2:v.Cyls * v.Heads≤512:=by
    have a:v.Cyls * v.Heads≤64 * v.Heads:=Int.mul_le_mul_of_nonneg_right h2 (by omega)
    omega
  have ec:capV v=v.Cyls * v.Heads:=wid (by omega)
  rw [wid (n:=v.Cyls * v.Heads) (by omega),wid (n:=v.Cyls * v.Heads - 1) (by omega)] at h6
  exact ⟨ec,by omega,by omega,by omega⟩
def okD (v:TVtoc) (d:TDscb):Prop:=pLbl v d=true∧∀ x∈d.Extents,v.Size < x.At
theorem rV_all {v:TVtoc}:rV v=true↔head v=true∧v.Sets.length≤64∧(v.Sets.length:Int)≤14 * v.Size∧(∀ d∈v.Sets,okD v d)∧v.Sets.Pairwise wlt∧(trkF [] (exts v.Sets)).isSome=true:=by
  rw [rV_iff]
  constructor
  · rintro ⟨h1,h2,h3,h4,h5⟩
    refine ⟨h1,h2,h3,fun d hd=>?_,ord_iff.1 fun k hk=>(h4 k hk).2,h5⟩
    obtain ⟨k,hk,rfl⟩:=List.getElem_of_mem hd
    have:=(h4 k hk).1
    rw [gt_lt hk] at this
    exact this
  · rintro ⟨h1,h2,h3,h4,h5,h6⟩
    refine ⟨h1,h2,h3,fun k hk=>⟨?_,ord_iff.2 h5 k hk⟩,h6⟩
    rw [gt_lt hk]
    exact h4 _ (List.getElem_mem hk)
def onV (v:TVtoc) (X:List TExtent):Prop:=X.all val=true∧(trks X).Nodup∧∀ k∈trks X,v.Size < k∧k < capV v
theorem onV_ext {v:TVtoc} {X:List TExtent} (h:onV v X) {x:TExtent} (hx:x∈X):v.Size < x.At∧x.At+x.Len≤capV v∧val x=true:=by
  have hv:=List.all_eq_true.1 h.1 x hx
  have v1:=(val_iff x).1 hv
  have a:=h.2.2 x.At (List.mem_flatMap.2 ⟨x,hx,trk_mem.2 ⟨by omega,by omega⟩⟩)
  have b:=h.2.2 (x.At+x.Len - 1) (List.mem_flatMap.2 ⟨x,hx,trk_mem.2 ⟨by omega,by omega⟩⟩)
  exact ⟨a.1,by omega,hv⟩
theorem onV_over {v:TVtoc} {X:List TExtent} (h:onV v X):X.any (overB v)=false:=by
  rw [List.any_eq_false]
  intro x hx
  obtain ⟨h1,h2,h3⟩:=onV_ext h hx
  have v1:=(val_iff x).1 h3
  unfold overB
  rw [wid (by omega)]
  simp;omega
theorem onV_some {v:TVtoc} {X:List TExtent} (h:onV v X):(trkF [] X).isSome=true:=(trkF_isSome X).2 ⟨h.1,h.2.1⟩
theorem okD_iff {v:TVtoc} (hh:head v=true) {d:TDscb}:okD v d↔nameB d.Name=true∧dscB d.Dcb=true∧(1≤d.Extents.length∧d.Extents.length≤8)∧onV v d.Extents∧0≤d.Used∧d.Used≤(((trks d.Extents).length:Nat):Int):=by
  have hz:=head_z hh
  unfold okD pLbl inB
  simp only [Bool.and_eq_true,Bool.not_eq_true',decide_eq_true_eq]
  constructor
  · rintro ⟨⟨⟨⟨⟨⟨h1,h2⟩,h3⟩,h4⟩,h5⟩,h6⟩,h7⟩
    have ⟨a1,a2⟩:=(trkF_isSome _).1 h4
    rw [trkO_of h4] at h6
    refine ⟨h1,h2,by omega,⟨a1,a2,fun k hk=>?_⟩,h6.1,h6.2⟩
    obtain ⟨x,hx,hk⟩:=List.mem_flatMap.1 hk
    have hk:=trk_mem.1 hk
    have v1:=(val_iff x).1 (List.all_eq_true.1 a1 x hx)
    have:=h7 x hx
    have ho:=List.any_eq_false.1 h5 x hx
    unfold overB at ho
    rw [wid (by omega)] at ho
    simp at ho
    omega
  · rintro ⟨h1,h2,h3,h4,h5,h6⟩
    refine ⟨⟨⟨⟨⟨⟨h1,h2⟩,by omega⟩,onV_some h4⟩,onV_over h4⟩,?_⟩,fun x hx=>(onV_ext h4 hx).1⟩
    rw [trkO_of (onV_some h4)];exact ⟨h5,h6⟩
theorem vFree_val (n:Nat) (hn:N0≤n) (v:TVtoc) (hv:light v) (hr:rV v=true):∃ R,vtoc_Free n v=some R∧nf (-1) R∧(∀ k,k∈trks R↔v.Size < k∧k < capV v∧k ∉ trks (exts v.Sets))∧R.length≤512:=by
  have hn0:4194304≤n:=hn
  have hel:=exts_len hv.2.2
  have h70:=hv.1
  obtain ⟨q1,q2,q3,q4,q5,q6⟩:=rV_all.1 hr
  obtain ⟨c1,c2,c3,c4⟩:=head_c q1
  have hz:=head_z q1
  have w2:IntKind.wrap .i64 (v.Size+1)=v.Size+1:=wid (by omega)
  have hsome:(trkF [] ((⟨0,v.Size+1⟩:TExtent) :: exts v.Sets)).isSome=true:=(behind_iff (by omega) _).2 ⟨q6,fun x hx=>by
    obtain ⟨d,hd,hx⟩:=List.mem_flatMap.1 hx
    exact (q4 d hd).2 x hx⟩
  have key:=vFree_loop n hn v hv [⟨0,v.Size+1⟩] (by simp) v.Sets.length 0 n (by omega) (by omega)
  simp only [List.take_zero] at key
  have key':loopF (fun (x:(List TExtent)×Int)=>vtoc_Free_b2 n v (v.Sets.length:Int) x.1 x.2) n ([(⟨0,v.Size+1⟩:TExtent)],0)=some ([(⟨0,v.Size+1⟩:TExtent)] ++ exts v.Sets):=key
  obtain ⟨R,r1,r2,r3,r4⟩:=Free_val n hn ((⟨0,v.Size+1⟩:TExtent) :: exts v.Sets) (capV v) (by rw [List.length_cons];omega) hsome (by omega)
  refine ⟨R,?_,r2,fun k=>?_,r4⟩
  · unfold vtoc_Free
    rw [Check_all n hn v hv,pV_rV,hr,Option.bind_some]
    simp only [if_true,bne_self_eq_false,cond_false,w2]
    rw [key',Option.bind_some,List.singleton_append,vtoc_Free_k1]
    show (extent_Free n _ (capV v)).bind _=_
    rw [r1,Option.bind_some]
  · rw [r3,trks_cons,List.mem_append,trk_mem]
    simp only
    constructor
    · rintro ⟨a,b,c⟩
      refine ⟨?_,b,fun h=>c (.inr h)⟩
      by_cases h:k < v.Size+1
      · exact absurd (.inl ⟨a,by omega⟩) c
      · omega
    · rintro ⟨a,b,c⟩
      refine ⟨by omega,b,?_⟩
      rintro (h | h)
      · omega
      · exact c h
theorem take_val (n:Nat) (hn:N0≤n) (v:TVtoc) (hv:light v) (hr:rV v=true) (N most:Int) (hN:N≤9223372036854775807):∃ R r,vtoc_Free n v=some R∧extent_Take n R N most=some r ∧
    (r.2.2=0→1≤N∧onV v r.1∧(((trks r.1).length:Nat):Int)=N∧((r.1.length:Nat):Int)≤most∧∀ k∈trks r.1,k ∉ trks (exts v.Sets))∧(r.1=[]∨((r.1.length:Nat):Int)≤most)∧(r.2.2≠0→r.1=[]):=by
  obtain ⟨R,f1,f2,f3,f4⟩:=vFree_val n hn v hv hr
  refine ⟨R,?_⟩
  rcases Take_out n hn R N most (by omega) hN with ⟨h3,h4⟩ | ⟨h0,r,h3,a1,a2,a3,a4,a5,a6⟩ | ⟨_,h3,_⟩
  · exact ⟨_,f1,h3,fun h=>by simp at h,.inl rfl,fun _=>rfl⟩
  · refine ⟨r,f1,h3,fun _=>⟨?_,⟨a3,?_,fun k hk=>?_⟩,a5,a6,fun k hk=>?_⟩,.inr a6,fun h=>absurd a1 h⟩
    · by_cases h:1≤N
      · exact h
      · have c1:extent_Take n R N most=some ([],[],1):=by
          have hn0:4194304≤n:=hn
          simp only [extent_Take,Check_eq n R 512 (by omega) (by omega),Option.bind_some]
          have:decide (N < 1)=true:=decide_eq_true (by omega)
          rw [this];simp
        rw [h3] at c1
        have:=Option.some.inj c1
        rw [this] at a1;simp at a1
    · have hnd:(trks r.1 ++ trks r.2.1).Nodup:=a4.nodup_iff.2 ((nf_asc f2).imp fun h=>by omega)
      exact (List.nodup_append.1 hnd).1
    · have:=(f3 k).1 (a4.mem_iff.1 (List.mem_append_left _ hk))
      exact ⟨this.1,this.2.1⟩
    · exact ((f3 k).1 (a4.mem_iff.1 (List.mem_append_left _ hk))).2.2
  · exact ⟨_,f1,h3,fun h=>by simp at h,.inl rfl,fun _=>rfl⟩
end Go.Proofs.YtijnkhcfondehaaGreatDoor
/-
  ch. 21: Create and Extend keep a table valid (the program alone).
-/
set_option maxHeartbeats 8000000
set_option linter.unusedVariables false
set_option linter.unusedSimpArgs false
set_option maxRecDepth 100000
namespace Go.Proofs.YtijnkhcfondehaaGreatDoor
open Go.AE
theorem tbl_valid {v:TVtoc} {l:List TDscb} (h1:head v=true) (h2:l.length≤64) (h3:(l.length:Int)≤14 * v.Size) (h4:∀ d∈l,okD v d) (h5:l.Pairwise wlt) (h6:(trks (exts l)).Nodup):rV ⟨v.Serial,v.Cyls,v.Heads,v.Size,l⟩=true:=by
  refine rV_all.2 ⟨h1,h2,h3,h4,h5,(trkF_isSome _).2 ⟨?_,h6⟩⟩
  rw [List.all_eq_true]
  intro x hx
  obtain ⟨d,hd,hx⟩:=List.mem_flatMap.1 hx
  exact (onV_ext ((okD_iff h1).1 (h4 d hd)).2.2.2.1 hx).2.2
theorem ins_perm (d:TDscb):∀ l:List TDscb,(ins d l).Perm (d :: l)
  | []=>List.Perm.refl _
  | x :: r=>by
    rw [ins];split
    · exact List.Perm.refl _
    · exact ((ins_perm d r).cons x).trans (List.Perm.swap d x r)
theorem exts_perm {a b:List TDscb} (h:a.Perm b):(exts a).Perm (exts b):=h.flatMap_right _
theorem set_split {α:Type} {l:List α} {k:Nat} (h:k < l.length) (d:α):l.set k d=l.take k ++ d :: l.drop (k+1):=by
  rw [List.set_eq_take_append_cons_drop,if_pos h]
theorem get_split {α:Type} [Inhabited α] {l:List α} {k:Nat} (h:k < l.length):l=l.take k ++ gt l k :: l.drop (k+1):=by
  rw [gt_lt h,← List.drop_eq_getElem_cons h,List.take_append_drop]
theorem wlt_ne {l:List TDscb} (h:l.Pairwise wlt) {a b:Nat} (ha:a < l.length) (hb:b < l.length) (e:(gt l a).Name=(gt l b).Name):a=b:=by
  have hp:=List.pairwise_iff_getElem.1 h
  rw [gt_lt ha,gt_lt hb] at e
  rcases Nat.lt_trichotomy a b with h1 | h1 | h1
  · exact absurd e (bl_ne (hp a b ha hb h1))
  · exact h1
  · exact absurd e.symm (bl_ne (hp b a hb ha h1))
def others (name:List UInt8) (to:List UInt8) (l m:List TDscb):Prop:=(∀ d∈l,d.Name≠name→d∈m)∧∀ d∈m,d∈l∨d.Name=name∨d.Name=to
theorem ins_valid {v:TVtoc} (hr:rV v=true) {d:TDscb} (hd:okD v d) (hn:hasN v.Sets d.Name=false) (h1:v.Sets.length < 64) (h2:(v.Sets.length:Int) < 14 * v.Size) (hx:∀ k∈trks d.Extents,k ∉ trks (exts v.Sets)) :
    rV ⟨v.Serial,v.Cyls,v.Heads,v.Size,ins d v.Sets⟩=true:=by
  obtain ⟨q1,q2,q3,q4,q5,q6⟩:=rV_all.1 hr
  refine tbl_valid q1 (by rw [ins_len];omega) (by rw [ins_len];omega) (fun x hx=>?_) (ins_sorted q5 (hasN_false hn)) ?_
  · rcases mem_ins.1 hx with rfl | h
    · exact hd
    · exact q4 x h
  · have hp:=perm_trks (exts_perm (ins_perm d v.Sets))
    rw [hp.nodup_iff,exts_cons,trks_app,List.nodup_append]
    exact ⟨((okD_iff q1).1 hd).2.2.2.1.2.1,((trkF_isSome _).1 q6).2,fun a ha b hb e=>hx a ha (e ▸ hb)⟩
theorem set_valid {v:TVtoc} (hr:rV v=true) {k:Nat} (hk:k < v.Sets.length) {d:TDscb} (hd:okD v d) (hn:d.Name=(gt v.Sets k).Name) {nm:List UInt8} (hnm:(gt v.Sets k).Name=nm) (hx:(trks (exts (v.Sets.set k d))).Nodup) :
    rV ⟨v.Serial,v.Cyls,v.Heads,v.Size,v.Sets.set k d⟩=true∧others nm nm v.Sets (v.Sets.set k d):=by
  subst hnm
  obtain ⟨q1,q2,q3,q4,q5,q6⟩:=rV_all.1 hr
  have hset:=set_ins q5 hk hn
  refine ⟨tbl_valid q1 (by rw [List.length_set];exact q2) (by rw [List.length_set];exact q3) (fun x hx=>?_) ?_ hx,fun x hx hne=>?_,fun x hx=>?_⟩
  · rcases List.mem_or_eq_of_mem_set hx with h | rfl
    · exact q4 x h
    · exact hd
  · rw [hset];exact ins_sorted (q5.filter _) fun x hx=>(mem_wo.1 hx).2
  · rw [hset];exact mem_ins.2 (.inr (mem_wo.2 ⟨hx,by rw [hn];exact hne⟩))
  · rw [hset] at hx
    rcases mem_ins.1 hx with rfl | h
    · exact .inr (.inl hn)
    · exact .inl (mem_wo.1 h).1
def good21 (v:TVtoc) (name to:List UInt8) (r:TVtoc×Int):Prop:=light r.1∧(r.2≠0→r.1.Sets=[])∧(r.2=0→rV r.1=true∧others name to v.Sets r.1.Sets)
theorem good_bad {v:TVtoc} {name to:List UInt8} {e:Int} (h:e≠0):good21 v name to ((⟨[],0,0,0,[]⟩:TVtoc),e):=⟨light_tz,fun _=>rfl,fun h'=>absurd h' h⟩
theorem Create_val (n:Nat) (hn:N0≤n) (v:TVtoc) (hv:light v) (hr:rV v=true) (nm:List UInt8) (c:TDcb) (x:List TExtent) (u N:Int) (hnm:nm.length≤100) (hN:N≤9223372036854775807) :
    ∃ r,vtoc_Create n v ⟨nm,c,x,u⟩ N=some r∧good21 v nm nm r∧(r.2=0→hasN v.Sets nm=false∧∃ X,r.1=⟨v.Serial,v.Cyls,v.Heads,v.Size,ins ⟨nm,c,X,0⟩ v.Sets⟩):=by
  have hn0:4194304≤n:=hn
  obtain ⟨hs,hl,hl2,hz,hm⟩:=val_facts hr
  obtain ⟨q1,q2,q3,q4,q5,q6⟩:=rV_all.1 hr
  simp only [vtoc_Create,Check_all n hn v hv,pV_rV,Option.bind_some,hr,if_true,bne_self_eq_false,cond_false,Name_eq n _ hn,desc_eq,Option.isSome_some,Option.getD_some,implies_true]
  rw [gd_pos _ trivial]
  cases hc:(if (if (!nameB nm)=true then true else !dscB c)=true then true else decide (N < 1)) with
  | true=>exact ⟨_,rfl,good_bad (by decide),fun h=>by simp at h⟩
  | false =>
    simp only [cond_false,index_eq n hn v nm hs (by omega),Option.bind_some]
    cases hh:hasN v.Sets nm with
    | true=>exact ⟨_,rfl,good_bad (by decide),fun h=>by simp at h⟩
    | false =>
      simp only [cond_false]
      have w1:IntKind.wrap .i64 (14 * v.Size)=14 * v.Size:=wid (by omega)
      rw [w1]
      cases hf:((v.Sets.length:Int) == if 14 * v.Size < 64 then 14 * v.Size else 64) with
      | true=>exact ⟨_,rfl,good_bad (by decide),fun h=>by simp at h⟩
      | false =>
        obtain ⟨R,r,t1,t2,t3,t4,t5⟩:=take_val n hn v hv hr N 8 hN
        simp only [cond_false,t1,t2,Option.bind_some]
        cases he:r.2.2 != 0 with
        | true =>
          have:r.2.2≠0:=by simpa using he
          exact ⟨_,rfl,good_bad this,fun h=>absurd h this⟩
        | false =>
          have he0:r.2.2=0:=by simpa using he
          obtain ⟨g1,g2,g3,g4,g5⟩:=t3 he0
          have hlo:=lowN_le v.Sets nm
          have hno:=hasN_false hh
          simp only [cond_false,copied_eq n hn v hv,Option.bind_some,slices_Insert_h,Int.toNat_natCast]
          rw [gd_pos _ (by simp only [List.length_cons,List.length_nil];omega),Option.bind_some]
          have ei:=ins_low (d:=⟨nm,c,r.1,0⟩) (l:=v.Sets) hno
          have hx8:r.1.length≤8:=by omega
          have hne:1≤r.1.length:=by
            rcases Nat.eq_zero_or_pos r.1.length with h | h
            · have:r.1=[]:=List.length_eq_zero_iff.1 h
              rw [this] at g3;simp [trks] at g3;omega
            · exact h
          have hnd:nameB nm=true∧dscB c=true:=by
            rw [ite_tt,ite_tt] at hc
            simp only [Bool.or_eq_false_iff,Bool.not_eq_false'] at hc
            exact ⟨hc.1.1,hc.1.2⟩
          have hok:okD v ⟨nm,c,r.1,0⟩:=(okD_iff q1).2 ⟨hnd.1,hnd.2,⟨hne,hx8⟩,g2,by simp,by simp only;omega⟩
          have hlen:v.Sets.length < 64∧(v.Sets.length:Int) < 14 * v.Size:=by
            have:¬ ((v.Sets.length:Int)=if 14 * v.Size < 64 then 14 * v.Size else 64):=by simpa using hf
            split at this <;> omega
          refine ⟨_,rfl,⟨?_,fun h=>absurd rfl h,fun _=>⟨?_,?_⟩⟩,fun _=>⟨trivial,r.1,by rw [ei]⟩⟩
          · have:=light_ins (d:=⟨nm,c,r.1,0⟩) hv hl (fun x hx=>hx) hnm (by show r.1.length≤20;omega)
            rw [ei] at this
            exact this
          · have:=ins_valid hr hok hh hlen.1 hlen.2 g5
            rw [ei] at this
            exact this
          · show others nm nm v.Sets _
            rw [← ei]
            exact ⟨fun d hd _=>mem_ins.2 (.inr hd),fun d hd=>by
              rcases mem_ins.1 hd with rfl | h
              · exact .inr (.inl rfl)
              · exact .inl h⟩
end Go.Proofs.YtijnkhcfondehaaGreatDoor
/-
  ch. 21: Extend, Update and Scratch keep a table valid (the program alone).
-/
set_option maxHeartbeats 8000000
set_option linter.unusedVariables false
set_option linter.unusedSimpArgs false
set_option maxRecDepth 100000
namespace Go.Proofs.YtijnkhcfondehaaGreatDoor
open Go.AE
theorem onV_app {v:TVtoc} {A X:List TExtent} (ha:onV v A) (hx:onV v X) (hd:∀ k∈trks X,k ∉ trks A):onV v (A ++ X):=by
  refine ⟨by rw [List.all_append,ha.1,hx.1];rfl,?_,fun k hk=>?_⟩
  · rw [trks_app,List.nodup_append]
    exact ⟨ha.2.1,hx.2.1,fun a h1 b h2 e=>hd b h2 (e ▸ h1)⟩
  · rw [trks_app,List.mem_append] at hk
    rcases hk with h | h
    · exact ha.2.2 k h
    · exact hx.2.2 k h
theorem exts_set {l:List TDscb} {k:Nat} (hk:k < l.length) (d:TDscb) (X:List TExtent) (he:d.Extents=(gt l k).Extents ++ X):(exts (l.set k d)).Perm (X ++ exts l):=by
  have e2:exts l=exts (l.take k) ++ ((gt l k).Extents ++ exts (l.drop (k+1))):=by
    rw [← exts_cons,← exts_app];exact congrArg exts (get_split hk)
  rw [set_split hk,exts_app,exts_cons,he,e2]
  rw [List.append_assoc ((gt l k).Extents) X]
  exact ((List.perm_append_comm_assoc (gt l k).Extents X _).append_left _).trans (List.perm_append_comm_assoc _ X _)
theorem mem_exts_of {l:List TDscb} {k:Nat} (hk:k < l.length) {t:Int} (h:t∈trks (gt l k).Extents):t∈trks (exts l):=by
  obtain ⟨x,hx,ht⟩:=List.mem_flatMap.1 h
  exact List.mem_flatMap.2 ⟨x,mem_exts.2 ⟨k,hk,hx⟩,ht⟩
theorem Extend_val (n:Nat) (hn:N0≤n) (v:TVtoc) (hv:light v) (hr:rV v=true) (nm:List UInt8) (N:Int) (hnm:nm.length≤100) (hN:N≤9223372036854775807) :
    ∃ r,vtoc_Extend n v nm N=some r∧good21 v nm nm r∧(r.2=0→hasN v.Sets nm=true∧∃ X,r.1=⟨v.Serial,v.Cyls,v.Heads,v.Size,v.Sets.set (lowN v.Sets nm) ⟨(gt v.Sets (lowN v.Sets nm)).Name,(gt v.Sets (lowN v.Sets nm)).Dcb,(gt v.Sets (lowN v.Sets nm)).Extents ++ X,(gt v.Sets (lowN v.Sets nm)).Used⟩⟩):=by
  have hn0:4194304≤n:=hn
  obtain ⟨hs,hl,hl2,hz,hm⟩:=val_facts hr
  obtain ⟨q1,q2,q3,q4,q5,q6⟩:=rV_all.1 hr
  simp only [vtoc_Extend,vtoc_change_L,Check_all n hn v hv,pV_rV,Option.bind_some,hr,if_true,bne_self_eq_false,cond_false,index_eq n hn v nm hs (by omega)]
  cases hh:hasN v.Sets nm with
  | false=>exact ⟨_,rfl,good_bad (by decide),fun h=>by simp at h⟩
  | true =>
    obtain ⟨h1,h2,h3,h4⟩:=has_facts hr hh
    have hlt:((lowN v.Sets nm:Nat):Int) < (v.Sets.length:Int):=by omega
    simp only [Bool.not_true,cond_false,copied_eq n hn v hv,Option.bind_some]
    rw [gd_pos _ ⟨⟨by omega,hlt⟩,by first | trivial | rfl⟩]
    simp only [vtoc_Extend_1,Int.toNat_natCast]
    cases decide (N < 1) with
    | true=>exact ⟨_,rfl,good_bad (e:=1) (by decide),fun h=>by simp at h⟩
    | false =>
      have w8:IntKind.wrap .i64 (8 - ((gt v.Sets (lowN v.Sets nm)).Extents.length:Int))=8 - ((gt v.Sets (lowN v.Sets nm)).Extents.length:Int):=wid (by omega)
      simp only [cond_false,w8]
      cases 8 - ((gt v.Sets (lowN v.Sets nm)).Extents.length:Int) == 0 with
      | true=>exact ⟨_,rfl,good_bad (e:=200) (by decide),fun h=>by simp at h⟩
      | false =>
        obtain ⟨R,r,t1,t2,t3,t4,t5⟩:=take_val n hn v hv hr N (8 - ((gt v.Sets (lowN v.Sets nm)).Extents.length:Int)) hN
        have hx8:(gt v.Sets (lowN v.Sets nm)).Extents.length+r.1.length≤8:=by
          rcases t4 with h3 | h3
          · rw [h3];simp;exact h4
          · omega
        simp only [cond_false,t1,t2,Option.bind_some]
        rw [gd_pos _ (by omega),Option.bind_some]
        cases he:r.2.2 != 0 with
        | true =>
          have:r.2.2≠0:=by simpa using he
          exact ⟨_,rfl,good_bad this,fun h=>absurd h this⟩
        | false =>
          have he0:r.2.2=0:=by simpa using he
          obtain ⟨g1,g2,g3,g4,g5⟩:=t3 he0
          simp only [cond_false,Option.bind_some]
          have hk:=(okD_iff q1).1 (q4 _ h3)
          have hok:okD v ⟨(gt v.Sets (lowN v.Sets nm)).Name,(gt v.Sets (lowN v.Sets nm)).Dcb,(gt v.Sets (lowN v.Sets nm)).Extents ++ r.1,(gt v.Sets (lowN v.Sets nm)).Used⟩:=(okD_iff q1).2 ⟨hk.1,hk.2.1,by simp only [List.length_append];omega,onV_app hk.2.2.2.1 g2 (fun k hk' h=>g5 k hk' (mem_exts_of h1 h)),hk.2.2.2.2.1,by simp only [trks_app,List.length_append];omega⟩
          have hnd:(trks (exts (v.Sets.set (lowN v.Sets nm) ⟨(gt v.Sets (lowN v.Sets nm)).Name,(gt v.Sets (lowN v.Sets nm)).Dcb,(gt v.Sets (lowN v.Sets nm)).Extents ++ r.1,(gt v.Sets (lowN v.Sets nm)).Used⟩))).Nodup:=by
            rw [(perm_trks (exts_set h1 _ r.1 rfl)).nodup_iff,trks_app,List.nodup_append]
            exact ⟨g2.2.1,((trkF_isSome _).1 q6).2,fun a ha b hb e=>g5 a ha (e ▸ hb)⟩
          obtain ⟨s1,s2⟩:=set_valid hr h1 hok rfl h2 hnd
          exact ⟨_,rfl,⟨light_set hv (by rw [h2];exact hnm) (by simp only [List.length_append];omega),fun h=>absurd rfl h,fun _=>⟨s1,s2⟩⟩,fun _=>⟨trivial,r.1,rfl⟩⟩
theorem exts_set_same {l:List TDscb} {k:Nat} (hk:k < l.length) (d:TDscb) (he:d.Extents=(gt l k).Extents):exts (l.set k d)=exts l:=by
  have e2:exts l=exts (l.take k) ++ ((gt l k).Extents ++ exts (l.drop (k+1))):=by
    rw [← exts_cons,← exts_app];exact congrArg exts (get_split hk)
  rw [set_split hk,exts_app,exts_cons,he,e2]
theorem Update_val (n:Nat) (hn:N0≤n) (v:TVtoc) (hv:light v) (hr:rV v=true) (nm:List UInt8) (c:TDcb) (N:Int) (hnm:nm.length≤100) :
    ∃ r,vtoc_Update n v nm c N=some r∧good21 v nm nm r:=by
  have hn0:4194304≤n:=hn
  obtain ⟨hs,hl,hl2,hz,hm⟩:=val_facts hr
  obtain ⟨q1,q2,q3,q4,q5,q6⟩:=rV_all.1 hr
  simp only [vtoc_Update,vtoc_change_M2,Check_all n hn v hv,pV_rV,Option.bind_some,hr,if_true,bne_self_eq_false,cond_false,index_eq n hn v nm hs (by omega)]
  cases hh:hasN v.Sets nm with
  | false=>exact ⟨_,rfl,good_bad (by decide)⟩
  | true =>
    obtain ⟨h1,h2,h3,h4⟩:=has_facts hr hh
    have hlt:((lowN v.Sets nm:Nat):Int) < (v.Sets.length:Int):=by omega
    simp only [Bool.not_true,cond_false,copied_eq n hn v hv,Option.bind_some]
    rw [gd_pos _ ⟨by omega,hlt⟩]
    simp only [vtoc_Update_1_M1,Int.toNat_natCast,desc_eq,Option.bind_some]
    cases hc:dscB c with
    | false =>
      simp only [Bool.not_false,cond_true,Option.bind_some]
      rw [gd_pos _ (by first | trivial | rfl)]
      exact ⟨_,rfl,good_bad (by decide)⟩
    | true =>
      simp only [Bool.not_true,cond_false]
      rw [gd_pos _ h1]
      simp only [Total_eq n hn (gt v.Sets (lowN v.Sets nm)).Extents (by omega),in_eq,Option.bind_some]
      cases hi:inB N 0 ((trkO (gt v.Sets (lowN v.Sets nm)).Extents).length:Int) with
      | false =>
        simp only [Bool.not_false,cond_true,Option.bind_some]
        rw [gd_pos _ (by first | trivial | rfl)]
        exact ⟨_,rfl,good_bad (by decide)⟩
      | true =>
        simp only [Bool.not_true,cond_false]
        rw [gd_pos _ ⟨h1,h1⟩]
        simp only [Option.bind_some,set_len]
        rw [gd_pos _ (by first | trivial | rfl)]
        simp only [bne_self_eq_false,cond_false,Option.bind_some,gset_eq _ _ _ h1,List.set_set]
        have hk:=(okD_iff q1).1 (q4 _ h3)
        unfold inB at hi
        rw [Bool.and_eq_true,decide_eq_true_eq,decide_eq_true_eq,trkO_of (onV_some hk.2.2.2.1)] at hi
        have hok:okD v ⟨(gt v.Sets (lowN v.Sets nm)).Name,c,(gt v.Sets (lowN v.Sets nm)).Extents,N⟩:=(okD_iff q1).2 ⟨hk.1,hc,hk.2.2.1,hk.2.2.2.1,hi.1,hi.2⟩
        obtain ⟨s1,s2⟩:=set_valid hr h1 hok rfl h2 (by rw [exts_set_same h1 _ (by rfl)];exact ((trkF_isSome _).1 q6).2)
        exact ⟨_,rfl,light_set hv (by rw [h2];exact hnm) (by show (gt v.Sets (lowN v.Sets nm)).Extents.length≤20;omega),fun h=>absurd rfl h,fun _=>⟨s1,s2⟩⟩
theorem flat_sub {α β:Type} (f:α→List β) {a b:List α} (h:a.Sublist b):(a.flatMap f).Sublist (b.flatMap f):=by
  induction h with
  | slnil=>exact List.Sublist.refl _
  | cons x _ ih=>rw [List.flatMap_cons];exact ih.trans (List.sublist_append_right _ _)
  | cons_cons x _ ih=>rw [List.flatMap_cons,List.flatMap_cons];exact ih.append_left _
theorem trks_sub {a b:List TDscb} (h:a.Sublist b):(trks (exts a)).Sublist (trks (exts b)):=flat_sub _ (flat_sub _ h)
theorem Scratch_val (n:Nat) (hn:N0≤n) (v:TVtoc) (hv:light v) (hr:rV v=true) (nm:List UInt8) :
    ∃ r,vtoc_Scratch n v nm=some r∧good21 v nm nm r∧(hasN v.Sets nm=true→r=(⟨v.Serial,v.Cyls,v.Heads,v.Size,wo nm v.Sets⟩,0)):=by
  have hn0:4194304≤n:=hn
  obtain ⟨hs,hl,hl2,hz,hm⟩:=val_facts hr
  obtain ⟨q1,q2,q3,q4,q5,q6⟩:=rV_all.1 hr
  simp only [vtoc_Scratch,vtoc_change_M3,Check_all n hn v hv,pV_rV,Option.bind_some,hr,if_true,bne_self_eq_false,cond_false,index_eq n hn v nm hs (by omega)]
  cases hh:hasN v.Sets nm with
  | false=>exact ⟨_,rfl,good_bad (by decide),fun h=>by cases h⟩
  | true =>
    obtain ⟨h1,h2,h3,h4⟩:=has_facts hr hh
    have hlt:((lowN v.Sets nm:Nat):Int) < (v.Sets.length:Int):=by omega
    simp only [Bool.not_true,cond_false,copied_eq n hn v hv,Option.bind_some]
    rw [gd_pos _ ⟨by omega,hlt⟩]
    simp only [vtoc_Scratch_1_M1,Option.bind_some,bne_self_eq_false,cond_false]
    obtain ⟨r,d1,d2⟩:=DeleteF_eq n hn v.Sets nm (by omega) (lowN v.Sets nm) h1 (fun k hk=>bl_ne (lowN_below k hk)) h2
    rw [d1,Option.bind_some,d2]
    have hwl:=wo_len nm v.Sets
    have hsub:(wo nm v.Sets).Sublist v.Sets:=List.filter_sublist
    refine ⟨_,rfl,⟨⟨by show (wo nm v.Sets).length≤70;omega,hv.2.1,fun x hx=>hv.2.2 x (mem_wo.1 hx).1⟩,fun h=>absurd rfl h,fun _=>⟨?_,fun d hd hne=>mem_wo.2 ⟨hd,hne⟩,fun d hd=>.inl (mem_wo.1 hd).1⟩⟩,fun _=>rfl⟩
    exact tbl_valid q1 (by omega) (by omega) (fun d hd=>q4 d (mem_wo.1 hd).1) (q5.filter _) ((trks_sub hsub).nodup ((trkF_isSome _).1 q6).2)
end Go.Proofs.YtijnkhcfondehaaGreatDoor
/-
  ch. 21: Release and Rename keep a table valid; any change (the program alone).
-/
set_option maxHeartbeats 8000000
set_option linter.unusedVariables false
set_option linter.unusedSimpArgs false
set_option maxRecDepth 100000
namespace Go.Proofs.YtijnkhcfondehaaGreatDoor
open Go.AE
theorem trk_take (a n:Int) {w:Int} (h0:0≤w) (h1:w≤n):trk ⟨a,w⟩=(trk ⟨a,n⟩).take w.toNat:=by
  rw [trk_split a n w h0 h1,List.take_append_of_le_length (by rw [trk_length];exact Nat.le_refl _),List.take_of_length_le (by rw [trk_length];exact Nat.le_refl _)]
theorem kpA_take:∀ (l:List TExtent) (w:Int),l.all val=true→0≤w→(kpA w l).all val=true∧trks (kpA w l)=(trks l).take w.toNat
  | [],w,_,_=>by simp [kpA,trks]
  | x :: l,w,hv,hw=>by
    rw [List.all_cons,Bool.and_eq_true] at hv
    have v1:=(val_iff x).1 hv.1
    have hlen:=trk_length x
    rw [kpA,trks_cons]
    by_cases h1:x.Len < w
    · have ht:tk w x=x.Len:=by unfold tk;rw [if_pos h1]
      obtain ⟨i1,i2⟩:=kpA_take l (w - x.Len) hv.2 (by omega)
      rw [ht,if_pos (by omega)]
      refine ⟨by rw [List.all_append,i1];simp;exact hv.1,?_⟩
      rw [trks_app,trks_one,i2,List.take_append,hlen]
      have e1:(trk x).take w.toNat=trk x:=List.take_of_length_le (by omega)
      have e2:w.toNat - x.Len.toNat=(w - x.Len).toNat:=by omega
      rw [e1,e2]
    · have ht:tk w x=w:=by unfold tk;rw [if_neg h1]
      obtain ⟨i1,i2⟩:=kpA_take l (w - w) hv.2 (by omega)
      rw [ht]
      have e0:(w - w).toNat=0:=by omega
      rw [e0,List.take_zero] at i2
      rw [trks_app,i2,List.append_nil,List.take_append_of_le_length (by omega)]
      by_cases h0:0 < w
      · rw [if_pos h0]
        refine ⟨by rw [List.all_append,i1];simp;exact (val_iff _).2 ⟨by simp only;omega,by simp only;omega,by simp only;omega,by simp only;omega⟩,?_⟩
        rw [trks_one];exact trk_take x.At x.Len hw (by omega)
      · have:w=0:=by omega
        subst this
        refine ⟨by rw [if_neg h0,List.nil_append];exact i1,?_⟩
        simp [trks]
theorem Release_val (n:Nat) (hn:N0≤n) (v:TVtoc) (hv:light v) (hr:rV v=true) (nm:List UInt8) (N:Int) (hnm:nm.length≤100) (hN:-9223372036854775808≤N∧N≤9223372036854775807) :
    ∃ r,vtoc_Release n v nm N=some r∧good21 v nm nm r∧(hasN v.Sets nm=true→∃ w,1≤w∧N≤w∧(gt v.Sets (lowN v.Sets nm)).Used≤w∧(w=1∨w=N∨w=(gt v.Sets (lowN v.Sets nm)).Used)∧r=(⟨v.Serial,v.Cyls,v.Heads,v.Size,v.Sets.set (lowN v.Sets nm) ⟨(gt v.Sets (lowN v.Sets nm)).Name,(gt v.Sets (lowN v.Sets nm)).Dcb,kpA w (gt v.Sets (lowN v.Sets nm)).Extents,(gt v.Sets (lowN v.Sets nm)).Used⟩⟩,0)):=by
  have hn0:4194304≤n:=hn
  obtain ⟨hs,hl,hl2,hz,hm⟩:=val_facts hr
  obtain ⟨q1,q2,q3,q4,q5,q6⟩:=rV_all.1 hr
  simp only [vtoc_Release,vtoc_change_M1,Check_all n hn v hv,pV_rV,Option.bind_some,hr,if_true,bne_self_eq_false,cond_false,index_eq n hn v nm hs (by omega)]
  cases hh:hasN v.Sets nm with
  | false=>exact ⟨_,rfl,good_bad (by decide),fun h=>by cases h⟩
  | true =>
    obtain ⟨h1,h2,h3,h4⟩:=has_facts hr hh
    have hlt:((lowN v.Sets nm:Nat):Int) < (v.Sets.length:Int):=by omega
    have hk:=(okD_iff q1).1 (q4 _ h3)
    obtain ⟨k1,k2,k3,k4,k5,k6⟩:=hk
    simp only [Bool.not_true,cond_false,copied_eq n hn v hv,Option.bind_some]
    rw [gd_pos _ ⟨by omega,hlt⟩]
    simp only [vtoc_Release_1_M1,Int.toNat_natCast]
    rw [gd_pos _ ⟨h1,h1⟩]
    obtain ⟨w,hw⟩:∃ w,w=(if 1 > (if (gt v.Sets (lowN v.Sets nm)).Used > N then (gt v.Sets (lowN v.Sets nm)).Used else N) then 1 else (if (gt v.Sets (lowN v.Sets nm)).Used > N then (gt v.Sets (lowN v.Sets nm)).Used else N)):=⟨_,rfl⟩
    have hu:(gt v.Sets (lowN v.Sets nm)).Used≤512:=by
      have:=trkO_few (gt v.Sets (lowN v.Sets nm)).Extents
      rw [trkO_of (onV_some k4)] at this
      omega
    have hwf:1≤w∧N≤w∧(gt v.Sets (lowN v.Sets nm)).Used≤w∧(w=1∨w=N∨w=(gt v.Sets (lowN v.Sets nm)).Used):=by
      rw [hw]
      by_cases c1:(gt v.Sets (lowN v.Sets nm)).Used > N
      · simp only [if_pos c1];split <;> omega
      · simp only [if_neg c1];split <;> omega
    have hwr:w≤9223372036854775807:=by rcases hwf.2.2.2 with h | h | h <;> omega
    have hmx:(if 0 > w then 0 else w)=w:=if_neg (by omega)
    have hK:=Keep_loop n (gt v.Sets (lowN v.Sets nm)).Extents k4.1 w ⟨by omega,hwr⟩ (by omega) (by omega)
    have hke:extent_Keep n (gt v.Sets (lowN v.Sets nm)).Extents w=some (kpA w (gt v.Sets (lowN v.Sets nm)).Extents,kpB w (gt v.Sets (lowN v.Sets nm)).Extents):=by
      simp only [extent_Keep,Valid_eq n hn (gt v.Sets (lowN v.Sets nm)).Extents (by omega),onV_some k4,Option.bind_some,Bool.not_true,cond_false,hmx]
      rw [hK,Option.bind_some,extent_Keep_k1]
    rw [← hw,hke,Option.bind_some,gd_pos _ h1,Option.bind_some]
    simp only [set_len]
    rw [gd_pos _ (by first | trivial | rfl)]
    simp only [bne_self_eq_false,cond_false,Option.bind_some]
    obtain ⟨a1,a2⟩:=kpA_take (gt v.Sets (lowN v.Sets nm)).Extents w k4.1 (by omega)
    have hkl:=(kp_len (gt v.Sets (lowN v.Sets nm)).Extents w).1
    have htl:1≤(trks (gt v.Sets (lowN v.Sets nm)).Extents).length:=by
      have:=len_le_trks k4.1
      omega
    have htk:(trks (kpA w (gt v.Sets (lowN v.Sets nm)).Extents)).length=min w.toNat (trks (gt v.Sets (lowN v.Sets nm)).Extents).length:=by rw [a2,List.length_take]
    have hne:1≤(kpA w (gt v.Sets (lowN v.Sets nm)).Extents).length:=by
      rcases Nat.eq_zero_or_pos (kpA w (gt v.Sets (lowN v.Sets nm)).Extents).length with h | h
      · have h0:(trks (kpA w (gt v.Sets (lowN v.Sets nm)).Extents)).length=0:=by rw [List.length_eq_zero_iff.1 h];rfl
        rw [htk] at h0
        omega
      · exact h
    have hsub:(trks (kpA w (gt v.Sets (lowN v.Sets nm)).Extents)).Sublist (trks (gt v.Sets (lowN v.Sets nm)).Extents):=by rw [a2];exact List.take_sublist _ _
    have hok:okD v ⟨(gt v.Sets (lowN v.Sets nm)).Name,(gt v.Sets (lowN v.Sets nm)).Dcb,kpA w (gt v.Sets (lowN v.Sets nm)).Extents,(gt v.Sets (lowN v.Sets nm)).Used⟩:=(okD_iff q1).2 ⟨k1,k2,by simp only;omega,⟨a1,hsub.nodup k4.2.1,fun k hk=>k4.2.2 k (hsub.subset hk)⟩,k5,by simp only [htk];omega⟩
    have hnd:(trks (exts (v.Sets.set (lowN v.Sets nm) ⟨(gt v.Sets (lowN v.Sets nm)).Name,(gt v.Sets (lowN v.Sets nm)).Dcb,kpA w (gt v.Sets (lowN v.Sets nm)).Extents,(gt v.Sets (lowN v.Sets nm)).Used⟩))).Nodup:=by
      refine List.Sublist.nodup ?_ ((trkF_isSome _).1 q6).2
      have e2:exts v.Sets=exts (v.Sets.take (lowN v.Sets nm)) ++ ((gt v.Sets (lowN v.Sets nm)).Extents ++ exts (v.Sets.drop (lowN v.Sets nm+1))):=by
        rw [← exts_cons,← exts_app];exact congrArg exts (get_split h1)
      rw [set_split h1,exts_app,exts_cons,e2,trks_app,trks_app,trks_app,trks_app]
      exact (hsub.append_right _).append_left _
    obtain ⟨s1,s2⟩:=set_valid hr h1 hok rfl h2 hnd
    exact ⟨_,rfl,⟨light_set hv (by rw [h2];exact hnm) (by simp only;omega),fun h=>absurd rfl h,fun _=>⟨s1,s2⟩⟩,fun _=>⟨w,hwf.1,hwf.2.1,hwf.2.2.1,hwf.2.2.2,rfl⟩⟩
theorem Rename_val (n:Nat) (hn:N0≤n) (v:TVtoc) (hv:light v) (hr:rV v=true) (old nm:List UInt8) (hnm:nm.length≤100) :
    ∃ r,vtoc_Rename n v old nm=some r∧good21 v old nm r∧(r.2=0→hasN v.Sets old=true∧hasN v.Sets nm=false∧nameB nm=true∧r.1=⟨v.Serial,v.Cyls,v.Heads,v.Size,ins ⟨nm,(gt v.Sets (lowN v.Sets old)).Dcb,(gt v.Sets (lowN v.Sets old)).Extents,(gt v.Sets (lowN v.Sets old)).Used⟩ (wo old v.Sets)⟩) ∧
      (hasN v.Sets old=true→hasN v.Sets nm=false→nameB nm=true→r.2=0):=by
  have hn0:4194304≤n:=hn
  have bad:∀ e:Int,e≠0→∃ r,((some ((⟨[],0,0,0,[]⟩:TVtoc),e)).bind fun r1=>(slices_SortFunc_f92_c93 n r1.1.Sets).bind fun r2=>some ((⟨r1.1.Serial,r1.1.Cyls,r1.1.Heads,r1.1.Size,(List.take r1.1.Sets.length r2)⟩:TVtoc),r1.2))=some r∧good21 v old nm r∧r.2=e:=by
    intro e he
    refine ⟨((⟨[],0,0,0,[]⟩:TVtoc),e),?_,good_bad he,rfl⟩
    simp only [Option.bind_some,sort_nil]
    rfl
  obtain ⟨hs,hl,hl2,hz,hm⟩:=val_facts hr
  obtain ⟨q1,q2,q3,q4,q5,q6⟩:=rV_all.1 hr
  simp only [vtoc_Rename,vtoc_change_M4,Check_all n hn v hv,pV_rV,hr,if_true,bne_self_eq_false,cond_false,index_eq n hn v old hs (by omega),Option.bind_some]
  cases hh:hasN v.Sets old with
  | false =>
    obtain ⟨r,b1,b2,b3⟩:=bad 3 (by decide)
    exact ⟨r,b1,b2,fun h=>by rw [b3] at h;exact absurd h (by decide),fun h=>by cases h⟩
  | true =>
    obtain ⟨h1,h2,h3,h4⟩:=has_facts hr hh
    have hlt:((lowN v.Sets old:Nat):Int) < (v.Sets.length:Int):=by omega
    simp only [Bool.not_true,cond_false,copied_eq n hn v hv,Option.bind_some]
    rw [gd_pos _ ⟨by omega,hlt⟩]
    simp only [vtoc_Rename_1_M1,Int.toNat_natCast,Name_eq n _ hn,Option.bind_some]
    cases hc:nameB nm with
    | false =>
      simp only [Bool.not_false,cond_true,Option.bind_some]
      rw [gd_pos _ (by first | trivial | rfl)]
      obtain ⟨r,b1,b2,b3⟩:=bad 1 (by decide)
      exact ⟨r,b1,b2,fun h=>by rw [b3] at h;exact absurd h (by decide),fun _ _ h=>by cases h⟩
    | true =>
      have hi:vtoc_Vtoc__index n ⟨v.Serial,v.Cyls,v.Heads,v.Size,v.Sets⟩ nm=some (((lowN v.Sets nm:Nat):Int),hasN v.Sets nm):=index_eq n hn v nm hs (by omega)
      simp only [Bool.not_true,cond_false,hi,Option.bind_some]
      cases hx:hasN v.Sets nm with
      | true =>
        simp only [cond_true,Option.bind_some]
        rw [gd_pos _ (by first | trivial | rfl)]
        obtain ⟨r,b1,b2,b3⟩:=bad 4 (by decide)
        exact ⟨r,b1,b2,fun h=>by rw [b3] at h;exact absurd h (by decide),fun _ h=>by cases h⟩
      | false =>
        simp only [cond_false]
        rw [gd_pos _ h1,Option.bind_some]
        simp only [set_len]
        rw [gd_pos _ (by first | trivial | rfl)]
        obtain ⟨r,s1,s2,s3⟩:=sort_set n (d:=⟨nm,(gt v.Sets (lowN v.Sets old)).Dcb,(gt v.Sets (lowN v.Sets old)).Extents,(gt v.Sets (lowN v.Sets old)).Used⟩) hs h1 h2 hx
        simp only [bne_self_eq_false,cond_false,Option.bind_some,s1,set_len]
        rw [← s3,List.take_length,s2]
        have hwl:=wo_len old v.Sets
        have hno:=hasN_false hx
        have hok:okD v ⟨nm,(gt v.Sets (lowN v.Sets old)).Dcb,(gt v.Sets (lowN v.Sets old)).Extents,(gt v.Sets (lowN v.Sets old)).Used⟩:=by
          have:=(okD_iff q1).1 (q4 _ h3)
          exact (okD_iff q1).2 ⟨hc,this.2⟩
        have hself:v.Sets.set (lowN v.Sets old) (gt v.Sets (lowN v.Sets old))=v.Sets:=by
          rw [gt_lt h1];exact List.set_getElem_self h1
        have hins:=set_ins q5 h1 (d:=gt v.Sets (lowN v.Sets old)) rfl
        rw [hself,h2] at hins
        have hnd:(trks (exts (ins ⟨nm,(gt v.Sets (lowN v.Sets old)).Dcb,(gt v.Sets (lowN v.Sets old)).Extents,(gt v.Sets (lowN v.Sets old)).Used⟩ (wo old v.Sets)))).Nodup:=by
          have p1:=perm_trks (exts_perm (ins_perm ⟨nm,(gt v.Sets (lowN v.Sets old)).Dcb,(gt v.Sets (lowN v.Sets old)).Extents,(gt v.Sets (lowN v.Sets old)).Used⟩ (wo old v.Sets)))
          have p2:=perm_trks (exts_perm (ins_perm (gt v.Sets (lowN v.Sets old)) (wo old v.Sets)))
          rw [← hins] at p2
          rw [p1.nodup_iff]
          have:=p2.nodup_iff.1 ((trkF_isSome _).1 q6).2
          exact this
        refine ⟨_,rfl,⟨light_ins hv (by omega) (fun x hx=>(mem_wo.1 hx).1) hnm (by show (gt v.Sets (lowN v.Sets old)).Extents.length≤20;omega),fun h=>absurd rfl h,fun _=>⟨?_,fun d hd hne=>mem_ins.2 (.inr (mem_wo.2 ⟨hd,hne⟩)),fun d hd=>?_⟩⟩,fun _=>⟨trivial,trivial,trivial,rfl⟩,fun _ _ _=>rfl⟩
        · have hl1:(ins ⟨nm,(gt v.Sets (lowN v.Sets old)).Dcb,(gt v.Sets (lowN v.Sets old)).Extents,(gt v.Sets (lowN v.Sets old)).Used⟩ (wo old v.Sets)).length=v.Sets.length:=by rw [← s2,s3]
          exact tbl_valid q1 (by rw [hl1];exact q2) (by rw [hl1];exact q3) (fun d hd=>by
            rcases mem_ins.1 hd with rfl | h
            · exact hok
            · exact q4 d (mem_wo.1 h).1) (ins_sorted (q5.filter _) fun x hx=>hno x (mem_wo.1 hx).1) hnd
        · rcases mem_ins.1 hd with rfl | h
          · exact .inr (.inr rfl)
          · exact .inl (mem_wo.1 h).1
end Go.Proofs.YtijnkhcfondehaaGreatDoor
/-
  ch. 21: runs of changes; the labels of others (the program alone).
-/
set_option maxHeartbeats 8000000
set_option linter.unusedVariables false
set_option linter.unusedSimpArgs false
set_option maxRecDepth 100000
namespace Go.Proofs.YtijnkhcfondehaaGreatDoor
open Go.AE
theorem good_mono {v:TVtoc} {nm:List UInt8} {r:TVtoc×Int} (to:List UInt8) (h:good21 v nm nm r):good21 v nm to r :=
  ⟨h.1,h.2.1,fun e=>⟨(h.2.2 e).1,(h.2.2 e).2.1,fun d hd=>by
    rcases (h.2.2 e).2.2 d hd with h | h | h
    · exact .inl h
    · exact .inr (.inl h)
    · exact .inr (.inl h)⟩⟩
def toOf (a:TAct):List UInt8:=if (Int.tmod a.Kind 6 == 5)=true then a.To else a.Name
def okAct (a:TAct):Prop:=0≤a.Kind∧-9223372036854775808≤a.N∧a.N≤9223372036854775807
theorem act_val (n:Nat) (hn:N0≤n) (v:TVtoc) (hv:light v) (hr:rV v=true) (a:TAct) (h1:a.Name.length≤100) (h2:a.To.length≤100) (ha:okAct a) :
    ∃ r,law21_act n v a=some r∧good21 v a.Name (toOf a) r:=by
  obtain ⟨hk,hN⟩:=ha
  have em:Int.tmod a.Kind 6=a.Kind % 6:=Int.tmod_eq_emod_of_nonneg hk
  unfold law21_act
  cases e0:Int.tmod a.Kind 6 == 0 with
  | true =>
    obtain ⟨r,c1,c2,_⟩:=Create_val n hn v hv hr a.Name a.Dcb [(⟨1,1⟩:TExtent)] 7 a.N h1 hN.2
    simp only [cond_true,c1,Option.bind_some]
    exact ⟨_,rfl,good_mono _ c2⟩
  | false =>
    rw [cond_false]
    cases e1:Int.tmod a.Kind 6 == 1 with
    | true =>
      obtain ⟨r,c1,c2,_⟩:=Extend_val n hn v hv hr a.Name a.N h1 hN.2
      simp only [cond_true,c1,Option.bind_some]
      exact ⟨_,rfl,good_mono _ c2⟩
    | false =>
      rw [cond_false]
      cases e2:Int.tmod a.Kind 6 == 2 with
      | true =>
        obtain ⟨r,c1,c2,_⟩:=Release_val n hn v hv hr a.Name a.N h1 hN
        simp only [cond_true,c1,Option.bind_some]
        exact ⟨_,rfl,good_mono _ c2⟩
      | false =>
        rw [cond_false]
        cases e3:Int.tmod a.Kind 6 == 3 with
        | true =>
          obtain ⟨r,c1,c2⟩:=Update_val n hn v hv hr a.Name a.Dcb a.N h1
          simp only [cond_true,c1,Option.bind_some]
          exact ⟨_,rfl,good_mono _ c2⟩
        | false =>
          rw [cond_false]
          cases e4:Int.tmod a.Kind 6 == 4 with
          | true =>
            obtain ⟨r,c1,c2,_⟩:=Scratch_val n hn v hv hr a.Name
            simp only [cond_true,c1,Option.bind_some]
            exact ⟨_,rfl,good_mono _ c2⟩
          | false =>
            obtain ⟨r,c1,c2,_⟩:=Rename_val n hn v hv hr a.Name a.To h2
            simp only [cond_false,c1,Option.bind_some]
            have e5:toOf a=a.To:=by
              unfold toOf
              simp only [beq_eq_false_iff_ne] at e0 e1 e2 e3 e4
              rw [if_pos (by rw [beq_iff_eq];omega)]
            rw [e5]
            exact ⟨_,rfl,c2⟩
theorem empty_eq (n:Nat) (hn:N0≤n) (s:TStart) (h1:0≤s.Cyls) (h2:0≤s.Heads) (h3:0≤s.Size):∃ v,law21_empty n s=some (v,0)∧v.Sets=[]∧v.Serial.length≤100∧head v=true:=by
  have e1:Int.tmod s.Cyls 4=s.Cyls % 4:=Int.tmod_eq_emod_of_nonneg h1
  have e2:Int.tmod s.Heads 3=s.Heads % 3:=Int.tmod_eq_emod_of_nonneg h2
  have e3:Int.tmod s.Size 2=s.Size % 2:=Int.tmod_eq_emod_of_nonneg h3
  simp only [law21_empty,vtoc_New,Check0_eq n hn _ _ _ _ (by decide:([86,49]:List UInt8).length≤2097152),e1,e2,e3]
  have c1:s.Cyls % 4=0∨s.Cyls % 4=1∨s.Cyls % 4=2∨s.Cyls % 4=3:=by omega
  have c2:s.Heads % 3=0∨s.Heads % 3=1∨s.Heads % 3=2:=by omega
  have c3:s.Size % 2=0∨s.Size % 2=1:=by omega
  generalize s.Cyls % 4=a at *
  generalize s.Heads % 3=b at *
  generalize s.Size % 2=c at *
  have hh:∀ a∈([0,1,2,3]:List Int),∀ b∈([0,1,2]:List Int),∀ c∈([0,1]:List Int),
      (IntKind.wrap .i64 ((IntKind.wrap .i64 ((IntKind.wrap .i64 (IntKind.wrap .i64 a+1)) * (IntKind.wrap .i64 (IntKind.wrap .i64 b+2)))) - 1)≠0) ∧
      headB [86,49] (IntKind.wrap .i64 (IntKind.wrap .i64 a+1)) (IntKind.wrap .i64 (IntKind.wrap .i64 b+2)) (IntKind.wrap .i64 (Int.tmod (IntKind.wrap .i64 c) (IntKind.wrap .i64 ((IntKind.wrap .i64 ((IntKind.wrap .i64 (IntKind.wrap .i64 a+1)) * (IntKind.wrap .i64 (IntKind.wrap .i64 b+2)))) - 1))+1))=true:=by decide +kernel
  obtain ⟨g1,g2⟩:=hh a (by rcases c1 with h | h | h | h <;> simp [h]) b (by rcases c2 with h | h | h <;> simp [h]) c (by rcases c3 with h | h <;> simp [h])
  rw [gd_pos _ g1,g2]
  exact ⟨_,rfl,rfl,by show ([86,49]:List UInt8).length≤100;decide,g2⟩
theorem play_loop (n:Nat) (hn:N0≤n) (l:List TAct) (hl:l.length≤2097152) (ha:∀ a∈l,okAct a):∀ j k m v,k+j=l.length→j < m→light v→rV v=true →
    ∃ y w,loopF (fun (x:(List UInt8)×Int×Int×Int×(List TDscb)×Int)=>law21_play_b2 n l x.1 x.2.1 x.2.2.1 x.2.2.2.1 x.2.2.2.2.1 x.2.2.2.2.2) m (v.Serial,v.Cyls,v.Heads,v.Size,v.Sets,(k:Int))=some y∧light w∧rV w=true∧(y = .inl w∨y = .inr (w.Serial,w.Cyls,w.Heads,w.Size,w.Sets)):=by
  intro j
  induction j with
  | zero =>
    intro k m v hj hm hv hr
    obtain ⟨m,rfl⟩:∃ q,m=q+1:=⟨m - 1,by omega⟩
    refine ⟨_,v,loopF_done (y:=.inr (v.Serial,v.Cyls,v.Heads,v.Size,v.Sets)) ?_,hv,hr,.inr rfl⟩
    unfold law21_play_b2
    dsimp only
    rw [decide_eq_false (by omega)]
    rfl
  | succ j ih =>
    intro k m v hj hm hv hr
    obtain ⟨m,rfl⟩:∃ q,m=q+1:=⟨m - 1,by omega⟩
    have hk:k < l.length:=by omega
    have hlt:((k:Nat):Int) < (l.length:Int):=by omega
    have hw:=wid (n:=(k:Int)+1) (by omega)
    by_cases h40:(k:Int) < 40
    · by_cases hc:(if decide ((((gt l k).Name).length:Int) > 100)=true then true else decide ((((gt l k).To).length:Int) > 100))=true
      · refine ⟨_,v,loopF_done (y:=.inl v) ?_,hv,hr,.inl rfl⟩
        unfold law21_play_b2
        simp only [decide_eq_true hlt,decide_eq_true h40,if_true,cond_true,Int.toNat_natCast,hc]
        rw [gd_pos _ ⟨⟨by omega,hlt⟩,fun _=>⟨by omega,hlt⟩⟩]
      · have hc':(if decide ((((gt l k).Name).length:Int) > 100)=true then true else decide ((((gt l k).To).length:Int) > 100))=false:=by simpa using hc
        have hn1:(gt l k).Name.length≤100∧(gt l k).To.length≤100:=by
          rw [ite_tt,Bool.or_eq_false_iff,decide_eq_false_iff_not,decide_eq_false_iff_not] at hc'
          omega
        obtain ⟨r,a1,a2,a3,a4⟩:=act_val n hn v hv hr (gt l k) hn1.1 hn1.2 (ha _ (by rw [gt_lt hk];exact List.getElem_mem hk))
        have a1':law21_act n ⟨v.Serial,v.Cyls,v.Heads,v.Size,v.Sets⟩ (gt l k)=some r:=a1
        obtain ⟨v',hv',hr',hb⟩:∃ v',light v'∧rV v'=true∧law21_play_b2 n l v.Serial v.Cyls v.Heads v.Size v.Sets (k:Int)=some (.inl (v'.Serial,v'.Cyls,v'.Heads,v'.Size,v'.Sets,((k+1:Nat):Int))):=by
          have hb0:law21_play_b2 n l v.Serial v.Cyls v.Heads v.Size v.Sets (k:Int)=(bif (r.2 == 0) then law21_play_k3 n l r.1.Serial r.1.Cyls r.1.Heads r.1.Size r.1.Sets (k:Int) else law21_play_k3 n l v.Serial v.Cyls v.Heads v.Size v.Sets (k:Int)):=by
            unfold law21_play_b2
            simp only [decide_eq_true hlt,decide_eq_true h40,if_true,cond_true,Int.toNat_natCast,hc',cond_false,a1',Option.bind_some]
            rw [gd_pos _ ⟨⟨by omega,hlt⟩,fun _=>⟨by omega,hlt⟩⟩,gd_pos _ ⟨by omega,hlt⟩]
          rw [hb0]
          cases e:r.2 == 0 with
          | true=>exact ⟨r.1,a2,(a4 (by simpa using e)).1,by simp only [cond_true,law21_play_k3,hw];rfl⟩
          | false=>exact ⟨v,hv,hr,by simp only [cond_false,law21_play_k3,hw];rfl⟩
        obtain ⟨y,w,y1,y2⟩:=ih (k+1) m v' (by omega) (by omega) hv' hr'
        exact ⟨y,w,(loopF_step hb).trans y1,y2⟩
    · refine ⟨_,v,loopF_done (y:=.inr (v.Serial,v.Cyls,v.Heads,v.Size,v.Sets)) ?_,hv,hr,.inr rfl⟩
      unfold law21_play_b2
      dsimp only
      rw [decide_eq_true hlt,decide_eq_false h40]
      rfl
theorem play_val (n:Nat) (hn:N0≤n) (s:TStart) (l:List TAct) (h1:0≤s.Cyls) (h2:0≤s.Heads) (h3:0≤s.Size) (hl:l.length≤2097152) (ha:∀ a∈l,okAct a):∃ w,law21_play n s l=some w∧light w∧rV w=true:=by
  have hn0:4194304≤n:=hn
  obtain ⟨v,v1,v2,v3,v4⟩:=empty_eq n hn s h1 h2 h3
  have hv:light v:=⟨by rw [v2];simp,v3,by rw [v2];simp⟩
  have hz:=head_z v4
  have hr:rV v=true:=rV_all.2 ⟨v4,by rw [v2];simp,by rw [v2];simp;omega,by rw [v2];simp,by rw [v2];simp,by rw [v2];rfl⟩
  obtain ⟨y,w,y1,y2,y3,y4⟩:=play_loop n hn l hl ha l.length 0 n v (by omega) (by omega) hv hr
  rw [v2] at y1
  have y1':loopF (fun (x:(List UInt8)×Int×Int×Int×(List TDscb)×Int)=>law21_play_b2 n l x.1 x.2.1 x.2.2.1 x.2.2.2.1 x.2.2.2.2.1 x.2.2.2.2.2) n (v.Serial,v.Cyls,v.Heads,v.Size,[],0)=some y:=y1
  refine ⟨w,?_,y2,y3⟩
  simp only [law21_play,v1,Option.bind_some]
  rw [y1',Option.bind_some]
  rcases y4 with rfl | rfl <;> rfl
theorem Find_val (n:Nat) (hn:N0≤n) (v:TVtoc) (hv:light v) (hr:rV v=true) (nm:List UInt8):∃ d,vtoc_Find n v nm=some (d,hasN v.Sets nm)∧(hasN v.Sets nm=true→d=gt v.Sets (lowN v.Sets nm)):=by
  have hn0:4194304≤n:=hn
  obtain ⟨hs,hl,hl2,hz,hm⟩:=val_facts hr
  simp only [vtoc_Find,index_eq n hn v nm hs (by omega),Check_all n hn v hv,pV_rV,hr,if_true,Option.bind_some,bne_self_eq_false,Bool.false_eq_true,if_false]
  cases hh:hasN v.Sets nm with
  | false=>exact ⟨_,rfl,fun h=>by cases h⟩
  | true =>
    obtain ⟨h1,h2,h3,h4⟩:=has_facts hr hh
    have hlt:((lowN v.Sets nm:Nat):Int) < (v.Sets.length:Int):=by omega
    simp only [Bool.not_true,cond_false,copied_eq n hn v hv,Option.bind_some,Int.toNat_natCast]
    rw [gd_pos _ ⟨⟨by omega,hlt⟩,h1⟩]
    exact ⟨_,rfl,fun _=>rfl⟩
theorem has_mem {l:List TDscb} {d:TDscb} (h:d∈l):hasN l d.Name=true:=List.any_eq_true.2 ⟨d,h,by simp⟩
theorem low_mem {v:TVtoc} (hr:rV v=true) {d:TDscb} (h:d∈v.Sets):gt v.Sets (lowN v.Sets d.Name)=d:=by
  obtain ⟨hs,hl,hl2,hz,hm⟩:=val_facts hr
  obtain ⟨h1,h2,h3,h4⟩:=has_facts hr (has_mem h)
  obtain ⟨k,hk,rfl⟩:=List.getElem_of_mem h
  have:=wlt_ne hs h1 hk (by rw [h2,gt_lt hk])
  rw [this,gt_lt hk]
theorem ext_self (n:Nat) (hn:N0≤n) (l:List TExtent) (hl:l.length≤1000):law21_extents n l l=some true:=by
  have hn0:4194304≤n:=hn
  have key:loopF (fun (x:Int)=>law21_extents_b2 n l l x) n 0=some (if l.any (fun _=>false)=true then .inl false else .inr ()):=by
    refine loop_any l (fun _=>false) _ _ (fun k hk=>?_) ?_ (by omega)
    · have hlt:((k:Nat):Int) < (l.length:Int):=by omega
      unfold law21_extents_b2
      simp only [decide_eq_true hlt,cond_true,beq_self_eq_true,Bool.and_self,Bool.not_true,cond_false]
      rw [gd_pos _ ⟨⟨by omega,hlt⟩,by omega,hlt⟩,wid (n:=(k:Int)+1) (by omega)]
      rfl
    · unfold law21_extents_b2
      simp only [Int.lt_irrefl,decide_false,cond_false]
  have hf:l.any (fun _=>false)=false:=by simp
  rw [hf] at key
  unfold law21_extents
  simp only [bne_self_eq_false,Bool.false_eq_true,if_false,cond_false,key,Option.bind_some,law21_extents_k1]
theorem label_self (n:Nat) (hn:N0≤n) (d:TDscb) (hd:d.Extents.length≤1000):law21_label n d d=some true:=by
  simp only [law21_label,beq_self_eq_true,Bool.and_self,if_true,ext_self n hn d.Extents hd,Option.isSome_some,implies_true,Option.getD_some]
  rw [gd_pos _ trivial]
theorem acts_ns {l:List TAct} (h:CanL Tryz.prog [.slice 62] [.slice (List.map e_TAct l)]):∀ a∈l,-9223372036854775808≤a.N∧a.N≤9223372036854775807:=by
  intro a ha
  have h0:=h.2 0 (by decide)
  have h1:=can_elt ty62 e_TAct (l:=l) h0 a ha
  have h2:=h1.2 11 (by simp)
  simp only [e_TAct,cg_zero,cg_succ,List.getD_cons_zero,List.getD_cons_succ] at h2
  cases h2 with
  | int _ _ hr =>
    have h3:IntKind.i64.min = -9223372036854775808:=by decide
    have h4:IntKind.i64.max=9223372036854775807:=by decide
    simp only [InR,h3,h4] at hr;omega
theorem byte_of {x:Int} (h:Go.AE.Can Tryz.prog (Kd.int .u8) (C.int x)):0≤x:=by
  cases h with
  | int _ _ hr =>
    have h3:IntKind.u8.min=0:=by decide
    simp only [InR,h3] at hr;omega
theorem acts_ok {l:List TAct} (h:CanL Tryz.prog [.slice 62] [.slice (List.map e_TAct l)]):∀ a∈l,okAct a:=by
  intro a ha
  have h0:=h.2 0 (by decide)
  have h1:=can_elt ty62 e_TAct (l:=l) h0 a ha
  have h2:=h1.2 0 (by simp)
  simp only [e_TAct,cg_zero,List.getD_cons_zero] at h2
  exact ⟨byte_of h2,acts_ns h a ha⟩
end Go.Proofs.YtijnkhcfondehaaGreatDoor
/-
  ch. 21: a change leaves the labels of all others.
-/
set_option maxHeartbeats 8000000
set_option linter.unusedVariables false
set_option linter.unusedSimpArgs false
set_option maxRecDepth 100000
namespace Go.Proofs.YtijnkhcfondehaaGreatDoor
open Go.AE
end Go.Proofs.YtijnkhcfondehaaGreatDoor
/-
  ch. 21: what undoes a change.
-/
set_option maxHeartbeats 8000000
set_option linter.unusedVariables false
set_option linter.unusedSimpArgs false
set_option maxRecDepth 100000
namespace Go.Proofs.YtijnkhcfondehaaGreatDoor
open Go.AE
theorem equal_self (n:Nat) (hn:N0≤n) (v:TVtoc) (hv:light v):law21_equal n v v=some true:=by
  have hn0:4194304≤n:=hn
  obtain ⟨h1,h2,h3⟩:=hv
  have key:loopF (fun (x:Int)=>law21_equal_b2 n v v x) n 0=some (if v.Sets.any (fun _=>false)=true then .inl false else .inr ()):=by
    refine loop_any v.Sets (fun _=>false) _ _ (fun k hk=>?_) ?_ (by omega)
    · have hlt:((k:Nat):Int) < (v.Sets.length:Int):=by omega
      have hx:=(h3 _ (by rw [gt_lt hk];exact List.getElem_mem hk:gt v.Sets k∈v.Sets)).2
      unfold law21_equal_b2
      simp only [decide_eq_true hlt,cond_true,Int.toNat_natCast,label_self n hn _ (Nat.le_trans hx (by decide)),Option.bind_some,Bool.not_true,cond_false]
      rw [gd_pos _ ⟨⟨by omega,hlt⟩,by omega,hlt⟩,wid (n:=(k:Int)+1) (by omega)]
      rfl
    · unfold law21_equal_b2
      simp only [Int.lt_irrefl,decide_false,cond_false]
  have hf:v.Sets.any (fun _=>false)=false:=by simp
  rw [hf] at key
  unfold law21_equal
  simp only [bne_self_eq_false,Bool.false_eq_true,if_false,cond_false,key,Option.bind_some,law21_equal_k1]
theorem wo_ins {l:List TDscb} {d:TDscb} (hs:l.Pairwise wlt) (hn:hasN l d.Name=false):wo d.Name (ins d l)=l:=by
  have hne:=hasN_false hn
  refine asc_name ((ins_sorted hs hne).filter _) hs fun x=>?_
  show x∈wo d.Name (ins d l)↔_
  rw [mem_wo,mem_ins]
  constructor
  · rintro ⟨rfl | h,h2⟩
    · exact absurd rfl h2
    · exact h
  · intro h;exact ⟨.inr h,hne x h⟩
theorem hasN_sub {l m:List TDscb} {nm:List UInt8} (h:∀ x∈l,x∈m) (hn:hasN m nm=false):hasN l nm=false:=by
  have:=hasN_false hn
  unfold hasN
  rw [List.any_eq_false]
  intro x hx
  simpa using this x (h x hx)
theorem kpA_zero:∀ X:List TExtent,X.all val=true→kpA 0 X=[]
  | [],_=>rfl
  | x :: X,h=>by
    rw [List.all_cons,Bool.and_eq_true] at h
    have v1:=(val_iff x).1 h.1
    have ht:tk 0 x=0:=by unfold tk;rw [if_neg (by omega)]
    rw [kpA,ht,if_neg (by omega),List.nil_append]
    exact kpA_zero X h.2
theorem kpA_all:∀ (A X:List TExtent),A.all val=true→X.all val=true→kpA (((trks A).length:Nat):Int) (A ++ X)=A
  | [],X,_,hx=>by
    have:(((trks ([]:List TExtent)).length:Nat):Int)=0:=by simp [trks]
    rw [this];exact kpA_zero X hx
  | x :: A,X,ha,hx=>by
    rw [List.all_cons,Bool.and_eq_true] at ha
    have v1:=(val_iff x).1 ha.1
    have hlen:=trk_length x
    have hl:(((trks (x :: A)).length:Nat):Int)=x.Len+(((trks A).length:Nat):Int):=by
      rw [trks_cons,List.length_append,hlen];omega
    have ht:tk (((trks (x :: A)).length:Nat):Int) x=x.Len:=by
      unfold tk;split <;> omega
    rw [List.cons_append,kpA,ht,if_pos (by omega),hl]
    have e:x.Len+(((trks A).length:Nat):Int) - x.Len=(((trks A).length:Nat):Int):=by omega
    rw [e,kpA_all A X ha.2 hx]
    rfl
theorem total_loop (n:Nat) (hn:N0≤n) (a:TAct) (q1:List UInt8) (q2 q3 q4:Int) (q5:List TDscb) (p1:List UInt8) (p2 p3 p4:Int) (p5:List TDscb) (c1:List UInt8) (c2 c3:Int) (c4 c5:Bool) (c6 c7 c8 c9:Int) (X:List TExtent) (u:Int) (ok:Bool) (hX:X.all val=true) (hl:X.length≤100) :
    loopF (fun (x:Int×Int)=>law21_VtocUndo_b5 n a q1 q2 q3 q4 q5 p1 p2 p3 p4 p5 c1 c2 c3 c4 c5 c6 c7 c8 c9 X u ok x.1 x.2) n (0,0)=some (((trks X).length:Nat):Int):=by
  have hn0:4194304≤n:=hn
  have key:∀ j k m,k+j=X.length→j < m→loopF (fun (x:Int×Int)=>law21_VtocUndo_b5 n a q1 q2 q3 q4 q5 p1 p2 p3 p4 p5 c1 c2 c3 c4 c5 c6 c7 c8 c9 X u ok x.1 x.2) m ((((trks (X.take k)).length:Nat):Int),(k:Int))=some (((trks X).length:Nat):Int):=by
    intro j
    induction j with
    | zero =>
      intro k m hj hm
      obtain ⟨m,rfl⟩:∃ q,m=q+1:=⟨m - 1,by omega⟩
      have hk:k=X.length:=by omega
      subst hk
      refine loopF_done ?_
      unfold law21_VtocUndo_b5
      simp only [Int.lt_irrefl,decide_false,cond_false,List.take_length]
    | succ j ih =>
      intro k m hj hm
      obtain ⟨m,rfl⟩:∃ q,m=q+1:=⟨m - 1,by omega⟩
      have hk:k < X.length:=by omega
      have hlt:((k:Nat):Int) < (X.length:Int):=by omega
      have v1:=(val_iff (gt X k)).1 (List.all_eq_true.1 hX _ (by rw [gt_lt hk];exact List.getElem_mem hk))
      have ht:X.take (k+1)=X.take k ++ [gt X k]:=by
        rw [List.take_add_one,List.getElem?_eq_getElem hk,gt_lt hk];rfl
      have hb:∀ i,i≤X.length→(trks (X.take i)).length≤512 * i:=by
        intro i hi
        induction i with
        | zero=>simp [trks]
        | succ i ih =>
          have hi':i < X.length:=by omega
          have v2:=(val_iff (gt X i)).1 (List.all_eq_true.1 hX _ (by rw [gt_lt hi'];exact List.getElem_mem hi'))
          have ht:X.take (i+1)=X.take i ++ [gt X i]:=by
            rw [List.take_add_one,List.getElem?_eq_getElem hi',gt_lt hi'];rfl
          rw [ht,trks_app,trks_one,List.length_append,trk_length]
          have:=ih (by omega)
          omega
      have hbk:=hb k (by omega)
      have e:(((trks (X.take k)).length:Nat):Int)+(gt X k).Len=(((trks (X.take (k+1))).length:Nat):Int):=by
        rw [ht,trks_app,trks_one,List.length_append,trk_length];omega
      refine (loopF_step (x':=((((trks (X.take (k+1))).length:Nat):Int),((k+1:Nat):Int))) ?_).trans (ih (k+1) m (by omega) (by omega))
      unfold law21_VtocUndo_b5
      simp only [decide_eq_true hlt,cond_true,Int.toNat_natCast]
      rw [gd_pos _ ⟨by omega,hlt⟩,wid (n:=(k:Int)+1) (by omega),wid (n:=(((trks (X.take k)).length:Nat):Int)+(gt X k).Len) (by omega),e]
      rfl
  have:=key X.length 0 n (by omega) (by omega)
  simp only [List.take_zero] at this
  exact this
theorem undo_extend (n:Nat) (hn:N0≤n) (hw:law21_works n=some true) (v:TVtoc) (hv:light v) (hr:rV v=true) (a:TAct) (h1:a.Name.length≤100) (hN:a.N≤9223372036854775807) (w:TVtoc):law21_VtocUndo_k2 n a v.Serial v.Cyls v.Heads v.Size v.Sets w.Serial w.Cyls w.Heads w.Size w.Sets=some true:=by
  have hn0:4194304≤n:=hn
  obtain ⟨d,f1,f2⟩:=Find_val n hn v hv hr a.Name
  obtain ⟨r,e1,e2,e3⟩:=Extend_val n hn v hv hr a.Name a.N h1 hN
  have f1':vtoc_Find n ⟨v.Serial,v.Cyls,v.Heads,v.Size,v.Sets⟩ a.Name=some (d,hasN v.Sets a.Name):=f1
  have e1':vtoc_Extend n ⟨v.Serial,v.Cyls,v.Heads,v.Size,v.Sets⟩ a.Name a.N=some r:=e1
  simp only [law21_VtocUndo_k2,f1',e1',Option.bind_some]
  by_cases he:r.2=0
  · obtain ⟨g1,X,g2⟩:=e3 he
    obtain ⟨b1,b2⟩:=e2.2.2 he
    have hd:=f2 g1
    obtain ⟨h2,h3,h4,h5⟩:=has_facts hr g1
    obtain ⟨q1,q2,q3,q4,q5,q6⟩:=rV_all.1 hr
    have hk:=(okD_iff q1).1 (q4 _ h4)
    have hbe:(r.2 == 0)=true:=by simp [he]
    rw [hbe,cond_true,total_loop n hn a _ _ _ _ _ _ _ _ _ _ _ _ _ _ _ _ _ _ _ d.Extents _ _ (by rw [hd];exact hk.2.2.2.1.1) (by rw [hd];omega),Option.bind_some]
    obtain ⟨d2,hd2⟩:∃ d2:TDscb,d2=⟨(gt v.Sets (lowN v.Sets a.Name)).Name,(gt v.Sets (lowN v.Sets a.Name)).Dcb,(gt v.Sets (lowN v.Sets a.Name)).Extents ++ X,(gt v.Sets (lowN v.Sets a.Name)).Used⟩:=⟨_,rfl⟩
    rw [← hd2] at g2
    have hS:r.1.Sets=v.Sets.set (lowN v.Sets a.Name) d2:=by rw [g2]
    have hmem:d2∈r.1.Sets:=by rw [hS];exact List.mem_iff_getElem.2 ⟨lowN v.Sets a.Name,by simpa using h2,by simp⟩
    have hnm:d2.Name=a.Name:=by rw [hd2];exact h3
    have hlm:=low_mem b1 hmem
    rw [hnm] at hlm
    have hh:hasN r.1.Sets a.Name=true:=by rw [← hnm];exact has_mem hmem
    have hlo:lowN r.1.Sets a.Name=lowN v.Sets a.Name:=by
      obtain ⟨hs',_⟩:=val_facts b1
      obtain ⟨k2,k3,_⟩:=has_facts b1 hh
      refine wlt_ne hs' k2 (by rw [hS,List.length_set];exact h2) ?_
      rw [k3,hS,gset_eq _ _ _ h2,hnm]
    have htl:1≤(trks (gt v.Sets (lowN v.Sets a.Name)).Extents).length:=by
      have:=len_le_trks hk.2.2.2.1.1
      omega
    have htu:=trkO_few (gt v.Sets (lowN v.Sets a.Name)).Extents
    rw [trkO_of (onV_some hk.2.2.2.1)] at htu
    obtain ⟨s,s1,s2,s3⟩:=Release_val n hn r.1 e2.1 b1 a.Name (((trks d.Extents).length:Nat):Int) h1 (by rw [hd];omega)
    obtain ⟨x,x1,x2,x3,x4,x5⟩:=s3 hh
    rw [hlm] at x3 x4 x5
    have hu2:d2.Used=(gt v.Sets (lowN v.Sets a.Name)).Used:=by rw [hd2]
    have hxw:x=(((trks (gt v.Sets (lowN v.Sets a.Name)).Extents).length:Nat):Int):=by
      rw [hu2] at x3 x4
      rw [hd] at x2 x4
      have:=hk.2.2.2.2.2
      rcases x4 with h | h | h <;> omega
    have hXv:X.all val=true:=by
      have q4':=(rV_all.1 b1).2.2.2.1 d2 hmem
      have:=((okD_iff (rV_all.1 b1).1).1 q4').2.2.2.1.1
      rw [hd2] at this
      simp only [List.all_append,Bool.and_eq_true] at this
      exact this.2
    have hkp:kpA x d2.Extents=(gt v.Sets (lowN v.Sets a.Name)).Extents:=by
      rw [hxw,hd2]
      exact kpA_all _ X hk.2.2.2.1.1 hXv
    have hres:s=(v,0):=by
      rw [x5,hlo,hkp,hd2,g2]
      simp only [List.set_set]
      have:v.Sets.set (lowN v.Sets a.Name) (gt v.Sets (lowN v.Sets a.Name))=v.Sets:=by rw [gt_lt h2];exact List.set_getElem_self h2
      show ((⟨v.Serial,v.Cyls,v.Heads,v.Size,v.Sets.set (lowN v.Sets a.Name) (gt v.Sets (lowN v.Sets a.Name))⟩:TVtoc),(0:Int))=_
      rw [this]
    have s1':vtoc_Release n ⟨r.1.Serial,r.1.Cyls,r.1.Heads,r.1.Size,r.1.Sets⟩ a.Name (((trks d.Extents).length:Nat):Int)=some (v,0):=by rw [← hres];exact s1
    have heq:law21_equal n v ⟨v.Serial,v.Cyls,v.Heads,v.Size,v.Sets⟩=some true:=equal_self n hn v hv
    simp only [law21_VtocUndo_k4,s1',Option.bind_some,heq,g1,Bool.not_true,bne_self_eq_false,Bool.false_eq_true,if_false,Option.isSome_some,Option.getD_some,implies_true,cond_false,law21_VtocUndo_k3,hw]
    rw [gd_pos _ trivial]
  · have hbe:(r.2 == 0)=false:=by simpa using he
    rw [hbe,cond_false]
    simp only [law21_VtocUndo_k3,hw,Option.bind_some]
theorem undo_rename (n:Nat) (hn:N0≤n) (hw:law21_works n=some true) (v:TVtoc) (hv:light v) (hr:rV v=true) (a:TAct) (h1:a.Name.length≤100) (h2:a.To.length≤100) (hN:a.N≤9223372036854775807) (w:TVtoc):law21_VtocUndo_k1 n a v.Serial v.Cyls v.Heads v.Size v.Sets w.Serial w.Cyls w.Heads w.Size w.Sets=some true:=by
  have hn0:4194304≤n:=hn
  obtain ⟨r,e1,e2,e3,e4⟩:=Rename_val n hn v hv hr a.Name a.To h2
  have e1':vtoc_Rename n ⟨v.Serial,v.Cyls,v.Heads,v.Size,v.Sets⟩ a.Name a.To=some r:=e1
  simp only [law21_VtocUndo_k1,e1',Option.bind_some]
  by_cases he:r.2=0
  · obtain ⟨g1,g2,g3,g4⟩:=e3 he
    obtain ⟨b1,b2⟩:=e2.2.2 he
    obtain ⟨m1,m2,m3,m4⟩:=has_facts hr g1
    obtain ⟨q1,q2,q3,q4,q5,q6⟩:=rV_all.1 hr
    have hbe:(r.2 == 0)=true:=by simp [he]
    obtain ⟨d2,hd2⟩:∃ d2:TDscb,d2=⟨a.To,(gt v.Sets (lowN v.Sets a.Name)).Dcb,(gt v.Sets (lowN v.Sets a.Name)).Extents,(gt v.Sets (lowN v.Sets a.Name)).Used⟩:=⟨_,rfl⟩
    rw [← hd2] at g4
    have hS:r.1.Sets=ins d2 (wo a.Name v.Sets):=by rw [g4]
    have hnm:d2.Name=a.To:=by rw [hd2]
    have hmem:d2∈r.1.Sets:=by rw [hS];exact mem_ins.2 (.inl rfl)
    have hh:hasN r.1.Sets a.To=true:=by rw [← hnm];exact has_mem hmem
    have hlm:=low_mem b1 hmem
    rw [hnm] at hlm
    have hne:a.To≠a.Name:=by
      intro e;rw [e,g1] at g2;cases g2
    have hno:hasN r.1.Sets a.Name=false:=by
      unfold hasN
      rw [List.any_eq_false]
      intro x hx
      rw [hS] at hx
      rcases mem_ins.1 hx with rfl | h
      · rw [hnm];simpa using hne
      · have:=(mem_wo.1 h).2
        simpa using this
    have hnb:nameB a.Name=true:=by
      have:=((okD_iff q1).1 (q4 _ m3)).1
      rw [m2] at this;exact this
    obtain ⟨s,s1,s2,s3,s4⟩:=Rename_val n hn r.1 e2.1 b1 a.To a.Name h1
    have hs0:=s4 hh hno hnb
    obtain ⟨_,_,_,s5⟩:=s3 hs0
    rw [hlm] at s5
    have hwo:wo a.To r.1.Sets=wo a.Name v.Sets:=by
      rw [hS,← hnm]
      refine wo_ins (q5.filter _) ?_
      rw [hnm]
      exact hasN_sub (fun x hx=>(mem_wo.1 hx).1) g2
    have hself:v.Sets.set (lowN v.Sets a.Name) (gt v.Sets (lowN v.Sets a.Name))=v.Sets:=by
      rw [gt_lt m1];exact List.set_getElem_self m1
    have hins:=set_ins q5 m1 (d:=gt v.Sets (lowN v.Sets a.Name)) rfl
    rw [hself,m2] at hins
    have hback:(⟨a.Name,d2.Dcb,d2.Extents,d2.Used⟩:TDscb)=gt v.Sets (lowN v.Sets a.Name):=by
      have hb:∀ x:TDscb,x.Name=a.Name→(⟨a.Name,x.Dcb,x.Extents,x.Used⟩:TDscb)=x:=by
        rintro ⟨y1,y2,y3,y4⟩ h
        simp only at h
        subst h;rfl
      rw [hd2];exact hb _ m2
    have hres:s=(v,0):=by
      have h1:s.1=v:=by
        rw [s5,hwo,hback,← hins,g4]
      calc s=(s.1,s.2):=rfl
        _=(v,0):=by rw [h1,hs0]
    have heq:law21_equal n v ⟨v.Serial,v.Cyls,v.Heads,v.Size,v.Sets⟩=some true:=equal_self n hn v hv
    rw [hbe,cond_true]
    simp only [s1,hres,Option.bind_some,heq,bne_self_eq_false,Bool.false_eq_true,if_false,Option.isSome_some,Option.getD_some,Bool.not_true,implies_true,cond_false]
    rw [gd_pos _ trivial]
    exact undo_extend n hn hw v hv hr a h1 hN r.1
  · have hbe:(r.2 == 0)=false:=by simpa using he
    rw [hbe,cond_false]
    exact undo_extend n hn hw v hv hr a h1 hN r.1
theorem Undo_true (n:Nat) (hn:N0≤n) (hw:law21_works n=some true) (s:TStart) (l:List TAct) (a:TAct) (h1:0≤s.Cyls) (h2:0≤s.Heads) (h3:0≤s.Size) (hl:l.length≤2097152) (ha:∀ a∈l,okAct a) (hb:okAct a):law21_VtocUndo n s l a=some true:=by
  have hn0:4194304≤n:=hn
  obtain ⟨v,v1,v2,v3⟩:=play_val n hn s l h1 h2 h3 hl ha
  simp only [law21_VtocUndo,v1,Option.bind_some,hw]
  cases hc:(if decide ((a.Name.length:Int) > 100)=true then true else decide ((a.To.length:Int) > 100)) with
  | true=>rfl
  | false =>
    have hn1:a.Name.length≤100∧a.To.length≤100:=by
      rw [ite_tt,Bool.or_eq_false_iff,decide_eq_false_iff_not,decide_eq_false_iff_not] at hc
      omega
    obtain ⟨p,hp⟩:∃ p,law21_plain n=some p:=⟨_,rfl⟩
    simp only [cond_false,hp,Option.bind_some]
    obtain ⟨r,e1,e2,e3⟩:=Create_val n hn v v2 v3 a.Name p [] 0 a.N hn1.1 hb.2.2
    simp only [e1,Option.bind_some]
    by_cases he:r.2=0
    · obtain ⟨g1,X,g2⟩:=e3 he
      obtain ⟨b1,b2⟩:=e2.2.2 he
      obtain ⟨q1,q2,q3,q4,q5,q6⟩:=rV_all.1 v3
      have hbe:(r.2 == 0)=true:=by simp [he]
      have hS:r.1.Sets=ins ⟨a.Name,p,X,0⟩ v.Sets:=by rw [g2]
      have hh:hasN r.1.Sets a.Name=true:=by
        have hmem:(⟨a.Name,p,X,0⟩:TDscb)∈r.1.Sets:=by rw [hS];exact mem_ins.2 (.inl rfl)
        exact has_mem hmem
      obtain ⟨s,s1,s2,s3⟩:=Scratch_val n hn r.1 e2.1 b1 a.Name
      have hres:s=(v,0):=by
        rw [s3 hh,hS]
        have:=wo_ins (d:=⟨a.Name,p,X,0⟩) q5 g1
        rw [this,g2]
      rw [hbe,cond_true]
      simp only [s1,hres,Option.bind_some,equal_self n hn v v2,bne_self_eq_false,Bool.false_eq_true,if_false,Option.isSome_some,Option.getD_some,Bool.not_true,implies_true,cond_false]
      rw [gd_pos _ trivial]
      exact undo_rename n hn hw v v2 v3 a hn1.1 hn1.2 hb.2.2 r.1
    · have hbe:(r.2 == 0)=false:=by simpa using he
      rw [hbe,cond_false]
      exact undo_rename n hn hw v v2 v3 a hn1.1 hn1.2 hb.2.2 r.1
theorem p_law21_VtocUndo (x0:TStart) (x1:List TAct) (x2:TAct) (hc:∀ i,i < 3→CanL Tryz.prog (([(true,[.int .u8,.int .u8,.int .u8]),(false,[.slice 62]),(true,[.int .u8,.str,.str,.int .i64,.int .i64,.bool,.bool,.int .i64,.int .i64,.int .i64,.int .i64,.int .i64])]:List (Bool×List Kd)).getD i (false,[])).2 (([[.int x0.Cyls,.int x0.Heads,.int x0.Size],[.slice (List.map e_TAct x1)],e_TAct x2]:List (List C)).getD i []))
    (hb:cbss [[.int x0.Cyls,.int x0.Heads,.int x0.Size],[.slice (List.map e_TAct x1)],e_TAct x2]≤2097152):law21_VtocUndo N0 x0 x1 x2=some true:=by
  have hl:=len_of_cbss hb (xs:=[.slice (List.map e_TAct x1)]) (l:=x1) (f:=e_TAct) (by simp) (by simp)
  have h0:=hc 0 (by decide)
  have h2:=hc 2 (by decide)
  have k0:=h2.2 0 (by simp)
  have k11:=h2.2 11 (by simp)
  simp only [List.getD_cons_zero,List.getD_cons_succ,e_TAct,cg_zero,cg_succ] at k0 k11
  have hN:-9223372036854775808≤x2.N∧x2.N≤9223372036854775807:=by
    cases k11 with
    | int _ _ hr =>
      have h3:IntKind.i64.min = -9223372036854775808:=by decide
      have h4:IntKind.i64.max=9223372036854775807:=by decide
      simp only [InR,h3,h4] at hr;omega
  exact Undo_true N0 (Nat.le_refl N0) works_N0 x0 x1 x2 (byte_of (h0.2 0 (by decide))) (byte_of (h0.2 1 (by decide))) (byte_of (h0.2 2 (by decide))) hl (acts_ok (hc 1 (by decide))) ⟨byte_of k0,hN⟩
end Go.Proofs.YtijnkhcfondehaaGreatDoor
