/- Text. -/
import Derived.Test.YtkebegfopnlkhaaRE
import Derived.Test.YtkebegfopnlkhaaSR
set_option maxHeartbeats 2000000
set_option linter.unusedVariables false
set_option linter.unusedSimpArgs false
set_option maxRecDepth 100000
open _root_.List renaming length_take→jt,length_map→jq,length_cons→jE,mem_map→Jk,getElem_mem→jm,mem_append→jk,getD_cons_zero→jR
open _root_.Nat renaming add_mul→ju,le_trans→jU,mul_le_mul_right→jl,le_refl→jr
namespace Go.Proofs.Ytkebegfopnlkhaa
open Go.AE
theorem gt_set_self' {α:Type} [Inhabited α] (l:List α) (i:Nat) (x:α) (h:i < l.length):gt (List.set l i x) i=x:=by
  rw [gt_lt (by simpa using h)];simp
theorem gt_set_ne {α:Type} [Inhabited α] (l:List α) (i k:Nat) (x:α) (h:i≠k):gt (List.set l i x) k=gt l k:=by
  simp [gt,List.getD_eq_getElem?_getD,List.getElem?_set,h]
def okLine (x:TLine):Prop:=x.Text.length≤132∧0≤x.Ctl∧x.Ctl≤255
theorem valid_ok (n:Nat) (l:List TLine) (hn:N0≤n):∃ r,law39_Valid n l=some r∧r.length≤300∧shortL r∧ctlL r:=by
  have hn0:4194304≤n:=hn
  obtain ⟨f,hf,hl⟩:=few_eq n l hn
  obtain ⟨y,h1,h2,h3⟩:=loopF_inv (body:=fun (x:(List TLine)×Int)=>law39_Valid_b2 n ((f.length:Nat):Int) x.1 x.2) (fun x=>0≤x.2∧x.2≤(f.length:Int)∧x.1.length=f.length∧∀ k:Nat,(k:Int) < x.2→okLine (gt x.1 k)) (fun x=>((f.length:Int) - x.2).toNat) (fun y=>y.length=f.length∧∀ k,k < f.length→okLine (gt y k))
    (fun ⟨out,i⟩ ⟨hi1,hi2,hi3,hi4⟩=>by
      simp only at hi1 hi2 hi3 hi4 ⊢
      unfold law39_Valid_b2
      by_cases c:i < (f.length:Int)
      · left
        have c0:(0≤i∧i < (out.length:Int)):=by omega
        have c1:i.toNat < out.length:=by omega
        simp only [gt_set_self' _ _ _ c1]
        rw [decide_eq_true c,cond_true,gd_pos _ ⟨c0,c1,c0,c1⟩,gd_pos _ ⟨c0,c1,c0,c1,by split <;> omega,c0,c1⟩,wid (n:=i+1) (by omega)]
        refine ⟨_,rfl,⟨by simp only;omega,by simp only;omega,by simp only [List.length_set];exact hi3,fun k hk=>?_⟩,by simp only;omega⟩
        simp only at hk ⊢
        by_cases e:i.toNat=k
        · subst e
          rw [gt_set_self' _ _ _ (by simpa using c1)]
          have hw:0≤IntKind.wrap .u64 (gt out i.toNat).Ctl:=by
            simp only [IntKind.wrap,IntKind.bits,IntKind.signed]
            simp
            omega
          have h1:=Int.tmod_nonneg 256 hw
          have h2:=Int.tmod_lt_of_pos (IntKind.wrap .u64 (gt out i.toNat).Ctl) (show (0:Int) < 256 by decide)
          refine ⟨?_,?_,?_⟩
          · simp only [jt]
            split <;> omega
          · rw [wid (by omega)];exact h1
          · rw [wid (by omega)];exact Int.le_of_lt_add_one h2
        · rw [gt_set_ne _ _ _ _ e,gt_set_ne _ _ _ _ e]
          exact hi4 k (by omega)
      · right
        rw [decide_eq_false c,cond_false]
        exact ⟨_,rfl,hi3,fun k hk=>hi4 k (by omega)⟩) n (f,0) ⟨by simp,by simp,rfl,fun k hk=>by simp at hk;omega⟩ (by simp;omega)
  have hall:∀ x∈y,okLine x:=by
    intro x hx
    obtain ⟨i,hi,rfl⟩:=List.mem_iff_getElem.1 hx
    have:=h3 i (by omega)
    rw [gt_lt hi] at this
    exact this
  refine ⟨y,?_,by omega,fun x hx=>(hall x hx).1,fun x hx=>(hall x hx).2⟩
  simp only [law39_Valid,hf,h1,Option.bind_some,law39_Valid_k1]
theorem trkL_len (l:List TLine):(trkL l).length≤l.length:=by
  have h1:=divF_len (List.map szRec (recsL l)) 2048 (List.map szRec (recsL l)).length 0
  have h2:=recsL_len l
  unfold trkL tracksR divP
  simp only [jq] at h1 ⊢
  omega
theorem totR_le {D:Nat}:∀ x:List TRec,(∀ r∈x,r.Data.length≤D)→totR x≤x.length * D
  | [],_=>by simp [totR]
  | r :: x,h=>by
    have h1:=h r (by simp)
    have h2:=totR_le x fun r hr=>h r (by simp [hr])
    simp only [totR,jE,ju,Nat.one_mul];omega
theorem totT_le {B:Nat}:∀ t:List (List TRec),(∀ x∈t,totR x≤B)→totT t≤t.length * B
  | [],_=>by simp [totT]
  | x :: t,h=>by
    have h1:=h x (by simp)
    have h2:=totT_le t fun x hx=>h x (by simp [hx])
    simp only [totT,jE,ju,Nat.one_mul];omega
theorem totT_app:∀ a b:List (List TRec),totT (a ++ b)=totT a+totT b
  | [],b=>by simp [totT]
  | x :: a,b=>by simp [totT,totT_app a b];omega
theorem tot_sz {m D T R:Nat} {t:List (List TRec)} (h1:t.length≤m) (h2:∀ x∈t,x.length≤R∧∀ r∈x,r.Data.length≤D):totT t≤m * (R * D) :=
  jU (totT_le (B:=R * D) t fun x hx=>jU (totR_le x (h2 x hx).2) (jl _ (h2 x hx).1)) (jl _ h1)
theorem okT_X {x:List (List TRec)} (h:okX x):okT x:=by
  obtain ⟨⟨h1,h2⟩,h3⟩:=h
  have:=tot_sz (T:=0) h1 (fun x hx=>⟨(h2 x hx).1,fun r hr=>((h2 x hx).2 r hr).1⟩)
  exact ⟨by omega,fun x hx=>⟨by have:=(h2 x hx).1;omega,fun r hr=>⟨(h3 x hx r hr).1,(h3 x hx r hr).2,by have:=((h2 x hx).2 r hr).1;omega⟩⟩,by omega⟩
theorem trkL_X {l:List TLine} (hs:shortL l) (h3:l.length≤300):okX (trkL l)∧szX 300 (trkL l):=by
  have hl:=trkL_len l
  have hr:(recsL l).length≤300:=jU (recsL_len l) h3
  have hin:∀ x∈trkL l,x.length≤300∧∀ r∈x,r.Data.length≤2000∧r.Key.length≤2000:=by
    intro x hx
    simp only [trkL,tracksR,Jk] at hx
    obtain ⟨e,_,rfl⟩:=hx
    refine ⟨?_,fun r hr=>?_⟩
    · rw [numb_len]
      have:(piece (recsL l) e).length≤(recsL l).length:=by unfold piece;rw [jt,List.length_drop];omega
      omega
    · simp only [numb,List.mem_mapIdx] at hr
      obtain ⟨i,hi,rfl⟩:=hr
      have hm:∃ d,d∈gsL l∧mkRec d=(piece (recsL l) e)[i]:=by
        have h:=piece_mem (jm hi)
        generalize (piece (recsL l) e)[i]=R at h ⊢
        rw [recsL_gs] at h
        exact Jk.1 h
      obtain ⟨d,hd,hd'⟩:=hm
      have hz:=gsL_sz l hs d hd
      rw [← hd']
      exact ⟨hz,by simp [mkRec]⟩
  exact ⟨⟨⟨by omega,hin⟩,fun t ht r hr=>⟨(trkL_byt l t ht r hr).1,(trkL_byt l t ht r hr).2⟩⟩,by omega,hin⟩
theorem cut_ok (n:Nat) (t:List (List TRec)) (hn:N0≤n):∃ r,law39_cut n t=some r∧r.length≤12∧∀ x∈r,x.length≤40∧∀ q∈x,∃ y∈t,q∈y:=by
  have hn0:4194304≤n:=hn
  obtain ⟨y,h1,h2,h3⟩:=loopF_inv (body:=fun (x:(List (List TRec))×Int)=>law39_cut_b2 n t x.1 x.2) (fun x=>0≤x.2∧x.2≤12∧(x.1.length:Int)≤x.2∧∀ z∈x.1,z.length≤40∧∀ q∈z,∃ y∈t,q∈y) (fun x=>(12 - x.2).toNat) (fun y=>y.length≤12∧∀ z∈y,z.length≤40∧∀ q∈z,∃ y∈t,q∈y)
    (fun ⟨out,i⟩ ⟨hi1,hi2,hi3,hi4⟩=>by
      simp only at hi1 hi2 hi3 hi4 ⊢
      unfold law39_cut_b2
      by_cases c:(if (decide (i < (t.length:Int)))=true then (decide (i < 12)) else false)=true
      · have c':i < (t.length:Int)∧i < 12:=by
          simp only [Bool.if_false_right,Bool.and_eq_true,decide_eq_true_eq] at c;exact c
        left
        have c1:i.toNat < t.length:=by omega
        rw [c,cond_true,gt_lt c1,gd_pos _ ⟨by omega,by omega,by split <;> omega,by omega⟩,wid (by omega)]
        refine ⟨_,rfl,⟨by simp only;omega,by simp only;omega,by simp only [List.length_append,List.length_singleton];omega,fun z hz=>?_⟩,by simp only;omega⟩
        simp only [jk,List.mem_singleton] at hz
        rcases hz with hz | rfl
        · exact hi4 z hz
        · refine ⟨?_,fun q hq=>⟨_,jm c1,List.mem_of_mem_take hq⟩⟩
          rw [jt]
          split <;> omega
      · rw [Bool.not_eq_true] at c
        right
        rw [c,cond_false]
        exact ⟨_,rfl,by omega,hi4⟩) n ([],0) ⟨by simp,by simp,by simp,by simp⟩ (by simp;omega)
  exact ⟨y,by simp only [law39_cut,h1,Option.bind_some,law39_cut_k1],h2,h3⟩
theorem Reads_true (l:List TLine) (t:List (List TRec)) (n_ at_ how by_:Int) (ht:∀ x∈t,∀ r∈x,bytS r.Data∧bytS r.Key∧r.Data.length≤2097152):law39_SpoolReads N0 l t n_ at_ how by_=some true:=by
  obtain ⟨v,hv,hvl,hs,hc⟩:=valid_ok N0 l (jr _)
  obtain ⟨c,hcu,hcl,hcx⟩:=cut_ok N0 t (jr _)
  obtain ⟨hX,hsz⟩:=trkL_X hs hvl
  have hu:=okT_X hX
  have hcb:∀ x∈c,x.length≤40∧∀ r∈x,r.Data.length≤2097152:=fun x hx=>⟨(hcx x hx).1,fun r hr=>by
    obtain ⟨y,hy,hr'⟩:=(hcx x hx).2 r hr
    exact (ht y hy r hr').2.2⟩
  have hct:=tot_sz (T:=0) hcl hcb
  have hut:=tot_sz (T:=0) hsz.1 (fun x hx=>⟨(hsz.2 x hx).1,fun r hr=>((hsz.2 x hx).2 r hr).1⟩)
  have hcr:∀ x∈c,x.length≤100000∧∀ r∈x,okR r:=fun x hx=>⟨by have:=(hcx x hx).1;omega,fun r hr=>by
    obtain ⟨y,hy,hr'⟩:=(hcx x hx).2 r hr
    obtain ⟨q1,q2,q3⟩:=ht y hy r hr'
    exact ⟨q1,q2,by omega⟩⟩
  have hck:okT c:=⟨by omega,hcr,by omega⟩
  have hl2:=hsz.1
  have hap:okT (trkL v ++ c):=⟨by simp;omega,fun x hx=>by
    rcases jk.1 hx with h | h
    · exact hu.2.1 x h
    · exact hcr x h,by rw [totT_app];omega⟩
  have hN:N0≤N0:=jr _
  unfold law39_SpoolReads
  rw [if_pos]
  exact ⟨v,trkL v,c,hv,layout_all N0 v (by decide) (by omega) hs,hcu,reads_true N0 hN c n_ hck,reads_true N0 hN _ n_ hu,reads_true N0 hN _ _ hu,hsz,fun x hx=>reads_true N0 hN x _ (okT_X hx),by omega,reads_true N0 hN _ _ hap,works_N0⟩
theorem can_u8 {x:Int} (h:Go.AE.Can Try.prog (.int .u8) (.int x)):0≤x∧x≤255:=by
  cases h with
  | int _ _ h =>
    have h1:IntKind.u8.min=0:=by decide
    have h2:IntKind.u8.max=255:=by decide
    obtain ⟨h3,h4⟩:=h
    omega
theorem can_byt {b:List Int} (h:Go.AE.Can Try.prog (.slice 5) (.slice (List.map e_Int b))):bytS b:=fun x hx=>can_u8 ((can_elt ty5 e_Int h x hx).2 0 (by decide))
theorem p_law39_SpoolReads (x0:List TLine) (x1:List (List TRec)) (x2 x3 x4 x5:Int) (hc:CanL Try.prog [.slice 57] [.slice (List.map e_LTRec x1)]) {xss:List (List C)} (hm:[C.slice (List.map e_LTRec x1)]∈xss) (hb:cbss xss≤2097152) :
    law39_SpoolReads N0 x0 x1 x2 x3 x4 x5=some true:=by
  refine Reads_true x0 x1 x2 x3 x4 x5 fun x hx r hr=>?_
  have h1:=hc.2 0 (by decide)
  simp only [jR,cg_zero] at h1
  have h2:=(can_elt ty57 e_LTRec h1 x hx).2 0 (by decide)
  simp only [jR,e_LTRec,cg_zero] at h2
  have h3:=(can_elt ty59 e_TRec h2 r hr).2
  have h4:=h3 1 (by decide)
  have h5:=h3 2 (by decide)
  simp only [jR,List.getD_cons_succ,e_TRec,cg_zero,cg_succ] at h4 h5
  refine ⟨can_byt h5,can_byt h4,?_⟩
  have c1:=cbs_le hm
  have c2:cb (.slice (List.map e_LTRec x1))≤cbs [C.slice (List.map e_LTRec x1)]:=cb_le (by simp)
  have c3:cbs (e_LTRec x)≤cbss (List.map e_LTRec x1):=cbs_le (List.mem_map_of_mem hx)
  have c4:cb (.slice (List.map e_TRec x))≤cbs (e_LTRec x):=cb_le (by simp [e_LTRec])
  have c5:cbs (e_TRec r)≤cbss (List.map e_TRec x):=cbs_le (List.mem_map_of_mem hr)
  have c6:cb (.slice (List.map e_Int r.Data))≤cbs (e_TRec r):=cb_le (by simp [e_TRec])
  simp only [cb,jq] at c2 c4 c6
  omega
end Go.Proofs.Ytkebegfopnlkhaa
