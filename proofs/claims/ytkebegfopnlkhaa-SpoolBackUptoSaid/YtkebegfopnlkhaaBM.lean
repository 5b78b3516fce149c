/- Text. -/
import Derived.Test.YtkebegfopnlkhaaRE
import Derived.Test.YtkebegfopnlkhaaFH
set_option linter.unusedSimpArgs false
set_option linter.unusedVariables false
set_option maxHeartbeats 2000000
set_option linter.unusedVariables false
set_option linter.unusedSimpArgs false
set_option maxRecDepth 100000
namespace Go.Proofs.Ytkebegfopnlkhaa
open Go.AE
theorem pl_lb:∀ g:List TLine,shortL g→ctlL g→pl (g.flatMap lb)=g
  | [],_,_=>by simp [pl_nil]
  | x :: xs,hs,hc=>by
    have h1:=hs x (by simp)
    obtain ⟨h2,h3⟩:=hc x (by simp)
    have hfl:(fromStr8 x.Text).length=x.Text.length:=fromStr8_len _
    have e0:IntKind.wrap .u8 x.Ctl=x.Ctl:=by rw [wu8'];omega
    have e1:IntKind.wrap .u8 (x.Text.length:Int)=(x.Text.length:Int):=by rw [wu8'];omega
    have hb:(x :: xs).flatMap lb=x.Ctl :: (x.Text.length:Int) :: (fromStr8 x.Text ++ xs.flatMap lb):=by
      simp [lb,e0,e1]
    rw [hb,pl_cons,Int.toNat_natCast,if_pos (by simp [hfl]),List.take_left' hfl,List.drop_left' hfl,to_from,pl_lb xs (fun y hy=>hs y (by simp [hy])) (fun y hy=>hc y (by simp [hy]))]
theorem pl_gdata (a:Nat) (g:List TLine) (hs:shortL g) (hc:ctlL g):pl ((gdata a g).drop 4)=g:=by
  have:(gdata a g).drop 4=g.flatMap lb:=by
    unfold gdata
    rw [List.drop_left' (idx_len _)]
  rw [this,pl_lb g hs hc]
theorem GoodD.pl:∀ {D:List (List Int)} {a:Nat} {l:List TLine},GoodD a D l→l=D.flatMap fun d=>pl (d.drop 4)
  | [],_,_,h=>by cases h;rfl
  | d :: D,a,l,h=>by
    cases h with
    | cons _ g _ ls h1 h2 h3 h4 =>
      rw [List.flatMap_cons,pl_gdata a g h1 h2,← GoodD.pl h4]
theorem plR_flat:∀ x:List TRec,plR x=(x.map (·.Data)).flatMap fun d=>Go.Proofs.Ytkebegfopnlkhaa.pl (d.drop 4)
  | []=>rfl
  | r :: x=>by simp [plR,plR_flat x]
theorem plT_flat:∀ t:List (List TRec),plT t=(t.flatMap fun x=>x.map (·.Data)).flatMap fun d=>Go.Proofs.Ytkebegfopnlkhaa.pl (d.drop 4)
  | []=>rfl
  | x :: t=>by simp [plT,plT_flat t,plR_flat x]
theorem plT_trkL (l:List TLine) (hs:shortL l) (hc:ctlL l) (h4:l.length≤4096):plT (trkL l)=l:=by
  rw [plT_flat,← (trkL_good l hs hc h4).pl]
theorem lns_cases (t:List (List TRec)) (n_:Int) (h:okT t):lnsS t n_=([],390)∨(shortL (plT t)∧ctlL (plT t)∧(plT t).length≤4096∧(((plT t).length:Nat):Int)=n_∧trkL (plT t)=t):=by
  obtain ⟨h1,h2,h3⟩:=h
  by_cases hg:(if (((plT t).length:Nat):Int) != n_ then true else ((tracksS (plT t)).2 != 0))=true∨sameTT (tracksS (plT t)).1 t=false
  · exact .inl (if_pos hg)
  · right
    have hg1:¬ (if (((plT t).length:Nat):Int) != n_ then true else ((tracksS (plT t)).2 != 0))=true:=fun h=>hg (.inl h)
    have hg2:sameTT (tracksS (plT t)).1 t=true:=by
      cases hq:sameTT (tracksS (plT t)).1 t
      · exact absurd (.inr hq) hg
      · rfl
    have hgn:(((plT t).length:Nat):Int)=n_:=by
      revert hg1
      by_cases hh:(((plT t).length:Nat):Int)=n_
      · intro _;exact hh
      · have:((((plT t).length:Nat):Int) != n_)=true:=by simpa using hh
        simp [this]
    have hge:(tracksS (plT t)).2=0:=by
      have hh:((((plT t).length:Nat):Int) != n_)=false:=by simp [hgn]
      rw [hh] at hg1
      simpa using hg1
    have hT:(plT t).length≤4096∧(plT t).any longT=false∧(plT t).any badC=false∧(tracksS (plT t)).1=trkL (plT t):=by
      revert hge
      unfold tracksS
      split
      · intro h;simp at h
      · rename_i hc
        cases hL:(plT t).any longT
        · cases hB:(plT t).any badC
          · intro _;exact ⟨by omega,rfl,rfl,by simp⟩
          · simp
        · simp
    obtain ⟨c1,c2,c3,c4⟩:=hT
    rw [c4] at hg2
    refine ⟨fun x hx=>?_,fun x hx=>?_,c1,hgn,sameTT_eq (trkL_byt _) (fun x hx r hr=>⟨((h2 x hx).2 r hr).1,((h2 x hx).2 r hr).2.1⟩) hg2⟩
    · have:=List.any_eq_false.1 c2 x hx
      simp [longT] at this;omega
    · have:=List.any_eq_false.1 c3 x hx
      simp only [badC,Bool.if_true_left,Bool.or_eq_true,decide_eq_true_eq,not_or] at this
      omega
theorem trkL_bad (l:List TLine):∀ x∈trkL l,∀ r∈x,r.Bad=false:=by
  intro x hx r hr
  simp only [trkL,tracksR,List.mem_map] at hx
  obtain ⟨e,_,rfl⟩:=hx
  simp only [numb,List.mem_mapIdx] at hr
  obtain ⟨i,hi,rfl⟩:=hr
  have hm:=piece_mem (List.getElem_mem hi)
  obtain ⟨e',_,he'⟩:∃ e',e'∈divP (List.map szLine l) 1020∧mkRec (gdata e'.1 (piece l e'))=_:=List.mem_map.1 hm
  rw [← he'];rfl
theorem trkL_rec (l:List TLine) (hs:shortL l) (hc:ctlL l):∀ x∈trkL l,∀ r∈x,pl (r.Data.drop 4)≠[]:=by
  intro x hx r hr
  simp only [trkL,tracksR,List.mem_map] at hx
  obtain ⟨e,_,rfl⟩:=hx
  simp only [numb,List.mem_mapIdx] at hr
  obtain ⟨i,hi,rfl⟩:=hr
  have hm:=piece_mem (List.getElem_mem hi)
  obtain ⟨e',hd,he'⟩:∃ e',e'∈divP (List.map szLine l) 1020∧mkRec (gdata e'.1 (piece l e'))=_:=List.mem_map.1 hm
  rw [← he']
  show pl ((gdata e'.1 (piece l e')).drop 4)≠[]
  rw [pl_gdata _ _ (fun y hy=>hs y (piece_mem hy)) (fun y hy=>hc y (piece_mem hy))]
  obtain ⟨q1,q2⟩:=divP_mem hd
  intro h
  have:=piece_len (l:=l) (e:=e') (by simpa using q2)
  rw [h] at this
  simp at this
  omega
theorem plT_app:∀ a b:List (List TRec),plT (a ++ b)=plT a ++ plT b
  | [],b=>by simp [plT]
  | x :: a,b=>by simp [plT,plT_app a b]
theorem plR_app:∀ a b:List TRec,plR (a ++ b)=plR a ++ plR b
  | [],b=>by simp [plR]
  | x :: a,b=>by simp [plR,plR_app a b]
end Go.Proofs.Ytkebegfopnlkhaa
/-
  ch. 39: SpoolBack: a flag, a record gone, a track gone, two tracks turned: no layout.
-/
set_option maxHeartbeats 2000000
set_option linter.unusedVariables false
set_option linter.unusedSimpArgs false
set_option maxRecDepth 100000
namespace Go.Proofs.Ytkebegfopnlkhaa
open Go.AE
theorem lost_flag {t:List (List TRec)} {n_:Int} (h:okT t) {i k:Nat} (hi:i < t.length) (hk:k < (t[i]).length) (hb:((t[i])[k]).Bad=true):lnsS t n_=([],390):=by
  rcases lns_cases t n_ h with h1 | ⟨_,_,_,_,h5⟩
  · exact h1
  · exfalso
    have:=trkL_bad (plT t) t[i] (by rw [h5];exact List.getElem_mem hi) ((t[i])[k]) (List.getElem_mem hk)
    rw [hb] at this;cases this
theorem lost_len {t:List (List TRec)} {n_:Int} (h:okT t) (hl:(((plT t).length:Nat):Int)≠n_):lnsS t n_=([],390):=by
  rcases lns_cases t n_ h with h1 | ⟨_,_,_,h4,_⟩
  · exact h1
  · exact absurd h4 hl
theorem plT_set (t:List (List TRec)) (i:Nat) (hi:i < t.length) (x:List TRec):plT (t.set i x)=plT (t.take i) ++ plR x ++ plT (t.drop (i+1)):=by
  have h1:t.set i x=t.take i ++ x :: t.drop (i+1):=by rw [List.set_eq_take_append_cons_drop,if_pos hi]
  rw [h1,plT_app]
  simp [plT]
theorem plT_split (t:List (List TRec)) (i:Nat) (hi:i < t.length):plT t=plT (t.take i) ++ plR t[i] ++ plT (t.drop (i+1)):=by
  have:=plT_set t i hi t[i]
  rwa [List.set_getElem_self] at this
theorem plR_split (x:List TRec) (k:Nat) (hk:k < x.length):plR x=plR (x.take k) ++ pl ((x[k]).Data.drop 4) ++ plR (x.drop (k+1)):=by
  conv=>lhs;rw [← List.take_append_drop k x,List.drop_eq_getElem_cons hk,plR_app]
  simp [plR]
section
variable {v:List TLine} (hs:shortL v) (hc:ctlL v) (h4:v.length≤4096)
include hs hc h4
theorem gone_len {i k:Nat} (hi:i < (trkL v).length) (hk:k < ((trkL v)[i]).length):(((plT ((trkL v).set i (((trkL v)[i]).take k ++ ((trkL v)[i]).drop (k+1)))).length:Nat):Int)≠((v.length:Nat):Int):=by
  have hp:=congrArg List.length (plT_trkL v hs hc h4)
  rw [plT_split _ i hi,plR_split _ k hk] at hp
  have hne:=trkL_rec v hs hc _ (List.getElem_mem hi) _ (List.getElem_mem hk)
  have hpos:=List.length_pos_iff.2 hne
  rw [plT_set _ _ hi,plR_app]
  simp only [List.length_append] at hp ⊢
  omega
theorem less_len {i:Nat} (hi:i < (trkL v).length) (hx:(trkL v)[i]≠[]):(((plT ((trkL v).take i ++ (trkL v).drop (i+1))).length:Nat):Int)≠((v.length:Nat):Int):=by
  have hp:=congrArg List.length (plT_trkL v hs hc h4)
  have hk:0 < ((trkL v)[i]).length:=List.length_pos_iff.2 hx
  rw [plT_split _ i hi,plR_split _ 0 hk] at hp
  have hne:=trkL_rec v hs hc _ (List.getElem_mem hi) _ (List.getElem_mem hk)
  have hpos:=List.length_pos_iff.2 hne
  rw [plT_app]
  simp only [List.length_append] at hp ⊢
  omega
end
theorem totR_map:∀ x:List TRec,totR x=(x.map fun r=>r.Data.length).sum
  | []=>rfl
  | r :: x=>by simp [totR,totR_map x]
theorem totT_map:∀ t:List (List TRec),totT t=(t.map totR).sum
  | []=>rfl
  | x :: t=>by simp [totT,totT_map t]
theorem okT_fl {t t':List (List TRec)} (h:okT t) (hf:flL t t'):okT t':=by
  obtain ⟨h1,h2,h3⟩:=h
  obtain ⟨f1,f2⟩:=hf
  have hrow:∀ j (hj:j < t'.length),∃ hj':j < t.length,flT t[j] t'[j]:=fun j hj=>⟨by omega,f2 j (by omega) hj⟩
  have htot:totT t'=totT t:=by
    rw [totT_map,totT_map]
    congr 1
    refine List.ext_getElem (by simp [f1]) fun j hj hj'=>?_
    simp only [List.length_map] at hj hj'
    simp only [List.getElem_map]
    obtain ⟨_,g1,g2⟩:=hrow j hj
    rw [totR_map,totR_map]
    congr 1
    refine List.ext_getElem (by simp [g1]) fun k hk hk'=>?_
    simp only [List.length_map] at hk hk'
    simp only [List.getElem_map]
    rw [(g2 k hk' hk).2.2]
  refine ⟨by omega,fun x hx=>?_,by omega⟩
  obtain ⟨j,hj,rfl⟩:=List.mem_iff_getElem.1 hx
  obtain ⟨hj',g1,g2⟩:=hrow j hj
  obtain ⟨q1,q2⟩:=h2 _ (List.getElem_mem hj')
  refine ⟨by omega,fun r hr=>?_⟩
  obtain ⟨k,hk,rfl⟩:=List.mem_iff_getElem.1 hr
  obtain ⟨_,e2,e3⟩:=g2 k (by omega) hk
  have:=q2 _ (List.getElem_mem (show k < (t[j]).length by omega))
  exact ⟨by rw [e3];exact this.1,by rw [e2];exact this.2.1,by rw [e3];exact this.2.2⟩
theorem at_track {t:List (List TRec)} {l:List TLine} (hg:GoodD 0 (t.flatMap fun x=>x.map (·.Data)) l) {j:Nat} (hj:j < t.length) (hx:0 < (t[j]).length):∃ g,((t[j])[0]).Data=gdata (plT (t.take j)).length g:=by
  have h1:t=t.take j ++ t[j] :: t.drop (j+1):=by
    conv=>lhs;rw [← List.take_append_drop j t,List.drop_eq_getElem_cons hj]
  generalize hxx:t[j]=x at h1 hx ⊢
  rw [h1,List.flatMap_append,List.flatMap_cons] at hg
  obtain ⟨l1,l2,_,k1,k2⟩:=hg.split
  have e1:l1=plT (t.take j):=by rw [k1.pl,plT_flat]
  match x,hx with
  | r :: rs,_ =>
    simp only [List.map_cons,List.cons_append] at k2
    generalize hdd:r.Data=dd at k2
    cases k2 with
    | cons _ g _ ls _ _ _ _ =>
      refine ⟨g,?_⟩
      rw [← e1]
      simpa using hdd
theorem idx_inj {a b:Nat} (ha:a≤4096) (hb:b≤4096) (h:idx (a:Int)=idx (b:Int)):a=b:=by
  have w32:∀ x:Nat,x≤4096→IntKind.wrap .u32 (x:Int)=(x:Int):=fun x hx=>by
    simp [IntKind.wrap,IntKind.bits,IntKind.signed];omega
  simp only [idx,List.cons.injEq,and_true,w32 a ha,w32 b hb,wu8'] at h
  obtain ⟨_,_,h3,h4⟩:=h
  have e1:Int.fdiv (a:Int) (2 ^ 8)=(a:Int) / 256:=by rw [Int.fdiv_eq_ediv_of_nonneg _ (by decide)];rfl
  have e2:Int.fdiv (b:Int) (2 ^ 8)=(b:Int) / 256:=by rw [Int.fdiv_eq_ediv_of_nonneg _ (by decide)];rfl
  rw [e1,e2] at h3
  omega
theorem gdata_inj {a b:Nat} {g g':List TLine} (ha:a≤4096) (hb:b≤4096) (h:gdata a g=gdata b g'):a=b:=by
  unfold gdata at h
  have:=congrArg (List.take 4) h
  rw [List.take_left' (idx_len _),List.take_left' (idx_len _)] at this
  exact idx_inj ha hb this
theorem turned_lost {v:List TLine} (hs:shortL v) (hc:ctlL v) (h4:v.length≤4096) {t':List (List TRec)} {n_:Int} (ho:okT t') {lo hi:Nat} (hlo:lo < hi) (hhi:hi < (trkL v).length) (hl':lo < t'.length) (hx1:0 < ((trkL v)[lo]).length) (hx2:0 < ((trkL v)[hi]).length) (htk:t'.take lo=(trkL v).take lo) (hsw:t'[lo]=(trkL v)[hi]):lnsS t' n_=([],390):=by
  rcases lns_cases t' n_ ho with h1 | ⟨s1,s2,s3,s4,s5⟩
  · exact h1
  · exfalso
    have g1:=trkL_good v hs hc h4
    have g2:=trkL_good (plT t') s1 s2 s3
    rw [s5] at g2
    obtain ⟨ga,ea⟩:=at_track g1 hhi hx2
    obtain ⟨gb,eb⟩:=at_track g2 hl' (by rw [hsw];exact hx2)
    have e:((t'[lo])[0]'(by rw [hsw];exact hx2)).Data=(((trkL v)[hi])[0]).Data:=by simp only [hsw]
    rw [e,ea,htk] at eb
    have hp:=congrArg List.length (plT_trkL v hs hc h4)
    have t1:(plT ((trkL v).take hi)).length≤v.length:=by
      rw [← hp]
      conv=>rhs;rw [← List.take_append_drop hi (trkL v),plT_app]
      simp
    have t2:(plT ((trkL v).take lo)).length < (plT ((trkL v).take hi)).length:=by
      have e2:(trkL v).take hi=(trkL v).take lo ++ ((trkL v).drop lo).take (hi - lo):=by
        rw [← List.take_add];congr 1;omega
      have e3:((trkL v).drop lo).take (hi - lo)=(trkL v)[lo] :: ((trkL v).drop (lo+1)).take (hi - lo - 1):=by
        rw [List.drop_eq_getElem_cons (by omega)]
        obtain ⟨q,hq⟩:∃ q,hi - lo=q+1:=⟨hi - lo - 1,by omega⟩
        rw [hq,List.take_succ_cons];rfl
      rw [e2,e3,plT_app]
      simp only [plT,List.length_append]
      have hne:=trkL_rec v hs hc _ (List.getElem_mem (show lo < (trkL v).length by omega)) _ (List.getElem_mem hx1)
      have hpos:=List.length_pos_iff.2 hne
      have:=congrArg List.length (plR_split _ 0 hx1)
      simp only [List.length_append] at this
      omega
    have:=gdata_inj (by omega) (by omega) eb
    omega
end Go.Proofs.Ytkebegfopnlkhaa
