/- Text. -/
import Derived.Test.YtkebegfopnlkhaaBM
import Derived.Test.YtkebegfopnlkhaaFL
set_option linter.unusedSimpArgs false
set_option linter.unusedVariables false
set_option maxHeartbeats 2000000
set_option linter.unusedVariables false
set_option linter.unusedSimpArgs false
set_option maxRecDepth 100000
namespace Go.Proofs.Ytkebegfopnlkhaa
open Go.AE Go.RowKit
theorem runW_sum:∀ (cs:List Int) (first:Bool) (left:Int),0≤left∧left≤100000→(∀ c∈cs,0≤c∧c≤100000)→(first=true→∀ c∈cs.head?,c≤left)→(cs.take (runW first left cs)).sum≤left
  | [],_,_,h,_,_=>by simp [runW];exact h.1
  | c :: cs,first,left,h,hc,hf=>by
    obtain ⟨c1,c2⟩:=hc c (by simp)
    unfold runW
    split
    · rename_i hcc
      have hle:c≤left:=by
        rcases hcc with e | e
        · exact hf e c (by simp)
        · exact e
      have hw:wrap64 (left - c)=left - c:=by unfold wrap64;omega
      have:=runW_sum cs false (wrap64 (left - c)) (by rw [hw];omega) (fun x hx=>hc x (by simp [hx])) (fun e=>by cases e)
      rw [hw] at this ⊢
      rw [List.take_succ_cons,List.sum_cons]
      omega
    · simp;exact h.1
theorem divW_sum (CS:List Int) (room:Int) (hr:0≤room∧room≤100000) (hc:∀ c∈CS,0≤c∧c≤room):∀ (q fr:Nat),∀ e∈divW room q fr (CS.drop fr),((CS.drop e.1).take (e.2 - e.1)).sum≤room
  | 0,fr,e,he=>by simp [divW] at he
  | q+1,fr,e,he=>by
    generalize hd:CS.drop fr=d at he
    cases d with
    | nil=>simp [divW] at he
    | cons c cs =>
      have hin:∀ x∈c :: cs,0≤x∧x≤room:=fun x hx=>hc x (List.mem_of_mem_drop (hd ▸ hx))
      simp only [divW,List.mem_cons] at he
      rcases he with rfl | he
      · rw [hd,Nat.add_sub_cancel_left]
        exact runW_sum (c :: cs) true room hr (fun x hx=>by have:=hin x hx;omega) (fun _ x hx=>by
          simp only [List.head?_cons,Option.mem_def,Option.some.injEq] at hx
          subst hx;exact (hin c (by simp)).2)
      · have e2:(c :: cs).drop (runW true room (c :: cs))=CS.drop (fr+runW true room (c :: cs)):=by rw [← hd,List.drop_drop]
        rw [e2] at he
        exact divW_sum CS room hr hc q _ e he
theorem divP_sum {CS:List Int} {room:Int} (hr:0≤room∧room≤100000) (hc:∀ c∈CS,0≤c∧c≤room) {e:Nat×Nat} (he:e∈divP CS room):((CS.drop e.1).take (e.2 - e.1)).sum≤room:=by
  rw [div_R] at he
  exact divW_sum CS room hr hc CS.length 0 e (by simpa [divR] using he)
theorem szl' (x:TLine) (h:x.Text.length≤132):szLine x=2+(x.Text.length:Int):=by unfold szLine wrap64;omega
theorem szl_sum:∀ g:List TLine,shortL g→(g.map szLine).sum=((g.flatMap lb).length:Int)
  | [],_=>rfl
  | x :: g,hs=>by
    rw [List.map_cons,List.sum_cons,szl_sum g (fun y hy=>hs y (by simp [hy])),szl' x (hs x (by simp)),List.flatMap_cons,List.length_append,lb_len]
    omega
theorem gd_len' {l:List TLine} (hs:shortL l) {e:Nat×Nat} (he:e∈divP (List.map szLine l) 1020):(gdata e.1 (piece l e)).length≤1024:=by
  have h:=divP_sum (by omega) (fun c hc=>by
    obtain ⟨x,hx,rfl⟩:=List.mem_map.1 hc
    rw [szl' x (hs x hx)]
    have:=hs x hx
    omega) he
  have h2:((List.map szLine l).drop e.1).take (e.2 - e.1)=(piece l e).map szLine:=by unfold piece;rw [List.map_take,List.map_drop]
  rw [h2,szl_sum _ (fun y hy=>hs y (piece_mem hy))] at h
  unfold gdata
  rw [List.length_append,idx_len]
  omega
theorem szr (d:List Int) (h:d.length≤100000):szRec (mkRec d)=32+(d.length:Int):=by
  unfold szRec sz49 mkRec
  simp only [List.length_nil,if_true]
  unfold wrap64;omega
theorem trk_shape {l:List TLine} (hs:shortL l) {x:List TRec} (hx:x∈trkL l):∃ y:List TRec,x=numb y∧y≠[]∧(∀ r∈y,r.Key=[]∧r.Data.length≤1024)∧(y.map fun r=>32+(r.Data.length:Int)).sum≤2048:=by
  simp only [trkL,tracksR,List.mem_map] at hx
  obtain ⟨e,he,rfl⟩:=hx
  have hrec:∀ r∈recsL l,r.Key=[]∧r.Data.length≤1024∧szRec r=32+(r.Data.length:Int):=fun r hr=>by
    obtain ⟨e',h1,rfl⟩:=List.mem_map.1 hr
    have:=gd_len' hs h1
    exact ⟨rfl,this,szr _ (by omega)⟩
  obtain ⟨q1,q2⟩:=divP_mem he
  refine ⟨piece (recsL l) e,rfl,fun h=>?_,fun r hr=>⟨(hrec r (piece_mem hr)).1,(hrec r (piece_mem hr)).2.1⟩,?_⟩
  · have:=piece_len (l:=recsL l) (e:=e) (by simpa using q2)
    rw [h] at this
    simp at this
    omega
  · have h:=divP_sum (by omega) (fun c hc=>by
      obtain ⟨r,hr,rfl⟩:=List.mem_map.1 hc
      obtain ⟨_,h2,h3⟩:=hrec r hr
      rw [h3];omega) he
    have h2:((List.map szRec (recsL l)).drop e.1).take (e.2 - e.1)=(piece (recsL l) e).map fun r=>32+(r.Data.length:Int):=by
      have:((List.map szRec (recsL l)).drop e.1).take (e.2 - e.1)=(piece (recsL l) e).map szRec:=by unfold piece;rw [List.map_take,List.map_drop]
      rw [this]
      exact List.map_congr_left fun r hr=>(hrec r (piece_mem hr)).2.2
    rw [h2] at h
    exact h
theorem sum_ge:∀ y:List TRec,32 * (y.length:Int)≤(y.map fun r=>32+(r.Data.length:Int)).sum
  | []=>by simp
  | r :: y=>by have:=sum_ge y;simp only [List.length_cons,List.map_cons,List.sum_cons];omega
theorem sumC_go:∀ (l:List Int) (s:Int),(∀ x∈l,0≤x)→0≤s→s+l.sum≤1000000→l.foldl (fun s x=>wrap64 (s+x)) s=s+l.sum
  | [],s,_,_,_=>by simp
  | x :: l,s,h,h0,h1=>by
    have hx:=h x (by simp)
    have hpos:0≤l.sum:=by
      clear h1
      induction l with
      | nil=>simp
      | cons y l ih =>
        have:=h y (by simp)
        have:=ih (fun z hz=>h z (by
          simp only [List.mem_cons] at hz ⊢
          rcases hz with e | e
          · exact .inl e
          · exact .inr (.inr e)))
        simp only [List.sum_cons];omega
    rw [List.sum_cons] at h1
    have hw:wrap64 (s+x)=s+x:=by unfold wrap64;omega
    rw [List.foldl_cons,hw,sumC_go l (s+x) (fun z hz=>h z (by simp [hz])) (by omega) (by omega),List.sum_cons]
    omega
theorem used_numb {y:List TRec} (hk:∀ r∈y,r.Key=[]∧r.Data.length≤1024) (hsum:(y.map fun r=>32+(r.Data.length:Int)).sum≤2048) (n:Nat):∃ r1,track_Used n (numb y)=some r1∧r1≤2048:=by
  have hc:(numb y).map costR=y.map fun r=>32+(r.Data.length:Int):=by
    refine List.ext_getElem (by simp [numb_len]) fun j h1 h2=>?_
    simp only [List.length_map,numb_len] at h1 h2
    obtain ⟨k1,k2⟩:=hk _ (List.getElem_mem h2)
    simp only [List.getElem_map,numb,List.getElem_mapIdx,costR,costI,k1,List.length_nil,if_true]
    unfold wrap64;omega
  refine ⟨_,rfl,?_⟩
  unfold sumC
  rw [hc,sumC_go _ 0 (fun x hx=>by
    obtain ⟨r,_,rfl⟩:=List.mem_map.1 hx
    omega) (by omega) (by omega)]
  omega
theorem valid_numb (n:Nat) (hn:N0≤n) {y:List TRec} (hk:∀ r∈y,r.Key=[]∧r.Data.length≤1024) (hsum:(y.map fun r=>32+(r.Data.length:Int)).sum≤2048):track_Valid n (numb y)=some true:=by
  have hn0:4194304≤n:=hn
  have hl:=sum_ge y
  have hlen:(numb y).length=y.length:=numb_len y
  have hy:y.length≤64:=by omega
  have hg:∀ k (h:k < (numb y).length),(numb y)[k].R=((k+1:Nat):Int)∧(numb y)[k].Key=[]:=fun k h=>by
    have h':k < y.length:=by omega
    simp only [numb,List.getElem_mapIdx]
    exact ⟨by simp,(hk _ (List.getElem_mem h')).1⟩
  obtain ⟨r1,hu,hr1⟩:=used_numb hk hsum n
  have h:=loop_any (body:=fun (x:Int)=>track_Valid_b2 n (numb y) ((numb y).length:Int) x) (numb y) (fun _=>false) (.inl false) (.inr ()) (fun k hk'=>by
    have e1:decide ((k:Int) < ((numb y).length:Int))=true:=decide_eq_true (by omega)
    obtain ⟨gR,gK⟩:=hg k hk'
    have hv:track_valid n (numb y)[k]=some true:=by
      unfold track_valid
      rw [gR,gK]
      have a1:decide (((k+1:Nat):Int) ≥ 1)=true:=decide_eq_true (by omega)
      have a2:decide (((k+1:Nat):Int)≤255)=true:=decide_eq_true (by omega)
      rw [a1,a2];simp
    simp only [track_Valid_b2,e1,cond_true,Int.toNat_natCast,gt_lt hk',hv,Option.bind_some,Bool.not_true,Bool.not_false,Bool.true_and,Bool.false_eq_true,if_false]
    by_cases hk0:(k:Int) > 0
    · have hkm:k - 1 < (numb y).length:=by omega
      have ew:IntKind.wrap .i64 ((k:Int) - 1)=((k - 1:Nat):Int):=(wid (by omega)).trans (by omega)
      have hR:=(hg (k - 1) hkm).1
      rw [gd_pos _ (by omega),gd_pos _ (by intro _;rw [ew];omega),ew,Int.toNat_natCast,gt_lt hkm,gR,hR,decide_eq_true hk0]
      have:decide (((k+1:Nat):Int)≤((k - 1+1:Nat):Int))=false:=decide_eq_false (by omega)
      rw [this,wid (n:=(k:Int)+1) (by omega)]
      simp
    · rw [gd_pos _ (by omega),gd_pos _ (by intro h;simp at h;omega),decide_eq_false hk0,wid (n:=(k:Int)+1) (by omega)]
      simp) (by
    have e1:decide (((numb y).length:Int) < ((numb y).length:Int))=false:=by simp
    simp only [track_Valid_b2,e1,cond_false]) (n:=n) (by omega)
  unfold track_Valid
  rw [h]
  simp only [List.any_eq_true,Bool.false_eq_true,and_false,exists_false,if_false,Option.bind_some,track_Valid_k1,hu]
  simp [hr1]
end Go.Proofs.Ytkebegfopnlkhaa
/-
  ch. 39: SpoolBack: the law.
-/
set_option maxHeartbeats 4000000
set_option linter.unusedVariables false
set_option linter.unusedSimpArgs false
set_option maxRecDepth 100000
namespace Go.Proofs.Ytkebegfopnlkhaa
open Go.AE
theorem gt_set_self' {α:Type} [Inhabited α] (l:List α) (i:Nat) (x:α) (h:i < l.length):gt (List.set l i x) i=x:=by
  rw [gt_lt (by simpa using h)];simp
theorem gt_set_ne {α:Type} [Inhabited α] (l:List α) (i k:Nat) (x:α) (h:i≠k):gt (List.set l i x) k=gt l k:=by
  simp [gt,List.getD_eq_getElem?_getD,List.getElem?_set,h]
theorem few_eq (n:Nat) (l:List TLine) (hn:N0≤n):∃ r,law39_Few n l=some r∧r.length≤300:=by
  have hn0:4194304≤n:=hn
  obtain ⟨y,h1,h2⟩:=loopF_inv (body:=fun (x:(List TLine)×Int)=>law39_Few_b2 n l x.1 x.2) (fun x=>0≤x.2∧x.2≤300∧(x.1.length:Int)=x.2) (fun x=>(300 - x.2).toNat) (fun y=>y.length≤300)
    (fun ⟨out,i⟩ ⟨hi1,hi2,hi3⟩=>by
      simp only at hi1 hi2 hi3 ⊢
      unfold law39_Few_b2
      by_cases c:(if (decide (i < (l.length:Int)))=true then (decide (i < 300)) else false)=true
      · have c':i < (l.length:Int)∧i < 300:=by
          simp only [Bool.if_false_right,Bool.and_eq_true,decide_eq_true_eq] at c;exact c
        left
        rw [c,cond_true,gd_pos _ (by omega),gd_pos _ (by split <;> omega),gd_pos _ (by omega),wid (by omega)]
        exact ⟨_,rfl,⟨by simp only;omega,by simp only;omega,by simp only [List.length_append,List.length_singleton];omega⟩,by simp only;omega⟩
      · rw [Bool.not_eq_true] at c
        right
        rw [c,cond_false]
        exact ⟨_,rfl,by omega⟩) n ([],0) (by simp) (by simp;omega)
  refine ⟨y,?_,h2⟩
  simp only [law39_Few,h1,Option.bind_some,law39_Few_k1]
def okLine (x:TLine):Prop:=x.Text.length≤132∧0≤x.Ctl∧x.Ctl≤255
theorem valid_ok (n:Nat) (l:List TLine) (hn:N0≤n):∃ r,law39_Valid n l=some r∧r.length≤300∧shortL r∧ctlL r:=by
  have hn0:4194304≤n:=hn
  obtain ⟨f,hf,hl⟩:=few_eq n l hn
  obtain ⟨y,h1,h2,h3⟩:=loopF_inv (body:=fun (x:(List TLine)×Int)=>law39_Valid_b2 n ((f.length:Nat):Int) x.1 x.2) (fun x=>0≤x.2∧x.2≤(f.length:Int)∧x.1.length=f.length∧∀ k:Nat,(k:Int) < x.2→okLine (gt x.1 k)) (fun x=>((f.length:Int) - x.2).toNat) (fun y=>y.length=f.length∧∀ k,k < f.length→okLine (gt y k))
    (fun ⟨out,i⟩ ⟨hi1,hi2,hi3,hi4⟩=>by
      simp only at hi1 hi2 hi3 hi4 ⊢
      unfold law39_Valid_b2
      by_cases c:i < (f.length:Int)
      · left
        have c0:(0≤i∧i < (out.length:Int)):=by omega
        have c1:i.toNat < out.length:=by omega
        simp only [gt_set_self' _ _ _ c1]
        rw [decide_eq_true c,cond_true,gd_pos _ ⟨c0,c1,c0,c1⟩,gd_pos _ ⟨c0,c1,c0,c1,by split <;> omega,c0,c1⟩,wid (n:=i+1) (by omega)]
        refine ⟨_,rfl,⟨by simp only;omega,by simp only;omega,by simp only [List.length_set];exact hi3,fun k hk=>?_⟩,by simp only;omega⟩
        simp only at hk ⊢
        by_cases e:i.toNat=k
        · subst e
          rw [gt_set_self' _ _ _ (by simpa using c1)]
          have hw:0≤IntKind.wrap .u64 (gt out i.toNat).Ctl:=by
            simp only [IntKind.wrap,IntKind.bits,IntKind.signed]
            simp
            omega
          have h1:=Int.tmod_nonneg 256 hw
          have h2:=Int.tmod_lt_of_pos (IntKind.wrap .u64 (gt out i.toNat).Ctl) (show (0:Int) < 256 by decide)
          refine ⟨?_,?_,?_⟩
          · simp only [List.length_take]
            split <;> omega
          · rw [wid (by omega)];exact h1
          · rw [wid (by omega)];exact Int.le_of_lt_add_one h2
        · rw [gt_set_ne _ _ _ _ e,gt_set_ne _ _ _ _ e]
          exact hi4 k (by omega)
      · right
        rw [decide_eq_false c,cond_false]
        exact ⟨_,rfl,hi3,fun k hk=>hi4 k (by omega)⟩) n (f,0) ⟨by simp,by simp,rfl,fun k hk=>by simp at hk;omega⟩ (by simp;omega)
  have hall:∀ x∈y,okLine x:=by
    intro x hx
    obtain ⟨i,hi,rfl⟩:=List.mem_iff_getElem.1 hx
    have:=h3 i (by omega)
    rw [gt_lt hi] at this
    exact this
  refine ⟨y,?_,by omega,fun x hx=>(hall x hx).1,fun x hx=>(hall x hx).2⟩
  simp only [law39_Valid,hf,h1,Option.bind_some,law39_Valid_k1]
theorem equal_refl (n:Nat) (a:List TLine) (hl:a.length≤2097152) (hn:2097152 < n):law39_equal n a a=some true:=by
  have h:=loop_any (body:=fun (x:Int)=>law39_equal_b2 n a a (a.length:Int) x) a (fun _=>false) (.inl false) (.inr ()) (fun k hk=>by
    have e1:decide ((k:Int) < (a.length:Int))=true:=decide_eq_true (by omega)
    simp only [law39_equal_b2,e1,cond_true,Int.toNat_natCast]
    rw [gd_pos _ (by omega),wid (by omega)]
    simp) (by
    have e1:decide ((a.length:Int) < (a.length:Int))=false:=by simp
    simp only [law39_equal_b2,e1,cond_false]) (n:=n) (by omega)
  unfold law39_equal
  rw [h]
  simp [law39_equal_k1]
theorem totR_le {D:Nat}:∀ x:List TRec,(∀ r∈x,r.Data.length≤D)→totR x≤x.length * D
  | [],_=>by simp [totR]
  | r :: x,h=>by
    have h1:=h r (by simp)
    have h2:=totR_le x fun r hr=>h r (by simp [hr])
    simp only [totR,List.length_cons,Nat.add_mul,Nat.one_mul];omega
theorem totT_le {B:Nat}:∀ t:List (List TRec),(∀ x∈t,totR x≤B)→totT t≤t.length * B
  | [],_=>by simp [totT]
  | x :: t,h=>by
    have h1:=h x (by simp)
    have h2:=totT_le t fun x hx=>h x (by simp [hx])
    simp only [totT,List.length_cons,Nat.add_mul,Nat.one_mul];omega
theorem tot_sz {m D T R:Nat} {t:List (List TRec)} (h1:t.length≤m) (h2:∀ x∈t,x.length≤R∧∀ r∈x,r.Data.length≤D):totT t≤m * (R * D) :=
  Nat.le_trans (totT_le (B:=R * D) t fun x hx=>Nat.le_trans (totR_le x (h2 x hx).2) (Nat.mul_le_mul_right _ (h2 x hx).1)) (Nat.mul_le_mul_right _ h1)
def okS (t:List (List TRec)):Prop:=t.length≤4096∧∀ x∈t,x.length≤64∧∀ r∈x,byt r.Data∧byt r.Key∧r.Data.length≤1024
theorem okS.okT {t:List (List TRec)} (h:okS t):okT t:=by
  obtain ⟨h1,h2⟩:=h
  have:=tot_sz (T:=0) h1 (fun x hx=>⟨(h2 x hx).1,fun r hr=>((h2 x hx).2 r hr).2.2⟩)
  exact ⟨by omega,fun x hx=>⟨by have:=(h2 x hx).1;omega,fun r hr=>⟨((h2 x hx).2 r hr).1,((h2 x hx).2 r hr).2.1,by have:=((h2 x hx).2 r hr).2.2;omega⟩⟩,by omega⟩
theorem okS.sub {t t':List (List TRec)} (h:okS t) (hl:t'.length≤4096) (hs:∀ x∈t',∃ y∈t,x.length≤y.length∧∀ r∈x,r∈y):okS t':=⟨hl,fun x hx=>by
  obtain ⟨y,hy,h1,h2⟩:=hs x hx
  exact ⟨Nat.le_trans h1 (h.2 y hy).1,fun r hr=>(h.2 y hy).2 r (h2 r hr)⟩⟩
theorem trkL_S {v:List TLine} (hs:shortL v) (h4:v.length≤4096):okS (trkL v):=by
  refine ⟨(trkL_lens v h4).1,fun x hx=>?_⟩
  obtain ⟨y,rfl,_,h2,h3⟩:=trk_shape hs hx
  have hl:=sum_ge y
  refine ⟨by rw [numb_len];omega,fun r hr=>⟨(trkL_byt v _ hx r hr).1,(trkL_byt v _ hx r hr).2,?_⟩⟩
  simp only [numb,List.mem_mapIdx] at hr
  obtain ⟨i,hi,rfl⟩:=hr
  exact (h2 _ (List.getElem_mem hi)).2
theorem trkL_pos {v:List TLine} (hs:shortL v):∀ x∈trkL v,0 < x.length:=fun x hx=>by
  obtain ⟨y,rfl,h1,_,_⟩:=trk_shape hs hx
  rw [numb_len];exact List.length_pos_iff.2 h1
theorem mod_nat {a m:Int} (ha:0≤a∧a < 256) (hm:0 < m):∃ q:Nat,Int.tmod (IntKind.wrap .i64 a) m=(q:Int)∧(q:Int) < m:=by
  rw [wid (n:=a) (by omega)]
  have h1:=Int.tmod_nonneg m ha.1
  have h2:=Int.tmod_lt_of_pos a hm
  exact ⟨(Int.tmod a m).toNat,by omega,by omega⟩
theorem k1_gen (v:List TLine) (t:List (List TRec)) (h4:v.length≤300) (at_ which:Int) (ha:0≤at_∧at_ < 256) (hw:0≤which∧which < 256)
    (hS:okS t) (hP:∀ x∈t,0 < x.length) (hpl:plT t=v)
    (hgone:∀ {i k:Nat} (hi:i < t.length),k < (t[i]).length→(((plT (t.set i ((t[i]).take k ++ (t[i]).drop (k+1)))).length:Nat):Int)≠((v.length:Nat):Int))
    (hless:∀ {i:Nat} (hi:i < t.length),t[i]≠[]→(((plT (t.take i ++ t.drop (i+1))).length:Nat):Int)≠((v.length:Nat):Int))
    (hturn:∀ {t':List (List TRec)} {n_:Int} {lo hi:Nat},okT t'→(hlo:lo < hi)→(hhi:hi < t.length)→(hl':lo < t'.length)→0 < (t[lo]).length→0 < (t[hi]).length→t'.take lo=t.take lo→t'[lo]=t[hi]→lnsS t' n_=([],390))
    (hbad0:∀ x∈t,∀ r∈x,r.Bad=false):law39_SpoolBack_k1 N0 at_ which v t=some true:=by
  have hN:N0≤N0:=Nat.le_refl _
  unfold law39_SpoolBack_k1
  by_cases h0:t.length=0
  · have:t=[]:=List.length_eq_zero_iff.1 h0
    subst this
    have hv:v=[]:=by rw [← hpl];rfl
    subst hv
    simp
  · have e0:(((t.length:Nat):Int) == 0)=false:=by simpa using h0
    obtain ⟨i,hI,hi0⟩:=mod_nat ha (show (0:Int) < ((t.length:Nat):Int) by omega)
    have hi:i < t.length:=by omega
    have hxl:0 < (t[i]).length:=hP _ (List.getElem_mem hi)
    obtain ⟨k,hK,hk0⟩:=mod_nat hw (show (0:Int) < (((t[i]).length:Nat):Int) by omega)
    have hk:k < (t[i]).length:=by omega
    have hl:=hS.1
    have h64:=(hS.2 _ (List.getElem_mem hi)).1
    have wk:IntKind.wrap .i64 ((k:Int)+1)=((k+1:Nat):Int):=wid (by omega)
    have wi:IntKind.wrap .i64 ((i:Int)+1)=((i+1:Nat):Int):=wid (by omega)
    have hgt:gt t i=t[i]:=gt_lt hi
    simp only [e0,cond_false,hI,Int.toNat_natCast,hgt,hK,wk,wi]
    have hset:((t.set i (List.take k t[i] ++ List.drop (k+1) t[i])).set i t[i])=t:=by rw [List.set_set,List.set_getElem_self]
    have hti:((i:Int) - 0).toNat=i:=by omega
    have hdr:List.take (((t.length:Nat):Int) - ((i+1:Nat):Int)).toNat (List.drop (i+1) t)=List.drop (i+1) t:=List.take_of_length_le (by simp;omega)
    simp only [hset,hti,hdr]
    have s1:okS (t.set i (List.take k t[i] ++ List.drop (k+1) t[i])):=hS.sub (by simp;omega) fun x hx=>by
      rcases List.mem_or_eq_of_mem_set hx with h | rfl
      · exact ⟨x,h,Nat.le_refl _,fun r hr=>hr⟩
      · refine ⟨t[i],List.getElem_mem hi,by simp;omega,fun r hr=>?_⟩
        rcases List.mem_append.1 hr with h | h
        · exact List.mem_of_mem_take h
        · exact List.mem_of_mem_drop h
    have s2:okS (List.take i t ++ List.drop (i+1) t):=hS.sub (by simp;omega) fun x hx=>by
      refine ⟨x,?_,Nat.le_refl _,fun r hr=>hr⟩
      rcases List.mem_append.1 hx with h | h
      · exact List.mem_of_mem_take h
      · exact List.mem_of_mem_drop h
    have L1:spool_Lines N0 (t.set i (List.take k t[i] ++ List.drop (k+1) t[i])) ((v.length:Nat):Int)=some ([],390):=by
      rw [spLines_S N0 hN _ _ s1.okT,lost_len s1.okT (hgone hi hk)]
    have L2:spool_Lines N0 (List.take i t ++ List.drop (i+1) t) ((v.length:Nat):Int)=some ([],390):=by
      rw [spLines_S N0 hN _ _ s2.okT,lost_len s2.okT (hless hi (List.length_pos_iff.1 hxl))]
    have hback:backOk N0 t (i:Int) (k:Int) ((v.length:Nat):Int):=⟨by omega,i,k,rfl,rfl,hi,hk,hbad0 _ (List.getElem_mem hi) _ (List.getElem_mem hk),fun t' hf hb=>by
      have ho:=okT_fl hS.okT hf
      have hi':i < t'.length:=by have:=hf.1;omega
      have hk':k < (t'[i]).length:=by have:=(hf.2 i hi hi').1;omega
      rw [spLines_S N0 hN _ _ ho,lost_flag ho hi' hk' (hb hi' hk')]⟩
    have tl:(List.take k t[i]).length≤64:=by simp;omega
    have dl:(List.drop (k+1) t[i]).length≤64:=by simp;omega
    have tl2:(List.take i t).length≤4096:=by simp;omega
    have dl2:(List.drop (i+1) t).length≤4096:=by simp;omega
    rw [gd_pos _ (by omega),gd_pos _ (by omega),gd_pos _ hback,gd_pos _ (by omega),gd_pos _ (by omega),L1]
    simp only [Option.bind_some]
    rw [gd_pos _ (by omega),gd_pos _ (by omega),L2]
    simp only [Option.bind_some,bne_self_eq_false,Bool.false_eq_true,if_false,cond_false]
    by_cases h1:t.length > 1
    · have d1:decide (((t.length:Nat):Int) > 1)=true:=decide_eq_true (by omega)
      obtain ⟨m,hm,hcase⟩:∃ m:Nat,Int.tmod ((i+1:Nat):Int) ((t.length:Nat):Int)=(m:Int)∧((m=i+1∧i+1 < t.length)∨(m=0∧i+1=t.length)):=by
        rw [Int.tmod_eq_emod_of_nonneg (by omega)]
        rcases Nat.lt_or_ge (i+1) t.length with q | q
        · exact ⟨i+1,Int.emod_eq_of_lt (by omega) (by omega),.inl ⟨rfl,q⟩⟩
        · have:i+1=t.length:=by omega
          exact ⟨0,by rw [this];simp,.inr ⟨rfl,this⟩⟩
      have hml:m < t.length:=by omega
      simp only [d1,cond_true,hm,Int.toNat_natCast,gt_lt hml,gt_lt hi]
      have s3:okS ((t.set i t[m]).set m t[i]):=hS.sub (by simp;omega) fun x hx=>by
        refine ⟨x,?_,Nat.le_refl _,fun r hr=>hr⟩
        rcases List.mem_or_eq_of_mem_set hx with h | rfl
        · rcases List.mem_or_eq_of_mem_set h with h | rfl
          · exact h
          · exact List.getElem_mem hml
        · exact List.getElem_mem hi
      have L3:spool_Lines N0 ((t.set i t[m]).set m t[i]) ((v.length:Nat):Int)=some ([],390):=by
        rw [spLines_S N0 hN _ _ s3.okT]
        rcases hcase with ⟨rfl,hc⟩ | ⟨rfl,hc⟩
        · rw [hturn s3.okT (lo:=i) (hi:=i+1) (by omega) hml (by simp;omega) (hP _ (List.getElem_mem hi)) (hP _ (List.getElem_mem hml)) (by
            refine List.ext_getElem (by simp) fun j h1 h2=>?_
            simp only [List.length_take,List.length_set] at h1
            simp only [List.getElem_take,List.getElem_set]
            rw [if_neg (by omega),if_neg (by omega)]) (by simp [List.getElem_set])]
        · rw [hturn s3.okT (lo:=0) (hi:=i) (by omega) hi (by simp;omega) (hP _ (List.getElem_mem hml)) (hP _ (List.getElem_mem hi)) (by simp) (by simp)]
      rw [gd_pos _ (by omega),gd_pos _ (by omega),L3]
      rfl
    · have d1:decide (((t.length:Nat):Int) > 1)=false:=decide_eq_false (by omega)
      rw [d1,cond_false]
theorem k1_true (v:List TLine) (hs:shortL v) (hc:ctlL v) (h4:v.length≤300) (at_ which:Int) (ha:0≤at_∧at_ < 256) (hw:0≤which∧which < 256):law39_SpoolBack_k1 N0 at_ which v (trkL v)=some true :=
  k1_gen v (trkL v) h4 at_ which ha hw (trkL_S hs (by omega)) (trkL_pos hs) (plT_trkL v hs hc (by omega)) (fun hi hk=>gone_len hs hc (by omega) hi hk) (fun hi hx=>less_len hs hc (by omega) hi hx) (fun ho h1 h2 h3 h5 h6 h7 h8=>turned_lost hs hc (by omega) ho h1 h2 h3 h5 h6 h7 h8) (trkL_bad v)
theorem Back_true (l:List TLine) (at_ which:Int) (ha:0≤at_∧at_ < 256) (hw:0≤which∧which < 256):law39_SpoolBack N0 l at_ which=some true:=by
  have hN:N0≤N0:=Nat.le_refl _
  have hn0:4194304≤N0:=by decide
  obtain ⟨v,hv,hvl,hs,hc⟩:=valid_ok N0 l hN
  have c1:¬ v.length > 4096:=by omega
  have c2:v.any longT=false:=by
    rw [List.any_eq_false]
    intro x hx
    have:=hs x hx
    simp [longT];omega
  have c3:v.any badC=false:=by
    rw [List.any_eq_false]
    intro x hx
    have:=hc x hx
    have e1:decide (x.Ctl < 0)=false:=decide_eq_false (by omega)
    have e2:decide (x.Ctl > 255)=false:=decide_eq_false (by omega)
    simp [badC,e1,e2]
  have ht:tracksS v=(trkL v,0):=by
    unfold tracksS
    rw [if_neg c1,c2,c3]
    simp
  have hT:spool_Tracks N0 v=some (trkL v,0):=by rw [Tracks_S N0 v hN,ht]
  have hL:=Lines_back N0 hN v hs hc (by omega)
  have hE:=equal_refl N0 v (by omega) (by omega)
  have hk:=k1_true v hs hc hvl at_ which ha hw
  have hlen:=(trkL_S hs (show v.length≤4096 by omega)).1
  have hloop:=loop_any (body:=fun (x:Int)=>law39_SpoolBack_b2 N0 at_ which v (trkL v) (((trkL v).length:Nat):Int) x) (trkL v) (fun _=>false) (.inl false) (.inr ()) (fun k hk'=>by
    have e1:decide ((k:Int) < (((trkL v).length:Nat):Int))=true:=decide_eq_true (by omega)
    obtain ⟨y,hy,_,h2,h3⟩:=trk_shape hs (List.getElem_mem hk')
    have hval:track_Valid N0 (trkL v)[k]=some true:=by rw [hy];exact valid_numb N0 hN h2 h3
    have hpos:=trkL_pos hs _ (List.getElem_mem hk')
    have e2:((((trkL v)[k]).length:Int) == 0)=false:=by
      rw [beq_eq_false_iff_ne];omega
    simp only [law39_SpoolBack_b2,e1,cond_true,Int.toNat_natCast,gt_lt hk',hval,Option.bind_some,Bool.not_true,Bool.not_false,e2]
    rw [gd_pos _ (by omega),gd_pos _ ⟨fun _=>⟨Int.natCast_nonneg _,Int.ofNat_lt.2 hk'⟩,fun _=>hk'⟩,wid (n:=(k:Int)+1) (by omega)]
    simp) (by
    have e1:decide ((((trkL v).length:Nat):Int) < (((trkL v).length:Nat):Int))=false:=by simp
    simp only [law39_SpoolBack_b2,e1,cond_false]) (n:=N0) (by omega)
  simp only [List.any_eq_true,Bool.false_eq_true,and_false,exists_false,if_false] at hloop
  simp only [law39_SpoolBack,works_N0,hv,hT,hL,hE,Option.bind_some,Bool.not_true,cond_false,bne_self_eq_false,Bool.false_eq_true,if_false,Option.isSome_some,Option.getD_some,implies_true,hloop,hk]
  rw [gd_pos _ trivial]
theorem can_u8 {x:Int} (h:Go.AE.Can Try.prog (.int .u8) (.int x)):0≤x∧x < 256:=by
  cases h with
  | int _ _ h =>
    have h1:IntKind.u8.min=0:=by decide
    have h2:IntKind.u8.max=255:=by decide
    obtain ⟨h3,h4⟩:=h
    omega
theorem p_law39_SpoolBack (x0:List TLine) (x1 x2:Int) (h1:CanL Try.prog [.int .u8] [.int x1]) (h2:CanL Try.prog [.int .u8] [.int x2]):law39_SpoolBack N0 x0 x1 x2=some true :=
  Back_true x0 x1 x2 (can_u8 (h1.2 0 (by decide))) (can_u8 (h2.2 0 (by decide)))
end Go.Proofs.Ytkebegfopnlkhaa
