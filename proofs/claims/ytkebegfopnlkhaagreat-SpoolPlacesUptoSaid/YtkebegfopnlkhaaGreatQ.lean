/- Text. -/
import Derived.Test.YtkebegfopnlkhaaGreatG2
import Derived.Test.YtkebegfopnlkhaaGreatFL
import Derived.Test.YtkebegfopnlkhaaGreatW
set_option linter.unusedSimpArgs false
set_option linter.unusedVariables false
set_option maxRecDepth 100000
set_option linter.unusedVariables false
set_option linter.unusedSimpArgs false
namespace Go.Proofs.YtkebegfopnlkhaaGreat
open Go.AE Go.RowKit
theorem rTracks_eq (n:Nat) (l:List TLine) (hn:N0≤n):ref39_Tracks n l=some (tracksS l):=by
  have hn0:4194304≤n:=hn
  unfold tracksS ref39_Tracks
  by_cases c1:l.length > 4096
  · have:decide ((l.length:Int) > 4096)=true:=by simp;omega
    simp only [this,cond_true,c1,if_true]
  · have:decide ((l.length:Int) > 4096)=false:=by simp;omega
    simp only [this,cond_false,c1,if_false]
    have h4:=loop_any (n:=n) (body:=fun (x:Int)=>ref39_Tracks_b4 n l x) l longT (.inl ([],2)) (.inr ())
      (fun k hk=>by
        have h1:decide ((k:Int) < (l.length:Int))=true:=by simp;omega
        have h2:(0:Int)≤(k:Int)∧(k:Int) < (l.length:Int):=by omega
        simp only [ref39_Tracks_b4,h1,cond_true,gd_pos _ h2,Int.toNat_natCast,gt_lt hk]
        rw [wid (by omega),show ((k:Int)+1)=((k+1:Nat):Int) by omega]
        show (bif longT l[k] then _ else _)=_
        by_cases hp:longT l[k]=true <;> simp [hp])
      (by simp [ref39_Tracks_b4,bif_ite]) (by omega)
    rw [h4]
    simp only [Option.bind_some]
    by_cases c2:l.any longT=true
    · simp only [c2,if_true]
    · rw [Bool.not_eq_true] at c2
      simp only [c2,Bool.false_eq_true,if_false,ref39_Tracks_k1]
      have h3:=loop_any (n:=n) (body:=fun (x:Int)=>ref39_Tracks_b3 n l x) l badC (.inl ([],1)) (.inr ())
        (fun k hk=>by
          have h1:decide ((k:Int) < (l.length:Int))=true:=by simp;omega
          have h2:(0:Int)≤(k:Int)∧(k:Int) < (l.length:Int):=by omega
          simp only [ref39_Tracks_b3,h1,cond_true,Int.toNat_natCast,gt_lt hk]
          rw [gd_pos _ ⟨h2,fun _=>h2⟩,wid (by omega),show ((k:Int)+1)=((k+1:Nat):Int) by omega]
          show (bif badC l[k] then _ else _)=_
          by_cases hp:badC l[k]=true <;> simp [hp])
        (by simp [ref39_Tracks_b3,bif_ite]) (by omega)
      rw [h3]
      simp only [Option.bind_some]
      by_cases c3:l.any badC=true
      · simp only [c3,if_true]
      · rw [Bool.not_eq_true] at c3
        simp only [c3,Bool.false_eq_true,if_false,ref39_Tracks_k2]
        rw [layout_all n l (by omega) (by omega) (fun x hx=>by
          have:=List.any_eq_false.1 c2 x hx
          simp [longT] at this
          omega)]
        rfl
theorem sameRec_refl (n:Nat) (r:TRec):ref15_SameRec n r r=some true:=by
  simp only [ref15_SameRec,beq_self_eq_true,if_true,cond_true]
  rw [gd_pos _ trivial,gd_pos _ trivial]
theorem same_refl (n:Nat) (t:List TRec) (hn:t.length < n) (hl:t.length≤4096):ref15_Same n t t=some true:=by
  have h:=loop_any (n:=n) (body:=fun (x:Int)=>ref15_Same_b2 n t t x) t (fun _=>false) (.inl false) (.inr ())
    (fun k hk=>by
      have h1:decide ((k:Int) < (t.length:Int))=true:=by simp;omega
      have h2:(0:Int)≤(k:Int)∧(k:Int) < (t.length:Int):=by omega
      simp only [ref15_Same_b2,h1,cond_true,sameRec_refl,Option.bind_some,Bool.not_true,cond_false]
      rw [gd_pos _ ⟨h2,h2⟩,wid (by omega),show ((k:Int)+1)=((k+1:Nat):Int) by omega]
      rfl)
    (by simp [ref15_Same_b2,bif_ite]) hn
  have e:t.any (fun _=>false)=false:=by simp
  rw [e] at h
  simp only [ref15_Same,bne_self_eq_false,cond_false,h,Option.bind_some]
  rfl
theorem sameTracks_refl (n:Nat) (t:List (List TRec)) (hn:4096 < n) (hl:t.length≤4096) (ht:∀ x∈t,x.length≤4096):ref15_SameTracks n t t=some true:=by
  have h:=loop_any (n:=n) (body:=fun (x:Int)=>ref15_SameTracks_b2 n t t x) t (fun _=>false) (.inl false) (.inr ())
    (fun k hk=>by
      have h1:decide ((k:Int) < (t.length:Int))=true:=by simp;omega
      have h2:(0:Int)≤(k:Int)∧(k:Int) < (t.length:Int):=by omega
      have h3:=ht t[k] (List.getElem_mem hk)
      simp only [ref15_SameTracks_b2,h1,cond_true,Int.toNat_natCast,gt_lt hk]
      rw [same_refl n _ (by omega) h3]
      simp only [Option.bind_some,Bool.not_true,cond_false]
      rw [gd_pos _ ⟨h2,h2⟩,wid (by omega),show ((k:Int)+1)=((k+1:Nat):Int) by omega]
      rfl)
    (by simp [ref15_SameTracks_b2,bif_ite]) (by omega)
  have e:t.any (fun _=>false)=false:=by simp
  rw [e] at h
  simp only [ref15_SameTracks,bne_self_eq_false,cond_false,h,Option.bind_some]
  rfl
theorem divP_len (cs:List Int) (room:Int):(divP cs room).length≤cs.length:=by
  unfold divP;exact divF_len cs room cs.length 0
theorem tracksS_sz (l:List TLine):(tracksS l).1.length≤4096∧∀ x∈(tracksS l).1,x.length≤4096:=by
  unfold tracksS
  split
  · simp
  · rename_i h0
    split
    · simp
    · split
      · simp
      · have hr:=recsL_len l
        have hr':(recsL l).length≤4096:=Nat.le_trans hr (by omega)
        unfold trkL tracksR
        generalize recsL l=rs at hr'
        refine ⟨?_,fun x hx=>?_⟩
        · rw [List.length_map]
          have:=divP_len (rs.map szRec) 2048
          rw [List.length_map] at this
          exact Nat.le_trans this hr'
        · obtain ⟨e,he,rfl⟩:=List.mem_map.1 hx
          rw [numb_len]
          unfold piece
          rw [List.length_take,List.length_drop]
          omega
theorem few_eq (n:Nat) (l:List TLine) (hn:N0≤n):∃ r,law39_Few n l=some r∧r.length≤300:=by
  have hn0:4194304≤n:=hn
  obtain ⟨y,h1,h2⟩:=loopF_inv (body:=fun (x:(List TLine)×Int)=>law39_Few_b2 n l x.1 x.2) (fun x=>0≤x.2∧x.2≤300∧(x.1.length:Int)=x.2) (fun x=>(300 - x.2).toNat) (fun y=>y.length≤300)
    (fun ⟨out,i⟩ ⟨hi1,hi2,hi3⟩=>by
      simp only at hi1 hi2 hi3 ⊢
      unfold law39_Few_b2
      by_cases c:(if (decide (i < (l.length:Int)))=true then (decide (i < 300)) else false)=true
      · have c':i < (l.length:Int)∧i < 300:=by
          simp only [Bool.if_false_right,Bool.and_eq_true,decide_eq_true_eq] at c;exact c
        left
        rw [c,cond_true,gd_pos _ (by omega),gd_pos _ (by split <;> omega),gd_pos _ (by omega),wid (by omega)]
        exact ⟨_,rfl,⟨by simp only;omega,by simp only;omega,by simp only [List.length_append,List.length_singleton];omega⟩,by simp only;omega⟩
      · rw [Bool.not_eq_true] at c
        right
        rw [c,cond_false]
        exact ⟨_,rfl,by omega⟩) n ([],0) (by simp) (by simp;omega)
  refine ⟨y,?_,h2⟩
  simp only [law39_Few,h1,Option.bind_some,law39_Few_k1]
theorem valid_some (n:Nat) (l:List TLine) (hn:N0≤n):∃ r,law39_Valid n l=some r:=by
  have hn0:4194304≤n:=hn
  obtain ⟨f,hf,hl⟩:=few_eq n l hn
  obtain ⟨y,h1,_⟩:=loopF_inv (body:=fun (x:(List TLine)×Int)=>law39_Valid_b2 n ((f.length:Nat):Int) x.1 x.2) (fun x=>0≤x.2∧x.2≤(f.length:Int)∧x.1.length=f.length) (fun x=>((f.length:Int) - x.2).toNat) (fun y=>True)
    (fun ⟨out,i⟩ ⟨hi1,hi2,hi3⟩=>by
      simp only at hi1 hi2 hi3 ⊢
      unfold law39_Valid_b2
      by_cases c:i < (f.length:Int)
      · left
        have c0:(0≤i∧i < (out.length:Int)):=by omega
        have c1:i.toNat < out.length:=by omega
        rw [decide_eq_true c,cond_true,gd_pos _ ⟨c0,c1,c0,c1⟩,gd_pos _ ⟨c0,c1,c0,c1,by split <;> omega,c0,c1⟩,wid (n:=i+1) (by omega)]
        exact ⟨_,rfl,⟨by simp only;omega,by simp only;omega,by simp only [List.length_set];exact hi3⟩,by simp only;omega⟩
      · right
        rw [decide_eq_false c,cond_false]
        exact ⟨_,rfl,trivial⟩) n (f,0) (by simp) (by simp;omega)
  refine ⟨y,?_⟩
  simp only [law39_Valid,hf,h1,Option.bind_some,law39_Valid_k1]
end Go.Proofs.YtkebegfopnlkhaaGreat
/-
  ch. 39: areas: New, Check, Put and Drop of the program are those of the chapter; the law of places.
-/
set_option maxHeartbeats 8000000
set_option linter.unusedVariables false
set_option linter.unusedSimpArgs false
set_option maxRecDepth 100000
namespace Go.Proofs.YtkebegfopnlkhaaGreat
open Go.AE
def okS (s:TSpace):Bool:=(decide (0≤s.Tracks) && decide (s.Tracks≤512)) && chk s.Tracks (-1) s.Free
theorem CheckS (n:Nat) (hn:N0≤n) (s:TSpace) (h:s.Free.length≤2097152):spool_Check n s=some (if okS s=true then 0 else 1):=by
  have hn0:4194304≤n:=hn
  simp only [spool_Check,Check_eq n s.Free s.Tracks (by omega) (by omega),Option.isSome_some,Option.getD_some,implies_true]
  rw [gd_pos _ trivial]
  unfold okS
  by_cases h1:s.Tracks < 0
  · have:¬ (0≤s.Tracks):=by omega
    simp [h1,this]
  · have h1':0≤s.Tracks:=by omega
    by_cases h2:s.Tracks > 512
    · have:¬ (s.Tracks≤512):=by omega
      simp [h1,h2,this]
    · have h2':s.Tracks≤512:=by omega
      cases hc:chk s.Tracks (-1) s.Free <;> simp [h1,h1',h2,h2',hc]
theorem ValidS (n:Nat) (hn:N0≤n) (s:TSpace) (h:s.Free.length≤2097152):ref39_Valid n s=some (okS s):=by
  have hn0:4194304≤n:=hn
  simp only [ref39_Valid,RCheck_eq n hn s.Free s.Tracks h,Option.isSome_some,Option.getD_some,implies_true]
  rw [gd_pos _ trivial]
  unfold okS
  by_cases h1:0≤s.Tracks <;> by_cases h2:s.Tracks≤512 <;> simp [h1,h2]
theorem sameS (n:Nat) (hn:N0≤n) (s:TSpace) (h:s.Free.length≤2097152):ref39_SameSpace n s s=some true:=by
  have hn0:4194304≤n:=hn
  simp only [ref39_SameSpace,Same_eq n s.Free s.Free (by omega) (by omega),decide_true,Option.isSome_some,Option.getD_some,implies_true]
  rw [gd_pos _ trivial]
  simp
def farP (t:Int) (x:TExtent):Bool:=decide (IntKind.wrap .i64 (x.At+x.Len) > t)
def farR (t:Int) (x:TExtent):Bool:=(if (if (decide (x.Len > 512))=true then true else (decide (x.At > 512)))=true then true else (decide ((IntKind.wrap .i64 (x.At+x.Len)) > t)))
theorem containsD (n:Nat) (l fr:List TExtent) (t:Int) (hn:l.length < n) (hl:l.length≤2097152):slices_ContainsFunc_f43_M1 n l t fr=some (l.any (farP t)):=by
  obtain ⟨y,h1,h2⟩:=find_loop l (farP t) (body:=fun (x:Int)=>slices_IndexFunc_f69_M1_b2 n t fr l (l.length:Int) x) (n:=n)
    (fun k hk=>by
      have h1:decide ((k:Int) < (l.length:Int))=true:=by simp;omega
      have h2:(0:Int)≤(k:Int)∧(k:Int) < (l.length:Int):=by omega
      simp only [slices_IndexFunc_f69_M1_b2,h1,bif_ite,if_true,gd_pos _ h2,spool_Drop_1_M1,Option.bind_some,Int.toNat_natCast,gt_lt hk]
      rw [wid (n:=(k:Int)+1) (by omega)]
      show (if farP t l[k]=true then _ else _)=_
      by_cases hp:farP t l[k]=true <;> simp [hp])
    (by simp [slices_IndexFunc_f69_M1_b2,bif_ite]) hn
  simp only [slices_ContainsFunc_f43_M1,slices_IndexFunc_f69_M1,h1,Option.bind_some]
  rcases h2 with ⟨k,rfl,h⟩ | ⟨rfl,h⟩
  · rw [h];simp
  · rw [h];rfl
theorem dropLoop (n:Nat) (s:TSpace) (l:List TExtent) (q:Int) (hn:l.length < n) (hl:l.length≤2097152):loopF (fun (x:Int)=>ref39_Drop_b2 n s ⟨l,q⟩ x) n 0=some (if l.any (farR s.Tracks)=true then .inl (⟨0,[]⟩,1) else .inr ()):=by
  refine loop_any l (farR s.Tracks) _ _ (fun k hk=>?_) ?_ hn
  · have h1:((k:Nat):Int) < (l.length:Int):=by omega
    have h0:(0:Int)≤(k:Int):=by omega
    simp only [ref39_Drop_b2,decide_eq_true h1,cond_true,h0,h1,and_self,implies_true]
    rw [gd_pos _ trivial]
    simp only [Int.toNat_natCast,gt_lt hk]
    rw [wid (n:=(k:Int)+1) (by omega)]
    show (bif farR s.Tracks l[k] then _ else _)=_
    cases farR s.Tracks l[k] <;> simp
  · simp only [ref39_Drop_b2,Int.lt_irrefl,decide_false,cond_false]
theorem far_val {t:Int} {x:TExtent} (h:val x=true):farR t x=farP t x:=by
  have:=(val_iff x).1 h
  unfold farR farP
  have h1:¬ (x.Len > 512):=by omega
  have h2:¬ (x.At > 512):=by omega
  simp [h1,h2]
theorem any_val {t:Int} {l:List TExtent} (h:l.all val=true):l.any (farR t)=l.any (farP t):=by
  have h':=List.all_eq_true.1 h
  induction l with
  | nil=>rfl
  | cons x l ih =>
    simp only [List.all_cons,Bool.and_eq_true] at h
    simp only [List.any_cons]
    rw [far_val h.1,ih h.2 fun y hy=>h' y (.tail _ hy)]
theorem Drop_eq (n:Nat) (hn:N0≤n) (s:TSpace) (l:List TExtent) (q q':Int) (h:s.Free.length≤2097152) (hl:l.length≤2097152):∃ r,spool_Drop n s ⟨l,q⟩=some r∧ref39_Drop n s ⟨l,q'⟩=some r∧r.1.Free.length≤2097152:=by
  have hn0:4194304≤n:=hn
  simp only [spool_Drop,ref39_Drop,CheckS n hn s h,ValidS n hn s h,Valid_eq n hn l (by omega),Option.bind_some,Option.isSome_some,Option.getD_some,implies_true]
  rw [gd_pos _ trivial]
  cases hs:okS s with
  | false=>exact ⟨(⟨0,[]⟩,1),by simp,by simp,by simp⟩
  | true =>
    simp only [if_true,bne_self_eq_false,Bool.false_eq_true,if_false,Bool.not_true,cond_false]
    rw [dropLoop n s l q' (by omega) hl]
    simp only [Option.bind_some]
    obtain ⟨r,g1,g2,g3⟩:=Give_eq n hn s.Free l h hl
    cases ha:(trkF [] l).isSome with
    | false =>
      have hr:r.2=1:=by
        have:=g1
        simp only [extent_Give,Check_eq n s.Free 512 (by omega) (by omega),Valid_eq n hn l (by omega),ha,Option.isSome_some,Option.getD_some,Bool.not_false,if_true,implies_true] at this
        obtain ⟨o,ho⟩:∃ o,extent_Overlap n s.Free l=some o:=⟨_,Overlap_eq n hn s.Free l h hl⟩
        revert this
        simp only [Option.bind_some,ho,Option.isSome_some,Option.getD_some,implies_true,and_self]
        rw [gd_pos _ trivial]
        cases chk 512 (-1) s.Free <;> simp <;> (intro e;rw [← e])
      refine ⟨(⟨0,[]⟩,1),by simp,?_,by simp⟩
      cases l.any (farR s.Tracks) with
      | true=>simp
      | false=>simp [ref39_Drop_k1,g2,hr]
    | true =>
      have hv:l.all val=true:=((trkF_isSome l).1 ha).1
      simp only [Bool.not_true,cond_false,Bool.not_false]
      rw [gd_pos _ trivial,containsD n l s.Free s.Tracks (by omega) hl,any_val hv]
      simp only [Option.bind_some]
      cases l.any (farP s.Tracks) with
      | true=>exact ⟨(⟨0,[]⟩,1),by simp,by simp,by simp⟩
      | false =>
        simp only [cond_false,Bool.false_eq_true,if_false,ref39_Drop_k1,g1,g2,Option.bind_some]
        cases (r.2 != 0)
        · exact ⟨_,rfl,rfl,by simp only;omega⟩
        · exact ⟨_,rfl,rfl,by simp⟩
theorem drops_eq (n:Nat) (hn:N0≤n) (s:TSpace) (l:List TExtent) (h:s.Free.length≤2097152) (hl:l.length≤2097152):law39_drops n s s l=some true:=by
  obtain ⟨r,h1,h2,h3⟩:=Drop_eq n hn s l 7 0 h hl
  simp only [law39_drops,h1,h2,Option.bind_some,sameS n hn r.1 h3]
  rw [gd_pos _ (by omega)]
  simp
theorem Put_eq (n:Nat) (hn:N0≤n) (s:TSpace) (l:List TLine) (h:s.Free.length≤2097152):∃ r,spool_Put n s l=some r∧ref39_Put n s l=some r∧r.1.Free.length≤2097152∧r.2.1.Extents.length≤2097152∧(r.2.2.1.length≤4096∧∀ x∈r.2.2.1,x.length≤4096):=by
  have hn0:4194304≤n:=hn
  obtain ⟨t1,t2⟩:=tracksS_sz l
  simp only [spool_Put,ref39_Put,CheckS n hn s h,ValidS n hn s h,Option.bind_some,Tracks_S n l hn,rTracks_eq n l hn]
  cases hs:okS s with
  | false=>exact ⟨(⟨0,[]⟩,⟨[],0⟩,[],1),by simp,by simp,by simp,by simp,by simp,by simp⟩
  | true =>
    simp only [if_true,bne_self_eq_false,cond_false,Bool.not_true]
    generalize tracksS l=T at t1 t2 ⊢
    cases h1:(T.2 != 0) with
    | true=>exact ⟨(⟨0,[]⟩,⟨[],0⟩,[],T.2),by simp,by simp,by simp,by simp,by simp,by simp⟩
    | false =>
      simp only [cond_false]
      cases h2:(((T.1.length:Nat):Int) == 0) with
      | true =>
        simp only [cond_true,Clone_eq n s.Free (by omega),Option.bind_some]
        exact ⟨(s,⟨[],0⟩,[],0),rfl,rfl,h,by simp,by simp,by simp⟩
      | false =>
        obtain ⟨r,a1,a2,a3,a4⟩:=Take_eq n hn s.Free ((T.1.length:Nat):Int) 8 h (by omega)
        simp only [cond_false,a1,a2,Option.bind_some]
        cases (r.2.2 != 0)
        · exact ⟨_,rfl,rfl,a4,a3,t1,t2⟩
        · exact ⟨_,rfl,rfl,by simp,by simp,by simp,by simp⟩
theorem puts_eq (n:Nat) (hn:N0≤n) (s:TSpace) (l:List TLine) (h:s.Free.length≤2097152):law39_puts n s s l=some true:=by
  have hn0:4194304≤n:=hn
  obtain ⟨r,h1,h2,h3,h4,h5,h6⟩:=Put_eq n hn s l h
  simp only [law39_puts,h1,h2,Option.bind_some,sameS n hn r.1 h3,Same_eq n r.2.1.Extents r.2.1.Extents (by omega) (by omega),sameTracks_refl n _ (by omega) h5 h6,drops_eq n hn r.1 r.2.1.Extents h3 h4,decide_true,Option.isSome_some,Option.getD_some,implies_true,and_self,Bool.not_true,Bool.false_eq_true,if_false,bne_self_eq_false,cond_false]
  rw [gd_pos _ trivial,gd_pos _ trivial]
  simp
theorem Free0 (m:Int) (h0:0≤m) (h1:m≤512):extent_Free N0 [] m=some (if m=0 then [] else [⟨0,m⟩]):=by
  have hv:extent_Valid N0 []=some true:=by decide +kernel
  have hs:extent_sorted N0 []=some []:=by decide +kernel
  have e1:decide (m < 0)=false:=decide_eq_false (by omega)
  have e2:decide (m > 512)=false:=decide_eq_false (by omega)
  have hl:loopF (fun (x:(List TExtent)×Int×Int)=>extent_Free_b3 N0 m [] ((([]:List TExtent).length:Nat):Int) x.1 x.2.1 x.2.2) N0 ([],0,0)=some ([],0):=by
    rw [show N0=4194303+1 by rfl]
    refine loopF_done ?_
    simp [extent_Free_b3]
  simp only [extent_Free,hv,Option.bind_some,e1,e2,Bool.not_true,Bool.false_eq_true,if_false,cond_false,hs,hl,extent_Free_k1,extent_Free_k2]
  by_cases h:m=0
  · subst h;simp
  · have:(m > 0):=by omega
    simp [h,this,wid (n:=m - 0) (by omega),wid (n:=m) (by omega),gd]
theorem New_val (m:Int) (h0:0≤m) (h1:m≤512):spool_New N0 m=some (⟨m,if m=0 then [] else [⟨0,m⟩]⟩,0):=by
  have e1:decide (m < 0)=false:=decide_eq_false (by omega)
  have e2:decide (m > 512)=false:=decide_eq_false (by omega)
  simp only [spool_New,e1,e2,Bool.false_eq_true,if_false,cond_false,Free0 m h0 h1,Option.bind_some]
theorem New_bad (m:Int) (h:¬ (0≤m∧m≤512)):spool_New N0 m=some (⟨0,[]⟩,6):=by
  have:(if (decide (m < 0))=true then true else (decide (m > 512)))=true:=by
    by_cases h1:m < 0
    · simp [h1]
    · have:m > 512:=by omega
      simp [this]
  simp only [spool_New,this,cond_true]
theorem RNew_val (n:Nat) (m:Int) (h0:0≤m):ref39_New n m=some ⟨m,if m=0 then [] else [⟨0,m⟩]⟩:=by
  by_cases h:m=0
  · subst h;rfl
  · have:m > 0:=by omega
    simp [ref39_New,ref39_New_k1,this,h]
theorem two {Y:Type} {body:Int→Option (Int ⊕ Y)} {y:Y} (m:Int) (hm:m=2∨m=3) (h:∀ v,0≤v→v < m→body v=some (.inl (v+1))) (he:body m=some (.inr y)):loopF body N0 0=some y:=by
  rw [show N0=4194300+1+1+1+1 by rfl]
  rcases hm with rfl | rfl
  · rw [loopF_step (h 0 (by omega) (by omega)),loopF_step (h (0+1) (by omega) (by omega))]
    exact loopF_done he
  · rw [loopF_step (h 0 (by omega) (by omega)),loopF_step (h (0+1) (by omega) (by omega)),loopF_step (h (0+1+1) (by omega) (by omega))]
    exact loopF_done he
theorem pb6_eq (f u:List TExtent) (l:List TLine) (m q v:Int) (h0:0≤v) (h2:v < 2):law39_SpoolPlaces_b6 N0 f u l m q v=some (.inl (v+1)):=by
  have hw:IntKind.wrap .i64 (v+1)=v+1:=wid (by omega)
  unfold law39_SpoolPlaces_b6
  generalize gt [q,m] (Int.toNat v)=k
  rw [decide_eq_true h2,cond_true,gd_pos _ ⟨h0,h2⟩,hw]
  by_cases hk:0≤k∧k≤512
  · have e:(if (decide (k ≥ 0))=true then (decide (k≤512)) else false)=true:=by simp [hk]
    simp only [New_val k hk.1 hk.2,Option.bind_some,e]
    simp only [RNew_val N0 k hk.1,Option.bind_some,cond_true]
    rw [sameS N0 (Nat.le_refl _) _ (by simp only;split <;> simp)]
    simp [gd]
  · have e:(if (decide (k ≥ 0))=true then (decide (k≤512)) else false)=false:=by
      by_cases h1:k ≥ 0
      · have:¬ (k≤512):=by omega
        simp [this]
      · simp [h1]
    simp only [New_bad k hk,Option.bind_some,e]
    simp [gd]
theorem pb5_eq (u:List TExtent) (l:List TLine) (m:Int) (f fr v1 v2:List TExtent) (i:Int) (l6 l7:List TLine) (v:Int) (hu:u.length≤2097152) (hf:f.length≤2097152) (h0:0≤v) (h2:v < 2):law39_SpoolPlaces_b5 N0 u l m f fr v1 v2 i l6 l7 v=some (.inl (v+1)):=by
  have hw:IntKind.wrap .i64 (v+1)=v+1:=wid (by omega)
  have hn:=Nat.le_refl N0
  unfold law39_SpoolPlaces_b5
  generalize gt [l6,l7] (Int.toNat v)=k
  rw [decide_eq_true h2,cond_true,gd_pos _ ⟨h0,h2⟩,hw]
  simp only [law39_space]
  rw [gd_pos _ (by omega)]
  simp only [Option.bind_some,CheckS N0 hn ⟨m,f⟩ hf,ValidS N0 hn ⟨m,f⟩ hf,puts_eq N0 hn ⟨m,f⟩ k hf,drops_eq N0 hn ⟨m,f⟩ u hf hu]
  cases okS ⟨m,f⟩ <;> simp [gd]
theorem pb3_eq (u:List TExtent) (l:List TLine) (m:Int) (fr v1 v2:List TExtent) (i:Int) (hu:u.length≤2097152) (hfr:fr.length≤2097152) (h1:v1.length≤2097152) (hv2:v2.length≤2097152) (h0:0≤i) (h2:i < 3):law39_SpoolPlaces_b3 N0 u l m fr v1 v2 i=some (.inl (i+1)):=by
  have hw:IntKind.wrap .i64 (i+1)=i+1:=wid (by omega)
  have hn:=Nat.le_refl N0
  unfold law39_SpoolPlaces_b3
  have hf:(gt [fr,v1,v2] (Int.toNat i)).length≤2097152:=by
    have:i=0∨i=1∨i=2:=by omega
    rcases this with rfl | rfl | rfl
    · exact hfr
    · exact h1
    · exact hv2
  generalize gt [fr,v1,v2] (Int.toNat i)=f at hf ⊢
  obtain ⟨l6,e6,_⟩:=few_eq N0 l hn
  obtain ⟨l7,e7⟩:=valid_some N0 l hn
  rw [decide_eq_true h2,cond_true,gd_pos _ ⟨h0,h2⟩]
  simp only [e6,e7,Option.bind_some]
  rw [two (body:=fun (x:Int)=>law39_SpoolPlaces_b5 N0 u l m f fr v1 v2 i l6 l7 x) (y:=.inr ()) 2 (.inl rfl) (fun v a b=>pb5_eq u l m f fr v1 v2 i l6 l7 v hu hf a b) (by simp [law39_SpoolPlaces_b5])]
  simp only [Option.bind_some,law39_SpoolPlaces_k4,hw]
theorem Free40 (l:List TExtent) (h:l.length≤2097152):∃ r,law39_Free N0 l=some r∧r.length≤2097152:=by
  simp only [law39_Free]
  rw [gd_pos _ (by split <;> omega)]
  exact ⟨_,rfl,by rw [List.length_take];omega⟩
theorem Places_true (q:Int) (fr u:List TExtent) (l:List TLine) (hfr:fr.length≤2097152) (hu:u.length≤2097152):law39_SpoolPlaces N0 q fr u l=some true:=by
  have hn:=Nat.le_refl N0
  obtain ⟨f1,e1,l1⟩:=Free40 fr hfr
  obtain ⟨u1,e2,l2⟩:=Free40 u hu
  simp only [law39_SpoolPlaces,e1,e2,Option.bind_some]
  generalize IntKind.wrap .i64 (Int.tmod (IntKind.wrap .u64 q) 513)=m
  rw [two (body:=fun (x:Int)=>law39_SpoolPlaces_b6 N0 f1 u1 l m q x) (y:=.inr ()) 2 (.inl rfl) (fun v a b=>pb6_eq f1 u1 l m q v a b) (by simp [law39_SpoolPlaces_b6])]
  simp only [Option.bind_some,law39_SpoolPlaces_k1]
  obtain ⟨R1,_,g1,g2⟩:=Free_eq N0 hn u1 m l2
  obtain ⟨R2,_,g3,g4⟩:=Free_eq N0 hn [] m (by simp)
  simp only [g1,g3,Option.bind_some]
  rw [two (body:=fun (x:Int)=>law39_SpoolPlaces_b3 N0 u1 l m f1 R1 R2 x) (y:=.inr ()) 3 (.inr rfl) (fun v a b=>pb3_eq u1 l m f1 R1 R2 v l2 l1 (by omega) (by omega) a b) (by simp [law39_SpoolPlaces_b3])]
  simp only [Option.bind_some,law39_SpoolPlaces_k2,works_N0]
end Go.Proofs.YtkebegfopnlkhaaGreat
