/- Text. -/
import Derived.Test.YtkebegfopnlkhaaW
set_option linter.unusedSimpArgs false
set_option linter.unusedVariables false
set_option maxHeartbeats 1000000
set_option linter.unusedVariables false
set_option linter.unusedSimpArgs false
set_option maxRecDepth 100000
namespace Go.Proofs.Ytkebegfopnlkhaa
open Go.AE
theorem to_from (s:List UInt8):toStr8 (fromStr8 s)=s:=by
  simp only [toStr8,fromStr8,List.map_map]
  rw [show ((fun x:Int=>UInt8.ofNat x.toNat) ∘ fun b:UInt8=>((b.toNat:Nat):Int))=id by funext b;simp]
  simp
theorem wu8' (x:Int):IntKind.wrap .u8 x=x % 256:=by simp [IntKind.wrap,IntKind.bits,IntKind.signed]
def ctlL (l:List TLine):Prop:=∀ x∈l,0≤x.Ctl∧x.Ctl≤255
theorem group_rest (n:Nat):∀ (xs acc:List TLine),shortL xs→ctlL xs→xs.length≤4096→acc.length+xs.length≤100000→∀ f,xs.length < f →
    loopF (fun (x:(List Int)×(List TLine))=>spool_group_b2 n x.1 x.2) f (xs.flatMap lb,acc)=some (.inr (acc ++ xs))
  | [],acc,_,_,_,_,f,hf=>by
    obtain ⟨g,rfl⟩:∃ g,f=g+1:=⟨f - 1,by omega⟩
    refine loopF_done ?_
    simp [spool_group_b2]
  | x :: xs,acc,hs,hc,hl,ha,f,hf=>by
    obtain ⟨g,rfl⟩:∃ g,f=g+1:=⟨f - 1,by simp at hf;omega⟩
    have h1:=hs x (by simp)
    obtain ⟨h2,h3⟩:=hc x (by simp)
    have hlen:(lb x).length=2+x.Text.length:=lb_len x
    have hfl:(fromStr8 x.Text).length=x.Text.length:=fromStr8_len _
    have e0:IntKind.wrap .u8 x.Ctl=x.Ctl:=by rw [wu8'];omega
    have e1:IntKind.wrap .u8 (x.Text.length:Int)=(x.Text.length:Int):=by rw [wu8'];omega
    have hb:(x :: xs).flatMap lb=x.Ctl :: (x.Text.length:Int) :: (fromStr8 x.Text ++ xs.flatMap lb):=by
      simp [lb,e0,e1]
    refine (loopF_step (x':=(xs.flatMap lb,acc ++ [x])) ?_).trans ?_
    · rw [hb]
      generalize hr:xs.flatMap lb=r
      have hl2:((x.Ctl :: (x.Text.length:Int) :: (fromStr8 x.Text ++ r)).length:Int)=2+(x.Text.length:Int)+(r.length:Int):=by
        simp only [List.length_cons,List.length_append,hfl];omega
      have g0:gt (x.Ctl :: (x.Text.length:Int) :: (fromStr8 x.Text ++ r)) 0=x.Ctl:=rfl
      have g1:gt (x.Ctl :: (x.Text.length:Int) :: (fromStr8 x.Text ++ r)) 1=(x.Text.length:Int):=rfl
      have hl4:xs.length+1≤4096:=by simpa using hl
      have ha4:acc.length+(xs.length+1)≤100000:=by simpa using ha
      simp only [spool_group_b2,hl2,g0,g1]
      rw [wid (n:=(x.Text.length:Int)) (by omega),wid (n:=2+(x.Text.length:Int)) (by omega)]
      have d1:decide (2+(x.Text.length:Int)+(r.length:Int) > 0)=true:=decide_eq_true (by omega)
      have d2:decide (2+(x.Text.length:Int)+(r.length:Int) < 2)=false:=decide_eq_false (by omega)
      have d3:decide (2+(x.Text.length:Int)+(r.length:Int) < 2+(x.Text.length:Int))=false:=decide_eq_false (by omega)
      rw [d1,d2,d3]
      simp only [cond_true,Bool.false_eq_true,if_false,cond_false,Bool.not_false,true_implies,forall_const]
      rw [gd_pos _ (by omega),gd_pos _ (by omega),gd_pos _ (by omega),gd_pos _ (by omega),wid (n:=x.Ctl) (by omega)]
      have ht:Int.toNat (2+(x.Text.length:Int))=x.Text.length+2:=by omega
      rw [ht]
      have t1:List.drop (x.Text.length+2) (x.Ctl :: (x.Text.length:Int) :: (fromStr8 x.Text ++ r))=r:=by
        simp only [List.drop_succ_cons]
        rw [List.drop_left' hfl]
      have t2:List.drop 2 (List.take (x.Text.length+2) (x.Ctl :: (x.Text.length:Int) :: (fromStr8 x.Text ++ r)))=fromStr8 x.Text:=by
        simp only [List.take_succ_cons,List.drop_succ_cons,List.drop_zero]
        rw [List.take_left' hfl]
      rw [t1,t2,to_from]
    · rw [group_rest n xs (acc ++ [x]) (fun y hy=>hs y (by simp [hy])) (fun y hy=>hc y (by simp [hy])) (by simp at hl;omega) (by simp at ha ⊢;omega) g (by simp at hf;omega)]
      simp
theorem group_back (n:Nat) (hn:4096 < n) (g:List TLine) (a:Nat) (hs:shortL g) (hc:ctlL g) (hl:g.length≤4096):spool_group n (gdata a g) (a:Int)=some (g,true):=by
  have hi:=idx_len (a:Int)
  have hlen:((gdata a g).length:Int)=4+((g.flatMap lb).length:Int):=by
    unfold gdata;rw [List.length_append,hi];omega
  have hdl:decide (((gdata a g).length:Int) < 4)=false:=decide_eq_false (by omega)
  have ht:List.take 4 (gdata a g)=idx (a:Int):=by unfold gdata;rw [List.take_left' hi]
  have hd:List.drop 4 (gdata a g)=g.flatMap lb:=by unfold gdata;rw [List.drop_left' hi]
  unfold spool_group
  rw [hdl]
  simp only [Bool.not_false,true_implies,forall_const,cond_false,index_eq,Option.bind_some,ht,hd,bytes_Equal,beq_self_eq_true,Bool.not_true]
  rw [gd_pos _ (by omega),gd_pos _ trivial,gd_pos _ trivial,gd_pos _ (by omega),group_rest n g [] hs hc hl (by simp;omega) n (by omega)]
  simp [spool_group_k1]
inductive GoodD:Nat→List (List Int)→List TLine→Prop
  | nil (a:Nat):GoodD a [] []
  | cons (a:Nat) (g:List TLine) (D:List (List Int)) (ls:List TLine):shortL g→ctlL g→g.length≤4096→GoodD (a+g.length) D ls→GoodD a (gdata a g :: D) (g ++ ls)
theorem GoodD.split {D2:List (List Int)}:∀ {D1:List (List Int)} {a:Nat} {ls:List TLine},GoodD a (D1 ++ D2) ls→∃ l1 l2,ls=l1 ++ l2∧GoodD a D1 l1∧GoodD (a+l1.length) D2 l2
  | [],a,ls,h=>⟨[],ls,rfl,.nil a,by simpa using h⟩
  | d :: D1,a,ls,h=>by
    cases h with
    | cons _ g _ ls' h1 h2 h3 h4 =>
      obtain ⟨l1,l2,rfl,k1,k2⟩:=GoodD.split h4
      exact ⟨g ++ l1,l2,by simp,.cons a g D1 l1 h1 h2 h3 k1,by rw [List.length_append,← Nat.add_assoc];exact k2⟩
theorem lines_in (n:Nat) (hn:4096 < n) (t:List (List TRec)) (n_ v16 v17:Int) (rs:List TRec) (hr:rs.length≤100000):∀ (j k:Nat) (l ls:List TLine),rs.length - k=j→k≤rs.length→GoodD l.length ((rs.drop k).map (·.Data)) ls→l.length+ls.length≤4096→((l.length+ls.length:Nat):Int)≤n_→∀ f,j < f →
    loopF (fun (x:(List TLine)×Int)=>spool_Lines_b4 n t n_ v16 v17 rs (rs.length:Int) x.1 x.2) f (l,(k:Int))=some (.inr (l ++ ls)):=by
  intro j
  induction j with
  | zero =>
    intro k l ls hj hk hg hl hn_ f hf
    obtain ⟨g,rfl⟩:∃ g,f=g+1:=⟨f - 1,by omega⟩
    have hk':k=rs.length:=by omega
    subst hk'
    rw [List.drop_length] at hg
    cases hg
    refine loopF_done ?_
    have:decide ((rs.length:Int) < (rs.length:Int))=false:=by simp
    simp only [spool_Lines_b4,this,cond_false,List.append_nil]
  | succ j ih =>
    intro k l ls hj hk hg hl hn_ f hf
    obtain ⟨q,rfl⟩:∃ q,f=q+1:=⟨f - 1,by omega⟩
    have hk':k < rs.length:=by omega
    rw [List.drop_eq_getElem_cons hk',List.map_cons] at hg
    generalize hdd:(rs[k]).Data=dd at hg
    cases hg with
    | cons _ g D ls' h1 h2 h3 h4 =>
      rw [List.length_append] at hl hn_
      refine (loopF_step (x':=(l ++ g,((k+1:Nat):Int))) ?_).trans ?_
      · have:decide ((k:Int) < (rs.length:Int))=true:=decide_eq_true (by omega)
        simp only [spool_Lines_b4,this,cond_true,Int.toNat_natCast,gt_lt hk',hdd]
        rw [gd_pos _ (by omega),group_back n hn g l.length h1 h2 h3]
        simp only [Option.bind_some,Bool.not_true,Bool.false_eq_true,if_false]
        have e:(if (0:Int) > n_ then (0:Int) else n_)=n_:=if_neg (by omega)
        rw [e,wid (n:=((l.length:Nat):Int)+((g.length:Nat):Int)) (by omega),decide_eq_false (by omega),cond_false,gd_pos _ (by omega),wid (n:=(k:Int)+1) (by omega)]
        simp
      · rw [ih (k+1) (l ++ g) ls' (by omega) (by omega) (by rw [List.length_append];exact h4) (by rw [List.length_append];omega) (by rw [List.length_append];omega) q (by omega)]
        simp
theorem lines_out (n:Nat) (hn:100001 < n) (t:List (List TRec)) (n_:Int) (ht:t.length≤100000) (hts:∀ x∈t,x.length≤100000):∀ (j k:Nat) (l ls:List TLine),t.length - k=j→k≤t.length→GoodD l.length ((t.drop k).flatMap fun x=>x.map (·.Data)) ls→l.length+ls.length≤4096→((l.length+ls.length:Nat):Int)≤n_→∀ f,j < f →
    loopF (fun (x:(List TLine)×Int)=>spool_Lines_b2 n t n_ (t.length:Int) x.1 x.2) f (l,(k:Int))=some (.inr (l ++ ls)):=by
  intro j
  induction j with
  | zero =>
    intro k l ls hj hk hg hl hn_ f hf
    obtain ⟨g,rfl⟩:∃ g,f=g+1:=⟨f - 1,by omega⟩
    have hk':k=t.length:=by omega
    subst hk'
    rw [List.drop_length,List.flatMap_nil] at hg
    cases hg
    refine loopF_done ?_
    have:decide ((t.length:Int) < (t.length:Int))=false:=by simp
    simp only [spool_Lines_b2,this,cond_false,List.append_nil]
  | succ j ih =>
    intro k l ls hj hk hg hl hn_ f hf
    obtain ⟨q,rfl⟩:∃ q,f=q+1:=⟨f - 1,by omega⟩
    have hk':k < t.length:=by omega
    rw [List.drop_eq_getElem_cons hk',List.flatMap_cons] at hg
    obtain ⟨l1,l2,rfl,g1,g2⟩:=GoodD.split hg
    rw [List.length_append] at hl hn_
    have hin:=lines_in n (by omega) t n_ (t.length:Int) (k:Int) t[k] (hts _ (List.getElem_mem hk')) (t[k].length) 0 l l1 (by omega) (by omega) (by simpa using g1) (by omega) (by omega) n (by have:=hts _ (List.getElem_mem hk');omega)
    refine (loopF_step (x':=(l ++ l1,((k+1:Nat):Int))) ?_).trans ?_
    · have:decide ((k:Int) < (t.length:Int))=true:=decide_eq_true (by omega)
      simp only [spool_Lines_b2,this,cond_true,Int.toNat_natCast,gt_lt hk']
      rw [gd_pos _ (by omega)]
      have hin':loopF (fun (x:(List TLine)×Int)=>spool_Lines_b4 n t n_ (t.length:Int) (k:Int) t[k] (t[k].length:Int) x.1 x.2) n (l,0)=_:=hin
      rw [hin']
      simp only [Option.bind_some,spool_Lines_k3]
      rw [wid (n:=(k:Int)+1) (by omega)]
      simp
    · rw [ih (k+1) (l ++ l1) l2 (by omega) (by omega) (by rw [List.length_append];exact g2) (by rw [List.length_append];omega) (by rw [List.length_append];omega) q (by omega)]
      simp
theorem divF_all {α:Type} (l:List α) (cs:List Int) (room:Int) (hl:cs.length=l.length):∀ (q fr:Nat),l.length≤q+fr→(divF cs room q fr).flatMap (piece l)=l.drop fr
  | 0,fr,h=>by simp [divF,List.drop_eq_nil_of_le (show l.length≤fr by omega)]
  | q+1,fr,h=>by
    unfold divF
    by_cases c:fr < cs.length
    · rw [if_pos c,List.flatMap_cons]
      obtain ⟨m,hm⟩:∃ m,cs.length=m+1:=⟨cs.length - 1,by omega⟩
      have h1:fr < reachP cs fr cs.length fr room:=by rw [hm];exact reachP_gt cs fr m room c
      have h2:=reachP_le cs fr cs.length fr room (by omega)
      rw [divF_all l cs room hl q _ (by omega)]
      generalize reachP cs fr cs.length fr room=to at *
      unfold piece
      have:l.drop to=(l.drop fr).drop (to - fr):=by rw [List.drop_drop];congr 1;omega
      rw [this,List.take_append_drop]
    · rw [if_neg c,List.drop_eq_nil_of_le (by omega)]
      rfl
theorem divF_good (l:List TLine) (cs:List Int) (room:Int) (hl:cs.length=l.length) (hs:shortL l) (hc:ctlL l) (h4:l.length≤4096):∀ (q fr:Nat),l.length≤q+fr→fr≤l.length→GoodD fr ((divF cs room q fr).map fun e=>gdata e.1 (piece l e)) (l.drop fr)
  | 0,fr,h,_=>by rw [List.drop_eq_nil_of_le (show l.length≤fr by omega)];exact .nil _
  | q+1,fr,h,hfr=>by
    unfold divF
    by_cases c:fr < cs.length
    · rw [if_pos c,List.map_cons]
      obtain ⟨m,hm⟩:∃ m,cs.length=m+1:=⟨cs.length - 1,by omega⟩
      have h1:fr < reachP cs fr cs.length fr room:=by rw [hm];exact reachP_gt cs fr m room c
      have h2:=reachP_le cs fr cs.length fr room (by omega)
      have ih:=divF_good l cs room hl hs hc h4 q (reachP cs fr cs.length fr room) (by omega) (by omega)
      generalize reachP cs fr cs.length fr room=to at *
      have e:l.drop fr=piece l (fr,to) ++ l.drop to:=by
        unfold piece
        have:l.drop to=(l.drop fr).drop (to - fr):=by rw [List.drop_drop];congr 1;omega
        rw [this,List.take_append_drop]
      have hpl:(piece l (fr,to)).length=to - fr:=piece_len (by dsimp only;omega)
      rw [e]
      refine .cons fr (piece l (fr,to)) _ _ (fun x hx=>hs x (piece_mem hx)) (fun x hx=>hc x (piece_mem hx)) (by omega) ?_
      rw [hpl,show fr+(to - fr)=to by omega]
      exact ih
    · rw [if_neg c,List.drop_eq_nil_of_le (by omega)]
      exact .nil _
theorem numb_data (t:List TRec):(numb t).map (·.Data)=t.map (·.Data):=by
  apply List.ext_getElem
  · simp [numb]
  · intro i h1 h2;simp [numb]
theorem trkL_good (l:List TLine) (hs:shortL l) (hc:ctlL l) (h4:l.length≤4096):GoodD 0 ((trkL l).flatMap fun x=>x.map (·.Data)) l:=by
  have e:((trkL l).flatMap fun x=>x.map (·.Data))=(recsL l).map (·.Data):=by
    unfold trkL tracksR
    rw [List.flatMap_map]
    simp only [numb_data]
    have:=divF_all (recsL l) (List.map szRec (recsL l)) 2048 (by simp) (List.map szRec (recsL l)).length 0 (by simp)
    rw [List.drop_zero] at this
    conv=>rhs;rw [← this]
    rw [List.map_flatMap]
    rfl
  rw [e]
  have:=divF_good l (List.map szLine l) 1020 (by simp) hs hc h4 (List.map szLine l).length 0 (by simp) (by omega)
  rw [List.drop_zero] at this
  unfold recsL
  rw [List.map_map]
  exact this
theorem trkL_lens (l:List TLine) (h4:l.length≤4096):(trkL l).length≤4096∧∀ x∈trkL l,x.length≤4096:=by
  have hr:=recsL_len l
  constructor
  · unfold trkL tracksR
    rw [List.length_map]
    have:=divF_len (List.map szRec (recsL l)) 2048 (List.map szRec (recsL l)).length 0
    unfold divP
    rw [List.length_map] at *
    omega
  · intro x hx
    unfold trkL tracksR at hx
    obtain ⟨e,he,rfl⟩:=List.mem_map.1 hx
    rw [numb_len]
    have:=(divP_mem he).2
    rw [List.length_map] at this
    rw [piece_len (by omega)]
    omega
theorem same_rec (n:Nat) (r:TRec):spool_same n r r=some true:=by
  simp [spool_same,bytes_Equal,gd]
theorem eqf54 (n:Nat) (t:List TRec) (hn:t.length < n) (hl:t.length≤100000):slices_EqualFunc_f54_M1 n t t=some true:=by
  have h:=loop_any (body:=fun (x:Int)=>slices_EqualFunc_f54_M1_b2 n t t (t.length:Int) x) t (fun _=>false) (.inl false) (.inr ()) (fun k hk=>by
    have e1:decide ((k:Int) < (t.length:Int))=true:=decide_eq_true (by omega)
    simp only [slices_EqualFunc_f54_M1_b2,e1,cond_true,Int.toNat_natCast,same_rec,Option.bind_some]
    rw [gd_pos _ (by omega),gd_pos _ (by omega),wid (by omega)]
    simp) (by
    have e1:decide ((t.length:Int) < (t.length:Int))=false:=by simp
    simp only [slices_EqualFunc_f54_M1_b2,e1,cond_false]) hn
  unfold slices_EqualFunc_f54_M1
  rw [h]
  simp [slices_EqualFunc_f54_M1_k1]
theorem eqf52 (n:Nat) (t:List (List TRec)) (hn:100000 < n) (hl:t.length≤4096) (ht:∀ x∈t,x.length≤4096):slices_EqualFunc_f52_M1 n t t=some true:=by
  have h:=loop_any (body:=fun (x:Int)=>slices_EqualFunc_f52_M1_b2 n t t (t.length:Int) x) t (fun _=>false) (.inl false) (.inr ()) (fun k hk=>by
    have e1:decide ((k:Int) < (t.length:Int))=true:=decide_eq_true (by omega)
    have h2:=ht _ (List.getElem_mem hk)
    simp only [slices_EqualFunc_f52_M1_b2,e1,cond_true,Int.toNat_natCast,gt_lt hk,spool_Lines_1,eqf54 n t[k] (by omega) (by omega),Option.bind_some]
    rw [gd_pos _ (by omega),gd_pos _ (by omega),wid (by omega)]
    simp) (by
    have e1:decide ((t.length:Int) < (t.length:Int))=false:=by simp
    simp only [slices_EqualFunc_f52_M1_b2,e1,cond_false]) (n:=n) (by omega)
  unfold slices_EqualFunc_f52_M1
  rw [h]
  simp [slices_EqualFunc_f52_M1_k1]
theorem Lines_back (n:Nat) (hn:N0≤n) (l:List TLine) (hs:shortL l) (hc:ctlL l) (h4:l.length≤4096):spool_Lines n (trkL l) ((l.length:Nat):Int)=some (l,0):=by
  have hn0:4194304≤n:=hn
  obtain ⟨k1,k2⟩:=trkL_lens l h4
  have h:=lines_out n (by omega) (trkL l) ((l.length:Nat):Int) (by omega) (fun x hx=>by have:=k2 x hx;omega) (trkL l).length 0 [] l (by omega) (by omega) (by simpa using trkL_good l hs hc h4) (by simpa using h4) (by simp) n (by omega)
  have h':loopF (fun (x:(List TLine)×Int)=>spool_Lines_b2 n (trkL l) ((l.length:Nat):Int) ((trkL l).length:Int) x.1 x.2) n ([],0)=_:=h
  have c1:¬ l.length > 4096:=by omega
  have c2:l.any longT=false:=by
    rw [List.any_eq_false]
    intro x hx
    have:=hs x hx
    simp [longT];omega
  have c3:l.any badC=false:=by
    rw [List.any_eq_false]
    intro x hx
    have:=hc x hx
    have e1:decide (x.Ctl < 0)=false:=decide_eq_false (by omega)
    have e2:decide (x.Ctl > 255)=false:=decide_eq_false (by omega)
    simp [badC,e1,e2]
  have ht:tracksS l=(trkL l,0):=by
    unfold tracksS
    rw [if_neg c1,c2,c3]
    simp
  unfold spool_Lines
  rw [h']
  simp only [Option.bind_some,List.nil_append,spool_Lines_k1,Tracks_S n l hn,ht,bne_self_eq_false,Bool.false_eq_true,if_false,cond_false,Bool.not_false,eqf52 n (trkL l) (by omega) k1 k2,Bool.not_true]
  rw [gd_pos _ trivial]
end Go.Proofs.Ytkebegfopnlkhaa
/-
  ch. 39: Lines, for arbitrary tracks: the program's and the reference's.
-/
set_option maxHeartbeats 2000000
set_option linter.unusedVariables false
set_option linter.unusedSimpArgs false
set_option maxRecDepth 100000
namespace Go.Proofs.Ytkebegfopnlkhaa
open Go.AE
theorem divP_len (cs:List Int) (room:Int):(divP cs room).length≤cs.length:=by
  unfold divP;exact divF_len cs room cs.length 0
theorem tracksS_sz (l:List TLine):(tracksS l).1.length≤4096∧∀ x∈(tracksS l).1,x.length≤4096:=by
  unfold tracksS
  split
  · simp
  · rename_i h0
    split
    · simp
    · split
      · simp
      · have hr:=recsL_len l
        have hr':(recsL l).length≤4096:=Nat.le_trans hr (by omega)
        unfold trkL tracksR
        generalize recsL l=rs at hr'
        refine ⟨?_,fun x hx=>?_⟩
        · rw [List.length_map]
          have:=divP_len (rs.map szRec) 2048
          rw [List.length_map] at this
          exact Nat.le_trans this hr'
        · obtain ⟨e,he,rfl⟩:=List.mem_map.1 hx
          rw [numb_len]
          unfold piece
          rw [List.length_take,List.length_drop]
          omega
def pl:List Int→List TLine
  | c :: m :: r=>if m.toNat≤r.length then ⟨c,toStr8 (r.take m.toNat)⟩ :: pl (r.drop m.toNat) else []
  | _=>[]
termination_by b=>b.length
decreasing_by simp;omega
theorem pl_nil:pl []=[]:=by rw [pl];simp
theorem pl_one (c:Int):pl [c]=[]:=by rw [pl];simp
theorem pl_cons (c m:Int) (r:List Int):pl (c :: m :: r)=if m.toNat≤r.length then ⟨c,toStr8 (r.take m.toNat)⟩ :: pl (r.drop m.toNat) else []:=by rw [pl]
theorem pl_len:∀ (k:Nat) (b:List Int),b.length≤k→(pl b).length≤b.length:=by
  intro k
  induction k with
  | zero=>intro b hb;cases b with
    | nil=>simp [pl_nil]
    | cons=>simp at hb
  | succ k ih =>
    intro b hb
    match b,hb with
    | [],_=>simp [pl_nil]
    | [c],_=>simp [pl_one]
    | c :: m :: r,hb =>
      rw [pl_cons]
      split
      · have:=ih (r.drop m.toNat) (by simp at hb ⊢;omega)
        simp at this ⊢;omega
      · simp
def byt (b:List Int):Prop:=∀ x∈b,0≤x∧x≤255
theorem byt.drop {b:List Int} (h:byt b) (k:Nat):byt (b.drop k):=fun x hx=>h x (List.mem_of_mem_drop hx)
def okR (r:TRec):Prop:=byt r.Data∧byt r.Key∧r.Data.length≤4000000
def totR:List TRec→Nat
  | []=>0
  | r :: rs=>r.Data.length+totR rs
def totT:List (List TRec)→Nat
  | []=>0
  | x :: xs=>totR x+totT xs
def plR:List TRec→List TLine
  | []=>[]
  | r :: rs=>pl (r.Data.drop 4) ++ plR rs
def plT:List (List TRec)→List TLine
  | []=>[]
  | x :: xs=>plR x ++ plT xs
theorem pl4_len (r:TRec):(pl (r.Data.drop 4)).length≤r.Data.length:=Nat.le_trans (pl_len _ _ (Nat.le_refl _)) (by simp)
theorem plR_len:∀ rs:List TRec,(plR rs).length≤totR rs
  | []=>by simp [plR,totR]
  | r :: rs=>by have:=pl4_len r;have:=plR_len rs;simp [plR,totR];omega
def okT (t:List (List TRec)):Prop:=t.length≤100000∧(∀ x∈t,x.length≤100000∧∀ r∈x,okR r)∧totT t≤2000000000
theorem sp_in (n:Nat):∀ (f:Nat) (b:List Int) (acc:List TLine),byt b→b.length < f→b.length≤4000000→acc.length+b.length≤2000000000 →
    loopF (fun (x:(List Int)×(List TLine))=>spool_group_b2 n x.1 x.2) f (b,acc)=some (.inl ([],false))∨loopF (fun (x:(List Int)×(List TLine))=>spool_group_b2 n x.1 x.2) f (b,acc)=some (.inr (acc ++ pl b)):=by
  intro f
  induction f with
  | zero=>intro b acc _ h;omega
  | succ f ih =>
    intro b acc hb hf hl hs
    match b,hb,hf,hl,hs with
    | [],_,_,_,_ =>
      right
      refine loopF_done ?_
      simp [spool_group_b2,pl_nil]
    | [c],_,_,_,_ =>
      left
      refine loopF_done ?_
      simp [spool_group_b2,gd]
    | c :: m :: r,hb,hf,hl,hs =>
      obtain ⟨m1,m2⟩:=hb m (by simp)
      obtain ⟨m3,m4⟩:=hb c (by simp)
      have hm:((m.toNat:Nat):Int)=m:=Int.toNat_of_nonneg m1
      have g0:gt (c :: m :: r) 0=c:=rfl
      have g1:gt (c :: m :: r) 1=m:=rfl
      have hlen:((c :: m :: r).length:Int)=2+(r.length:Int):=by simp only [List.length_cons];omega
      have hl':r.length+2≤4000000:=by simpa using hl
      have hs':acc.length+(r.length+2)≤2000000000:=by simpa using hs
      have hf':r.length+2 < f+1:=by simp at hf;omega
      have d1:decide (2+(r.length:Int) > 0)=true:=decide_eq_true (by omega)
      have d2:decide (2+(r.length:Int) < 2)=false:=decide_eq_false (by omega)
      have e1:IntKind.wrap .i64 m=m:=wid (by omega)
      have e2:IntKind.wrap .i64 (2+m)=2+m:=wid (by omega)
      have e3:IntKind.wrap .i64 c=c:=wid (by omega)
      by_cases h3:m.toNat≤r.length
      · have d3:decide (2+(r.length:Int) < 2+m)=false:=decide_eq_false (by omega)
        have ht:Int.toNat (2+m)=m.toNat+2:=by omega
        have step:(fun (x:(List Int)×(List TLine))=>spool_group_b2 n x.1 x.2) (c :: m :: r,acc)=some (.inl (r.drop m.toNat,acc ++ [⟨c,toStr8 (r.take m.toNat)⟩])):=by
          simp only [spool_group_b2,hlen,g0,g1,e1,e2,e3,d1,d2,d3,cond_true,Bool.false_eq_true,if_false,cond_false,Bool.not_false,true_implies,forall_const,ht]
          rw [gd_pos _ (by omega),gd_pos _ (by omega),gd_pos _ (by omega),gd_pos _ (by omega)]
          simp
        rw [loopF_step step,pl_cons,if_pos h3]
        have:=ih (r.drop m.toNat) (acc ++ [⟨c,toStr8 (r.take m.toNat)⟩]) (fun x hx=>hb x (by simp [List.mem_of_mem_drop hx])) (by simp;omega) (by simp;omega) (by simp;omega)
        simpa using this
      · left
        refine loopF_done ?_
        have d3:decide (2+(r.length:Int) < 2+m)=true:=decide_eq_true (by omega)
        simp only [spool_group_b2,hlen,g0,g1,e1,e2,e3,d1,d2,d3,cond_true,Bool.false_eq_true,if_false,Bool.not_false,true_implies,forall_const]
        rw [gd_pos _ (by omega)]
theorem sp_group (n:Nat) (hn:N0≤n) (b:List Int) (a:Int) (hb:byt b) (hl:b.length≤4000000):spool_group n b a=some ([],false)∨spool_group n b a=some (pl (b.drop 4),true):=by
  have hn0:4194304≤n:=hn
  unfold spool_group
  by_cases h4:(b.length:Int) < 4
  · left
    rw [decide_eq_true h4]
    simp [gd]
  · rw [decide_eq_false h4]
    simp only [Bool.not_false,true_implies,cond_false,index_eq,bytes_Equal,Option.bind_some]
    rw [gd_pos _ (by omega),gd_pos _ trivial,gd_pos _ trivial]
    cases hq:(toStr8 (List.take 4 b) == toStr8 (idx a))
    · left;simp
    · simp only [Bool.not_true,cond_false]
      rw [gd_pos _ (by omega)]
      rcases sp_in n n (b.drop 4) [] (hb.drop 4) (by simp;omega) (by simp;omega) (by simp;omega) with h | h
      · left;rw [h];rfl
      · right;rw [h];simp [spool_group_k1]
theorem sp_rec (n:Nat) (hn:N0≤n) (t:List (List TRec)) (n_ v16 v17:Int) (rs:List TRec) (ho:∀ r∈rs,okR r) (hlen:rs.length≤100000):∀ (j k:Nat) (l:List TLine),rs.length - k=j→k≤rs.length→l.length+totR (rs.drop k)≤2000000000→∀ f,j < f →
    loopF (fun (x:(List TLine)×Int)=>spool_Lines_b4 n t n_ v16 v17 rs (rs.length:Int) x.1 x.2) f (l,(k:Int))=some (.inl ([],390))∨loopF (fun (x:(List TLine)×Int)=>spool_Lines_b4 n t n_ v16 v17 rs (rs.length:Int) x.1 x.2) f (l,(k:Int))=some (.inr (l ++ plR (rs.drop k))):=by
  have hn0:4194304≤n:=hn
  intro j
  induction j with
  | zero =>
    intro k l hj hk hs f hf
    obtain ⟨g,rfl⟩:∃ g,f=g+1:=⟨f - 1,by omega⟩
    have hk':k=rs.length:=by omega
    subst hk'
    right
    refine (loopF_done (y:=.inr l) ?_).trans (by simp [plR])
    have:decide (((rs.length:Nat):Int) < (rs.length:Int))=false:=by simp
    simp only [spool_Lines_b4,this,cond_false]
  | succ j ih =>
    intro k l hj hk hs f hf
    obtain ⟨q,rfl⟩:∃ q,f=q+1:=⟨f - 1,by omega⟩
    have hk':k < rs.length:=by omega
    have hor:=ho _ (List.getElem_mem hk')
    rw [List.drop_eq_getElem_cons hk'] at hs ⊢
    simp only [totR,plR] at hs ⊢
    have hp:=pl4_len rs[k]
    have d1:decide (((k:Nat):Int) < (rs.length:Int))=true:=decide_eq_true (by omega)
    rcases sp_group n hn (rs[k]).Data ((l.length:Nat):Int) hor.1 hor.2.2 with h | h
    · left
      refine loopF_done ?_
      simp only [spool_Lines_b4,d1,cond_true,Int.toNat_natCast,gt_lt hk',h,Option.bind_some,Bool.not_false,if_true]
      rw [gd_pos _ (by omega)]
    · cases hc:decide (IntKind.wrap .i64 (((l.length:Nat):Int)+(((pl ((rs[k]).Data.drop 4)).length:Nat):Int)) > (if 0 > n_ then 0 else n_))
      · have step:(fun (x:(List TLine)×Int)=>spool_Lines_b4 n t n_ v16 v17 rs (rs.length:Int) x.1 x.2) (l,(k:Int))=some (.inl (l ++ pl ((rs[k]).Data.drop 4),((k+1:Nat):Int))):=by
          simp only [spool_Lines_b4,d1,cond_true,Int.toNat_natCast,gt_lt hk',h,Option.bind_some,Bool.not_true,Bool.false_eq_true,if_false,hc,cond_false]
          rw [gd_pos _ (by omega),gd_pos _ (by omega),wid (by omega)]
          simp
        rw [loopF_step step]
        have:=ih (k+1) (l ++ pl ((rs[k]).Data.drop 4)) (by omega) (by omega) (by rw [List.length_append];omega) q (by omega)
        simpa using this
      · left
        refine loopF_done ?_
        simp only [spool_Lines_b4,d1,cond_true,Int.toNat_natCast,gt_lt hk',h,Option.bind_some,Bool.not_true,Bool.false_eq_true,if_false,hc]
        rw [gd_pos _ (by omega)]
theorem sp_trk (n:Nat) (hn:N0≤n) (t:List (List TRec)) (n_:Int) (ho:∀ x∈t,x.length≤100000∧∀ r∈x,okR r) (htl:t.length≤100000):∀ (j k:Nat) (l:List TLine),t.length - k=j→k≤t.length→l.length+totT (t.drop k)≤2000000000→∀ f,j < f →
    loopF (fun (x:(List TLine)×Int)=>spool_Lines_b2 n t n_ (t.length:Int) x.1 x.2) f (l,(k:Int))=some (.inl ([],390))∨loopF (fun (x:(List TLine)×Int)=>spool_Lines_b2 n t n_ (t.length:Int) x.1 x.2) f (l,(k:Int))=some (.inr (l ++ plT (t.drop k))):=by
  have hn0:4194304≤n:=hn
  intro j
  induction j with
  | zero =>
    intro k l hj hk hs f hf
    obtain ⟨g,rfl⟩:∃ g,f=g+1:=⟨f - 1,by omega⟩
    have hk':k=t.length:=by omega
    subst hk'
    right
    refine (loopF_done (y:=.inr l) ?_).trans (by simp [plT])
    have:decide (((t.length:Nat):Int) < (t.length:Int))=false:=by simp
    simp only [spool_Lines_b2,this,cond_false]
  | succ j ih =>
    intro k l hj hk hs f hf
    obtain ⟨q,rfl⟩:∃ q,f=q+1:=⟨f - 1,by omega⟩
    have hk':k < t.length:=by omega
    obtain ⟨hx1,hx2⟩:=ho _ (List.getElem_mem hk')
    rw [List.drop_eq_getElem_cons hk'] at hs ⊢
    simp only [totT,plT] at hs ⊢
    have hp:=plR_len t[k]
    have d1:decide (((k:Nat):Int) < (t.length:Int))=true:=decide_eq_true (by omega)
    rcases sp_rec n hn t n_ (t.length:Int) (k:Int) t[k] hx2 hx1 t[k].length 0 l (by omega) (by omega) (by rw [List.drop_zero];omega) n (by omega) with h | h
    · have h':loopF (fun (x:(List TLine)×Int)=>spool_Lines_b4 n t n_ (t.length:Int) (k:Int) t[k] (t[k].length:Int) x.1 x.2) n (l,0)=_:=h
      left
      refine loopF_done ?_
      simp only [spool_Lines_b2,d1,cond_true,Int.toNat_natCast,gt_lt hk',h',Option.bind_some]
      rw [gd_pos _ (by omega)]
    · have h':loopF (fun (x:(List TLine)×Int)=>spool_Lines_b4 n t n_ (t.length:Int) (k:Int) t[k] (t[k].length:Int) x.1 x.2) n (l,0)=_:=h
      have step:(fun (x:(List TLine)×Int)=>spool_Lines_b2 n t n_ (t.length:Int) x.1 x.2) (l,(k:Int))=some (.inl (l ++ plR t[k],((k+1:Nat):Int))):=by
        simp only [spool_Lines_b2,d1,cond_true,Int.toNat_natCast,gt_lt hk',h',Option.bind_some,spool_Lines_k3,List.drop_zero]
        rw [gd_pos _ (by omega),wid (by omega)]
        simp
      rw [loopF_step step]
      have:=ih (k+1) (l ++ plR t[k]) (by omega) (by omega) (by rw [List.length_append];omega) q (by omega)
      simpa using this
end Go.Proofs.Ytkebegfopnlkhaa
/-
  ch. 39: Lines: what the program answers is what the reference answers.
-/
set_option maxHeartbeats 2000000
set_option linter.unusedVariables false
set_option linter.unusedSimpArgs false
set_option maxRecDepth 100000
namespace Go.Proofs.Ytkebegfopnlkhaa
open Go.AE
def sameR (a b:TRec):Bool:=(a.R == b.R && a.Bad == b.Bad) && (toStr8 a.Key == toStr8 b.Key && toStr8 a.Data == toStr8 b.Data)
theorem spool_sameR (n:Nat) (a b:TRec):spool_same n a b=some (sameR a b):=by
  unfold spool_same sameR
  simp only [bytes_Equal,Option.isSome_some,Option.getD_some,implies_true,and_self]
  rw [gd_pos _ trivial]
  rcases Bool.eq_false_or_eq_true (a.R == b.R) with e1 | e1 <;> rcases Bool.eq_false_or_eq_true (a.Bad == b.Bad) with e2 | e2 <;> rcases Bool.eq_false_or_eq_true (toStr8 a.Key == toStr8 b.Key) with e3 | e3 <;> rcases Bool.eq_false_or_eq_true (toStr8 a.Data == toStr8 b.Data) with e4 | e4 <;> simp [gd,e1,e2,e3,e4]
def sameT (a b:List TRec):Bool:=a.length == b.length && !((a.zip b).any fun e=>!sameR e.1 e.2)
def sameTT (a b:List (List TRec)):Bool:=a.length == b.length && !((a.zip b).any fun e=>!sameT e.1 e.2)
theorem eqf54g (n:Nat) (hn:N0≤n) (a b:List TRec) (ha:a.length≤100000):slices_EqualFunc_f54_M1 n a b=some (sameT a b):=by
  have hn0:4194304≤n:=hn
  unfold slices_EqualFunc_f54_M1 sameT
  by_cases hl:a.length=b.length
  · have e0:((a.length:Int) != (b.length:Int))=false:=by simp [hl]
    have hz:(a.zip b).length=a.length:=by simp [hl]
    have h:=loop_any (body:=fun (x:Int)=>slices_EqualFunc_f54_M1_b2 n b a (a.length:Int) x) (a.zip b) (fun e=>!sameR e.1 e.2) (.inl false) (.inr ()) (fun k hk=>by
      rw [hz] at hk
      have e1:decide ((k:Int) < (a.length:Int))=true:=decide_eq_true (by omega)
      have hkb:k < b.length:=by omega
      simp only [slices_EqualFunc_f54_M1_b2,e1,cond_true,Int.toNat_natCast,gt_lt hk,gt_lt hkb,spool_sameR,Option.bind_some,List.getElem_zip]
      rw [gd_pos _ (by omega),gd_pos _ (by omega),wid (by omega)]
      cases sameR a[k] b[k] <;> simp) (by
      have e1:decide (((a.zip b).length:Int) < (a.length:Int))=false:=decide_eq_false (by omega)
      simp only [slices_EqualFunc_f54_M1_b2,e1,cond_false]) (n:=n) (by omega)
    rw [e0,cond_false,h]
    cases (a.zip b).any fun e=>!sameR e.1 e.2 <;> simp [slices_EqualFunc_f54_M1_k1,hl]
  · have e0:((a.length:Int) != (b.length:Int))=true:=by simp;omega
    rw [e0,cond_true]
    have:(a.length == b.length)=false:=by simpa using hl
    simp [this]
theorem eqf52g (n:Nat) (hn:N0≤n) (a b:List (List TRec)) (ha:a.length≤100000) (hx:∀ x∈a,x.length≤100000):slices_EqualFunc_f52_M1 n a b=some (sameTT a b):=by
  have hn0:4194304≤n:=hn
  unfold slices_EqualFunc_f52_M1 sameTT
  by_cases hl:a.length=b.length
  · have e0:((a.length:Int) != (b.length:Int))=false:=by simp [hl]
    have hz:(a.zip b).length=a.length:=by simp [hl]
    have h:=loop_any (body:=fun (x:Int)=>slices_EqualFunc_f52_M1_b2 n b a (a.length:Int) x) (a.zip b) (fun e=>!sameT e.1 e.2) (.inl false) (.inr ()) (fun k hk=>by
      rw [hz] at hk
      have e1:decide ((k:Int) < (a.length:Int))=true:=decide_eq_true (by omega)
      have hkb:k < b.length:=by omega
      simp only [slices_EqualFunc_f52_M1_b2,e1,cond_true,Int.toNat_natCast,gt_lt hk,gt_lt hkb,spool_Lines_1,eqf54g n hn _ _ (hx _ (List.getElem_mem hk)),Option.bind_some,List.getElem_zip]
      rw [gd_pos _ (by omega),gd_pos _ (by omega),wid (by omega)]
      cases sameT a[k] b[k] <;> simp) (by
      have e1:decide (((a.zip b).length:Int) < (a.length:Int))=false:=decide_eq_false (by omega)
      simp only [slices_EqualFunc_f52_M1_b2,e1,cond_false]) (n:=n) (by omega)
    rw [e0,cond_false,h]
    cases (a.zip b).any fun e=>!sameT e.1 e.2 <;> simp [slices_EqualFunc_f52_M1_k1,hl]
  · have e0:((a.length:Int) != (b.length:Int))=true:=by simp;omega
    rw [e0,cond_true]
    have:(a.length == b.length)=false:=by simpa using hl
    simp [this]
theorem from_to (b:List Int) (h:byt b):fromStr8 (toStr8 b)=b:=by
  simp only [toStr8,fromStr8,List.map_map]
  conv=>rhs;rw [← List.map_id b]
  refine List.map_congr_left fun x hx=>?_
  obtain ⟨h1,h2⟩:=h x hx
  simp only [Function.comp,id]
  have:(UInt8.ofNat x.toNat).toNat=x.toNat:=by simp;omega
  rw [this];omega
theorem str_inj {a b:List Int} (ha:byt a) (hb:byt b) (h:(toStr8 a == toStr8 b)=true):a=b:=by
  rw [← from_to a ha,← from_to b hb,beq_iff_eq.1 h]
theorem sameR_eq {a b:TRec} (ha:byt a.Data∧byt a.Key) (hb:byt b.Data∧byt b.Key) (h:sameR a b=true):a=b:=by
  simp only [sameR,Bool.and_eq_true] at h
  obtain ⟨⟨h1,h2⟩,h3,h4⟩:=h
  have e1:=beq_iff_eq.1 h1
  have e2:=beq_iff_eq.1 h2
  have e3:=str_inj ha.2 hb.2 h3
  have e4:=str_inj ha.1 hb.1 h4
  cases a;cases b
  simp only at e1 e2 e3 e4
  subst e1 e2 e3 e4;rfl
theorem zip_eq {α:Type} (p:α→α→Bool):∀ (a b:List α),(∀ x∈a,∀ y∈b,p x y=true→x=y)→(a.length == b.length && !((a.zip b).any fun e=>!p e.1 e.2))=true→a=b
  | [],[],_,_=>rfl
  | [],y :: b,_,h=>by simp at h
  | x :: a,[],_,h=>by simp at h
  | x :: a,y :: b,hp,h=>by
    simp only [List.length_cons,List.zip_cons_cons,List.any_cons,Bool.and_eq_true,beq_iff_eq,Bool.not_eq_true',Bool.or_eq_false_iff,Bool.not_eq_false'] at h
    obtain ⟨h1,h2,h3⟩:=h
    rw [hp x (by simp) y (by simp) h2,zip_eq p a b (fun u hu v hv=>hp u (by simp [hu]) v (by simp [hv])) (by simp only [Bool.and_eq_true,beq_iff_eq,Bool.not_eq_true'];exact ⟨by omega,h3⟩)]
def bytT (t:List (List TRec)):Prop:=∀ x∈t,∀ r∈x,byt r.Data∧byt r.Key
theorem sameTT_eq {a b:List (List TRec)} (ha:bytT a) (hb:bytT b) (h:sameTT a b=true):a=b :=
  zip_eq sameT a b (fun x hx y hy h=>zip_eq sameR x y (fun r hr s hs h=>sameR_eq (ha x hx r hr) (hb y hy s hs) h) h) h
theorem wu8_byt (x:Int):0≤IntKind.wrap .u8 x∧IntKind.wrap .u8 x≤255:=by rw [wu8'];omega
theorem str_byt (s:List UInt8):byt (fromStr8 s):=by
  intro x hx
  simp only [fromStr8,List.mem_map] at hx
  obtain ⟨b,_,rfl⟩:=hx
  have:=b.toNat_lt
  omega
theorem gdata_byt (a:Nat) (g:List TLine):byt (gdata a g):=by
  intro x hx
  simp only [gdata,List.mem_append,List.mem_flatMap] at hx
  rcases hx with h | ⟨y,_,h⟩
  · simp only [idx,List.mem_cons,List.not_mem_nil,or_false] at h
    rcases h with rfl | rfl | rfl | rfl <;> exact wu8_byt _
  · simp only [lb,List.mem_append,List.mem_cons,List.not_mem_nil,or_false] at h
    rcases h with (rfl | rfl) | h
    · exact wu8_byt _
    · exact wu8_byt _
    · exact str_byt _ x h
theorem trkL_byt (l:List TLine):bytT (trkL l):=by
  intro x hx r hr
  simp only [trkL,tracksR,List.mem_map] at hx
  obtain ⟨e,_,rfl⟩:=hx
  simp only [numb,List.mem_mapIdx] at hr
  obtain ⟨i,hi,rfl⟩:=hr
  have hm:=piece_mem (List.getElem_mem hi)
  obtain ⟨e',_,he'⟩:∃ e',e'∈divP (List.map szLine l) 1020∧mkRec (gdata e'.1 (piece l e'))=_:=List.mem_map.1 hm
  rw [← he']
  exact ⟨gdata_byt _ _,fun x hx=>by simp [mkRec] at hx⟩
def lnsS (t:List (List TRec)) (n_:Int):List TLine×Int :=
  if (if (((plT t).length:Nat):Int) != n_ then true else ((tracksS (plT t)).2 != 0))=true∨sameTT (tracksS (plT t)).1 t=false then ([],390) else (plT t,0)
theorem spLines_S (n:Nat) (hn:N0≤n) (t:List (List TRec)) (n_:Int) (h:okT t):spool_Lines n t n_=some (lnsS t n_):=by
  have hn0:4194304≤n:=hn
  obtain ⟨h1,h2,h3⟩:=h
  obtain ⟨z1,z2⟩:=tracksS_sz (plT t)
  by_cases hg:(if (((plT t).length:Nat):Int) != n_ then true else ((tracksS (plT t)).2 != 0))=true∨sameTT (tracksS (plT t)).1 t=false
  · have e:lnsS t n_=([],390):=if_pos hg
    rw [e]
    unfold spool_Lines
    rcases sp_trk n hn t n_ h2 h1 t.length 0 [] (by omega) (by omega) (by simpa using h3) n (by omega) with ht | ht
    · have ht':loopF (fun (x:(List TLine)×Int)=>spool_Lines_b2 n t n_ (t.length:Int) x.1 x.2) n ([],0)=_:=ht
      rw [ht'];rfl
    · have ht':loopF (fun (x:(List TLine)×Int)=>spool_Lines_b2 n t n_ (t.length:Int) x.1 x.2) n ([],0)=_:=ht
      rw [ht']
      simp only [List.drop_zero,List.nil_append,Option.bind_some,spool_Lines_k1,Tracks_S n _ hn,eqf52g n hn (tracksS (plT t)).1 t (by omega) (fun x hx=>by have:=z2 x hx;omega)]
      have hg':(if ((tracksS (plT t)).2 != 0)=true then true else (((plT t).length:Nat):Int) != n_)=true∨sameTT (tracksS (plT t)).1 t=false:=by
        rcases hg with h | h
        · left
          revert h
          cases (((plT t).length:Nat):Int) != n_ <;> cases ((tracksS (plT t)).2 != 0) <;> simp
        · exact .inr h
      rcases hc:(if ((tracksS (plT t)).2 != 0)=true then true else (((plT t).length:Nat):Int) != n_) with _ | _
      · rw [hc] at hg'
        have:sameTT (tracksS (plT t)).1 t=false:=by simpa using hg'
        simp [this,gd]
      · simp
  · have e:lnsS t n_=(plT t,0):=if_neg hg
    rw [e]
    have hg1:¬ (if (((plT t).length:Nat):Int) != n_ then true else ((tracksS (plT t)).2 != 0))=true:=fun h=>hg (.inl h)
    have hg2:sameTT (tracksS (plT t)).1 t=true:=by
      cases hq:sameTT (tracksS (plT t)).1 t
      · exact absurd (.inr hq) hg
      · rfl
    have hgn:(((plT t).length:Nat):Int)=n_:=by
      revert hg1
      by_cases hh:(((plT t).length:Nat):Int)=n_
      · intro _;exact hh
      · have:((((plT t).length:Nat):Int) != n_)=true:=by simpa using hh
        simp [this]
    have hge:(tracksS (plT t)).2=0:=by
      have hh:((((plT t).length:Nat):Int) != n_)=false:=by simp [hgn]
      rw [hh] at hg1
      simpa using hg1
    have hT:(plT t).length≤4096∧(plT t).any longT=false∧(plT t).any badC=false∧(tracksS (plT t)).1=trkL (plT t):=by
      revert hge
      unfold tracksS
      split
      · intro h;simp at h
      · rename_i hc
        cases hL:(plT t).any longT
        · cases hB:(plT t).any badC
          · intro _;exact ⟨by omega,rfl,rfl,by simp⟩
          · simp
        · simp
    obtain ⟨c1,c2,c3,c4⟩:=hT
    rw [c4] at hg2
    have heq:trkL (plT t)=t:=sameTT_eq (trkL_byt _) (fun x hx r hr=>⟨((h2 x hx).2 r hr).1,((h2 x hx).2 r hr).2.1⟩) hg2
    have hs:shortL (plT t):=fun x hx=>by
      have:=List.any_eq_false.1 c2 x hx
      simp [longT] at this;omega
    have hc:ctlL (plT t):=fun x hx=>by
      have:=List.any_eq_false.1 c3 x hx
      simp only [badC,Bool.if_true_left,Bool.or_eq_true,decide_eq_true_eq,not_or] at this
      omega
    have hb:=Lines_back n hn (plT t) hs hc c1
    rw [heq] at hb
    rw [← hgn]
    exact hb
end Go.Proofs.Ytkebegfopnlkhaa
