/- Text. -/
import Derived.Test.YtkebegfopnlkhaaW
set_option linter.unusedSimpArgs false
set_option linter.unusedVariables false
set_option maxHeartbeats 1000000
set_option linter.unusedVariables false
set_option linter.unusedSimpArgs false
set_option maxRecDepth 100000
namespace Go.Proofs.Ytkebegfopnlkhaa
open Go.AE
theorem to_from (s:List UInt8):toStr8 (fromStr8 s)=s:=by
  simp only [toStr8,fromStr8,List.map_map]
  rw [show ((fun x:Int=>UInt8.ofNat x.toNat) ∘ fun b:UInt8=>((b.toNat:Nat):Int))=id by funext b;simp]
  simp
theorem wu8' (x:Int):IntKind.wrap .u8 x=x % 256:=by simp [IntKind.wrap,IntKind.bits,IntKind.signed]
def ctlL (l:List TLine):Prop:=∀ x∈l,0≤x.Ctl∧x.Ctl≤255
theorem group_rest (n:Nat):∀ (xs acc:List TLine),shortL xs→ctlL xs→xs.length≤4096→acc.length+xs.length≤100000→∀ f,xs.length < f →
    loopF (fun (x:(List Int)×(List TLine))=>spool_group_b2 n x.1 x.2) f (xs.flatMap lb,acc)=some (.inr (acc ++ xs))
  | [],acc,_,_,_,_,f,hf=>by
    obtain ⟨g,rfl⟩:∃ g,f=g+1:=⟨f - 1,by omega⟩
    refine loopF_done ?_
    simp [spool_group_b2]
  | x :: xs,acc,hs,hc,hl,ha,f,hf=>by
    obtain ⟨g,rfl⟩:∃ g,f=g+1:=⟨f - 1,by simp at hf;omega⟩
    have h1:=hs x (by simp)
    obtain ⟨h2,h3⟩:=hc x (by simp)
    have hlen:(lb x).length=2+x.Text.length:=lb_len x
    have hfl:(fromStr8 x.Text).length=x.Text.length:=fromStr8_len _
    have e0:IntKind.wrap .u8 x.Ctl=x.Ctl:=by rw [wu8'];omega
    have e1:IntKind.wrap .u8 (x.Text.length:Int)=(x.Text.length:Int):=by rw [wu8'];omega
    have hb:(x :: xs).flatMap lb=x.Ctl :: (x.Text.length:Int) :: (fromStr8 x.Text ++ xs.flatMap lb):=by
      simp [lb,e0,e1]
    refine (loopF_step (x':=(xs.flatMap lb,acc ++ [x])) ?_).trans ?_
    · rw [hb]
      generalize hr:xs.flatMap lb=r
      have hl2:((x.Ctl :: (x.Text.length:Int) :: (fromStr8 x.Text ++ r)).length:Int)=2+(x.Text.length:Int)+(r.length:Int):=by
        simp only [List.length_cons,List.length_append,hfl];omega
      have g0:gt (x.Ctl :: (x.Text.length:Int) :: (fromStr8 x.Text ++ r)) 0=x.Ctl:=rfl
      have g1:gt (x.Ctl :: (x.Text.length:Int) :: (fromStr8 x.Text ++ r)) 1=(x.Text.length:Int):=rfl
      have hl4:xs.length+1≤4096:=by simpa using hl
      have ha4:acc.length+(xs.length+1)≤100000:=by simpa using ha
      simp only [spool_group_b2,hl2,g0,g1]
      rw [wid (n:=(x.Text.length:Int)) (by omega),wid (n:=2+(x.Text.length:Int)) (by omega)]
      have d1:decide (2+(x.Text.length:Int)+(r.length:Int) > 0)=true:=decide_eq_true (by omega)
      have d2:decide (2+(x.Text.length:Int)+(r.length:Int) < 2)=false:=decide_eq_false (by omega)
      have d3:decide (2+(x.Text.length:Int)+(r.length:Int) < 2+(x.Text.length:Int))=false:=decide_eq_false (by omega)
      rw [d1,d2,d3]
      simp only [cond_true,Bool.false_eq_true,if_false,cond_false,Bool.not_false,true_implies,forall_const]
      rw [gd_pos _ (by omega),gd_pos _ (by omega),gd_pos _ (by omega),gd_pos _ (by omega),wid (n:=x.Ctl) (by omega)]
      have ht:Int.toNat (2+(x.Text.length:Int))=x.Text.length+2:=by omega
      rw [ht]
      have t1:List.drop (x.Text.length+2) (x.Ctl :: (x.Text.length:Int) :: (fromStr8 x.Text ++ r))=r:=by
        simp only [List.drop_succ_cons]
        rw [List.drop_left' hfl]
      have t2:List.drop 2 (List.take (x.Text.length+2) (x.Ctl :: (x.Text.length:Int) :: (fromStr8 x.Text ++ r)))=fromStr8 x.Text:=by
        simp only [List.take_succ_cons,List.drop_succ_cons,List.drop_zero]
        rw [List.take_left' hfl]
      rw [t1,t2,to_from]
    · rw [group_rest n xs (acc ++ [x]) (fun y hy=>hs y (by simp [hy])) (fun y hy=>hc y (by simp [hy])) (by simp at hl;omega) (by simp at ha ⊢;omega) g (by simp at hf;omega)]
      simp
theorem group_back (n:Nat) (hn:4096 < n) (g:List TLine) (a:Nat) (hs:shortL g) (hc:ctlL g) (hl:g.length≤4096):spool_group n (gdata a g) (a:Int)=some (g,true):=by
  have hi:=idx_len (a:Int)
  have hlen:((gdata a g).length:Int)=4+((g.flatMap lb).length:Int):=by
    unfold gdata;rw [List.length_append,hi];omega
  have hdl:decide (((gdata a g).length:Int) < 4)=false:=decide_eq_false (by omega)
  have ht:List.take 4 (gdata a g)=idx (a:Int):=by unfold gdata;rw [List.take_left' hi]
  have hd:List.drop 4 (gdata a g)=g.flatMap lb:=by unfold gdata;rw [List.drop_left' hi]
  unfold spool_group
  rw [hdl]
  simp only [Bool.not_false,true_implies,forall_const,cond_false,index_eq,Option.bind_some,ht,hd,bytes_Equal,beq_self_eq_true,Bool.not_true]
  rw [gd_pos _ (by omega),gd_pos _ trivial,gd_pos _ trivial,gd_pos _ (by omega),group_rest n g [] hs hc hl (by simp;omega) n (by omega)]
  simp [spool_group_k1]
inductive GoodD:Nat→List (List Int)→List TLine→Prop
  | nil (a:Nat):GoodD a [] []
  | cons (a:Nat) (g:List TLine) (D:List (List Int)) (ls:List TLine):shortL g→ctlL g→g.length≤4096→GoodD (a+g.length) D ls→GoodD a (gdata a g :: D) (g ++ ls)
theorem GoodD.split {D2:List (List Int)}:∀ {D1:List (List Int)} {a:Nat} {ls:List TLine},GoodD a (D1 ++ D2) ls→∃ l1 l2,ls=l1 ++ l2∧GoodD a D1 l1∧GoodD (a+l1.length) D2 l2
  | [],a,ls,h=>⟨[],ls,rfl,.nil a,by simpa using h⟩
  | d :: D1,a,ls,h=>by
    cases h with
    | cons _ g _ ls' h1 h2 h3 h4 =>
      obtain ⟨l1,l2,rfl,k1,k2⟩:=GoodD.split h4
      exact ⟨g ++ l1,l2,by simp,.cons a g D1 l1 h1 h2 h3 k1,by rw [List.length_append,← Nat.add_assoc];exact k2⟩
theorem lines_in (n:Nat) (hn:4096 < n) (t:List (List TRec)) (n_ v16 v17:Int) (rs:List TRec) (hr:rs.length≤100000):∀ (j k:Nat) (l ls:List TLine),rs.length - k=j→k≤rs.length→GoodD l.length ((rs.drop k).map (·.Data)) ls→l.length+ls.length≤4096→((l.length+ls.length:Nat):Int)≤n_→∀ f,j < f →
    loopF (fun (x:(List TLine)×Int)=>spool_Lines_b4 n t n_ v16 v17 rs (rs.length:Int) x.1 x.2) f (l,(k:Int))=some (.inr (l ++ ls)):=by
  intro j
  induction j with
  | zero =>
    intro k l ls hj hk hg hl hn_ f hf
    obtain ⟨g,rfl⟩:∃ g,f=g+1:=⟨f - 1,by omega⟩
    have hk':k=rs.length:=by omega
    subst hk'
    rw [List.drop_length] at hg
    cases hg
    refine loopF_done ?_
    have:decide ((rs.length:Int) < (rs.length:Int))=false:=by simp
    simp only [spool_Lines_b4,this,cond_false,List.append_nil]
  | succ j ih =>
    intro k l ls hj hk hg hl hn_ f hf
    obtain ⟨q,rfl⟩:∃ q,f=q+1:=⟨f - 1,by omega⟩
    have hk':k < rs.length:=by omega
    rw [List.drop_eq_getElem_cons hk',List.map_cons] at hg
    generalize hdd:(rs[k]).Data=dd at hg
    cases hg with
    | cons _ g D ls' h1 h2 h3 h4 =>
      rw [List.length_append] at hl hn_
      refine (loopF_step (x':=(l ++ g,((k+1:Nat):Int))) ?_).trans ?_
      · have:decide ((k:Int) < (rs.length:Int))=true:=decide_eq_true (by omega)
        simp only [spool_Lines_b4,this,cond_true,Int.toNat_natCast,gt_lt hk',hdd]
        rw [gd_pos _ (by omega),group_back n hn g l.length h1 h2 h3]
        simp only [Option.bind_some,Bool.not_true,Bool.false_eq_true,if_false]
        have e:(if (0:Int) > n_ then (0:Int) else n_)=n_:=if_neg (by omega)
        rw [e,wid (n:=((l.length:Nat):Int)+((g.length:Nat):Int)) (by omega),decide_eq_false (by omega),cond_false,gd_pos _ (by omega),wid (n:=(k:Int)+1) (by omega)]
        simp
      · rw [ih (k+1) (l ++ g) ls' (by omega) (by omega) (by rw [List.length_append];exact h4) (by rw [List.length_append];omega) (by rw [List.length_append];omega) q (by omega)]
        simp
theorem lines_out (n:Nat) (hn:100001 < n) (t:List (List TRec)) (n_:Int) (ht:t.length≤100000) (hts:∀ x∈t,x.length≤100000):∀ (j k:Nat) (l ls:List TLine),t.length - k=j→k≤t.length→GoodD l.length ((t.drop k).flatMap fun x=>x.map (·.Data)) ls→l.length+ls.length≤4096→((l.length+ls.length:Nat):Int)≤n_→∀ f,j < f →
    loopF (fun (x:(List TLine)×Int)=>spool_Lines_b2 n t n_ (t.length:Int) x.1 x.2) f (l,(k:Int))=some (.inr (l ++ ls)):=by
  intro j
  induction j with
  | zero =>
    intro k l ls hj hk hg hl hn_ f hf
    obtain ⟨g,rfl⟩:∃ g,f=g+1:=⟨f - 1,by omega⟩
    have hk':k=t.length:=by omega
    subst hk'
    rw [List.drop_length,List.flatMap_nil] at hg
    cases hg
    refine loopF_done ?_
    have:decide ((t.length:Int) < (t.length:Int))=false:=by simp
    simp only [spool_Lines_b2,this,cond_false,List.append_nil]
  | succ j ih =>
    intro k l ls hj hk hg hl hn_ f hf
    obtain ⟨q,rfl⟩:∃ q,f=q+1:=⟨f - 1,by omega⟩
    have hk':k < t.length:=by omega
    rw [List.drop_eq_getElem_cons hk',List.flatMap_cons] at hg
    obtain ⟨l1,l2,rfl,g1,g2⟩:=GoodD.split hg
    rw [List.length_append] at hl hn_
    have hin:=lines_in n (by omega) t n_ (t.length:Int) (k:Int) t[k] (hts _ (List.getElem_mem hk')) (t[k].length) 0 l l1 (by omega) (by omega) (by simpa using g1) (by omega) (by omega) n (by have:=hts _ (List.getElem_mem hk');omega)
    refine (loopF_step (x':=(l ++ l1,((k+1:Nat):Int))) ?_).trans ?_
    · have:decide ((k:Int) < (t.length:Int))=true:=decide_eq_true (by omega)
      simp only [spool_Lines_b2,this,cond_true,Int.toNat_natCast,gt_lt hk']
      rw [gd_pos _ (by omega)]
      have hin':loopF (fun (x:(List TLine)×Int)=>spool_Lines_b4 n t n_ (t.length:Int) (k:Int) t[k] (t[k].length:Int) x.1 x.2) n (l,0)=_:=hin
      rw [hin']
      simp only [Option.bind_some,spool_Lines_k3]
      rw [wid (n:=(k:Int)+1) (by omega)]
      simp
    · rw [ih (k+1) (l ++ l1) l2 (by omega) (by omega) (by rw [List.length_append];exact g2) (by rw [List.length_append];omega) (by rw [List.length_append];omega) q (by omega)]
      simp
theorem divF_all {α:Type} (l:List α) (cs:List Int) (room:Int) (hl:cs.length=l.length):∀ (q fr:Nat),l.length≤q+fr→(divF cs room q fr).flatMap (piece l)=l.drop fr
  | 0,fr,h=>by simp [divF,List.drop_eq_nil_of_le (show l.length≤fr by omega)]
  | q+1,fr,h=>by
    unfold divF
    by_cases c:fr < cs.length
    · rw [if_pos c,List.flatMap_cons]
      obtain ⟨m,hm⟩:∃ m,cs.length=m+1:=⟨cs.length - 1,by omega⟩
      have h1:fr < reachP cs fr cs.length fr room:=by rw [hm];exact reachP_gt cs fr m room c
      have h2:=reachP_le cs fr cs.length fr room (by omega)
      rw [divF_all l cs room hl q _ (by omega)]
      generalize reachP cs fr cs.length fr room=to at *
      unfold piece
      have:l.drop to=(l.drop fr).drop (to - fr):=by rw [List.drop_drop];congr 1;omega
      rw [this,List.take_append_drop]
    · rw [if_neg c,List.drop_eq_nil_of_le (by omega)]
      rfl
theorem divF_good (l:List TLine) (cs:List Int) (room:Int) (hl:cs.length=l.length) (hs:shortL l) (hc:ctlL l) (h4:l.length≤4096):∀ (q fr:Nat),l.length≤q+fr→fr≤l.length→GoodD fr ((divF cs room q fr).map fun e=>gdata e.1 (piece l e)) (l.drop fr)
  | 0,fr,h,_=>by rw [List.drop_eq_nil_of_le (show l.length≤fr by omega)];exact .nil _
  | q+1,fr,h,hfr=>by
    unfold divF
    by_cases c:fr < cs.length
    · rw [if_pos c,List.map_cons]
      obtain ⟨m,hm⟩:∃ m,cs.length=m+1:=⟨cs.length - 1,by omega⟩
      have h1:fr < reachP cs fr cs.length fr room:=by rw [hm];exact reachP_gt cs fr m room c
      have h2:=reachP_le cs fr cs.length fr room (by omega)
      have ih:=divF_good l cs room hl hs hc h4 q (reachP cs fr cs.length fr room) (by omega) (by omega)
      generalize reachP cs fr cs.length fr room=to at *
      have e:l.drop fr=piece l (fr,to) ++ l.drop to:=by
        unfold piece
        have:l.drop to=(l.drop fr).drop (to - fr):=by rw [List.drop_drop];congr 1;omega
        rw [this,List.take_append_drop]
      have hpl:(piece l (fr,to)).length=to - fr:=piece_len (by dsimp only;omega)
      rw [e]
      refine .cons fr (piece l (fr,to)) _ _ (fun x hx=>hs x (piece_mem hx)) (fun x hx=>hc x (piece_mem hx)) (by omega) ?_
      rw [hpl,show fr+(to - fr)=to by omega]
      exact ih
    · rw [if_neg c,List.drop_eq_nil_of_le (by omega)]
      exact .nil _
theorem numb_data (t:List TRec):(numb t).map (·.Data)=t.map (·.Data):=by
  apply List.ext_getElem
  · simp [numb]
  · intro i h1 h2;simp [numb]
theorem trkL_good (l:List TLine) (hs:shortL l) (hc:ctlL l) (h4:l.length≤4096):GoodD 0 ((trkL l).flatMap fun x=>x.map (·.Data)) l:=by
  have e:((trkL l).flatMap fun x=>x.map (·.Data))=(recsL l).map (·.Data):=by
    unfold trkL tracksR
    rw [List.flatMap_map]
    simp only [numb_data]
    have:=divF_all (recsL l) (List.map szRec (recsL l)) 2048 (by simp) (List.map szRec (recsL l)).length 0 (by simp)
    rw [List.drop_zero] at this
    conv=>rhs;rw [← this]
    rw [List.map_flatMap]
    rfl
  rw [e]
  have:=divF_good l (List.map szLine l) 1020 (by simp) hs hc h4 (List.map szLine l).length 0 (by simp) (by omega)
  rw [List.drop_zero] at this
  unfold recsL
  rw [List.map_map]
  exact this
theorem trkL_lens (l:List TLine) (h4:l.length≤4096):(trkL l).length≤4096∧∀ x∈trkL l,x.length≤4096:=by
  have hr:=recsL_len l
  constructor
  · unfold trkL tracksR
    rw [List.length_map]
    have:=divF_len (List.map szRec (recsL l)) 2048 (List.map szRec (recsL l)).length 0
    unfold divP
    rw [List.length_map] at *
    omega
  · intro x hx
    unfold trkL tracksR at hx
    obtain ⟨e,he,rfl⟩:=List.mem_map.1 hx
    rw [numb_len]
    have:=(divP_mem he).2
    rw [List.length_map] at this
    rw [piece_len (by omega)]
    omega
theorem same_rec (n:Nat) (r:TRec):spool_same n r r=some true:=by
  simp [spool_same,bytes_Equal,gd]
theorem eqf54 (n:Nat) (t:List TRec) (hn:t.length < n) (hl:t.length≤100000):slices_EqualFunc_f54_M1 n t t=some true:=by
  have h:=loop_any (body:=fun (x:Int)=>slices_EqualFunc_f54_M1_b2 n t t (t.length:Int) x) t (fun _=>false) (.inl false) (.inr ()) (fun k hk=>by
    have e1:decide ((k:Int) < (t.length:Int))=true:=decide_eq_true (by omega)
    simp only [slices_EqualFunc_f54_M1_b2,e1,cond_true,Int.toNat_natCast,same_rec,Option.bind_some]
    rw [gd_pos _ (by omega),gd_pos _ (by omega),wid (by omega)]
    simp) (by
    have e1:decide ((t.length:Int) < (t.length:Int))=false:=by simp
    simp only [slices_EqualFunc_f54_M1_b2,e1,cond_false]) hn
  unfold slices_EqualFunc_f54_M1
  rw [h]
  simp [slices_EqualFunc_f54_M1_k1]
theorem eqf52 (n:Nat) (t:List (List TRec)) (hn:100000 < n) (hl:t.length≤4096) (ht:∀ x∈t,x.length≤4096):slices_EqualFunc_f52_M1 n t t=some true:=by
  have h:=loop_any (body:=fun (x:Int)=>slices_EqualFunc_f52_M1_b2 n t t (t.length:Int) x) t (fun _=>false) (.inl false) (.inr ()) (fun k hk=>by
    have e1:decide ((k:Int) < (t.length:Int))=true:=decide_eq_true (by omega)
    have h2:=ht _ (List.getElem_mem hk)
    simp only [slices_EqualFunc_f52_M1_b2,e1,cond_true,Int.toNat_natCast,gt_lt hk,spool_Lines_1,eqf54 n t[k] (by omega) (by omega),Option.bind_some]
    rw [gd_pos _ (by omega),gd_pos _ (by omega),wid (by omega)]
    simp) (by
    have e1:decide ((t.length:Int) < (t.length:Int))=false:=by simp
    simp only [slices_EqualFunc_f52_M1_b2,e1,cond_false]) (n:=n) (by omega)
  unfold slices_EqualFunc_f52_M1
  rw [h]
  simp [slices_EqualFunc_f52_M1_k1]
theorem Lines_back (n:Nat) (hn:N0≤n) (l:List TLine) (hs:shortL l) (hc:ctlL l) (h4:l.length≤4096):spool_Lines n (trkL l) ((l.length:Nat):Int)=some (l,0):=by
  have hn0:4194304≤n:=hn
  obtain ⟨k1,k2⟩:=trkL_lens l h4
  have h:=lines_out n (by omega) (trkL l) ((l.length:Nat):Int) (by omega) (fun x hx=>by have:=k2 x hx;omega) (trkL l).length 0 [] l (by omega) (by omega) (by simpa using trkL_good l hs hc h4) (by simpa using h4) (by simp) n (by omega)
  have h':loopF (fun (x:(List TLine)×Int)=>spool_Lines_b2 n (trkL l) ((l.length:Nat):Int) ((trkL l).length:Int) x.1 x.2) n ([],0)=_:=h
  have c1:¬ l.length > 4096:=by omega
  have c2:l.any longT=false:=by
    rw [List.any_eq_false]
    intro x hx
    have:=hs x hx
    simp [longT];omega
  have c3:l.any badC=false:=by
    rw [List.any_eq_false]
    intro x hx
    have:=hc x hx
    have e1:decide (x.Ctl < 0)=false:=decide_eq_false (by omega)
    have e2:decide (x.Ctl > 255)=false:=decide_eq_false (by omega)
    simp [badC,e1,e2]
  have ht:tracksS l=(trkL l,0):=by
    unfold tracksS
    rw [if_neg c1,c2,c3]
    simp
  unfold spool_Lines
  rw [h']
  simp only [Option.bind_some,List.nil_append,spool_Lines_k1,Tracks_S n l hn,ht,bne_self_eq_false,Bool.false_eq_true,if_false,cond_false,Bool.not_false,eqf52 n (trkL l) (by omega) k1 k2,Bool.not_true]
  rw [gd_pos _ trivial]
end Go.Proofs.Ytkebegfopnlkhaa
/-
  ch. 39: New, Check, Put and Drop on areas whose tracks are each free or a file's.
-/
set_option maxRecDepth 100000
namespace Go.Proofs.Ytkebegfopnlkhaa
open Go.AE
def tks (files:List TFile):List Int:=files.flatMap fun f=>trks f.Extents
structure INV (N:Int) (F:List TExtent) (files:List TFile):Prop where
  n0:0≤N
  n1:N≤512
  nf:nf (-1) F
  val:∀ f∈files,f.Extents.all val=true
  nd:(trks F ++ tks files).Nodup
  mem:∀ k,k∈trks F ++ tks files↔0≤k∧k < N
theorem INV.chkN {N:Int} {F:List TExtent} {files:List TFile} (h:INV N F files):chk N (-1) F=true:=(chk_iff N F (-1)).2 ⟨h.nf,fun k hk=>((h.mem k).1 (by simp [hk])).2⟩
theorem INV.chk512 {N:Int} {F:List TExtent} {files:List TFile} (h:INV N F files):chk 512 (-1) F=true:=(chk_iff 512 F (-1)).2 ⟨h.nf,fun k hk=>by
  have:=((h.mem k).1 (by simp [hk])).2
  have:=h.n1
  omega⟩
theorem INV.flen {N:Int} {F:List TExtent} {files:List TFile} (h:INV N F files):F.length≤512:=by
  have h1:=len_le_trks (nf_val h.nf)
  have h2:=few (m:=512) (List.nodup_append.1 h.nd).1 (fun k hk=>by
    have:=(h.mem k).1 (by simp [hk]);have:=h.n1;omega)
  omega
theorem Free0 (m:Int) (h0:0≤m) (h1:m≤512):extent_Free N0 [] m=some (if m=0 then [] else [⟨0,m⟩]):=by
  have hv:extent_Valid N0 []=some true:=by decide +kernel
  have hs:extent_sorted N0 []=some []:=by
    obtain ⟨r,h,hp,_⟩:=sorted_eq N0 [] (by decide)
    rw [h,hp.eq_nil]
  have hl:loopF (fun (x:(List TExtent)×Int×Int)=>extent_Free_b3 N0 m [] ((([]:List TExtent).length:Nat):Int) x.1 x.2.1 x.2.2) N0 ([],0,0)=some ([],0):=by
    show loopF _ (4194303+1) _=_
    exact loopF_done rfl
  have e1:decide (m < 0)=false:=by simp;omega
  have e2:decide (m > 512)=false:=by simp;omega
  simp only [extent_Free,hv,Option.bind_some,e1,e2,Bool.not_true,Bool.false_eq_true,if_false,cond_false,hs,hl,extent_Free_k1,extent_Free_k2]
  by_cases c:m=0
  · subst c;rfl
  · have e3:decide (m > 0)=true:=by simp;omega
    rw [e3,cond_true,gd_pos _ (by decide),wid (by omega),if_neg c]
    simp
theorem New_val (m:Int) (h0:0≤m) (h1:m≤512):spool_New N0 m=some (⟨m,if m=0 then [] else [⟨0,m⟩]⟩,0):=by
  have e1:decide (m < 0)=false:=by simp;omega
  have e2:decide (m > 512)=false:=by simp;omega
  simp only [spool_New,e1,e2,Bool.false_eq_true,if_false,cond_false,Free0 m h0 h1,Option.bind_some]
theorem New_inv (m:Int) (h0:0≤m) (h1:m≤512):INV m (if m=0 then [] else [⟨0,m⟩]) []:=by
  by_cases c:m=0
  · subst c
    exact ⟨by omega,by omega,trivial,by simp,by simp [trks,tks],fun k=>by simp [trks,tks]⟩
  · rw [if_neg c]
    have hv:val ⟨0,m⟩=true:=(val_iff _).2 (by dsimp only;omega)
    refine ⟨h0,h1,⟨hv,by show (-1:Int) < 0;omega,trivial⟩,by simp,?_,fun k=>?_⟩
    · rw [trks_one];simp only [tks,List.flatMap_nil,List.append_nil];exact trk_nodup _
    · rw [trks_one];simp only [tks,List.flatMap_nil,List.append_nil,trk_mem];omega
theorem Check_ok {N:Int} {F:List TExtent} {files:List TFile} (h:INV N F files):spool_Check N0 ⟨N,F⟩=some 0:=by
  have hf:=h.flen
  have h0:=h.n0
  have h1:=h.n1
  have e1:decide (N < 0)=false:=by simp;omega
  have e2:decide (N > 512)=false:=by simp;omega
  simp only [spool_Check,e1,e2,Bool.false_eq_true,if_false,Check_eq N0 F N (by unfold N0;omega) (by omega),h.chkN,Option.isSome_some,Option.getD_some,Bool.not_true]
  rw [gd_pos _ (by simp)]
  rfl
end Go.Proofs.Ytkebegfopnlkhaa
/-
  ch. 39: releases and placements keep the areas.
-/
set_option maxRecDepth 100000
namespace Go.Proofs.Ytkebegfopnlkhaa
open Go.AE
theorem Give_val (n:Nat) (hn:N0≤n) (a b:List TExtent) (ha:a.length≤2097152) (hb:b.length≤2097152) (c1:chk 512 (-1) a=true) (c2:(trkF [] b).isSome=true) (hnd:(trks a ++ trks b).Nodup) :
    ∃ out,extent_Give n a b=some (out,0)∧nf (-1) out∧∀ k,k∈trks out↔k∈trks a∨k∈trks b:=by
  have hn0:4194304≤n:=hn
  simp only [extent_Give,Check_eq n a 512 (by omega) (by omega),Valid_eq n hn b (by omega),Overlap_eq n hn a b ha hb,Option.bind_some,Option.isSome_some,Option.getD_some]
  rw [gd_pos _ (by simp)]
  have hnf:=((chk_iff 512 a (-1)).1 c1).1
  have ha1:trkF [] a=some (trks a):=nf_trkF hnf
  obtain ⟨hvb,hndb⟩:=(trkF_isSome b).1 c2
  have hvab:(a ++ b).all val=true:=by rw [List.all_append,nf_val hnf,hvb];rfl
  have hnd2:(trks (a ++ b)).Nodup:=by rw [trks_app];exact hnd
  have c3:(trkF [] (a ++ b)).isSome=true:=(trkF_isSome (a ++ b)).2 ⟨hvab,hnd2⟩
  simp only [c1,c2,c3,ha1,Option.isSome_some,Bool.not_true,Bool.false_eq_true,if_false,bif_ite,Bool.and_self]
  obtain ⟨r,r1,r2,r3⟩:=sorted_eq n (a ++ b) (by rw [List.length_append];omega)
  have hrv:r.all val=true:=by rw [perm_all r2];exact hvab
  have hap:r.Pairwise apart:=(nodup_apart hrv r3).1 ((perm_trks r2).nodup_iff.2 hnd2)
  have hle:=len_le_trks hvab
  have hfw:=few (m:=512) hnd2 (trks_range hvab)
  have hrl:=r2.length_eq
  obtain ⟨g1,g2⟩:=mg_spec r [] trivial hrv hap (fun x hx=>by
    have:=(val_iff _).1 (List.all_eq_true.1 hrv x hx)
    show (-1:Int)≤x.At
    omega)
  simp only [Clone_eq n a (by omega),Option.bind_some,r1,Give_loop n r hrv (by omega) (by omega),extent_Give_k1]
  rw [gd_pos _ (by omega)]
  refine ⟨_,rfl,g1,fun k=>?_⟩
  rw [g2,(perm_trks r2).mem_iff,trks_app,List.mem_append]
  simp [trks]
theorem tks_app (A B:List TFile):tks (A ++ B)=tks A ++ tks B:=by simp [tks]
theorem tks_cons (f:TFile) (B:List TFile):tks (f :: B)=trks f.Extents ++ tks B:=by simp [tks]
theorem over_eq (N:Int) (F es:List TExtent) (hv:es.all val=true) (hN:∀ k∈trks es,k < N) (hl:es.length≤1048576):slices_ContainsFunc_f37_M1 N0 es N F=some false:=by
  have hp:es.any (fun x=>decide (x.At+x.Len > N))=false:=by
    rw [List.any_eq_false]
    intro x hx
    have h1:=(val_iff x).1 (List.all_eq_true.1 hv x hx)
    have h2:x.At+x.Len - 1∈trks es:=List.mem_flatMap.2 ⟨x,hx,trk_mem.2 (by omega)⟩
    have:=hN _ h2
    simp;omega
  obtain ⟨y,h1,h2⟩:=find_loop es (fun x=>decide (x.At+x.Len > N)) (body:=fun (x:Int)=>slices_IndexFunc_f65_M1_b2 N0 N F es (es.length:Int) x) (n:=N0)
    (fun k hk=>by
      have h1:decide ((k:Int) < (es.length:Int))=true:=by simp;omega
      have h2:(0:Int)≤(k:Int)∧(k:Int) < (es.length:Int):=by omega
      have h3:=(val_iff _).1 (List.all_eq_true.1 hv es[k] (List.getElem_mem hk))
      simp only [slices_IndexFunc_f65_M1_b2,h1,bif_ite,if_true,gd_pos _ h2,spool_Drop_1_M1,Option.bind_some,Int.toNat_natCast,gt_lt hk]
      rw [wid (by omega),wid (by omega)]
      by_cases hp:es[k].At+es[k].Len > N <;> simp [hp])
    (by simp [slices_IndexFunc_f65_M1_b2,bif_ite]) (by unfold N0;omega)
  simp only [slices_ContainsFunc_f37_M1,slices_IndexFunc_f65_M1,h1,Option.bind_some]
  rcases h2 with ⟨k,rfl,h⟩ | ⟨rfl,h⟩
  · rw [hp] at h;cases h
  · rfl
theorem Drop_ok {N:Int} {F:List TExtent} {A B:List TFile} {f:TFile} (h:INV N F (A ++ f :: B)):∃ F',spool_Drop N0 ⟨N,F⟩ f=some (⟨N,F'⟩,0)∧INV N F' (A ++ B):=by
  have hv:f.Extents.all val=true:=h.val f (by simp)
  have hnd:=h.nd
  rw [tks_app,tks_cons] at hnd
  have hm:∀ k,k∈trks F ++ (tks A ++ (trks f.Extents ++ tks B))↔0≤k∧k < N:=by
    have:=h.mem;rwa [tks_app,tks_cons] at this
  obtain ⟨p1,p2,p3⟩:=List.nodup_append.1 hnd
  obtain ⟨q1,q2,q3⟩:=List.nodup_append.1 p2
  obtain ⟨r1,r2,r3⟩:=List.nodup_append.1 q2
  have hn1:=h.n1
  have hrange:∀ k∈trks f.Extents,k < N:=fun k hk=>((hm k).1 (by simp [hk])).2
  have hfew:=few (m:=512) r1 (fun k hk=>by have:=(hm k).1 (by simp [hk]);omega)
  have hle:=len_le_trks hv
  have hfl:=h.flen
  have c2:(trkF [] f.Extents).isSome=true:=(trkF_isSome _).2 ⟨hv,r1⟩
  have hab:(trks F ++ trks f.Extents).Nodup:=List.nodup_append.2 ⟨p1,r1,fun a ha b hb=>p3 a ha b (by simp [hb])⟩
  obtain ⟨out,g1,g2,g3⟩:=Give_val N0 (Nat.le_refl _) F f.Extents (by omega) (by omega) h.chk512 c2 hab
  refine ⟨out,?_,h.n0,h.n1,g2,fun g hg=>h.val g (by simp at hg ⊢;rcases hg with hg | hg <;> simp [hg]),?_,fun k=>?_⟩
  · simp only [spool_Drop,Check_ok h,Option.bind_some,Valid_eq N0 (Nat.le_refl _) f.Extents (by omega),c2,Option.isSome_some,Option.getD_some,Bool.not_true]
    rw [gd_pos _ (by simp)]
    simp only [bne_self_eq_false,Bool.false_eq_true,if_false,cond_false,Bool.not_false]
    rw [gd_pos _ trivial,over_eq N F f.Extents hv hrange (by omega)]
    simp only [Option.bind_some,cond_false,g1,bne_self_eq_false]
  · rw [tks_app]
    refine List.nodup_append.2 ⟨(nf_asc g2).imp (fun h=>by omega),List.nodup_append.2 ⟨q1,r2,fun a ha b hb=>q3 a ha b (by simp [hb])⟩,?_⟩
    intro a ha b hb e
    subst e
    rcases (g3 a).1 ha with h1 | h1
    · exact p3 a h1 a (by simp at hb ⊢;rcases hb with hb | hb <;> simp [hb]) rfl
    · rcases List.mem_append.1 hb with hb | hb
      · exact q3 a hb a (by simp [h1]) rfl
      · exact r3 a h1 a hb rfl
  · rw [tks_app,← hm]
    simp only [List.mem_append,g3]
    constructor
    · rintro ((h | h) | h | h) <;> simp [h]
    · rintro (h | h | h | h) <;> simp [h]
theorem trkL_ne {l:List TLine} (h:l≠[]):trkL l≠[]:=by
  have d1:∀ (cs:List Int) (room:Int),cs≠[]→divP cs room≠[]:=by
    intro cs room hc
    cases cs with
    | nil=>exact absurd rfl hc
    | cons c cs=>simp [divP,divF]
  have h1:recsL l≠[]:=by
    unfold recsL
    intro e
    rw [List.map_eq_nil_iff] at e
    exact d1 _ _ (by simpa using h) e
  unfold trkL tracksR
  intro e
  rw [List.map_eq_nil_iff] at e
  exact d1 _ _ (by simpa using h1) e
theorem trkL_len (l:List TLine):(trkL l).length≤l.length:=by
  have h1:=divF_len (List.map szRec (recsL l)) 2048 (List.map szRec (recsL l)).length 0
  have h2:=recsL_len l
  unfold trkL tracksR divP
  simp only [List.length_map] at h1 ⊢
  omega
theorem Put_ok {N:Int} {F:List TExtent} {files:List TFile} (h:INV N F files) (l:List TLine) (hl:l.length≤4096) (h1:l.any longT=false) (h2:l.any badC=false) :
    ∃ r,spool_Put N0 ⟨N,F⟩ l=some r∧(r.2.2.2=7∨(r.2.2.2=0∧r.1.Tracks=N∧INV N r.1.Free (files ++ [r.2.1])∧(((trks r.2.1.Extents).length:Nat):Int)=((r.2.2.1.length:Nat):Int)∧r.2.1.Lines=((l.length:Nat):Int)∧r.2.1.Extents.length≤8)):=by
  have ht:tracksS l=(trkL l,0):=by
    unfold tracksS
    rw [if_neg (by omega),h1,h2]
    simp
  have hfl:=h.flen
  have htl:=trkL_len l
  simp only [spool_Put,Check_ok h,Option.bind_some,bne_self_eq_false,cond_false,Tracks_S N0 l (Nat.le_refl _),ht]
  by_cases c:l=[]
  · subst c
    have e:trkL []=[]:=rfl
    simp only [e,List.length_nil]
    refine ⟨_,by rw [show ((((0:Nat):Nat):Int) == 0)=true from rfl,cond_true,Clone_eq N0 F (by omega),Option.bind_some],.inr ⟨rfl,rfl,⟨h.n0,h.n1,h.nf,?_,?_,?_⟩,rfl,rfl,by simp⟩⟩
    · intro f hf
      rcases List.mem_append.1 hf with hf | hf
      · exact h.val f hf
      · simp only [List.mem_singleton] at hf;subst hf;rfl
    · have:=h.nd;rw [tks_app];simpa [tks,trks] using this
    · have:=h.mem;rw [tks_app];simpa [tks,trks] using this
  · have hne:=trkL_ne c
    have hpos:0 < (trkL l).length:=List.length_pos_iff.2 hne
    have e:((((trkL l).length:Nat):Int) == 0)=false:=by rw [beq_eq_false_iff_ne];omega
    simp only [e,cond_false]
    rcases Take_out N0 (Nat.le_refl _) F (((trkL l).length:Nat):Int) 8 (by omega) (by omega) with ⟨_,h3⟩ | ⟨_,v,h3,h4,h5,h6,h7,h8,h9⟩ | ⟨_,h3,_⟩
    · exact absurd ⟨⟨h.chk512,by omega⟩,by omega⟩ h3
    · refine ⟨_,by rw [h3,Option.bind_some,h4];rfl,.inr ⟨rfl,rfl,⟨h.n0,h.n1,h5,?_,?_,fun k=>?_⟩,h8,rfl,by dsimp only;omega⟩⟩
      · intro f hf
        rcases List.mem_append.1 hf with hf | hf
        · exact h.val f hf
        · simp only [List.mem_singleton] at hf;subst hf;exact h6
      · have hp:(trks F ++ tks files).Perm (trks v.2.1 ++ tks (files ++ [⟨v.1,((l.length:Nat):Int)⟩])):=by
          rw [tks_app]
          simp only [tks,List.flatMap_cons,List.flatMap_nil,List.append_nil]
          have:=(h7.symm.append_right (tks files))
          refine this.trans ?_
          rw [List.append_assoc]
          refine (List.perm_append_comm).trans ?_
          rw [List.append_assoc]
          exact List.Perm.refl _
        exact hp.nodup_iff.1 h.nd
      · rw [← h.mem k,tks_app]
        simp only [tks,List.flatMap_cons,List.flatMap_nil,List.append_nil,List.mem_append]
        have:=h7.mem_iff (a:=k)
        rw [List.mem_append] at this
        rw [← this]
        constructor
        · rintro (a | a | a) <;> simp [a]
        · rintro ((a | a) | a) <;> simp [a]
    · exact ⟨_,by rw [h3,Option.bind_some];rfl,.inl rfl⟩
end Go.Proofs.Ytkebegfopnlkhaa
/-
  ch. 39: each track is free or a file's (SpoolKeeps).
-/
set_option maxRecDepth 100000
namespace Go.Proofs.Ytkebegfopnlkhaa
open Go.AE
def cnt (T:List Int):List Int:=(List.range 600).map fun (i:Nat)=>((T.count (i:Int):Nat):Int)
theorem cnt_len (T:List Int):(cnt T).length=600:=by simp [cnt]
theorem cnt_gt (T:List Int) {k:Nat} (h:k < 600):gt (cnt T) k=((T.count (k:Int):Nat):Int):=by
  have:k < (cnt T).length:=by rw [cnt_len];exact h
  rw [gt_lt this];simp [cnt]
theorem cnt_nil:zreps 600 0=cnt []:=by decide +kernel
theorem cnt_set (T:List Int) {k:Nat} (h:k < 600) (hT:T.length≤1073741824):List.set (cnt T) k (IntKind.wrap .i64 (gt (cnt T) k+1))=cnt (T ++ [(k:Int)]):=by
  have hc:=List.count_le_length (a:=(k:Int)) (l:=T)
  rw [cnt_gt T h,wid (by omega)]
  apply List.ext_getElem
  · simp [cnt_len]
  · intro i h1 h2
    rw [List.getElem_set]
    have hi:i < 600:=by rw [cnt_len] at h2;exact h2
    by_cases e:k=i
    · subst e
      rw [if_pos rfl]
      simp [cnt,List.count_append]
    · rw [if_neg e]
      have:((k:Int) == (i:Int))=false:=by rw [beq_eq_false_iff_ne];omega
      simp only [cnt,List.getElem_map,List.getElem_range,List.count_append,List.count_singleton,this]
      simp
theorem mark_one (s:TSpace) (lists:List (List TExtent)) (a b c d:Int) (v:List TExtent) (x:TExtent) (T:List Int) (hx:val x=true) (hT:T.length≤536870912) :
    loopF (fun (y:(List Int)×Int)=>law39_whole_b9 N0 s x.At x.Len lists a b v c d y.1 y.2) N0 (cnt T,0)=some (.inr (cnt (T ++ trk x))):=by
  have hv:=(val_iff x).1 hx
  have hlen:=trk_length x
  have hl:=loop_list (σ:=List Int) (body:=fun (y:(List Int)×Int)=>law39_whole_b9 N0 s x.At x.Len lists a b v c d y.1 y.2) (trk x) (fun k T'=>(cnt T',(k:Int))) (fun T' k=>.inl (T' ++ [k])) (fun T'=>.inr (cnt T')) (fun k T'=>T'.length=T.length+k) (s:=T) rfl
    (fun k hk T' hI=>by
      have hk':(k:Int) < x.Len:=by omega
      have e1:decide ((k:Int) < x.Len)=true:=by simp;exact hk'
      have e2:decide ((k:Int) < 600)=true:=by simp;omega
      have e3:decide (x.At < 0)=false:=by simp;omega
      have e4:decide (x.At+(k:Int) ≥ 600)=false:=by simp;omega
      have hg:=trk_get (x:=x) hk
      obtain ⟨q,hq⟩:∃ q:Nat,x.At+(k:Int)=(q:Int):=⟨(x.At+(k:Int)).toNat,by omega⟩
      simp only [law39_whole_b9,e1,e2,e3,if_true,bif_ite,Bool.false_eq_true,if_false,hg]
      rw [wid (by omega),e4,hq]
      simp only [Bool.false_eq_true,if_false,Int.toNat_natCast]
      rw [gd_pos _ (by rw [cnt_len];omega),cnt_set T' (by omega) (by omega),wid (by omega)]
      rfl)
    (fun k hk T' hI s' he=>by
      simp only [Sum.inl.injEq] at he
      subst he
      simp;omega)
    (fun T' hI=>by
      have e1:decide (((trk x).length:Int) < x.Len)=false:=by simp;omega
      simp only [law39_whole_b9,e1,Bool.false_eq_true,if_false,bif_ite]) (n:=N0) (by unfold N0;omega)
  have e:∀ (l:List Int) (T:List Int),runL (fun T' k=>(.inl (T' ++ [k]):List Int ⊕ (Bool ⊕ List Int))) (fun T'=>.inr (cnt T')) l T = .inr (cnt (T ++ l)):=by
    intro l
    induction l with
    | nil=>intro T;simp [runL]
    | cons k l ih=>intro T;simp only [runL,ih];simp
  rw [e] at hl
  exact hl
theorem mark_list (s:TSpace) (lists:List (List TExtent)) (a b:Int) (v:List TExtent) (T:List Int) (hv:v.all val=true) (hvl:v.length≤1048576) (hT:T.length+(trks v).length≤536870912) :
    loopF (fun (y:(List Int)×Int)=>law39_whole_b7 N0 s lists a b v (v.length:Int) y.1 y.2) N0 (cnt T,0)=some (.inr (cnt (T ++ trks v))):=by
  have hl:=loop_list (σ:=List Int) (body:=fun (y:(List Int)×Int)=>law39_whole_b7 N0 s lists a b v (v.length:Int) y.1 y.2) v (fun k T'=>(cnt T',(k:Int))) (fun T' x=>.inl (T' ++ trk x)) (fun T'=>.inr (cnt T')) (fun k T'=>T'=T ++ trks (v.take k)) (s:=T) (by simp [trks])
    (fun k hk T' hI=>by
      have h1:decide ((k:Int) < (v.length:Int))=true:=by simp;omega
      have h2:(0:Int)≤(k:Int)∧(k:Int) < (v.length:Int):=by omega
      have hle:(trks (v.take k)).length≤(trks v).length:=by
        have:trks v=trks (v.take k) ++ trks (v.drop k):=by rw [← trks_app,List.take_append_drop]
        rw [this,List.length_append];omega
      have hT':T'.length≤536870912:=by rw [hI,List.length_append];omega
      simp only [law39_whole_b7,h1,bif_ite,if_true,gd_pos _ h2,Int.toNat_natCast,gt_lt hk,mark_one s lists a b (v.length:Int) (k:Int) v v[k] T' (List.all_eq_true.1 hv _ (List.getElem_mem hk)) hT',Option.bind_some,law39_whole_k8]
      rw [wid (by omega)]
      rfl)
    (fun k hk T' hI s' he=>by
      simp only [Sum.inl.injEq] at he
      subst he
      rw [hI,List.take_succ_eq_append_getElem hk,trks_app,trks_one,List.append_assoc])
    (fun T' hI=>by
      have e1:decide ((v.length:Int) < (v.length:Int))=false:=by simp
      simp only [law39_whole_b7,e1,bif_ite,Bool.false_eq_true,if_false]) (n:=N0) (by unfold N0;omega)
  have e:∀ (l:List TExtent) (T:List Int),runL (fun T' x=>(.inl (T' ++ trk x):List Int ⊕ (Bool ⊕ List Int))) (fun T'=>.inr (cnt T')) l T = .inr (cnt (T ++ trks l)):=by
    intro l
    induction l with
    | nil=>intro T;simp [runL,trks]
    | cons k l ih=>intro T;simp only [runL,ih,trks_cons,List.append_assoc]
  rw [e] at hl
  exact hl
theorem mark_lists (s:TSpace) (lists:List (List TExtent)) (hv:∀ v∈lists,v.all val=true) (hll:lists.length≤1000) (hT:(lists.flatMap trks).length≤512) :
    loopF (fun (y:(List Int)×Int)=>law39_whole_b5 N0 s lists (lists.length:Int) y.1 y.2) N0 (cnt [],0)=some (.inr (cnt (lists.flatMap trks))):=by
  have hl:=loop_list (σ:=List Int) (body:=fun (y:(List Int)×Int)=>law39_whole_b5 N0 s lists (lists.length:Int) y.1 y.2) lists (fun k T'=>(cnt T',(k:Int))) (fun T' x=>.inl (T' ++ trks x)) (fun T'=>.inr (cnt T')) (fun k T'=>T'=(lists.take k).flatMap trks) (s:=[]) (by simp)
    (fun k hk T' hI=>by
      have h1:decide ((k:Int) < (lists.length:Int))=true:=by simp;omega
      have h2:(0≤(k:Int)∧(k:Int) < (lists.length:Int))∧k < lists.length:=by omega
      have hsum:(lists.flatMap trks).length=((lists.take k).flatMap trks).length+((trks lists[k]).length+((lists.drop (k+1)).flatMap trks).length):=by
        have h3:lists=lists.take k ++ lists[k] :: lists.drop (k+1):=by rw [← List.drop_eq_getElem_cons hk,List.take_append_drop]
        have h4:=congrArg (fun l=>(l.flatMap trks).length) h3
        simp only [List.flatMap_append,List.flatMap_cons,List.length_append] at h4
        exact h4
      have hvk:=hv lists[k] (List.getElem_mem hk)
      have hlk:=len_le_trks hvk
      have hT':T'.length+(trks lists[k]).length≤536870912:=by rw [hI];omega
      simp only [law39_whole_b5,h1,bif_ite,if_true,Int.toNat_natCast]
      rw [gd_pos _ h2,gt_lt hk,mark_list s lists (lists.length:Int) (k:Int) lists[k] T' hvk (by omega) hT']
      simp only [Option.bind_some,law39_whole_k6]
      rw [wid (by omega)]
      rfl)
    (fun k hk T' hI s' he=>by
      simp only [Sum.inl.injEq] at he
      subst he
      rw [hI,List.take_succ_eq_append_getElem hk,List.flatMap_append]
      simp only [List.flatMap_cons,List.flatMap_nil,List.append_nil])
    (fun T' hI=>by
      have e1:decide ((lists.length:Int) < (lists.length:Int))=false:=by simp
      simp only [law39_whole_b5,e1,bif_ite,Bool.false_eq_true,if_false]) (n:=N0) (by unfold N0;omega)
  have e:∀ (l:List (List TExtent)) (T:List Int),runL (fun T' x=>(.inl (T' ++ trks x):List Int ⊕ (Bool ⊕ List Int))) (fun T'=>.inr (cnt T')) l T = .inr (cnt (T ++ l.flatMap trks)):=by
    intro l
    induction l with
    | nil=>intro T;simp [runL]
    | cons k l ih=>intro T;simp only [runL,ih,List.flatMap_cons,List.append_assoc]
  rw [e] at hl
  exact hl
theorem lists_loop (s:TSpace) (i:List Int) (files:List TFile) (F:List TExtent) (hl:files.length≤1000) :
    loopF (fun (x:(List (List TExtent))×Int)=>law39_whole_b10 N0 s i files (files.length:Int) x.1 x.2) N0 ([F],0)=some (F :: files.map (·.Extents)):=by
  have hl:=loop_list (σ:=List (List TExtent)) (body:=fun (x:(List (List TExtent))×Int)=>law39_whole_b10 N0 s i files (files.length:Int) x.1 x.2) files (fun k T'=>(T',(k:Int))) (fun T' f=>.inl (T' ++ [f.Extents])) (fun T'=>T') (fun k T'=>T'.length=k+1) (s:=[F]) rfl
    (fun k hk T' hI=>by
      have h1:decide ((k:Int) < (files.length:Int))=true:=by simp;omega
      have h2:(0:Int)≤(k:Int)∧(k:Int) < (files.length:Int):=by omega
      simp only [law39_whole_b10,h1,bif_ite,if_true,gd_pos _ h2,Int.toNat_natCast,gt_lt hk]
      rw [gd_pos _ (by omega),wid (by omega)]
      rfl)
    (fun k hk T' hI s' he=>by
      simp only [Sum.inl.injEq] at he
      subst he
      simp;omega)
    (fun T' hI=>by
      have e1:decide ((files.length:Int) < (files.length:Int))=false:=by simp
      simp only [law39_whole_b10,e1,bif_ite,Bool.false_eq_true,if_false]) (n:=N0) (by unfold N0;omega)
  have e:∀ (l:List TFile) (T:List (List TExtent)),runL (fun T' f=>(.inl (T' ++ [f.Extents]):List (List TExtent) ⊕ List (List TExtent))) (fun T'=>T') l T=T ++ l.map (·.Extents):=by
    intro l
    induction l with
    | nil=>intro T;simp [runL]
    | cons k l ih=>intro T;simp only [runL,ih];simp
  rw [e] at hl
  exact hl
theorem whole_ok {N:Int} {F:List TExtent} {files:List TFile} (h:INV N F files) (hl:files.length≤999):law39_whole N0 ⟨N,F⟩ files=some true:=by
  have hn0:=h.n0
  have hn1:=h.n1
  obtain ⟨T,hT⟩:∃ T,(F :: files.map (·.Extents)).flatMap trks=T:=⟨_,rfl⟩
  have hTe:T=trks F ++ tks files:=by rw [← hT];simp [tks,List.flatMap_map]
  have hnd:T.Nodup:=by rw [hTe];exact h.nd
  have hmem:∀ k,k∈T↔0≤k∧k < N:=by rw [hTe];exact h.mem
  have hlen:T.length≤512:=few (m:=512) hnd (fun k hk=>by have:=(hmem k).1 hk;omega)
  have hcnt:∀ k:Nat,T.count (k:Int)=if (k:Int) < N then 1 else 0:=by
    intro k
    by_cases c:(k:Int) < N
    · rw [if_pos c];rw [List.Nodup.count hnd,if_pos ((hmem _).2 ⟨by omega,c⟩)]
    · rw [if_neg c,List.count_eq_zero];intro hk;exact c ((hmem _).1 hk).2
  have hm:=mark_lists ⟨N,F⟩ (F :: files.map (·.Extents)) (by
    intro v hv
    rcases List.mem_cons.1 hv with rfl | hv
    · exact nf_val h.nf
    · obtain ⟨f,hf,rfl⟩:=List.mem_map.1 hv
      exact h.val f hf) (by simp;omega) (by rw [hT];exact hlen)
  have hb4:=loop_list (σ:=Unit) (body:=fun (x:Int)=>law39_whole_b4 N0 ⟨N,F⟩ (cnt T) ((600:Nat):Int) x) (List.range 600) (fun k _=>(k:Int)) (fun _ _=>.inl ()) (fun _=>.inr ()) (fun _ _=>True) (s:=()) trivial
    (fun k hk _ _=>by
      rw [List.length_range] at hk
      have h1:decide ((k:Int) < ((600:Nat):Int))=true:=by simp;omega
      have h2:(0≤(k:Int)∧(k:Int) < ((cnt T).length:Int))∧k < (cnt T).length:=by rw [cnt_len];omega
      simp only [law39_whole_b4,h1,bif_ite,if_true,Int.toNat_natCast]
      rw [gd_pos _ h2]
      simp only [cnt_gt T hk,hcnt k]
      rw [wid (by omega)]
      by_cases c:(k:Int) < N
      · simp [c]
      · simp [c])
    (fun _ _ _ _ _ _=>trivial)
    (fun _ _=>by simp [law39_whole_b4,bif_ite]) (n:=N0) (by rw [List.length_range];unfold N0;omega)
  have e:∀ l:List Nat,runL (fun (_:Unit) (_:Nat)=>(.inl ():Unit ⊕ (Bool ⊕ Unit))) (fun _=>.inr ()) l () = .inr ():=by
    intro l
    induction l with
    | nil=>rfl
    | cons a l ih=>simp only [runL,ih]
  rw [e] at hb4
  rw [hT] at hm
  simp only [law39_whole,cnt_nil,lists_loop ⟨N,F⟩ (cnt []) files F (by omega),Option.bind_some,law39_whole_k1]
  rw [gd_pos _ (by decide),hm]
  simp only [Option.bind_some,law39_whole_k2,cnt_len]
  have hb4':loopF (fun (x:Int)=>law39_whole_b4 N0 ⟨N,F⟩ (cnt T) ((600:Nat):Int) x) N0 0=some (.inr ()):=hb4
  rw [hb4']
  simp only [Option.bind_some,law39_whole_k3,Check_ok h]
  rfl
end Go.Proofs.Ytkebegfopnlkhaa
/-
  ch. 39: SpoolOwn, the law.
-/
set_option maxHeartbeats 1000000
set_option linter.unusedVariables false
set_option linter.unusedSimpArgs false
set_option maxRecDepth 100000
namespace Go.Proofs.Ytkebegfopnlkhaa
open Go.AE
theorem gt_set_self' {α:Type} [Inhabited α] (l:List α) (i:Nat) (x:α) (h:i < l.length):gt (List.set l i x) i=x:=by
  rw [gt_lt (by simpa using h)];simp
theorem gt_set_ne {α:Type} [Inhabited α] (l:List α) (i k:Nat) (x:α) (h:i≠k):gt (List.set l i x) k=gt l k:=by
  simp [gt,List.getD_eq_getElem?_getD,List.getElem?_set,h]
theorem rem_nat {a m:Int} (ha:0≤a∧a≤1000000) (hm:0 < m):∃ q:Nat,Int.tmod (IntKind.wrap .i64 a) m=(q:Int)∧(q:Int) < m:=by
  rw [wid (by omega)]
  have h1:=Int.tmod_nonneg m ha.1
  have h2:=Int.tmod_lt_of_pos a hm
  exact ⟨(Int.tmod a m).toNat,by omega,by omega⟩
theorem few_eq (n:Nat) (l:List TLine) (hn:N0≤n):∃ r,law39_Few n l=some r∧r.length≤300:=by
  have hn0:4194304≤n:=hn
  obtain ⟨y,h1,h2⟩:=loopF_inv (body:=fun (x:(List TLine)×Int)=>law39_Few_b2 n l x.1 x.2) (fun x=>0≤x.2∧x.2≤300∧(x.1.length:Int)=x.2) (fun x=>(300 - x.2).toNat) (fun y=>y.length≤300)
    (fun ⟨out,i⟩ ⟨hi1,hi2,hi3⟩=>by
      simp only at hi1 hi2 hi3 ⊢
      unfold law39_Few_b2
      by_cases c:(if (decide (i < (l.length:Int)))=true then (decide (i < 300)) else false)=true
      · have c':i < (l.length:Int)∧i < 300:=by
          simp only [Bool.if_false_right,Bool.and_eq_true,decide_eq_true_eq] at c;exact c
        left
        rw [c,cond_true,gd_pos _ (by omega),gd_pos _ (by split <;> omega),gd_pos _ (by omega),wid (by omega)]
        exact ⟨_,rfl,⟨by simp only;omega,by simp only;omega,by simp only [List.length_append,List.length_singleton];omega⟩,by simp only;omega⟩
      · rw [Bool.not_eq_true] at c
        right
        rw [c,cond_false]
        exact ⟨_,rfl,by omega⟩) n ([],0) (by simp) (by simp;omega)
  refine ⟨y,?_,h2⟩
  simp only [law39_Few,h1,Option.bind_some,law39_Few_k1]
def okLine (x:TLine):Prop:=x.Text.length≤132∧0≤x.Ctl∧x.Ctl≤255
theorem valid_ok (n:Nat) (l:List TLine) (hn:N0≤n):∃ r,law39_Valid n l=some r∧r.length≤300∧shortL r∧ctlL r:=by
  have hn0:4194304≤n:=hn
  obtain ⟨f,hf,hl⟩:=few_eq n l hn
  obtain ⟨y,h1,h2,h3⟩:=loopF_inv (body:=fun (x:(List TLine)×Int)=>law39_Valid_b2 n ((f.length:Nat):Int) x.1 x.2) (fun x=>0≤x.2∧x.2≤(f.length:Int)∧x.1.length=f.length∧∀ k:Nat,(k:Int) < x.2→okLine (gt x.1 k)) (fun x=>((f.length:Int) - x.2).toNat) (fun y=>y.length=f.length∧∀ k,k < f.length→okLine (gt y k))
    (fun ⟨out,i⟩ ⟨hi1,hi2,hi3,hi4⟩=>by
      simp only at hi1 hi2 hi3 hi4 ⊢
      unfold law39_Valid_b2
      by_cases c:i < (f.length:Int)
      · left
        have c0:(0≤i∧i < (out.length:Int)):=by omega
        have c1:i.toNat < out.length:=by omega
        simp only [gt_set_self' _ _ _ c1]
        rw [decide_eq_true c,cond_true,gd_pos _ ⟨c0,c1,c0,c1⟩,gd_pos _ ⟨c0,c1,c0,c1,by split <;> omega,c0,c1⟩,wid (n:=i+1) (by omega)]
        refine ⟨_,rfl,⟨by simp only;omega,by simp only;omega,by simp only [List.length_set];exact hi3,fun k hk=>?_⟩,by simp only;omega⟩
        simp only at hk ⊢
        by_cases e:i.toNat=k
        · subst e
          rw [gt_set_self' _ _ _ (by simpa using c1)]
          have hw:0≤IntKind.wrap .u64 (gt out i.toNat).Ctl:=by
            simp only [IntKind.wrap,IntKind.bits,IntKind.signed]
            simp
            omega
          have h1:=Int.tmod_nonneg 256 hw
          have h2:=Int.tmod_lt_of_pos (IntKind.wrap .u64 (gt out i.toNat).Ctl) (show (0:Int) < 256 by decide)
          refine ⟨?_,?_,?_⟩
          · simp only [List.length_take]
            split <;> omega
          · rw [wid (by omega)];exact h1
          · rw [wid (by omega)];exact Int.le_of_lt_add_one h2
        · rw [gt_set_ne _ _ _ _ e,gt_set_ne _ _ _ _ e]
          exact hi4 k (by omega)
      · right
        rw [decide_eq_false c,cond_false]
        exact ⟨_,rfl,hi3,fun k hk=>hi4 k (by omega)⟩) n (f,0) ⟨by simp,by simp,rfl,fun k hk=>by simp at hk;omega⟩ (by simp;omega)
  have hall:∀ x∈y,okLine x:=by
    intro x hx
    obtain ⟨i,hi,rfl⟩:=List.mem_iff_getElem.1 hx
    have:=h3 i (by omega)
    rw [gt_lt hi] at this
    exact this
  refine ⟨y,?_,by omega,fun x hx=>(hall x hx).1,fun x hx=>(hall x hx).2⟩
  simp only [law39_Valid,hf,h1,Option.bind_some,law39_Valid_k1]
theorem equal_refl (n:Nat) (a:List TLine) (hl:a.length≤2097152) (hn:2097152 < n):law39_equal n a a=some true:=by
  have h:=loop_any (body:=fun (x:Int)=>law39_equal_b2 n a a (a.length:Int) x) a (fun _=>false) (.inl false) (.inr ()) (fun k hk=>by
    have e1:decide ((k:Int) < (a.length:Int))=true:=decide_eq_true (by omega)
    simp only [law39_equal_b2,e1,cond_true,Int.toNat_natCast]
    rw [gd_pos _ (by omega),wid (by omega)]
    simp) (by
    have e1:decide ((a.length:Int) < (a.length:Int))=false:=by simp
    simp only [law39_equal_b2,e1,cond_false]) (n:=n) (by omega)
  unfold law39_equal
  rw [h]
  simp [law39_equal_k1]
def dataOk (t:List (List TRec)):Prop:=t.length≤4096∧∀ x∈t,x.length≤4096∧∀ r∈x,r.Data.length≤1000000
theorem data_loop (n:Nat) (hn:N0≤n) (l v:List TLine) (t u:List (List TRec)) (v86 v94:Int) (i k:Nat) (hi:i < t.length) (hk:k < t[i].length) (hd:(t[i][k]).Data.length≤1000000) :
    loopF (fun (x:Int)=>law39_SpoolOwn_b7 n l v t u (i:Int) (k:Int) v86 v94 (((t[i][k]).Data).length:Int) x) n 0=some ():=by
  have hn0:4194304≤n:=hn
  have h:=loop_any (body:=fun (x:Int)=>law39_SpoolOwn_b7 n l v t u (i:Int) (k:Int) v86 v94 (((t[i][k]).Data).length:Int) x) (t[i][k]).Data (fun _=>false) () () (fun j hj=>by
    have e1:decide ((j:Int) < (((t[i][k]).Data).length:Int))=true:=decide_eq_true (by omega)
    simp only [law39_SpoolOwn_b7,e1,cond_true,Int.toNat_natCast,gt_lt hi,gt_lt hk]
    rw [gd_pos _ (by omega),wid (by omega)]
    simp) (by
    have e1:decide ((((t[i][k]).Data).length:Int) < (((t[i][k]).Data).length:Int))=false:=by simp
    simp only [law39_SpoolOwn_b7,e1,cond_false]) (n:=n) (by omega)
  rw [h]
theorem rec_loop (n:Nat) (hn:N0≤n) (l v:List TLine) (t u:List (List TRec)) (v86:Int) (i:Nat) (hi:i < t.length) (hx:t[i].length≤4096) (hd:∀ r∈t[i],r.Data.length≤1000000) :
    loopF (fun (x:Int)=>law39_SpoolOwn_b5 n l v t u (i:Int) v86 (t[i].length:Int) x) n 0=some ():=by
  have hn0:4194304≤n:=hn
  have h:=loop_any (body:=fun (x:Int)=>law39_SpoolOwn_b5 n l v t u (i:Int) v86 (t[i].length:Int) x) t[i] (fun _=>false) () () (fun k hk=>by
    have e1:decide ((k:Int) < (t[i].length:Int))=true:=decide_eq_true (by omega)
    simp only [law39_SpoolOwn_b5,e1,cond_true,Int.toNat_natCast,gt_lt hi,gt_lt hk]
    rw [gd_pos _ (by omega),data_loop n hn l v t u v86 (t[i].length:Int) i k hi hk (hd _ (List.getElem_mem hk))]
    simp only [Option.bind_some,law39_SpoolOwn_k6]
    rw [wid (by omega)]
    simp) (by
    have e1:decide ((t[i].length:Int) < (t[i].length:Int))=false:=by simp
    simp only [law39_SpoolOwn_b5,e1,cond_false]) (n:=n) (by omega)
  rw [h]
theorem trk_loop (n:Nat) (hn:N0≤n) (l v:List TLine) (t u:List (List TRec)) (ht:dataOk t) :
    loopF (fun (x:Int)=>law39_SpoolOwn_b3 n l v t u (t.length:Int) x) n 0=some ():=by
  have hn0:4194304≤n:=hn
  have hl:=ht.1
  have h:=loop_any (body:=fun (x:Int)=>law39_SpoolOwn_b3 n l v t u (t.length:Int) x) t (fun _=>false) () () (fun i hi=>by
    have e1:decide ((i:Int) < (t.length:Int))=true:=decide_eq_true (by omega)
    have hx:=ht.2 _ (List.getElem_mem hi)
    simp only [law39_SpoolOwn_b3,e1,cond_true,Int.toNat_natCast,gt_lt hi]
    rw [gd_pos _ (by omega),rec_loop n hn l v t u (t.length:Int) i hi hx.1 hx.2]
    simp only [Option.bind_some,law39_SpoolOwn_k4]
    rw [wid (by omega)]
    simp) (by
    have e1:decide ((t.length:Int) < (t.length:Int))=false:=by simp
    simp only [law39_SpoolOwn_b3,e1,cond_false]) (n:=n) (by omega)
  rw [h]
theorem back_loop (n:Nat) (l v:List TLine) (s:Int) (s1:List TExtent) (a:Int) (a1 f1:List TExtent) (f2:Int) (t u:List (List TRec)) (b:Int) (row:List TExtent) (hn:N0≤n) (hl:row.length≤100000) :
    loopF (fun (x:(List TExtent)×Int)=>law39_SpoolOwn_b8 n l v s s1 a a1 f1 f2 t u b ((row.length:Nat):Int) x.1 x.2) n (row,0)=some ():=by
  have hn0:4194304≤n:=hn
  obtain ⟨y,h,_⟩:=loopF_inv (body:=fun (x:(List TExtent)×Int)=>law39_SpoolOwn_b8 n l v s s1 a a1 f1 f2 t u b ((row.length:Nat):Int) x.1 x.2) (fun x=>0≤x.2∧x.2≤(row.length:Int)∧x.1.length=row.length) (fun x=>((row.length:Int) - x.2).toNat) (fun _=>True)
    (fun ⟨out,i⟩ ⟨hi1,hi2,hi3⟩=>by
      simp only at hi1 hi2 hi3 ⊢
      unfold law39_SpoolOwn_b8
      by_cases c:i < ((row.length:Nat):Int)
      · left
        rw [decide_eq_true c,cond_true,gd_pos _ (by omega),wid (n:=i+1) (by omega)]
        exact ⟨_,rfl,⟨by simp only;omega,by simp only;omega,by simp only [List.length_set];exact hi3⟩,by simp only;omega⟩
      · right
        rw [decide_eq_false c,cond_false]
        exact ⟨_,rfl,trivial⟩) n (row,0) (by simp) (by simp;omega)
  exact h
theorem gdata_len (a:Nat) (g:List TLine) (hs:shortL g):(gdata a g).length≤4+134 * g.length:=by
  have h:∀ g:List TLine,shortL g→(g.flatMap lb).length≤134 * g.length:=by
    intro g
    induction g with
    | nil=>intro _;simp
    | cons x g ih =>
      intro hs
      have h1:=hs x (by simp)
      have h2:=ih (fun y hy=>hs y (by simp [hy]))
      rw [List.flatMap_cons,List.length_append,lb_len,List.length_cons]
      omega
  unfold gdata
  rw [List.length_append,idx_len]
  have:=h g hs
  omega
theorem trkL_data (l:List TLine) (hs:shortL l) (h4:l.length≤4096):dataOk (trkL l):=by
  obtain ⟨k1,k2⟩:=trkL_lens l h4
  refine ⟨k1,fun x hx=>⟨k2 x hx,fun r hr=>?_⟩⟩
  unfold trkL tracksR at hx
  obtain ⟨e,he,rfl⟩:=List.mem_map.1 hx
  have hd:r.Data∈(numb (piece (recsL l) e)).map (·.Data):=List.mem_map.2 ⟨r,hr,rfl⟩
  rw [numb_data] at hd
  obtain ⟨q,hq,hqd⟩:=List.mem_map.1 hd
  have hq:=piece_mem hq
  unfold recsL at hq
  obtain ⟨e2,he2,rfl⟩:=List.mem_map.1 hq
  rw [← hqd]
  have h2:=(divP_mem he2).2
  rw [List.length_map] at h2
  have h3:=gdata_len e2.1 (piece l e2) (fun y hy=>hs y (piece_mem hy))
  rw [piece_len h2] at h3
  show (gdata e2.1 (piece l e2)).length≤1000000
  omega
theorem Put_trk {N:Int} {F:List TExtent} {files:List TFile} (h:INV N F files) (l:List TLine) (hl:l.length≤4096) (h1:l.any longT=false) (h2:l.any badC=false) {r:TSpace×TFile×(List (List TRec))×Int} (hr:spool_Put N0 ⟨N,F⟩ l=some r):r.2.2.1=[]∨r.2.2.1=trkL l:=by
  have ht:tracksS l=(trkL l,0):=by
    unfold tracksS
    rw [if_neg (by omega),h1,h2]
    simp
  simp only [spool_Put,Check_ok h,Option.bind_some,bne_self_eq_false,cond_false,Tracks_S N0 l (Nat.le_refl _),ht] at hr
  cases c:((((trkL l).length:Nat):Int) == 0) with
  | true =>
    rw [c,cond_true] at hr
    obtain ⟨q,_,hr⟩:=bind_some hr
    cases hr
    exact .inl rfl
  | false =>
    rw [c,cond_false] at hr
    obtain ⟨q,_,hr⟩:=bind_some hr
    cases c2:(q.2.2 != 0) with
    | true=>rw [c2,cond_true] at hr;cases hr;exact .inl rfl
    | false=>rw [c2,cond_false] at hr;cases hr;exact .inr rfl
theorem Own_true (l:List TLine) (n_:Int) (hn:0≤n_∧n_≤65535):law39_SpoolOwn N0 l n_=some true:=by
  obtain ⟨v,hv,v1,v2,v3⟩:=valid_ok N0 l (Nat.le_refl _)
  obtain ⟨q,hq,hq2⟩:=rem_nat (a:=n_) (m:=513) (by omega) (by decide)
  have c2:v.any longT=false:=by
    rw [List.any_eq_false]
    intro x hx
    have:=v2 x hx
    simp [longT];omega
  have c3:v.any badC=false:=by
    rw [List.any_eq_false]
    intro x hx
    have:=v3 x hx
    have e1:decide (x.Ctl < 0)=false:=decide_eq_false (by omega)
    have e2:decide (x.Ctl > 255)=false:=decide_eq_false (by omega)
    simp [badC,e1,e2]
  have ht:tracksS v=(trkL v,0):=by
    unfold tracksS
    rw [if_neg (by omega),c2,c3]
    simp
  have hinv:=New_inv (q:Int) (by omega) (by omega)
  obtain ⟨r,hr,hcase⟩:=Put_ok hinv v (by omega) c2 c3
  simp only [law39_SpoolOwn,works_N0,Option.bind_some,Bool.not_true,cond_false,hv,hq,New_val (q:Int) (by omega) (by omega),hr]
  rcases hcase with e7 | ⟨e0,eN,hI,_,_,_⟩
  · rw [e7];rfl
  · rw [e0]
    obtain ⟨⟨T,F'⟩,f,t,e⟩:=r
    simp only at e0 eN hI ⊢
    subst eN
    have htr:=Put_trk hinv v (by omega) c2 c3 hr
    simp only at htr
    have hdat:dataOk t:=by
      rcases htr with rfl | rfl
      · exact ⟨by simp,fun x hx=>by simp at hx⟩
      · exact trkL_data v v2 (by omega)
    obtain ⟨F2,hd,hI2⟩:=Drop_ok (A:=[]) (B:=[]) (by simpa using hI)
    have hwh:=whole_ok (files:=[f]) (by simpa using hI) (by simp)
    simp only [bne_self_eq_false,cond_false,Tracks_S N0 v (Nat.le_refl _),ht,Option.bind_some,hd]
    rw [back_loop N0 _ _ _ _ _ _ _ _ _ _ _ _ (Nat.le_refl _) (by have:=hI2.flen;omega)]
    simp only [Option.bind_some]
    have hlb:=Lines_back N0 (Nat.le_refl _) v v2 v3 (by omega)
    have heq:=equal_refl N0 v (by omega) (by unfold N0;omega)
    have htl:=trk_loop N0 (Nat.le_refl _) l v t (trkL v) hdat
    have fin:law39_SpoolOwn_k2 N0 l v (trkL v)=some true:=by
      simp only [law39_SpoolOwn_k2,hlb,Option.bind_some,beq_self_eq_true,cond_true,hv,heq]
      simp [gd]
    by_cases cq:(q:Int)=0
    · rw [if_pos cq]
      simp only [law39_SpoolOwn_k1,List.length_nil]
      have e3:decide (((0:Nat):Int) > 0)=false:=by decide
      simp only [e3,Bool.false_eq_true,if_false,cond_false,Bool.not_false,false_implies,hwh,Option.bind_some,Bool.not_true,htl,fin]
      simp [gd]
    · rw [if_neg cq]
      simp only [law39_SpoolOwn_k1,List.length_singleton]
      have e3:decide (((1:Nat):Int) > 0)=true:=by decide
      have e4:(gt [(⟨0,(q:Int)⟩:TExtent)] 0).At=0:=rfl
      simp only [e3,e4,if_true,bne_self_eq_false,Bool.false_eq_true,cond_false,Bool.not_false,hwh,Option.bind_some,Bool.not_true,htl,fin]
      simp [gd]
theorem p_law39_SpoolOwn (x0:List TLine) (x1:Int) (hc:CanL Try.prog [.int .u16] [.int x1]):law39_SpoolOwn N0 x0 x1=some true:=by
  refine Own_true x0 x1 ?_
  have h0:=hc.2 0 (by decide)
  have h1:Go.AE.Can Try.prog (Kd.int .u16) (C.int x1):=h0
  cases h1 with
  | int _ _ hr =>
    have e1:IntKind.u16.min=0:=by decide
    have e2:IntKind.u16.max=65535:=by decide
    simp only [InR,e1,e2] at hr;omega
end Go.Proofs.Ytkebegfopnlkhaa
