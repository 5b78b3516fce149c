/- Text. -/
import Derived.Test.YtcbcdjincgclaaaWX
set_option linter.unusedSimpArgs false
set_option linter.unusedVariables false
set_option maxHeartbeats 1000000
set_option linter.unusedVariables false
set_option linter.unusedSimpArgs false
set_option maxRecDepth 100000
namespace Go.Proofs.Ytcbcdjincgclaaa
open Go.AE
theorem filled_val (n:Nat) (hn:4194304≤n) (c:TCase):∃ S K,law33_Case__filled_M1 n c=some (S,K,S,K)∧SI S K∧law33_Case__blocks n c=some (S.length:Int):=by
  obtain ⟨q,q1,q2,hq⟩:=blocks_val n c
  obtain ⟨n1,n2⟩:=new_val n q q1 q2
  have hSI:SI (zreps (2048 * q) (0:Int)) (zreps q 0):=⟨by rw [zreps_len];omega,by rw [zreps_len];omega,by rw [zreps_len,zreps_len]⟩
  obtain ⟨b,hb,_⟩:=loopF_inv (body:=fun (x:(List Int)×Int)=>law33_Case__filled_M1_b2 n (2048 * (q:Int)) (zreps (2048 * q) 0) (zreps q 0) (zreps (2048 * q) 0) (zreps q 0) x.1 x.2) (fun x=>x.1.length=2048 * q∧0≤x.2) (fun x=>(2048 * (q:Int) - x.2).toNat) (fun _=>True) (fun x hx=>by
    obtain ⟨b,i⟩:=x
    simp only at hx ⊢
    by_cases cc:i < 2048 * (q:Int)
    · refine .inl ⟨((List.set b (Int.toNat i) (IntKind.wrap .u8 ((IntKind.wrap .i64 (1+(Int.tmod i 7)))))),i+1),?_,⟨by simp only [List.length_set];exact hx.1,by simp only;omega⟩,by simp only;omega⟩
      unfold law33_Case__filled_M1_b2
      rw [decide_eq_true cc,cond_true,gd_pos _ ⟨by omega,by omega⟩,wid (n:=i+1) (by omega)]
    · refine .inr ⟨b,?_,trivial⟩
      unfold law33_Case__filled_M1_b2
      rw [decide_eq_false cc,cond_false]) n (zreps (2048 * q) 0,0) ⟨by simp only;rw [zreps_len],by simp⟩ (by simp only;omega)
  refine ⟨putP (zreps (2048 * q) 0) 0 b,zreps q 0,?_,⟨hSI.1,hSI.2.1,by rw [putP_len];exact hSI.2.2⟩,by rw [hq,putP_len,zreps_len];simp⟩
  have e1:(2048 * (q:Int)).toNat=2048 * q:=by omega
  unfold law33_Case__filled_M1
  rw [hq,Option.bind_some,n1,Option.bind_some,n2,Option.bind_some]
  simp only [bne_self_eq_false,cond_false,Bool.not_false,gd_t]
  rw [gd_pos _ (by omega),e1,hb,Option.bind_some]
  unfold law33_Case__filled_M1_k1
  rw [putW n hSI,Option.bind_some,putR n (by omega) hSI,Option.bind_some]
theorem can_i64 {x:Int} (h:Go.AE.Can Try.prog (Kd.int .i64) (C.int x)):x < 9223372036854775808:=by
  cases h with
  | int _ _ hr =>
    have e2:IntKind.i64.max=9223372036854775807:=by decide
    simp only [InR,e2] at hr;omega
end Go.Proofs.Ytcbcdjincgclaaa
/-
  ch. 33: FetchHolds.
-/
set_option maxHeartbeats 1000000
set_option linter.unusedVariables false
set_option linter.unusedSimpArgs false
set_option maxRecDepth 100000
namespace Go.Proofs.Ytcbcdjincgclaaa
open Go.AE
def Held (m:TLoad) (a:Int) (s:List Int) (k:Int):Prop:=∀ i:Nat,(i:Int) < (gt m.Segments k.toNat).Len→gt s ((a+(gt m.Segments k.toNat).Origin).toNat+i)=gt (txt m a) ((gt m.Segments k.toNat).From.toNat+i)
section
variable {n:Nat} {m:TLoad} (hG:Good n m) (hV:Valid n m) {a:Int} (a0:0≤a) (a1:a≤65536)
include hG hV a0 a1
theorem held_ld {s:List Int} {g:Int} (g0:0≤g) (g1:g < m.Segments.length) (hf:a+(gt m.Segments g.toNat).Origin+(gt m.Segments g.toNat).Len≤s.length):Held m a (ldP m a s g) g:=by
  intro i hi
  obtain ⟨o1,o2,o3,o4,o5,o6,o7⟩:=hV.o g0 g1
  rw [gt_ldP hG hV a0 a1 g0 g1 hf,if_pos (by omega)]
  congr 1
  omega
theorem held_keep {s:List Int} {g k:Int} (g0:0≤g) (g1:g < m.Segments.length) (k0:0≤k) (k1:k < m.Segments.length) (hf:a+(gt m.Segments g.toNat).Origin+(gt m.Segments g.toNat).Len≤s.length) (ho:ov m k g=false) (h:Held m a s k):Held m a (ldP m a s g) k:=by
  intro i hi
  obtain ⟨o1,o2,o3,o4,o5,o6,o7⟩:=hV.o g0 g1
  obtain ⟨p1,p2,p3,p4,p5,p6,p7⟩:=hV.o k0 k1
  unfold ov at ho
  rw [decide_eq_false_iff_not] at ho
  rw [gt_ldP hG hV a0 a1 g0 g1 hf,if_neg (by omega),h i hi]
theorem held_fold {k:Int} (k0:0≤k) (k1:k < m.Segments.length):∀ (F:List Int) (s:List Int),(∀ f∈F,0≤f∧f < (m.Segments.length:Int)∧a+(gt m.Segments f.toNat).Origin+(gt m.Segments f.toNat).Len≤s.length)→(∀ f∈F,f=k∨ov m k f=false)→(k∈F∨Held m a s k)→Held m a (F.foldl (ldP m a) s) k
  | [],s,_,_,h=>by
    rcases h with h | h
    · simp at h
    · exact h
  | g :: F,s,hr,ho,h=>by
    obtain ⟨g0,g1,g2⟩:=hr g (by simp)
    rw [List.foldl_cons]
    refine held_fold k0 k1 F (ldP m a s g) (fun f hf=>by rw [ldP_len];exact hr f (by simp [hf])) (fun f hf=>ho f (by simp [hf])) ?_
    by_cases e:g=k
    · right;rw [← e];exact held_ld hG hV a0 a1 g0 g1 g2
    · rcases h with h | h
      · rcases List.mem_cons.1 h with h | h
        · exact absurd h.symm e
        · exact .inl h
      · right
        rcases ho g (by simp) with h' | h'
        · exact absurd h' e
        · exact held_keep hG hV a0 a1 g0 g1 k0 k1 g2 h' h
end
structure HInv (n:Nat) (m:TLoad) (a:Int) (k s l:List Int):Prop where
  si:SI s k
  fit:∃ z,fetch_Size n m=some z∧a+z≤s.length
  len:l.length≤2097154
  rng:∀ y∈l,0≤y∧y < (m.Segments.length:Int)
  held:∀ y∈l,Held m a s y
theorem hinv_seg {n:Nat} {m:TLoad} (hG:Good n m) (hV:Valid n m) {a:Int} (a0:0≤a) (a1:a≤65536) {k s l:List Int} (h:HInv n m a k s l) {x:Int} (x0:0≤x) (x1:x < m.Segments.length):HInv n m a k (newS m a l (pathM m n x) s) (newL m l (pathM m n x)):=by
  have hP:=pathOk hV n x (by omega) x1
  have hl':(newL m l (pathM m n x)).length≤64:=Nat.le_trans (ascOf_len _ _) hV.s64
  have e:(newS m a l (pathM m n x) s).length=s.length:=fold_len _ _
  obtain ⟨z,z1,z2⟩:=h.fit
  obtain ⟨z',y1,_,y3,y4,y5⟩:=size_ge hG hV
  have:z'=z:=Option.some.inj (y1.symm.trans z1)
  subst this
  have hr:∀ y∈newL m l (pathM m n x),0≤y∧y < (m.Segments.length:Int)∧keepB m l (freshOf l (pathM m n x)) (pathM m n x) y.toNat=true:=fun y hy=>mem_ascOf.1 hy
  refine ⟨⟨h.si.1,h.si.2.1,by rw [e];exact h.si.2.2⟩,⟨z',y1,by rw [e];exact z2⟩,by omega,fun y hy=>⟨(hr y hy).1,(hr y hy).2.1⟩,fun y hy=>?_⟩
  obtain ⟨r0,r1,r2⟩:=hr y hy
  have ey:((y.toNat:Nat):Int)=y:=by omega
  unfold keepB keepL at r2
  rw [ey,Bool.or_eq_true,decide_eq_true_eq,decide_eq_true_eq] at r2
  unfold newS
  have hF:∀ f∈freshOf l (pathM m n x),0≤f∧f < (m.Segments.length:Int)∧a+(gt m.Segments f.toNat).Origin+(gt m.Segments f.toNat).Len≤s.length:=by
    intro f hf
    have:=hP.rng f (mem_fresh.1 hf).1
    have:=y5 f this.1 this.2
    exact ⟨by omega,by omega,by omega⟩
  refine held_fold hG hV a0 a1 r0 r1 _ s hF ?_ ?_
  · intro f hf
    rcases r2 with ⟨q1,q2⟩ | q1
    · exact .inr (q2 f hf)
    · by_cases e:f=y
      · exact .inl e
      · exact .inr (hP.ne y q1 f (mem_fresh.1 hf).1 (fun e'=>e e'.symm))
  · by_cases c:y∈l
    · exact .inr (h.held y c)
    · left
      rcases r2 with ⟨q1,_⟩ | q1
      · exact absurd q1 c
      · exact mem_fresh.2 ⟨q1,c⟩
theorem holds_loop {n:Nat} {c:TCase} (hG:Good n c.M) (hV:Valid n c.M) (a0:0≤c.At) (a1:c.At≤65536) (hL:c.L.length≤2097152) (k s l text:List Int) (f:Int) (h:HInv n c.M c.At k s l) :
    ∃ z,loopF (fun (x:(List Int)×(List Int)×Int)=>law33_FetchHolds_b4 n c k text f x.1 x.2.1 x.2.2) n (s,l,0)=some z∧HInv n c.M c.At k z.1 z.2:=by
  have hn:=hG.hn
  refine loopF_inv (fun x=>∃ j:Nat,x.2.2=(j:Int)∧j≤c.L.length∧HInv n c.M c.At k x.1 x.2.1) (fun x=>c.L.length - x.2.2.toNat) (fun (z:List Int×List Int)=>HInv n c.M c.At k z.1 z.2) (fun x hx=>?_) n (s,l,0) ⟨0,rfl,by omega,h⟩ (by simp only;omega)
  obtain ⟨s,l,j'⟩:=x
  obtain ⟨j,e,hj,h⟩:=hx
  simp only at e h ⊢
  subst e
  by_cases cc:(j:Int) < (c.L.length:Int)
  · rcases seg_cases hG h.si c.At (gt c.L j) l h.len (by omega) with ⟨r,r0,r1,_⟩ | ⟨_,_,_,_,x0,x1,_,r1,_⟩
    · refine .inl ⟨(s,l,(j:Int)+1),?_,⟨j+1,by simp,by omega,h⟩,by simp only;omega⟩
      unfold law33_FetchHolds_b4
      rw [decide_eq_true cc,cond_true,gd_pos _ (by omega),Int.toNat_natCast,r1,Option.bind_some]
      simp only [beq_f r0,cond_false]
      unfold law33_FetchHolds_k5
      rw [wid (by omega)]
    · refine .inl ⟨(newS c.M c.At l (pathM c.M n (gt c.L j)) s,newL c.M l (pathM c.M n (gt c.L j)),(j:Int)+1),?_,⟨j+1,by simp,by omega,hinv_seg hG hV a0 a1 h x0 x1⟩,by simp only;omega⟩
      unfold law33_FetchHolds_b4
      rw [decide_eq_true cc,cond_true,gd_pos _ (by omega),Int.toNat_natCast,r1,Option.bind_some]
      simp only [beq_self_eq_true,cond_true]
      unfold law33_FetchHolds_k5
      rw [wid (by omega)]
  · refine .inr ⟨(s,l),?_,h⟩
    unfold law33_FetchHolds_b4
    rw [decide_eq_false cc,cond_false]
theorem holds_check {n:Nat} {c:TCase} (hG:Good n c.M) (hV:Valid n c.M) (a0:0≤c.At) (a1:c.At≤65536) (k s l:List Int) (h:HInv n c.M c.At k s l) :
    loopF (fun (x:Int)=>law33_FetchHolds_b3 n c s k (txt c.M c.At) 0 l x) n 0=some (.inr ()):=by
  have hn:=hG.hn
  have hlen:=h.len
  have hT:=hG.hT
  obtain ⟨z,z1,z2⟩:=h.fit
  obtain ⟨z',y1,_,y3,y4,y5⟩:=size_ge hG hV
  have:z'=z:=Option.some.inj (y1.symm.trans z1)
  subst this
  obtain ⟨y,hy,rfl⟩:=loopF_inv (body:=fun (x:Int)=>law33_FetchHolds_b3 n c s k (txt c.M c.At) 0 l x) (fun x=>∃ j:Nat,x=(j:Int)∧j≤l.length) (fun x=>l.length - x.toNat) (fun y=>y = .inr ()) (fun x hx=>by
    obtain ⟨j,rfl,hj⟩:=hx
    by_cases cc:(j:Int) < (l.length:Int)
    · have hjl:j < l.length:=by omega
      have hmem:gt l j∈l:=by rw [gt_lt hjl];exact List.getElem_mem hjl
      have hg:=h.rng (gt l j) hmem
      have hh:=h.held (gt l j) hmem
      obtain ⟨o1,o2,o3,o4,o5,o6,o7⟩:=hV.o hg.1 hg.2
      have hsz:=y5 _ hg.1 hg.2
      refine .inl ⟨(j:Int)+1,?_,⟨j+1,by simp,by omega⟩,by omega⟩
      unfold law33_FetchHolds_b3
      rw [decide_eq_true cc,cond_true,Int.toNat_natCast,gd_pos _ ⟨by omega,fun _=>by omega⟩]
      have e:(if (decide ((gt l j) < 0))=true then true else (decide ((gt l j) ≥ (c.M.Segments.length:Int))))=false:=by
        rw [ite_tt,Bool.or_eq_false_iff,decide_eq_false_iff_not,decide_eq_false_iff_not];omega
      rw [e,cond_false,gd_pos _ ⟨by omega,hg⟩,wid (n:=(gt c.M.Segments (gt l j).toNat).From+(gt c.M.Segments (gt l j).toNat).Len) (by omega),gd_pos _ (by rw [txt_len];omega),wid (n:=c.At+(gt c.M.Segments (gt l j).toNat).Origin) (by omega),bytesW n h.si _ _ (by omega) o1 (by omega),Option.bind_some]
      have hsT:((segT (txt c.M c.At) (gt c.M.Segments (gt l j).toNat)).length:Int)=(gt c.M.Segments (gt l j).toNat).Len:=segT_len o5 o1 (by rw [txt_len];exact o6)
      have hcl:((cut s (c.At+(gt c.M.Segments (gt l j).toNat).Origin) (gt c.M.Segments (gt l j).toNat).Len).length:Int)=(gt c.M.Segments (gt l j).toNat).Len:=cut_len (by omega) o1 (by omega)
      have ec:cut s (c.At+(gt c.M.Segments (gt l j).toNat).Origin) (gt c.M.Segments (gt l j).toNat).Len=segT (txt c.M c.At) (gt c.M.Segments (gt l j).toNat):=by
        refine ext_gt (by omega) (fun i hi=>?_)
        have hi':(i:Int) < (gt c.M.Segments (gt l j).toNat).Len:=by omega
        rw [gt_cut hi',gt_segT o5 hi']
        exact hh i hi'
      rw [ec]
      have hr:=SameBytes_refl n (segT (txt c.M c.At) (gt c.M.Segments (gt l j).toNat)) (by omega) (by omega)
      unfold segT at hr ⊢
      rw [hr,Option.bind_some]
      simp only [Bool.not_true,cond_false]
      rw [wid (by omega)]
    · refine .inr ⟨_,?_,rfl⟩
      unfold law33_FetchHolds_b3
      rw [decide_eq_false cc,cond_false]) n 0 ⟨0,rfl,by omega⟩ (by simp only [Int.toNat_zero];omega)
  exact hy
theorem p_law33_FetchHolds (n:Nat) (hn:N0≤n) (x0:TCase) (hc:∀ i,i < 1→CanL Try.prog (([(true,[.slice 5,.slice 58,.slice 52,.int .i64,.int .i64,.int .i64,.int .i64,.int .i64,.slice 3,.slice 3])]:List (Bool×List Kd)).getD i (false,[])).2 (([[.slice (List.map e_Int x0.M.Text),.slice (List.map e_TReloc x0.M.Relocs),.slice (List.map e_TSegment x0.M.Segments),.int x0.M.Entry,.int x0.Blocks,.int x0.At,.int x0.Size,.int x0.Key,.slice (List.map e_Int x0.L),.slice (List.map e_Int x0.Odd)]]:List (List C)).getD i []))
    (hb:cbss [[.slice (List.map e_Int x0.M.Text),.slice (List.map e_TReloc x0.M.Relocs),.slice (List.map e_TSegment x0.M.Segments),.int x0.M.Entry,.int x0.Blocks,.int x0.At,.int x0.Size,.int x0.Key,.slice (List.map e_Int x0.L),.slice (List.map e_Int x0.Odd)]]≤2097152):law33_FetchHolds n x0=some true:=by
  have hk:bytesOk x0.M.Text:=can_bytes ((hc 0 (by decide)).2 0 (by decide))
  have hat:x0.At < 9223372036854775808:=can_i64 ((hc 0 (by decide)).2 5 (by decide))
  clear hc
  have hT:x0.M.Text.length≤2097152:=len_of_cbss (f:=e_Int) hb (List.mem_cons_self ..) (List.mem_singleton.2 rfl)
  have hR:x0.M.Relocs.length≤2097152:=len_of_cbss (f:=e_TReloc) hb (List.mem_cons_of_mem _ (List.mem_cons_self ..)) (List.mem_singleton.2 rfl)
  have hS:x0.M.Segments.length≤2097152:=len_of_cbss (f:=e_TSegment) hb (List.mem_cons_of_mem _ (List.mem_cons_of_mem _ (List.mem_cons_self ..))) (List.mem_singleton.2 rfl)
  have hL:x0.L.length≤2097152:=len_of_cbss (f:=e_Int) hb (show C.slice (List.map e_Int x0.L)∈_ by simp) (List.mem_singleton.2 rfl)
  clear hb
  have hG:Good n x0.M:=⟨hS,hT,hR,hn,hk⟩
  have hw:law33_works n=some true:=works_val n hn
  obtain ⟨S,K,f1,f2,f3⟩:=filled_val n hn x0
  have hsl:S.length≤65536:=by obtain ⟨h1,h2,h3⟩:=f2;omega
  unfold law33_FetchHolds
  rw [f1,Option.bind_some]
  simp only
  rcases put_cases hG f2 x0.At x0.Size x0.Key hat with ⟨_,h1,_⟩ | ⟨_,r,r0,_,h1,_⟩ | ⟨hB,_,hV,⟨z,z1,z2⟩,k',hk',_,h1,_⟩
  · rw [h1,Option.bind_some]
    simp only [show ((1:Int) != 0)=true from rfl,cond_true,hw,Option.bind_some]
  · rw [h1,Option.bind_some]
    simp only [bne_t r0,cond_true,hw,Option.bind_some]
  · unfold Bad at hB
    have a0:0≤x0.At:=by omega
    have a1:x0.At≤65536:=by omega
    have s1:=hV.s1
    obtain ⟨z',y1,_,y3,y4,y5⟩:=size_ge hG hV
    have:z'=z:=Option.some.inj (y1.symm.trans z1)
    subst this
    have hsz:=y5 0 (by omega) (by omega)
    have hI:HInv n x0.M x0.At k' (ldP x0.M x0.At (clrP S x0.At x0.Size) 0) [0]:=by
      refine ⟨⟨by rw [hk'];exact f2.1,by rw [hk'];exact f2.2.1,by rw [hk',ldP_len,clrP_len];exact f2.2.2⟩,⟨z',z1,by rw [ldP_len,clrP_len];omega⟩,by simp,fun y hy=>?_,fun y hy=>?_⟩
      · rw [List.mem_singleton] at hy;subst hy;omega
      · rw [List.mem_singleton] at hy;subst hy
        exact held_ld hG hV a0 a1 (by omega) (by omega) (by rw [clrP_len];omega)
    rw [h1,Option.bind_some]
    simp only [bne_self_eq_false,cond_false]
    rw [relR hG hV a0 a1,Option.bind_some]
    simp only
    obtain ⟨w,w1,w2⟩:=holds_loop hG hV a0 a1 hL k' (ldP x0.M x0.At (clrP S x0.At x0.Size) 0) [0] (txt x0.M x0.At) 0 hI
    rw [w1,Option.bind_some]
    unfold law33_FetchHolds_k1
    rw [holds_check hG hV a0 a1 k' w.1 w.2 w2,Option.bind_some]
    simp only
    unfold law33_FetchHolds_k2
    rw [hw,gd_pos _ (show ((0:Int) == 0)=true→(some true).isSome=true from fun _=>rfl)]
    rfl
end Go.Proofs.Ytcbcdjincgclaaa
