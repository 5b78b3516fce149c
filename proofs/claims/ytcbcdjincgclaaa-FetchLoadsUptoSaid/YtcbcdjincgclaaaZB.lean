/- Text. -/
import Derived.Test.YtcbcdjincgclaaaWX
set_option maxHeartbeats 1000000
set_option linter.unusedVariables false
set_option linter.unusedSimpArgs false
set_option maxRecDepth 100000
namespace Go.Proofs.Ytcbcdjincgclaaa
open Go.AE
theorem filled_val (n:Nat) (hn:4194304≤n) (c:TCase):∃ S K,law33_Case__filled_M1 n c=some (S,K,S,K)∧SI S K∧law33_Case__blocks n c=some (S.length:Int):=by
  obtain ⟨q,q1,q2,hq⟩:=blocks_val n c
  obtain ⟨n1,n2⟩:=new_val n q q1 q2
  have hSI:SI (zreps (2048 * q) (0:Int)) (zreps q 0):=⟨by rw [zreps_len];omega,by rw [zreps_len];omega,by rw [zreps_len,zreps_len]⟩
  obtain ⟨b,hb,_⟩:=loopF_inv (body:=fun (x:(List Int)×Int)=>law33_Case__filled_M1_b2 n (2048 * (q:Int)) (zreps (2048 * q) 0) (zreps q 0) (zreps (2048 * q) 0) (zreps q 0) x.1 x.2) (fun x=>x.1.length=2048 * q∧0≤x.2) (fun x=>(2048 * (q:Int) - x.2).toNat) (fun _=>True) (fun x hx=>by
    obtain ⟨b,i⟩:=x
    simp only at hx ⊢
    by_cases cc:i < 2048 * (q:Int)
    · refine .inl ⟨((List.set b (Int.toNat i) (IntKind.wrap .u8 ((IntKind.wrap .i64 (1+(Int.tmod i 7)))))),i+1),?_,⟨by simp only [List.length_set];exact hx.1,by simp only;omega⟩,by simp only;omega⟩
      unfold law33_Case__filled_M1_b2
      rw [decide_eq_true cc,cond_true,gd_pos _ ⟨by omega,by omega⟩,wid (n:=i+1) (by omega)]
    · refine .inr ⟨b,?_,trivial⟩
      unfold law33_Case__filled_M1_b2
      rw [decide_eq_false cc,cond_false]) n (zreps (2048 * q) 0,0) ⟨by simp only;rw [zreps_len],by simp⟩ (by simp only;omega)
  refine ⟨putP (zreps (2048 * q) 0) 0 b,zreps q 0,?_,⟨hSI.1,hSI.2.1,by rw [putP_len];exact hSI.2.2⟩,by rw [hq,putP_len,zreps_len];simp⟩
  have e1:(2048 * (q:Int)).toNat=2048 * q:=by omega
  unfold law33_Case__filled_M1
  rw [hq,Option.bind_some,n1,Option.bind_some,n2,Option.bind_some]
  simp only [bne_self_eq_false,cond_false,Bool.not_false,gd_t]
  rw [gd_pos _ (by omega),e1,hb,Option.bind_some]
  unfold law33_Case__filled_M1_k1
  rw [putW n hSI,Option.bind_some,putR n (by omega) hSI,Option.bind_some]
theorem ints_refl (n:Nat) (a:List Int) (hl:a.length≤2097152) (hn:2097152 < n):law33_sameInts n a a=some true:=by
  have h:=loop_any (body:=fun (x:Int)=>law33_sameInts_b2 n a a x) a (fun _=>false) (.inl false) (.inr ()) (fun k hk=>by
    have e1:decide ((k:Int) < (a.length:Int))=true:=by simp;omega
    simp only [law33_sameInts_b2,e1,cond_true,Int.toNat_natCast]
    rw [gd_pos _ (by omega),wid (by omega)]
    simp) (by
    have e1:decide ((a.length:Int) < (a.length:Int))=false:=by simp
    simp only [law33_sameInts_b2,e1,cond_false]) (n:=n) (by omega)
  unfold law33_sameInts
  rw [h]
  simp [law33_sameInts_k1]
theorem keyOf_some (n:Nat) {s k:List Int} (h:SI s k) (b:Int):∃ r,store_Store__KeyOf_M1 n s k b=some r∧ref07_Store__KeyOf_M1 n s k b=some r:=by
  have e:ref07_Store__KeyOf_M1 n s k b=store_Store__KeyOf_M1 n s k b:=rfl
  rw [e]
  suffices h:∃ r,store_Store__KeyOf_M1 n s k b=some r by
    obtain ⟨r,hr⟩:=h;exact ⟨r,hr,hr⟩
  obtain ⟨h1,h2,h3⟩:=h
  unfold store_Store__KeyOf_M1
  by_cases c:b < 0
  · rw [decide_eq_true c];exact ⟨_,rfl⟩
  · simp only [decide_eq_false c,cond_false,Bool.not_false,and_self,gd_t]
    by_cases c2:b ≥ (s.length:Int)
    · rw [decide_eq_true c2];exact ⟨_,rfl⟩
    · rw [decide_eq_false c2,cond_false]
      have ht:=tdiv_in (i:=b) (K:=k.length) (by omega) (by omega) h2
      rw [gd_pos _ ⟨ht,by omega⟩]
      exact ⟨_,rfl⟩
theorem same_refl (n:Nat) (hn:4194304≤n) {s k:List Int} (h:SI s k):law33_same_M1 n s k s k (s.length:Int)=some true:=by
  have hl:s.length≤65536:=by obtain ⟨h1,h2,h3⟩:=h;omega
  obtain ⟨y,hy,rfl⟩:=loopF_inv (body:=fun (x:Int)=>law33_same_M1_b2 n s k s k (s.length:Int) x) (fun x=>0≤x) (fun x=>((s.length:Int) - x).toNat) (fun y=>y = .inr ()) (fun x hx=>by
    by_cases c:x < (s.length:Int)
    · refine .inl ⟨x+2048,?_,by omega,by omega⟩
      obtain ⟨r,r1,r2⟩:=keyOf_some n h x
      unfold law33_same_M1_b2
      rw [decide_eq_true c,cond_true,r1,Option.bind_some,r2,Option.bind_some]
      simp only [bne_self_eq_false,cond_false]
      rw [wid (by omega)]
    · refine .inr ⟨_,?_,rfl⟩
      unfold law33_same_M1_b2
      rw [decide_eq_false c,cond_false]) n 0 (by omega) (by omega)
  unfold law33_same_M1
  rw [hy,Option.bind_some]
  simp only
  unfold law33_same_M1_k1
  rw [bytesW n h 0 (s.length:Int) (by omega) (by omega) (by omega),Option.bind_some,bytesR n h 0 (s.length:Int) (by omega) (by omega) (by omega),Option.bind_some,SameBytes_refl n _ (by unfold cut;simp;omega) (by omega)]
  rfl
theorem loads_loop {n:Nat} {c:TCase} (hG:Good n c.M) (ha:c.At < 9223372036854775808) (hL:c.L.length≤2097152) (k:List Int) (N:Nat) (s l:List Int) (h:SI s k) (hN:s.length=N) (hl:l.length≤2097154) :
    loopF (fun (x:(List Int)×(List Int)×(List Int)×Int)=>law33_FetchLoads_b2 n c k k (N:Int) x.1 x.2.1 x.2.2.1 x.2.2.2) n (s,s,l,0)=some (.inr ()):=by
  have hn:=hG.hn
  obtain ⟨y,hy,rfl⟩:=loopF_inv (body:=fun (x:(List Int)×(List Int)×(List Int)×Int)=>law33_FetchLoads_b2 n c k k (N:Int) x.1 x.2.1 x.2.2.1 x.2.2.2) (fun x=>∃ j:Nat,x.2.2.2=(j:Int)∧j≤c.L.length∧x.2.1=x.1∧SI x.1 k∧x.1.length=N∧x.2.2.1.length≤2097154) (fun x=>c.L.length - x.2.2.2.toNat) (fun y=>y = .inr ()) (fun x hx=>by
    obtain ⟨s,t,l,j'⟩:=x
    obtain ⟨j,e,hj,e1,h,hN,hl⟩:=hx
    simp only at e e1 h hN hl ⊢
    subst e
    subst e1
    subst hN
    by_cases cc:(j:Int) < (c.L.length:Int)
    · rcases seg_cases hG h c.At (gt c.L j) l hl ha with ⟨r,r0,r1,r2,_⟩ | ⟨hV,_,_,_,x0,x1,_,r1,r2⟩
      · refine .inl ⟨(t,t,l,(j:Int)+1),?_,⟨j+1,by simp,by omega,rfl,h,rfl,hl⟩,by simp only;omega⟩
        unfold law33_FetchLoads_b2
        rw [decide_eq_true cc,cond_true,gd_pos _ (by omega),Int.toNat_natCast,r1,Option.bind_some,gd_pos _ (by omega),r2,Option.bind_some]
        simp only
        rw [ints_refl n [] (by simp) (by omega),Option.bind_some]
        simp only [Bool.not_true,Bool.false_eq_true,if_false,bne_self_eq_false,cond_false,Bool.not_false,gd_t]
        rw [same_refl n hn h,Option.bind_some]
        simp only [Bool.not_true,cond_false,beq_f r0]
        unfold law33_FetchLoads_k3
        rw [wid (by omega)]
      · have hl':(newL c.M l (pathM c.M n (gt c.L j))).length≤64:=Nat.le_trans (ascOf_len _ _) hV.s64
        have h':SI (newS c.M c.At l (pathM c.M n (gt c.L j)) t) k:=⟨h.1,h.2.1,by unfold newS;rw [fold_len];exact h.2.2⟩
        have hN':(newS c.M c.At l (pathM c.M n (gt c.L j)) t).length=t.length:=fold_len _ _
        refine .inl ⟨(newS c.M c.At l (pathM c.M n (gt c.L j)) t,newS c.M c.At l (pathM c.M n (gt c.L j)) t,newL c.M l (pathM c.M n (gt c.L j)),(j:Int)+1),?_,⟨j+1,by simp,by omega,rfl,h',hN',by simp only;omega⟩,by simp only;omega⟩
        unfold law33_FetchLoads_b2
        rw [decide_eq_true cc,cond_true,gd_pos _ (by omega),Int.toNat_natCast,r1,Option.bind_some,gd_pos _ (by omega),r2,Option.bind_some]
        simp only
        rw [ints_refl n _ (by omega) (by omega),Option.bind_some]
        simp only [Bool.not_true,Bool.false_eq_true,if_false,bne_self_eq_false,cond_false,Bool.not_false,gd_t]
        have hs:=same_refl n hn h'
        rw [hN'] at hs
        rw [hs,Option.bind_some]
        simp only [Bool.not_true,cond_false,beq_self_eq_true,cond_true]
        unfold law33_FetchLoads_k3
        rw [wid (by omega)]
    · refine .inr ⟨_,?_,rfl⟩
      unfold law33_FetchLoads_b2
      rw [decide_eq_false cc,cond_false]) n (s,s,l,0) ⟨0,rfl,by omega,rfl,h,hN,hl⟩ (by simp only;omega)
  exact hy
theorem put_both {n:Nat} {m:TLoad} (hG:Good n m) {s k:List Int} (h:SI s k) (at_ size key:Int) (hat:at_ < 9223372036854775808) :
    ∃ e c s' k',fetch_Put_M1 n s k m at_ size key=some (e,c,s',k')∧ref33_Put_M1 n s k s.length m at_ size key=some (e,c,s',k')∧SI s' k'∧s'.length=s.length:=by
  rcases put_cases hG h at_ size key hat with ⟨_,h1,h2⟩ | ⟨_,r,_,_,h1,h2⟩ | ⟨_,_,_,_,k',hk,_,h1,h2⟩
  · exact ⟨_,_,_,_,h1,h2,h,rfl⟩
  · exact ⟨_,_,_,_,h1,h2,h,rfl⟩
  · refine ⟨_,_,_,_,h1,h2,⟨by rw [hk];exact h.1,by rw [hk];exact h.2.1,by rw [hk,ldP_len,clrP_len];exact h.2.2⟩,by rw [ldP_len,clrP_len]⟩
theorem can_i64 {x:Int} (h:Go.AE.Can Try.prog (Kd.int .i64) (C.int x)):x < 9223372036854775808:=by
  cases h with
  | int _ _ hr =>
    have e2:IntKind.i64.max=9223372036854775807:=by decide
    simp only [InR,e2] at hr;omega
theorem p_law33_FetchLoads (n:Nat) (hn:N0≤n) (x0:TCase) (hc:∀ i,i < 1→CanL Try.prog (([(true,[.slice 5,.slice 58,.slice 52,.int .i64,.int .i64,.int .i64,.int .i64,.int .i64,.slice 3,.slice 3])]:List (Bool×List Kd)).getD i (false,[])).2 (([[.slice (List.map e_Int x0.M.Text),.slice (List.map e_TReloc x0.M.Relocs),.slice (List.map e_TSegment x0.M.Segments),.int x0.M.Entry,.int x0.Blocks,.int x0.At,.int x0.Size,.int x0.Key,.slice (List.map e_Int x0.L),.slice (List.map e_Int x0.Odd)]]:List (List C)).getD i []))
    (hb:cbss [[.slice (List.map e_Int x0.M.Text),.slice (List.map e_TReloc x0.M.Relocs),.slice (List.map e_TSegment x0.M.Segments),.int x0.M.Entry,.int x0.Blocks,.int x0.At,.int x0.Size,.int x0.Key,.slice (List.map e_Int x0.L),.slice (List.map e_Int x0.Odd)]]≤2097152):law33_FetchLoads n x0=some true:=by
  have hk:bytesOk x0.M.Text:=can_bytes ((hc 0 (by decide)).2 0 (by decide))
  have hat:x0.At < 9223372036854775808:=can_i64 ((hc 0 (by decide)).2 5 (by decide))
  clear hc
  have hT:x0.M.Text.length≤2097152:=len_of_cbss (f:=e_Int) hb (List.mem_cons_self ..) (List.mem_singleton.2 rfl)
  have hR:x0.M.Relocs.length≤2097152:=len_of_cbss (f:=e_TReloc) hb (List.mem_cons_of_mem _ (List.mem_cons_self ..)) (List.mem_singleton.2 rfl)
  have hS:x0.M.Segments.length≤2097152:=len_of_cbss (f:=e_TSegment) hb (List.mem_cons_of_mem _ (List.mem_cons_of_mem _ (List.mem_cons_self ..))) (List.mem_singleton.2 rfl)
  have hL:x0.L.length≤2097152:=len_of_cbss (f:=e_Int) hb (show C.slice (List.map e_Int x0.L)∈_ by simp) (List.mem_singleton.2 rfl)
  have hO:x0.Odd.length≤2097152:=len_of_cbss (f:=e_Int) hb (show C.slice (List.map e_Int x0.Odd)∈_ by simp) (List.mem_singleton.2 rfl)
  clear hb
  have hG:Good n x0.M:=⟨hS,hT,hR,hn,hk⟩
  have hw:law33_works n=some true:=works_val n hn
  obtain ⟨S,K,f1,f2,f3⟩:=filled_val n hn x0
  obtain ⟨e,c,s',k',p1,p2,p3,p4⟩:=put_both hG f2 x0.At x0.Size x0.Key hat
  unfold law33_FetchLoads
  rw [f1,Option.bind_some,f3,Option.bind_some]
  simp only
  rw [p1,Option.bind_some,p2,Option.bind_some]
  simp only [bne_self_eq_false,Bool.false_eq_true,if_false,cond_false,Bool.not_false,gd_t]
  have hs:=same_refl n hn p3
  rw [p4] at hs
  rw [hs,Option.bind_some]
  simp only [Bool.not_true,cond_false]
  rw [gd_pos _ (by omega),loads_loop hG hat hL k' S.length s' ([0] ++ x0.Odd) p3 p4 (by simp;omega),Option.bind_some]
  simp only
  unfold law33_FetchLoads_k1
  rw [hw]
  rfl
end Go.Proofs.Ytcbcdjincgclaaa
