/- Text. -/
import Derived.Test.YtcbcdjincgclaaaC
import Derived.Test.YtcbcdjincgclaaaFL
set_option linter.unusedSimpArgs false
set_option linter.unusedVariables false
set_option maxHeartbeats 1000000
set_option linter.unusedVariables false
set_option linter.unusedSimpArgs false
set_option maxRecDepth 100000
namespace Go.Proofs.Ytcbcdjincgclaaa
open Go.AE
theorem can_bytes {l:List Int} (h:Go.AE.Can Try.prog (.slice 5) (.slice (List.map e_Int l))):bytesOk l:=by
  intro i hi
  have h0:=(can_elt ty5 e_Int h (gt l i) (by rw [gt_lt hi];exact List.getElem_mem hi)).2 0 (by decide)
  have h1:Go.AE.Can Try.prog (Kd.int .u8) (C.int (gt l i)):=h0
  cases h1 with
  | int _ _ hr =>
    have e1:IntKind.u8.min=0:=by decide
    have e2:IntKind.u8.max=255:=by decide
    simp only [InR,e1,e2] at hr;omega
theorem tmod_fix (x:Int):(bif decide (Int.tmod x 256 < 0) then Int.tmod x 256+256 else Int.tmod x 256)=x % 256:=by
  have h:=@Int.tmod_eq_emod x 256
  have e:(256:Int).natAbs=256:=rfl
  by_cases hc:0≤x∨(256:Int) ∣ x
  · rw [if_pos hc] at h
    have:¬ Int.tmod x 256 < 0:=by omega
    rw [decide_eq_false this,cond_false];omega
  · rw [if_neg hc,e] at h
    have:Int.tmod x 256 < 0:=by
      have:(256:Nat)=256:=rfl
      have h2:x % 256 < 256:=by omega
      omega
    rw [decide_eq_true this,cond_true];omega
theorem adjust2_loop (n:Nat) (p:Nat):∀ (k:Nat) (b:List Int) (v:Int),p+k≤b.length→b.length≤2097152→bytesOk b→-33554432≤v→v≤33554432→∀ f,k < f →
    loopF (fun (x:(List Int)×Nat×Int×Int)=>ref32_Adjust_M2_b1 n (p:Int) x.1 x.2.1 x.2.2.1 x.2.2.2) f (b,b.length,v,(k:Int) - 1)=some (adj b p k v):=by
  intro k
  induction k with
  | zero =>
    intro b v hl hb hk h1 h2 f hf
    obtain ⟨g,rfl⟩:∃ g,f=g+1:=⟨f - 1,by omega⟩
    refine loopF_done ?_
    simp only [ref32_Adjust_M2_b1]
    have:decide (((0:Nat):Int) - 1 ≥ 0)=false:=decide_eq_false (by omega)
    rw [this]
    rfl
  | succ k ih =>
    intro b v hl hb hk h1 h2 f hf
    obtain ⟨g,rfl⟩:∃ g,f=g+1:=⟨f - 1,by omega⟩
    have hg:=hk (p+k) (by omega)
    have e0:((k+1:Nat):Int) - 1=(k:Int):=by omega
    rw [e0]
    have hd:decide ((k:Int) ≥ 0)=true:=decide_eq_true (by omega)
    have ep:(p:Int)+(k:Int)=((p+k:Nat):Int):=by omega
    have hw:IntKind.wrap .i64 ((p:Int)+(k:Int))=((p+k:Nat):Int):=by rw [wid (by omega),ep]
    have hdv:∀ r:Int,r=(v+gt b (p+k)) % 256→ref32_Adjust_M2_k3 n b b.length (p:Int) (v+gt b (p+k)) (k:Int) r=some (.inl (b.set (p+k) ((v+gt b (p+k)) % 256),b.length,(v+gt b (p+k)) / 256,(k:Int) - 1)):=by
      intro r hr
      subst hr
      simp only [ref32_Adjust_M2_k3,ref32_Adjust_M2_k2,hw,Int.toNat_natCast]
      rw [gd_pos _ (by omega),wid (n:=v+gt b (p+k) - (v+gt b (p+k)) % 256) (by omega),wid (n:=(k:Int) - 1) (by omega),wu8]
      have hdvd:(256:Int) ∣ (v+gt b (p+k) - (v+gt b (p+k)) % 256):=by omega
      rw [Int.tdiv_eq_ediv_of_dvd hdvd,wid (by omega)]
      have e1:(v+gt b (p+k)) % 256 % 256=(v+gt b (p+k)) % 256:=by omega
      have e2:(v+gt b (p+k) - (v+gt b (p+k)) % 256) / 256=(v+gt b (p+k)) / 256:=by omega
      rw [e1,e2]
    refine (loopF_step (x':=(b.set (p+k) ((v+gt b (p+k)) % 256),b.length,(v+gt b (p+k)) / 256,(k:Int) - 1)) ?_).trans ?_
    · simp only [ref32_Adjust_M2_b1,hd,cond_true,hw,Int.toNat_natCast]
      rw [gd_pos _ (by omega),wid (n:=gt b (p+k)) (by omega),wid (n:=v+gt b (p+k)) (by omega)]
      have ht:=tmod_fix (v+gt b (p+k))
      cases hc:decide (Int.tmod (v+gt b (p+k)) 256 < 0) with
      | true =>
        rw [hc,cond_true] at ht
        rw [cond_true,wid (by omega)]
        exact hdv _ ht
      | false =>
        rw [hc,cond_false] at ht
        rw [cond_false]
        exact hdv _ ht
    · have hls:(b.set (p+k) ((v+gt b (p+k)) % 256)).length=b.length:=by simp
      have:=ih (b.set (p+k) ((v+gt b (p+k)) % 256)) ((v+gt b (p+k)) / 256) (by rw [hls];omega) (by rw [hls];omega) (bytesOk_set hk _ _ (by omega)) (by omega) (by omega) g (by omega)
      rw [hls] at this
      rw [this]
      simp [adj]
theorem adjust2_eq (n:Nat) (hn:8 < n) (p k:Nat) (b:List Int) (v:Int) (hl:p+k≤b.length) (hb:b.length≤2097152) (hk:bytesOk b) (h1:-33554432≤v) (h2:v≤33554432) (h4:k≤4) :
    ref32_Adjust_M2 n b b.length (p:Int) (k:Int) v=some (adj b p k v):=by
  unfold ref32_Adjust_M2
  rw [wid (by omega),adjust2_loop n p k b v hl hb hk h1 h2 n (by omega)]
  rfl
theorem Relocate2_eq (n:Nat) (hn:2097152 < n) (m:TLoad) (a:Int) (hT:m.Text.length≤2097152) (hR:m.Relocs.length≤2097152) (hc:ref31_CheckLoad n m=some true) (hk:bytesOk m.Text) (hr:RelsOk m.Text.length m.Relocs) (h0:0≤a) (h1:a≤16777215) :
    ref32_Relocate n m a=some (relF a m.Relocs m.Text,0):=by
  have h2:(if (decide (a < 0))=true then true else (decide (a > 16777215)))=false:=by
    have e1:decide (a < 0)=false:=decide_eq_false (by omega)
    have e2:decide (a > 16777215)=false:=decide_eq_false (by omega)
    rw [e1,e2];rfl
  simp only [ref32_Relocate,hc,Option.bind_some,Bool.not_true,cond_false,h2]
  rw [gd_pos _ (by omega)]
  have hb:∀ k (hk:k < m.Relocs.length) (s:List Int×Nat),(s.1.length=m.Text.length∧s.2=m.Text.length∧bytesOk s.1)→ref32_Relocate_b2 n a m s.1 s.2 (k:Int)=some (.inl (rel1 a s.1 m.Relocs[k],s.2,((k+1:Nat):Int))):=by
    intro k hk s ⟨hs1,hs3,hs2⟩
    have e1:decide ((k:Int) < (m.Relocs.length:Int))=true:=decide_eq_true (by omega)
    have hrk:=RelsOk.mem hr _ (List.getElem_mem hk)
    obtain ⟨r1,r2,r3,r4⟩:=hrk
    simp only [ref32_Relocate_b2,ref32_Relocate_k4,e1,cond_true,Int.toNat_natCast,gt_lt hk]
    rw [gd_pos _ (by omega)]
    rw [gd_pos _ (by omega),gd_pos _ (by omega)]
    generalize hrr:m.Relocs[k]=r at *
    have ea:r.At=((r.At.toNat:Nat):Int):=by omega
    have el:r.Len=((r.Len.toNat:Nat):Int):=by omega
    have hadj:∀ v:Int,-33554432≤v→v≤33554432→ref32_Adjust_M2 n s.1 s.2 r.At r.Len v=some (adj s.1 r.At.toNat r.Len.toNat v):=by
      intro v hv1 hv2
      rw [ea,el,hs3,← hs1]
      exact adjust2_eq n (by omega) r.At.toNat r.Len.toNat s.1 v (by omega) (by omega) hs2 hv1 hv2 (by omega)
    cases hneg:r.Neg with
    | true =>
      simp only [cond_true,wid (n:=0 - a) (by omega),hadj (0 - a) (by omega) (by omega),Option.bind_some,ref32_Relocate_k3,wid (n:=(k:Int)+1) (by omega)]
      have:0 - a=by1 r a:=by unfold by1;rw [if_pos hneg];omega
      rw [this]
      rfl
    | false =>
      simp only [cond_false,hadj a (by omega) (by omega),Option.bind_some,ref32_Relocate_k3,wid (n:=(k:Int)+1) (by omega)]
      have:a=by1 r a:=by unfold by1;rw [if_neg (by rw [hneg];simp)]
      unfold rel1
      rw [← this]
      rfl
  have h:=loop_list (body:=fun (x:(List Int)×Nat×Int)=>ref32_Relocate_b2 n a m x.1 x.2.1 x.2.2) m.Relocs (fun k (s:List Int×Nat)=>(s.1,s.2,(k:Int)))
    (fun s r=>(.inl (rel1 a s.1 r,s.2):(List Int×Nat) ⊕ (List Int×Nat))) (fun s=>s) (fun k s=>s.1.length=m.Text.length∧s.2=m.Text.length∧bytesOk s.1) (s:=(m.Text,m.Text.length)) ⟨rfl,rfl,hk⟩
    (fun k hk s hs=>by rw [hb k hk s hs])
    (fun k hk s hs s' h=>by
      simp only [Sum.inl.injEq] at h
      subst h
      exact ⟨by rw [rel1_len];exact hs.1,hs.2.1,rel1_ok hs.2.2⟩)
    (fun s hs=>by
      have e1:decide ((m.Relocs.length:Int) < (m.Relocs.length:Int))=false:=by simp
      simp only [ref32_Relocate_b2,e1,cond_false]) (n:=n) (by omega)
  have h':loopF (fun (x:(List Int)×Nat×Int)=>ref32_Relocate_b2 n a m x.1 x.2.1 x.2.2) n (m.Text,m.Text.length,0)=_:=h
  rw [h',runL_rel]
  simp only [Option.bind_some,ref32_Relocate_k1]
  rw [List.take_of_length_le (by rw [relF_len];exact Nat.le_refl _)]
def pathM (m:TLoad):Nat→Int→List Int
  | 0,_=>[]
  | k+1,x=>if x < 0 then [] else pathM m k (gt m.Segments (Int.toNat x)).Parent ++ [x]
section
variable {m:TLoad} (hS:∀ i,i < m.Segments.length→segOk (m.Text.length:Int) i (gt m.Segments i))
include hS
theorem par_ok {x:Int} (h0:0≤x) (h1:x < (m.Segments.length:Int)):-1≤(gt m.Segments (Int.toNat x)).Parent∧(gt m.Segments (Int.toNat x)).Parent < x:=by
  obtain ⟨_,_,_,_,_,_,_,p0,p1⟩:=hS x.toNat (by omega)
  by_cases e:x.toNat=0
  · have:=(p0 e).1;omega
  · have:=p1 (by omega);omega
theorem path_short:∀ (c:Nat) (x:Int),-1≤x→x < (m.Segments.length:Int)→((pathM m c x).length:Int)≤x+1
  | 0,x,h0,h2=>by simp [pathM];omega
  | c+1,x,h0,h2=>by
    unfold pathM
    by_cases hx:x < 0
    · rw [if_pos hx];simp;omega
    · have hp:=par_ok hS (x:=x) (by omega) h2
      rw [if_neg hx]
      have:=path_short c (gt m.Segments (Int.toNat x)).Parent hp.1 (by omega)
      simp only [List.length_append,List.length_singleton]
      omega
theorem walk_eq (hl:m.Segments.length≤2097152):∀ (c:Nat) (x:Int),-1≤x→x < (m.Segments.length:Int)→x < (c:Int)→walkM (c+1) m x=some (pathM m (c+1) x)
  | c,x,h0,h1,h2=>by
    unfold walkM pathM
    by_cases hx:x < 0
    · rw [decide_eq_true hx,cond_true,if_pos hx]
    · have hp:=par_ok hS (x:=x) (by omega) h1
      rw [decide_eq_false hx,cond_false,if_neg hx,gd_pos _ (by omega)]
      match c,h2 with
      | 0,h2=>omega
      | c+1,h2 =>
        rw [walk_eq hl c (gt m.Segments (Int.toNat x)).Parent hp.1 (by omega) (by omega),Option.bind_some]
        have:=path_short hS (c+1) (gt m.Segments (Int.toNat x)).Parent hp.1 (by omega)
        rw [gd_pos _ (by omega)]
theorem rpath_loop (hl:m.Segments.length≤2097152) (n:Nat):∀ (f:Nat) (x:Int) (out:List Int),-1≤x→x < (m.Segments.length:Int)→x+1 < (f:Int)→(out.length:Int)+x≤4194304 →
    loopF (fun (x:Int×(List Int))=>ref32_Path_b2 n m x.1 x.2) f (x,out)=some (pathM m f x ++ out)
  | 0,x,out,h0,h1,h2,h3=>by omega
  | f+1,x,out,h0,h1,h2,h3=>by
    unfold pathM
    by_cases hx:x < 0
    · rw [if_pos hx]
      refine loopF_done ?_
      have:decide (x ≥ 0)=false:=decide_eq_false (by omega)
      simp only [ref32_Path_b2,this,cond_false,List.nil_append]
    · have hp:=par_ok hS (x:=x) (by omega) h1
      rw [if_neg hx]
      have:decide (x ≥ 0)=true:=decide_eq_true (by omega)
      refine (loopF_step (x':=((gt m.Segments (Int.toNat x)).Parent,[x] ++ out)) ?_).trans ?_
      · simp only [ref32_Path_b2,this,cond_true]
        rw [gd_pos _ (by omega),gd_pos _ (by omega)]
      · rw [rpath_loop hl n f (gt m.Segments (Int.toNat x)).Parent ([x] ++ out) hp.1 (by omega) (by omega) (by simp;omega)]
        simp
end
end Go.Proofs.Ytcbcdjincgclaaa
/-
  ch. 33: stores, in plain lists.
-/
set_option maxHeartbeats 1000000
set_option linter.unusedVariables false
set_option linter.unusedSimpArgs false
set_option maxRecDepth 100000
namespace Go.Proofs.Ytcbcdjincgclaaa
open Go.AE
theorem ext_gt {l l':List Int} (h:l.length=l'.length) (hg:∀ i,i < l.length→gt l i=gt l' i):l=l':=by
  refine List.ext_getElem h (fun i h1 h2=>?_)
  rw [← gt_lt h1,← gt_lt h2,hg i h1]
theorem gt_take {l:List Int} {k i:Nat} (h:i < k):gt (l.take k) i=gt l i:=by
  simp only [gt,List.getD_eq_getElem?_getD];rw [List.getElem?_take,if_pos h]
theorem gt_drop {l:List Int} {k i:Nat}:gt (l.drop k) i=gt l (k+i):=by
  simp only [gt,List.getD_eq_getElem?_getD];rw [List.getElem?_drop]
theorem gt_over {s b:List Int} {a q:Nat} (h:a+b.length≤s.length):gt (overL s a b) q=if a≤q∧q < a+b.length then gt b (q - a) else gt s q:=by
  rw [overL_pos h]
  simp only [gt,List.getD_eq_getElem?_getD]
  by_cases h1:q < a
  · rw [if_neg (by omega),List.append_assoc,List.getElem?_append_left (by simp;omega),List.getElem?_take,if_pos h1]
  · by_cases h2:q < a+b.length
    · rw [if_pos (by omega),List.append_assoc,List.getElem?_append_right (by simp;omega),List.getElem?_append_left (by simp;omega)]
      congr 2
      simp
      omega
    · rw [if_neg (by omega),List.getElem?_append_right (by simp;omega),List.getElem?_drop]
      congr 2
      simp
      omega
theorem over_set {s b:List Int} {a k:Nat} (h:a+b.length≤s.length) (hk:k < b.length):(overL s a (b.take k)).set (a+k) (gt b k)=overL s a (b.take (k+1)):=by
  have l1:(b.take k).length=k:=by simp;omega
  have l2:(b.take (k+1)).length=k+1:=by simp;omega
  refine ext_gt (by simp [overL_len]) (fun i hi=>?_)
  rw [gt_set,gt_over (by omega),gt_over (by omega),overL_len]
  simp only [l1,l2]
  by_cases c1:a+k=i
  · subst c1
    rw [if_pos (by omega),if_pos (by omega),gt_take (by omega)]
    congr 1
    omega
  · rw [if_neg (by omega)]
    by_cases c2:a≤i∧i < a+k
    · rw [if_pos c2,if_pos (by omega),gt_take (by omega),gt_take (by omega)]
    · rw [if_neg c2,if_neg (by omega)]
theorem over_nil {s:List Int} {a:Nat}:overL s a []=s:=by
  refine ext_gt (by simp [overL_len]) (fun i hi=>?_)
  by_cases h:a≤s.length
  · rw [gt_over (by simpa using h),if_neg (by simp only [List.length_nil];omega)]
  · unfold overL
    rw [if_neg (by simpa using h)]
theorem gt_zreps {N i:Nat}:gt (zreps N (0:Int)) i=0:=by
  simp only [gt,zreps,List.getD_eq_getElem?_getD,List.getElem?_replicate]
  split <;> rfl
def putP (s:List Int) (a:Int) (b:List Int):List Int:=if inP a b.length s.length=true then overL s a.toNat b else s
theorem putP_len {s b:List Int} {a:Int}:(putP s a b).length=s.length:=by
  unfold putP;split
  · exact overL_len _ _ _
  · rfl
theorem inP_true {x y:Int} {N:Nat} (h:0≤x∧0≤y∧x+y≤N):inP x y N=true:=by
  unfold inP;exact decide_eq_true (by omega)
theorem inP_false {x y:Int} {N:Nat} (h:¬ (0≤x∧0≤y∧x+y≤N)):inP x y N=false:=by
  unfold inP;exact decide_eq_false (by omega)
def SI (s k:List Int):Prop:=0 < k.length∧k.length≤32∧s.length=2048 * k.length
theorem putW (n:Nat) {s k:List Int} (h:SI s k) (a:Int) (b:List Int):store_Store__Put_M1 n s k a b 0=some (chkV (inP a b.length s.length),putP s a b):=by
  obtain ⟨h1,h2,h3⟩:=h
  have hc:store_check_M n s k a (b.length:Int) 0=some (chkV (inP a b.length s.length)):=by
    unfold store_check_M
    rw [gd_pos _ ⟨rfl,h1,h3⟩]
  simp only [store_Store__Put_M1,hc,Option.bind_some,putP,store_Store__Put_M1_k1]
  by_cases c:0≤a∧(0:Int)≤(b.length:Int)∧a+(b.length:Int)≤s.length
  · rw [inP_true c]
    have e:List.take (Int.toNat ((s.length:Int) - a)) b=b:=List.take_of_length_le (by omega)
    simp only [chkV,beq_self_eq_true,cond_true,if_true,e]
    rw [gd_pos _ (by omega)]
  · rw [inP_false c]
    rfl
theorem inR (n:Nat) {s k:List Int} (hl:s.length≤65536) (a y:Int):ref07_Store__In_M1 n s k a y=some (inP a y s.length):=by
  simp only [ref07_Store__In_M1,ite_ff]
  by_cases c:0≤a∧0≤y
  · have e:(decide (a ≥ 0) && decide (y ≥ 0))=true:=by simp;omega
    simp only [e,cond_true,gd_t,and_self]
    by_cases c2:a≤(s.length:Int)
    · have e2:decide (a≤(s.length:Int))=true:=decide_eq_true c2
      simp only [e2,cond_true,gd_t,and_self]
      rw [wid (by omega)]
      by_cases c3:y≤(s.length:Int) - a
      · rw [decide_eq_true c3,inP_true (by omega)]
      · rw [decide_eq_false c3,inP_false (by omega)]
    · have e2:decide (a≤(s.length:Int))=false:=decide_eq_false c2
      simp only [e2,cond_false]
      rw [inP_false (by omega)]
  · have e:(decide (a ≥ 0) && decide (y ≥ 0))=false:=by
      rw [Bool.and_eq_false_iff];simp only [decide_eq_false_iff_not];omega
    simp only [e,cond_false]
    rw [inP_false (by omega)]
theorem inW (n:Nat) {s k:List Int} (hl:s.length≤65536) (a y:Int):store_Store__in_M1 n s k a y=some (inP a y s.length):=by
  rw [← inR n (k:=k) hl a y];rfl
theorem tdiv_in {i:Int} {K:Nat} (h0:0≤i) (h1:i < 2048 * (K:Int)) (hK:K≤32):0≤IntKind.wrap .i64 (Int.tdiv i 2048)∧IntKind.wrap .i64 (Int.tdiv i 2048) < (K:Int):=by
  have e:Int.tdiv i 2048=i / 2048:=Int.tdiv_eq_ediv_of_nonneg h0
  rw [e,wid (by omega)]
  omega
theorem codeR (n:Nat) (hn:65536 < n) {s k:List Int} (h:SI s k) (a y:Int):ref07_Store__code_M1 n s k a y 0 false=some (chkV (inP a y s.length)):=by
  obtain ⟨h1,h2,h3⟩:=h
  simp only [ref07_Store__code_M1,inR n (k:=k) (show s.length≤65536 by omega),Option.bind_some]
  by_cases c:0≤a∧0≤y∧a+y≤s.length
  · rw [inP_true c]
    simp only [Bool.not_true,cond_false]
    obtain ⟨z,hz,rfl⟩:=loopF_inv (body:=fun (x:Int)=>ref07_Store__code_M1_b2 n s k a y 0 false x) (fun x=>a≤x∧x≤a+y) (fun x=>(a+y - x).toNat) (fun z=>z = .inr ()) (fun x hx=>by
      by_cases cx:x < a+y
      · refine .inl ⟨x+1,?_,by omega,by omega⟩
        have ht:=tdiv_in (i:=x) (K:=k.length) (by omega) (by omega) h2
        simp only [ref07_Store__code_M1_b2]
        rw [wid (n:=a+y) (by omega),decide_eq_true cx]
        simp only [cond_true]
        rw [gd_pos _ ⟨ht,by omega⟩]
        simp only [bne_self_eq_false,Bool.false_eq_true,if_false,Bool.false_and,false_implies,gd_t,cond_false]
        rw [wid (n:=x+1) (by omega)]
      · refine .inr ⟨.inr (),?_,rfl⟩
        simp only [ref07_Store__code_M1_b2]
        rw [wid (n:=a+y) (by omega),decide_eq_false cx]
        rfl) n a (by omega) (by omega)
    rw [hz]
    rfl
  · rw [inP_false c]
    rfl
theorem putR (n:Nat) (hn:65536 < n) {s k:List Int} (h:SI s k) (a:Int) (b:List Int):ref07_Store__Put_M1 n s k a b 0=some (chkV (inP a b.length s.length),putP s a b):=by
  have h0:=h
  obtain ⟨h1,h2,h3⟩:=h0
  simp only [ref07_Store__Put_M1,codeR n hn h,Option.bind_some,putP]
  by_cases c:0≤a∧(0:Int)≤(b.length:Int)∧a+(b.length:Int)≤s.length
  · rw [inP_true c]
    simp only [chkV,if_true]
    obtain ⟨z,hz,rfl⟩:=loopF_inv (body:=fun (x:(List Int)×Int)=>ref07_Store__Put_M1_b2 n k a b 0 x.1 x.2) (fun x=>∃ j:Nat,x.2=(j:Int)∧j≤b.length∧x.1=overL s a.toNat (b.take j)) (fun x=>b.length - x.2.toNat) (fun z=>z=overL s a.toNat b) (fun x hx=>by
      obtain ⟨u,j'⟩:=x
      obtain ⟨j,e1,e2,e3⟩:=hx
      simp only at e1 e3 ⊢
      subst e1
      subst e3
      by_cases cx:(j:Int) < (b.length:Int)
      · refine .inl ⟨(overL s a.toNat (b.take (j+1)),(j:Int)+1),?_,⟨j+1,by simp,by omega,rfl⟩,by simp only;omega⟩
        simp only [ref07_Store__Put_M1_b2,decide_eq_true cx,if_true,beq_self_eq_true,cond_true,overL_len]
        rw [wid (n:=a+(j:Int)) (by omega),wid (n:=(j:Int)+1) (by omega),gd_pos _ (by omega)]
        have e:(a+(j:Int)).toNat=a.toNat+j:=by omega
        rw [e,Int.toNat_natCast,over_set (by omega) (by omega)]
      · refine .inr ⟨_,?_,rfl⟩
        have:j=b.length:=by omega
        subst this
        simp only [ref07_Store__Put_M1_b2,decide_eq_false cx,Bool.false_eq_true,if_false,cond_false,List.take_length]) n (s,0) ⟨0,rfl,by omega,by simp [over_nil]⟩ (by simp only;omega)
    rw [hz]
    rfl
  · rw [inP_false c]
    simp only [chkV]
    have:loopF (fun (x:(List Int)×Int)=>ref07_Store__Put_M1_b2 n k a b 5 x.1 x.2) n (s,0)=some s:=by
      obtain ⟨f,rfl⟩:∃ f,n=f+1:=⟨n - 1,by omega⟩
      refine loopF_done ?_
      simp only [ref07_Store__Put_M1_b2]
      have:(if decide ((0:Int) < (b.length:Int))=true then ((5:Int) == 0) else false)=false:=by split <;> rfl
      rw [this]
      rfl
    rw [this]
    rfl
def clrP (s:List Int) (a y:Int):List Int:=overL s a.toNat (zreps y.toNat 0)
theorem clrP_len {s:List Int} {a y:Int}:(clrP s a y).length=s.length:=overL_len _ _ _
theorem clrW (n:Nat) {s k:List Int} (h:SI s k) (a y:Int) (h0:0≤a) (h1:0≤y) (h2:a+y≤s.length):store_Store__Clear_M1 n s k a y=some (true,clrP s a y):=by
  obtain ⟨k1,k2,k3⟩:=h
  simp only [store_Store__Clear_M1,inW n (k:=k) (show s.length≤65536 by omega),Option.bind_some,inP_true (x:=a) (y:=y) (N:=s.length) ⟨h0,h1,h2⟩,Bool.not_true,cond_false]
  rw [wid (n:=a+y) (by omega),gd_pos _ (by omega)]
  have e:(a+y - a).toNat=y.toNat:=by omega
  rw [e];rfl
theorem clrR (n:Nat) (hn:65536 < n) {s k:List Int} (h:SI s k) (a y:Int) (h0:0≤a) (h1:0≤y) (h2:a+y≤s.length):ref07_Store__Clear_M1 n s k a y=some (true,clrP s a y):=by
  obtain ⟨k1,k2,k3⟩:=h
  simp only [ref07_Store__Clear_M1,inR n (k:=k) (show s.length≤65536 by omega),Option.bind_some,inP_true (x:=a) (y:=y) (N:=s.length) ⟨h0,h1,h2⟩,Bool.not_true,cond_false]
  have hz0:(zreps y.toNat (0:Int)).length=y.toNat:=zreps_len _ _
  obtain ⟨z,hz,rfl⟩:=loopF_inv (body:=fun (x:(List Int)×Int)=>ref07_Store__Clear_M1_b2 n k a y x.1 x.2) (fun x=>∃ j:Nat,x.2=a+(j:Int)∧j≤y.toNat∧x.1=overL s a.toNat ((zreps y.toNat 0).take j)) (fun x=>(a+y - x.2).toNat) (fun z=>z=clrP s a y) (fun x hx=>by
    obtain ⟨u,j'⟩:=x
    obtain ⟨j,e1,e2,e3⟩:=hx
    simp only at e1 e3 ⊢
    subst e1
    subst e3
    by_cases cx:a+(j:Int) < a+y
    · refine .inl ⟨(overL s a.toNat ((zreps y.toNat 0).take (j+1)),a+(j:Int)+1),?_,⟨j+1,by simp only;omega,by omega,rfl⟩,by simp only;omega⟩
      simp only [ref07_Store__Clear_M1_b2,overL_len]
      rw [wid (n:=a+y) (by omega),decide_eq_true cx,wid (n:=a+(j:Int)+1) (by omega)]
      simp only [cond_true]
      rw [gd_pos _ (by omega)]
      have e:(a+(j:Int)).toNat=a.toNat+j:=by omega
      have hs:=over_set (s:=s) (b:=zreps y.toNat 0) (a:=a.toNat) (k:=j) (by omega) (by omega)
      rw [gt_zreps] at hs
      rw [e,hs]
    · refine .inr ⟨_,?_,rfl⟩
      have:j=y.toNat:=by omega
      simp only [ref07_Store__Clear_M1_b2]
      rw [wid (n:=a+y) (by omega),decide_eq_false cx]
      have:(zreps y.toNat (0:Int)).take j=zreps y.toNat 0:=List.take_of_length_le (by omega)
      rw [this]
      rfl) n (s,a) ⟨0,by simp,by omega,by simp [over_nil]⟩ (by simp only;omega)
  rw [hz]
  rfl
def cut (s:List Int) (a y:Int):List Int:=(s.drop a.toNat).take y.toNat
theorem bytesW (n:Nat) {s k:List Int} (h:SI s k) (a y:Int) (h0:0≤a) (h1:0≤y) (h2:a+y≤s.length):store_Store__Bytes_M1 n s k a y=some (cut s a y):=by
  obtain ⟨k1,k2,k3⟩:=h
  simp only [store_Store__Bytes_M1,inW n (k:=k) (show s.length≤65536 by omega),Option.bind_some,inP_true (x:=a) (y:=y) (N:=s.length) ⟨h0,h1,h2⟩,Bool.not_true,cond_false]
  rw [gd_pos _ (by omega),gd_pos _ (by omega)]
  have e:List.take y.toNat (List.take ((s.length:Int) - a).toNat (List.drop a.toNat s))=cut s a y:=by
    unfold cut
    rw [List.take_take]
    congr 1
    omega
  have el:(cut s a y).length=y.toNat:=by unfold cut;simp;omega
  rw [e]
  congr 1
  refine ext_gt (by rw [overL_len,zreps_len,el]) (fun i hi=>?_)
  rw [overL_len,zreps_len] at hi
  rw [gt_over (by rw [zreps_len,el];omega),if_pos (by omega)]
  rfl
theorem bytesR (n:Nat) {s k:List Int} (h:SI s k) (a y:Int) (h0:0≤a) (h1:0≤y) (h2:a+y≤s.length):ref07_Store__Bytes_M1 n s k a y=some (cut s a y):=by
  obtain ⟨k1,k2,k3⟩:=h
  simp only [ref07_Store__Bytes_M1,inR n (k:=k) (show s.length≤65536 by omega),Option.bind_some,inP_true (x:=a) (y:=y) (N:=s.length) ⟨h0,h1,h2⟩,Bool.not_true,cond_false]
  rw [wid (n:=a+y) (by omega)]
  have e:(a+y - a).toNat=y.toNat:=by omega
  rw [e,gd_pos _ ⟨by omega,by simp;omega⟩]
  rfl
theorem cut_len {s:List Int} {a y:Int} (h0:0≤a) (h1:0≤y) (h2:a+y≤s.length):((cut s a y).length:Int)=y:=by unfold cut;simp;omega
theorem gt_cut {s:List Int} {a y:Int} {i:Nat} (hi:(i:Int) < y):gt (cut s a y) i=gt s (a.toNat+i):=by
  unfold cut
  rw [gt_take (by omega),gt_drop]
end Go.Proofs.Ytcbcdjincgclaaa
/-
  ch. 33: a valid module's segments; loading; putting.
-/
set_option maxHeartbeats 1000000
set_option linter.unusedVariables false
set_option linter.unusedSimpArgs false
set_option maxRecDepth 100000
namespace Go.Proofs.Ytcbcdjincgclaaa
open Go.AE
def segX (m:TLoad) (i:Nat):Prop:=(i=0→(gt m.Segments i).From=0)∧(0 < i→(gt m.Segments (gt m.Segments i).Parent.toNat).Origin+(gt m.Segments (gt m.Segments i).Parent.toNat).Len≤(gt m.Segments i).Origin)
def segJ (m:TLoad) (x:Int×Int):Prop:=∃ k:Nat,x.2=(k:Int)∧k≤m.Segments.length∧(k=0→x.1=0)∧∀ i,i < k→segX m i
theorem segX_step (n:Nat) (m:TLoad) (hS:m.Segments.length≤2097152) (hs:∀ i,i < m.Segments.length→segOk (m.Text.length:Int) i (gt m.Segments i)) (x y:Int×Int) (hI:segJ m x) (h:module_validSegments_b2 n m (m.Segments.length:Int) x.1 x.2=some (.inl y)):segJ m y:=by
  obtain ⟨f,j⟩:=x
  obtain ⟨k,hj,hk,h0,h2⟩:=hI
  simp only at hj h0 h2
  subst hj
  simp only [module_validSegments_b2,bif_ite,Int.toNat_natCast] at h
  by_cases c1:(k:Int) < (m.Segments.length:Int)
  · have hkl:k < m.Segments.length:=by omega
    simp only [c1,decide_true,if_true] at h
    obtain ⟨_,h⟩:=gd_some h
    simp only [ite_tt] at h
    generalize hc:(decide ((gt m.Segments k).Len < 0) || decide ((gt m.Segments k).Origin < 0) || decide ((gt m.Segments k).Origin > 65536) || decide ((gt m.Segments k).Len > IntKind.wrap .i64 (65536 - (gt m.Segments k).Origin)) || (gt m.Segments k).From != f)=c at h
    cases c with
    | true=>simp at h
    | false =>
      simp only [Bool.false_eq_true,if_false] at h
      simp only [Bool.or_eq_false_iff,decide_eq_false_iff_not,bne_eq_false_iff_eq] at hc
      obtain ⟨⟨⟨⟨k1,k2⟩,k3⟩,k4⟩,k5⟩:=hc
      have fin:(0 < k→(gt m.Segments (gt m.Segments k).Parent.toNat).Origin+(gt m.Segments (gt m.Segments k).Parent.toNat).Len≤(gt m.Segments k).Origin)→module_validSegments_k4 n m f (gt m.Segments k).Parent (gt m.Segments k).Origin (gt m.Segments k).From (gt m.Segments k).Len (m.Segments.length:Int) (k:Int)=some (.inl y)→segJ m y:=by
        intro p1 h
        simp only [module_validSegments_k4,module_validSegments_k3,Option.some.injEq,Sum.inl.injEq] at h
        subst h
        have hw2:IntKind.wrap .i64 ((k:Int)+1)=(k:Int)+1:=wid (by omega)
        refine ⟨k+1,?_,by omega,by omega,?_⟩
        · simp only [hw2];omega
        · intro i hi
          by_cases e:i=k
          · subst e
            exact ⟨fun e=>by rw [k5,h0 e],p1⟩
          · exact h2 i (by omega)
      by_cases e0:k=0
      · have e1:((k:Int) == 0)=true:=by rw [e0];rfl
        simp only [e1,if_true] at h
        generalize hd:((gt m.Segments k).Parent != -1 || (gt m.Segments k).Origin != 0 || decide ((gt m.Segments k).Len < 1))=d at h
        cases d with
        | true=>simp at h
        | false =>
          simp only [Bool.false_eq_true,if_false] at h
          exact fin (fun hk0=>absurd e0 (by omega)) h
      · have e1:((k:Int) == 0)=false:=by rw [beq_eq_false_iff_ne];omega
        simp only [e1,Bool.false_eq_true,if_false] at h
        obtain ⟨_,h⟩:=gd_some h
        generalize hd:(decide ((gt m.Segments k).Parent < 0) || decide ((gt m.Segments k).Parent ≥ (k:Int)) || decide ((gt m.Segments k).Origin < IntKind.wrap .i64 ((gt m.Segments (Int.toNat (gt m.Segments k).Parent)).Origin+(gt m.Segments (Int.toNat (gt m.Segments k).Parent)).Len)))=d at h
        cases d with
        | true=>simp at h
        | false =>
          simp only [Bool.or_eq_false_iff,decide_eq_false_iff_not] at hd
          simp only [Bool.false_eq_true,if_false] at h
          obtain ⟨⟨d1,d2⟩,d3⟩:=hd
          obtain ⟨q1,q2,q3,q4,_⟩:=hs (gt m.Segments k).Parent.toNat (by omega)
          rw [wid (by omega)] at d3
          exact fin (fun _=>by omega) h
  · simp only [c1,decide_false,Bool.false_eq_true,if_false] at h
    cases h
theorem segX_end (n:Nat) (m:TLoad) (x:Int×Int) (z:Bool ⊕ Int) (hI:segJ m x) (h:module_validSegments_b2 n m (m.Segments.length:Int) x.1 x.2=some (.inr z)):z = .inl false∨∃ f,z = .inr f∧∀ i,i < m.Segments.length→segX m i:=by
  obtain ⟨f,j⟩:=x
  obtain ⟨k,hj,hk,h0,h2⟩:=hI
  simp only at hj h0 h2
  subst hj
  simp only [module_validSegments_b2,bif_ite,Int.toNat_natCast] at h
  by_cases c1:(k:Int) < (m.Segments.length:Int)
  · simp only [c1,decide_true,if_true] at h
    obtain ⟨_,h⟩:=gd_some h
    left
    simp only [ite_tt] at h
    generalize (decide ((gt m.Segments k).Len < 0) || decide ((gt m.Segments k).Origin < 0) || decide ((gt m.Segments k).Origin > 65536) || decide ((gt m.Segments k).Len > IntKind.wrap .i64 (65536 - (gt m.Segments k).Origin)) || (gt m.Segments k).From != f)=c at h
    cases c with
    | true=>simp only [if_true,Option.some.injEq,Sum.inr.injEq] at h;exact h.symm
    | false =>
      simp only [Bool.false_eq_true,if_false] at h
      by_cases e0:k=0
      · have e1:((k:Int) == 0)=true:=by rw [e0];rfl
        simp only [e1,if_true] at h
        generalize ((gt m.Segments k).Parent != -1 || (gt m.Segments k).Origin != 0 || decide ((gt m.Segments k).Len < 1))=d at h
        cases d with
        | true=>simp only [if_true,Option.some.injEq,Sum.inr.injEq] at h;exact h.symm
        | false=>simp only [Bool.false_eq_true,if_false,module_validSegments_k4,module_validSegments_k3,Option.some.injEq] at h;cases h
      · have e1:((k:Int) == 0)=false:=by rw [beq_eq_false_iff_ne];omega
        simp only [e1,Bool.false_eq_true,if_false] at h
        have h:=(gd_some h).2
        generalize (decide ((gt m.Segments k).Parent < 0) || decide ((gt m.Segments k).Parent ≥ (k:Int)) || decide ((gt m.Segments k).Origin < IntKind.wrap .i64 ((gt m.Segments (Int.toNat (gt m.Segments k).Parent)).Origin+(gt m.Segments (Int.toNat (gt m.Segments k).Parent)).Len)))=d at h
        cases d with
        | true=>simp only [if_true,Option.some.injEq,Sum.inr.injEq] at h;exact h.symm
        | false=>simp only [Bool.false_eq_true,if_false,module_validSegments_k4,module_validSegments_k3,Option.some.injEq] at h;cases h
  · simp only [c1,decide_false,Bool.false_eq_true,if_false] at h
    cases h
    have:k=m.Segments.length:=by omega
    subst this
    exact .inr ⟨f,rfl,h2⟩
structure Good (n:Nat) (m:TLoad):Prop where
  hS:m.Segments.length≤2097152
  hT:m.Text.length≤2097152
  hR:m.Relocs.length≤2097152
  hn:4194304≤n
  hk:bytesOk m.Text
structure Valid (n:Nat) (m:TLoad):Prop where
  chk:module_CheckLoad n m=some 0
  chkR:ref31_CheckLoad n m=some true
  rel:RelsOk m.Text.length m.Relocs
  s1:1≤m.Segments.length
  s64:m.Segments.length≤64
  ok:∀ i,i < m.Segments.length→segOk (m.Text.length:Int) i (gt m.Segments i)
  x:∀ i,i < m.Segments.length→segX m i
  ent:0≤m.Entry∧m.Entry < (gt m.Segments 0).Len
theorem valid_of {n:Nat} {m:TLoad} (hG:Good n m) (h:module_CheckLoad n m=some 0):Valid n m:=by
  have hn:=hG.hn
  obtain ⟨r,s1,s2,s3⟩:=load_ok n m hG.hS hG.hT hG.hR (by omega) h
  obtain ⟨b,b1,b2⟩:=check_eq n m hG.hS hG.hT hG.hR (by omega)
  have hb:b=true:=by
    cases b with
    | true=>rfl
    | false=>rw [h] at b1;simp at b1
  subst hb
  have h0:=h
  unfold module_CheckLoad at h
  obtain ⟨b,hb,h⟩:=bind_some h
  have h:=(gd_some h).2
  generalize hc:(if (if (if (!b)=true then true else (decide ((m.Relocs.length:Int) > 8192)))=true then true else (decide (m.Entry < 0)))=true then true else (decide (m.Entry ≥ ((gt m.Segments 0).Len))))=c at h
  cases c with
  | true=>rw [cond_true] at h;exact absurd (Option.some.inj h) (by decide)
  | false =>
    rw [ite_tt,ite_tt,ite_tt] at hc
    simp only [Bool.or_eq_false_iff,decide_eq_false_iff_not,Bool.not_eq_false'] at hc
    obtain ⟨⟨⟨rfl,c2⟩,c3⟩,c4⟩:=hc
    unfold module_validSegments at hb
    obtain ⟨z,hz,hb⟩:=bind_some hb
    have hi:segJ m (0,0):=⟨0,rfl,by omega,fun _=>rfl,fun i hi=>absurd hi (by omega)⟩
    rcases loop_out (segJ m) (fun z=>z = .inl false∨∃ f,z = .inr f∧∀ i,i < m.Segments.length→segX m i) (segX_step n m hG.hS s3) (segX_end n m) n (0,0) z hi hz with rfl | ⟨f,rfl,hf⟩
    · cases hb
    · exact ⟨h0,b2,r,s1,s2,s3,hf,by omega,by omega⟩
theorem Valid.o {n:Nat} {m:TLoad} (h:Valid n m) {i:Int} (h0:0≤i) (h1:i < m.Segments.length):0≤(gt m.Segments i.toNat).Len∧(gt m.Segments i.toNat).Len≤65536∧0≤(gt m.Segments i.toNat).Origin∧(gt m.Segments i.toNat).Origin≤65536∧0≤(gt m.Segments i.toNat).From∧(gt m.Segments i.toNat).From+(gt m.Segments i.toNat).Len≤(m.Text.length:Int)∧(gt m.Segments i.toNat).Origin+(gt m.Segments i.toNat).Len≤65536:=by
  obtain ⟨a,b,c,d,e,f,g,_⟩:=h.ok i.toNat (by omega)
  exact ⟨a,b,c,d,e,f,g⟩
theorem size_ge {n:Nat} {m:TLoad} (hG:Good n m) (hV:Valid n m):∃ k,fetch_Size n m=some k∧ref33_Size n m=some k∧0≤k∧k≤65536∧∀ i:Int,0≤i→i < m.Segments.length→(gt m.Segments i.toNat).Origin+(gt m.Segments i.toNat).Len≤k:=by
  have hn:=hG.hn
  obtain ⟨k,h1,h2⟩:=size_eq n m hG.hS hG.hT hG.hR (by omega)
  refine ⟨k,h1,h2,?_⟩
  unfold fetch_Size at h1
  rw [hV.chk,Option.bind_some] at h1
  simp only [bne_self_eq_false,cond_false] at h1
  obtain ⟨y,hy,h1⟩:=bind_some h1
  have h1:y=k:=Option.some.inj h1
  subst h1
  have:=loop_out (body:=fun (x:Int×Int)=>fetch_Size_b2 n m (m.Segments.length:Int) x.1 x.2) (fun x=>∃ k:Nat,x.2=(k:Int)∧k≤m.Segments.length∧0≤x.1∧x.1≤65536∧∀ i:Int,0≤i→i < k→(gt m.Segments i.toNat).Origin+(gt m.Segments i.toNat).Len≤x.1)
    (fun y=>0≤y∧y≤65536∧∀ i:Int,0≤i→i < m.Segments.length→(gt m.Segments i.toNat).Origin+(gt m.Segments i.toNat).Len≤y)
    (fun x y hI h=>by
      obtain ⟨u,j⟩:=x
      obtain ⟨k,hj,hk,a1,a2,a3⟩:=hI
      simp only at hj a1 a2 a3 h
      subst hj
      simp only [fetch_Size_b2,bif_ite] at h
      by_cases c1:(k:Int) < (m.Segments.length:Int)
      · obtain ⟨o1,o2,o3,o4,o5,o6,o7⟩:=hV.o (i:=(k:Int)) (by omega) c1
        simp only [c1,decide_true,if_true] at h
        have h:=(gd_some h).2
        rw [wid (n:=(k:Int)+1) (by have:=hG.hS;omega),wid (by omega)] at h
        simp only [Option.some.injEq,Sum.inl.injEq] at h
        subst h
        refine ⟨k+1,by simp,by omega,?_,?_,fun i i0 i1=>?_⟩
        · simp only;split <;> omega
        · simp only;split <;> omega
        · simp only
          by_cases e:i=k
          · subst e;split <;> omega
          · have:=a3 i i0 (by omega);split <;> omega
      · simp [c1] at h)
    (fun x z hI h=>by
      obtain ⟨u,j⟩:=x
      obtain ⟨k,hj,hk,a1,a2,a3⟩:=hI
      simp only at hj a1 a2 a3 h
      subst hj
      simp only [fetch_Size_b2,bif_ite] at h
      by_cases c1:(k:Int) < (m.Segments.length:Int)
      · simp only [c1,decide_true,if_true] at h
        have h:=(gd_some h).2
        cases h
      · simp only [c1,decide_false,Bool.false_eq_true,if_false,Option.some.injEq,Sum.inr.injEq] at h
        subst h
        exact ⟨a1,a2,fun i i0 i1=>a3 i i0 (by omega)⟩) n (0,0) y ⟨0,rfl,by omega,by simp,by simp,fun i a b=>absurd b (by omega)⟩ hy
  exact this
def segT (t:List Int) (g:TSegment):List Int:=List.drop g.From.toNat (List.take (g.From+g.Len).toNat t)
def txt (m:TLoad) (a:Int):List Int:=relF a m.Relocs m.Text
def ldP (m:TLoad) (a:Int) (s:List Int) (i:Int):List Int:=putP s (a+(gt m.Segments i.toNat).Origin) (segT (txt m a) (gt m.Segments i.toNat))
theorem ldP_len {m:TLoad} {a i:Int} {s:List Int}:(ldP m a s i).length=s.length:=putP_len
theorem txt_len {m:TLoad} {a:Int}:(txt m a).length=m.Text.length:=relF_len _ _ _
theorem segT_len {t:List Int} {g:TSegment} (h0:0≤g.From) (h1:0≤g.Len) (h2:g.From+g.Len≤t.length):((segT t g).length:Int)=g.Len:=by
  unfold segT;simp;omega
theorem gt_segT {t:List Int} {g:TSegment} {i:Nat} (h0:0≤g.From) (h:(i:Int) < g.Len):gt (segT t g) i=gt t (g.From.toNat+i):=by
  unfold segT
  rw [gt_drop,gt_take (by omega)]
section
variable {n:Nat} {m:TLoad} (hG:Good n m) (hV:Valid n m) {a:Int} (a0:0≤a) (a1:a≤65536)
include hG hV a0 a1
theorem relW:link_Relocate n m a=some (txt m a,0):=Relocate_eq n (by have:=hG.hn;omega) m a hG.hT hG.hR hV.chk hG.hk hV.rel a0 (by omega)
theorem relR:ref32_Relocate n m a=some (txt m a,0):=Relocate2_eq n (by have:=hG.hn;omega) m a hG.hT hG.hR hV.chkR hG.hk hV.rel a0 (by omega)
theorem loaderW (s k:List Int):fetch_loader_M1 n s k m a=some (m.Text,m.Relocs,m.Segments,m.Entry,a,txt m a):=by
  simp only [fetch_loader_M1,relW hG hV a0 a1,Option.bind_some]
theorem loadW {s k:List Int} (h:SI s k) {i:Int} (i0:0≤i) (i1:i < m.Segments.length):fetch_loader_1_M1 n i m.Text m.Relocs m.Segments m.Entry s k a (txt m a)=some (ldP m a s i):=by
  obtain ⟨o1,o2,o3,o4,o5,o6,o7⟩:=hV.o i0 i1
  have hT:=hG.hT
  unfold fetch_loader_1_M1
  rw [gd_pos _ ⟨i0,i1⟩,wid (by omega),gd_pos _ (by rw [txt_len];omega),wid (by omega),putW n h]
  rfl
theorem loadR {s k:List Int} (h:SI s k) {i:Int} (i0:0≤i) (i1:i < m.Segments.length):ref33_load_M1 n s k m a i=some (ldP m a s i):=by
  obtain ⟨o1,o2,o3,o4,o5,o6,o7⟩:=hV.o i0 i1
  have hT:=hG.hT
  unfold ref33_load_M1
  rw [relR hG hV a0 a1,Option.bind_some,gd_pos _ ⟨i0,i1⟩,wid (by omega),gd_pos _ (by simp only [txt_len];omega),wid (by omega),putR n (by have:=hG.hn;omega) h]
  rfl
end
theorem gt_ldP {n:Nat} {m:TLoad} (hG:Good n m) (hV:Valid n m) {a:Int} (a0:0≤a) (a1:a≤65536) {s:List Int} {i:Int} (i0:0≤i) (i1:i < m.Segments.length) (hfit:a+(gt m.Segments i.toNat).Origin+(gt m.Segments i.toNat).Len≤s.length) (q:Nat) :
    gt (ldP m a s i) q=if a+(gt m.Segments i.toNat).Origin≤(q:Int)∧(q:Int) < a+(gt m.Segments i.toNat).Origin+(gt m.Segments i.toNat).Len then gt (txt m a) ((gt m.Segments i.toNat).From.toNat+(q - (a+(gt m.Segments i.toNat).Origin).toNat)) else gt s q:=by
  obtain ⟨o1,o2,o3,o4,o5,o6,o7⟩:=hV.o i0 i1
  have hl:=segT_len (t:=txt m a) (g:=gt m.Segments i.toNat) o5 o1 (by rw [txt_len];omega)
  unfold ldP putP
  rw [inP_true (by omega),if_pos rfl,gt_over (by omega)]
  by_cases c:a+(gt m.Segments i.toNat).Origin≤(q:Int)∧(q:Int) < a+(gt m.Segments i.toNat).Origin+(gt m.Segments i.toNat).Len
  · rw [if_pos c,if_pos (by omega),gt_segT o5 (by omega)]
  · rw [if_neg c,if_neg (by omega)]
end Go.Proofs.Ytcbcdjincgclaaa
