/- Text. -/
import Derived.Test.YtcbcdjincgclaaaF
import Derived.Test.YtcbcdjincgclaaaAE21
set_option linter.unusedSimpArgs false
set_option linter.unusedVariables false
set_option maxHeartbeats 1000000
set_option linter.unusedVariables false
set_option linter.unusedSimpArgs false
set_option maxRecDepth 100000
namespace Go.Proofs.Ytcbcdjincgclaaa
open Go.AE
def N0:Nat:=4194304
theorem wid {n:Int} (h:-4611686018427387904≤n∧n≤4611686018427387904):IntKind.wrap .i64 n=n:=w64_id (by omega) (by omega)
theorem bif_ite {α:Type} (b:Bool) (x y:α):(bif b then x else y)=if b=true then x else y:=by cases b <;> rfl
theorem ite_ff (p q:Bool):(if p=true then q else false)=(p && q):=by cases p <;> simp
theorem ite_tt (p q:Bool):(if p=true then true else q)=(p || q):=by cases p <;> simp
theorem loop_two {X X' Y Y':Type} {body:X→Option (X ⊕ Y)} {body':X'→Option (X' ⊕ Y')} (I:X→X'→Prop) (μ:X→Nat) (S:Y→Y'→Prop)
    (hb:∀ x x',I x x'→(∃ y y',body x=some (.inl y)∧body' x'=some (.inl y')∧I y y'∧μ y < μ x)∨(∃ z z',body x=some (.inr z)∧body' x'=some (.inr z')∧S z z')) :
    ∀ (n:Nat) (x:X) (x':X'),I x x'→μ x < n→∃ z z',loopF body n x=some z∧loopF body' n x'=some z'∧S z z'
  | 0,x,x',_,h=>by omega
  | n+1,x,x',hI,h=>by
    rcases hb x x' hI with ⟨y,y',h1,h2,h3,h4⟩ | ⟨z,z',h1,h2,h3⟩
    · rw [loopF_step h1,loopF_step h2]
      exact loop_two I μ S hb n y y' h3 (by omega)
    · rw [loopF_done h1,loopF_done h2]
      exact ⟨z,z',rfl,rfl,h3⟩
theorem seg_body (n:Nat) (m:TLoad) (f i:Int):module_validSegments_b2 n m (m.Segments.length:Int) f i=ref31_segments_b2 n m f i:=by
  simp only [module_validSegments_b2,ref31_segments_b2,module_validSegments_k4,module_validSegments_k3]
  by_cases h:i < (m.Segments.length:Int)
  · by_cases h0:0≤i
    · simp only [h,decide_true,bif_ite,if_true,gd_pos _ (And.intro h0 h)]
      generalize gt m.Segments (Int.toNat i)=g
      split
      · rfl
      · by_cases hi:i=0
        · subst hi
          simp [gd]
        · have hi':(i == 0)=false:=by simpa using hi
          have hi2:decide (i > 0)=true:=by simp;omega
          by_cases hp:g.Parent < 0∨i≤g.Parent
          · have:(if (decide (g.Parent < 0))=true then true else (decide (g.Parent ≥ i)))=true:=by rcases hp with h | h <;> simp [h]
            simp [gd,hi',hi2,this]
          · have:(if (decide (g.Parent < 0))=true then true else (decide (g.Parent ≥ i)))=false:=by simp;omega
            have hb:0≤g.Parent∧g.Parent < (m.Segments.length:Int):=by omega
            simp [gd,hi',hi2,this,hb]
    · simp only [h,h0,decide_true,bif_ite,if_true,gd,false_and,if_false]
  · simp [h]
theorem gd_t {α:Type} (x:Option α):gd True x=x:=rfl
theorem ite_cs {α:Type} {c:Bool} {x y:α} (P:α→Prop) (h1:P x) (h2:P y):P (if c=true then x else y):=by
  cases c
  · exact h2
  · exact h1
def Nx (m:TLoad) (i:Int) (z:Option ((Int×Int) ⊕ (Bool ⊕ Int))):Prop:=(∃ f',z=some (.inl (f',i+1))∧i < (m.Segments.length:Int))∨z=some (.inr (.inl false))∨∃ f',z=some (.inr (.inr f'))
theorem seg_next (n:Nat) (m:TLoad) (f i:Int) (h0:0≤i) (hl:m.Segments.length≤2097152):Nx m i (ref31_segments_b2 n m f i):=by
  rw [← seg_body]
  simp only [module_validSegments_b2,module_validSegments_k4,module_validSegments_k3]
  by_cases h:i < (m.Segments.length:Int)
  · simp only [h,h0,and_self,decide_true,bif_ite,if_true,gd_t]
    rw [wid (n:=i+1) (by omega)]
    generalize gt m.Segments (Int.toNat i)=g
    refine ite_cs (Nx m i) (.inr (.inl rfl)) (ite_cs (Nx m i) (ite_cs (Nx m i) (.inr (.inl rfl)) (.inl ⟨_,rfl,h⟩)) ?_)
    by_cases hp:g.Parent < 0∨i≤g.Parent
    · have:(if (decide (g.Parent < 0))=true then true else (decide (g.Parent ≥ i)))=true:=by rcases hp with h | h <;> simp [h]
      simp only [gd,this,Bool.not_true,Bool.false_eq_true,false_implies,and_self,if_true]
      exact .inr (.inl rfl)
    · have:(if (decide (g.Parent < 0))=true then true else (decide (g.Parent ≥ i)))=false:=by simp;omega
      have hb:0≤g.Parent∧g.Parent < (m.Segments.length:Int):=by omega
      rw [gd_pos _ (fun _=>hb)]
      exact ite_cs (Nx m i) (.inr (.inl rfl)) (.inl ⟨_,rfl,h⟩)
  · simp only [h,decide_false,bif_ite,Bool.false_eq_true,if_false]
    exact .inr (.inr ⟨_,rfl⟩)
theorem seg_loop (n:Nat) (m:TLoad) (hl:m.Segments.length≤2097152) (hn:2097152 < n):∃ y,loopF (fun (x:Int×Int)=>ref31_segments_b2 n m x.1 x.2) n (0,0)=some y∧(y = .inl false∨∃ f,y = .inr f):=by
  refine loopF_inv (fun x=>0≤x.2∧x.2≤(m.Segments.length:Int)) (fun x=>m.Segments.length - x.2.toNat) _ (fun x hx=>?_) n (0,0) ⟨by simp,by simp⟩ (by simp;omega)
  rcases seg_next n m x.1 x.2 hx.1 hl with ⟨f',h1,h2⟩ | h | ⟨f',h⟩
  · exact .inl ⟨_,h1,⟨by simp;omega,by simp;omega⟩,by simp;omega⟩
  · exact .inr ⟨_,h,.inl rfl⟩
  · exact .inr ⟨_,h,.inr ⟨_,rfl⟩⟩
theorem segments_eq (n:Nat) (m:TLoad) (hl:m.Segments.length≤2097152) (hn:2097152 < n):∃ b,module_validSegments n m=some b∧ref31_segments n m=some b∧(b=true→1≤m.Segments.length∧m.Segments.length≤64):=by
  obtain ⟨y,hy,hc⟩:=seg_loop n m hl hn
  have e:(fun (x:Int×Int)=>module_validSegments_b2 n m (m.Segments.length:Int) x.1 x.2)=fun (x:Int×Int)=>ref31_segments_b2 n m x.1 x.2:=by
    funext x;exact seg_body n m x.1 x.2
  simp only [module_validSegments,ref31_segments,e,hy,Option.bind_some,module_validSegments_k1,ref31_segments_k1]
  by_cases h:(m.Segments.length:Int) < 1∨(m.Segments.length:Int) > 64
  · refine ⟨false,?_,?_,by simp⟩
    · rcases hc with rfl | ⟨f,rfl⟩
      · rfl
      · simp only [Option.some.injEq]
        rcases h with h | h
        · have:decide ((m.Segments.length:Int) ≥ 1)=false:=by simp;omega
          simp only [this];simp
        · have:decide ((m.Segments.length:Int)≤64)=false:=by simp;omega
          simp only [this];simp
    · have:(if (decide ((m.Segments.length:Int) < 1))=true then true else (decide ((m.Segments.length:Int) > 64)))=true:=by rcases h with h | h <;> simp <;> omega
      rw [this];rfl
  · have h1:decide ((m.Segments.length:Int) < 1)=false:=by simp;omega
    have h2:decide ((m.Segments.length:Int) > 64)=false:=by simp;omega
    have h3:decide ((m.Segments.length:Int) ≥ 1)=true:=by simp;omega
    have h4:decide ((m.Segments.length:Int)≤64)=true:=by simp;omega
    simp only [h1,h2,h3,h4,if_true,Bool.false_eq_true,if_false,cond_false]
    rcases hc with rfl | ⟨f,rfl⟩
    · exact ⟨false,rfl,rfl,by simp⟩
    · exact ⟨_,rfl,rfl,fun _=>by omega⟩
def inS (a l:Int) (s:TSegment):Bool:=decide (a ≥ s.From) && decide ((IntKind.wrap .i64 (a+l))≤(IntKind.wrap .i64 (s.From+s.Len)))
theorem runL_idx (a l:Int) (b:List TSegment):∀ (k:Nat),∃ y,runL (fun (k:Nat) s=>if inS a l s then (.inr (.inl (k:Int)):Nat ⊕ (Int ⊕ Unit)) else .inl (k+1)) (fun _=>.inr ()) b k=y∧((b.any (inS a l)=true∧∃ j:Nat,y = .inl (j:Int))∨(b.any (inS a l)=false∧y = .inr ())):=by
  induction b with
  | nil=>intro k;exact ⟨_,rfl,.inr ⟨rfl,rfl⟩⟩
  | cons s b ih =>
    intro k
    simp only [runL,List.any_cons]
    cases h:inS a l s
    · simp only [Bool.false_eq_true,if_false,Bool.false_or]
      exact ih (k+1)
    · simp only [if_true,Bool.true_or]
      exact ⟨_,rfl,.inl ⟨trivial,k,rfl⟩⟩
theorem contains_eq (n:Nat) (b:List TSegment) (a l:Int) (g:Bool) (hn:b.length < n) (hl:b.length≤2097152):slices_ContainsFunc_f54_M1 n b a l g=some (b.any (inS a l)):=by
  have h:=loop_list (σ:=Nat) (body:=fun (x:Int)=>slices_IndexFunc_f68_M1_b2 n a l g b (b.length:Int) x) b (fun k _=>(k:Int))
    (fun (k:Nat) s=>if inS a l s then (.inr (.inl (k:Int)):Nat ⊕ (Int ⊕ Unit)) else .inl (k+1)) (fun _=>.inr ()) (fun k s=>s=k) (s:=0) rfl
    (fun k hk s hs=>by
      subst hs
      have h1:decide ((s:Int) < (b.length:Int))=true:=by simp;omega
      have h2:(0:Int)≤(s:Int)∧(s:Int) < (b.length:Int):=by omega
      simp only [slices_IndexFunc_f68_M1_b2,module_CheckLoad_1_M1,h1,bif_ite,if_true,gd_pos _ h2,Option.bind_some,Int.toNat_natCast,gt_lt hk,ite_ff]
      rw [wid (n:=(s:Int)+1) (by omega)]
      show (if inS a l b[s]=true then _ else _)=_
      cases inS a l b[s] <;> simp)
    (fun k hk s hs s' h=>by
      subst hs
      cases hi:inS a l b[s] <;> rw [hi] at h <;> simp at h
      exact h.symm)
    (fun s _=>by simp [slices_IndexFunc_f68_M1_b2,bif_ite]) hn
  obtain ⟨y,hy,hc⟩:=runL_idx a l b 0
  rw [hy] at h
  simp only [slices_ContainsFunc_f54_M1,slices_IndexFunc_f68_M1,slices_IndexFunc_f68_M1_k1]
  have h':loopF (fun (x:Int)=>slices_IndexFunc_f68_M1_b2 n a l g b (b.length:Int) x) n 0=some y:=h
  rw [h']
  rcases hc with ⟨e,j,rfl⟩ | ⟨e,rfl⟩
  · rw [e]
    simp only [Option.bind_some]
    have:decide ((j:Int) ≥ 0)=true:=by simp
    rw [this]
  · rw [e]
    rfl
theorem runL_in (a l:Int) (b:List TSegment):∀ (t:Bool),runL (fun (t:Bool) s=>(.inl (t || inS a l s):Bool ⊕ Bool)) (fun t=>t) b t=(t || b.any (inS a l)):=by
  induction b with
  | nil=>intro t;simp [runL]
  | cons s b ih=>intro t;simp only [runL,List.any_cons,ih,Bool.or_assoc]
theorem in_eq (n:Nat) (m:TLoad) (i a l:Int) (g:Bool) (hn:m.Segments.length < n) (hl:m.Segments.length≤2097152):loopF (fun (x:Bool×Int)=>ref31_CheckLoad_b5 n m i a l g x.1 x.2) n (false,0)=some (m.Segments.any (inS a l)):=by
  have h:=loop_list (σ:=Bool) (body:=fun (x:Bool×Int)=>ref31_CheckLoad_b5 n m i a l g x.1 x.2) m.Segments (fun k t=>(t,(k:Int)))
    (fun (t:Bool) s=>(.inl (t || inS a l s):Bool ⊕ Bool)) (fun t=>t) (fun _ _=>True) (s:=false) trivial
    (fun k hk s _=>by
      have h1:decide ((k:Int) < (m.Segments.length:Int))=true:=by simp;omega
      have h2:(0:Int)≤(k:Int)∧(k:Int) < (m.Segments.length:Int):=by omega
      simp only [ref31_CheckLoad_b5,h1,bif_ite,if_true,gd_pos _ h2,Int.toNat_natCast,gt_lt hk,ite_ff,ite_tt]
      rw [wid (n:=(k:Int)+1) (by omega)]
      rfl)
    (fun _ _ _ _ _ _=>trivial) (fun s _=>by simp [ref31_CheckLoad_b5,bif_ite]) hn
  have h':loopF (fun (x:Bool×Int)=>ref31_CheckLoad_b5 n m i a l g x.1 x.2) n (false,0)=some (runL (fun (t:Bool) s=>(.inl (t || inS a l s):Bool ⊕ Bool)) (fun t=>t) m.Segments false):=h
  rw [h',runL_in,Bool.false_or]
end Go.Proofs.Ytcbcdjincgclaaa
/-
  ch. 33: module.CheckLoad and the specification's; sizes; FetchFits.
-/
set_option maxHeartbeats 1000000
set_option linter.unusedVariables false
set_option linter.unusedSimpArgs false
set_option maxRecDepth 100000
namespace Go.Proofs.Ytcbcdjincgclaaa
open Go.AE
def prv (m:TLoad) (i:Int):TReloc:=gt m.Relocs (Int.toNat (IntKind.wrap .i64 (i - 1)))
def InvR (m:TLoad) (x:Int×Int) (i:Int):Prop:=x.2=i∧0≤i∧i≤(m.Relocs.length:Int)∧((i=0∧x.1=0)∨(0 < i∧x.1=IntKind.wrap .i64 ((prv m i).At+(prv m i).Len)∧0≤x.1))
def OutR (z:Int ⊕ Unit) (z':Bool ⊕ Unit):Prop:=(z = .inl 310∧z' = .inl false)∨(z = .inr ()∧z' = .inr ())
theorem reloc_step (n:Nat) (m:TLoad) (hS:m.Segments.length≤2097152) (hT:m.Text.length≤2097152) (hR:m.Relocs.length≤2097152) (hn:2097152 < n) (x:Int×Int) (i:Int) (h:InvR m x i) :
    (∃ y y',module_CheckLoad_b2 n m (m.Relocs.length:Int) x.1 x.2=some (.inl y)∧ref31_CheckLoad_b2 n m i=some (.inl y')∧InvR m y y'∧m.Relocs.length - y.2.toNat < m.Relocs.length - x.2.toNat) ∨
    (∃ z z',module_CheckLoad_b2 n m (m.Relocs.length:Int) x.1 x.2=some (.inr z)∧ref31_CheckLoad_b2 n m i=some (.inr z')∧OutR z z'):=by
  obtain ⟨f,j⟩:=x
  obtain ⟨h1,h2,h3,h4⟩:=h
  simp only at h1 h4
  subst h1
  simp only [module_CheckLoad_b2,ref31_CheckLoad_b2]
  by_cases hj:j < (m.Relocs.length:Int)
  · simp only [hj,h2,and_self,decide_true,bif_ite,if_true,gd_t]
    have hp:gt m.Relocs (Int.toNat (IntKind.wrap .i64 (j - 1)))=prv m j:=rfl
    simp only [hp]
    have hw:0 < j→0≤IntKind.wrap .i64 (j - 1)∧IntKind.wrap .i64 (j - 1) < (m.Relocs.length:Int):=by
      intro h;rw [wid (by omega)];omega
    generalize hr:gt m.Relocs (Int.toNat j)=r
    have hc:(if (if (if (if (decide (r.Len < 1))=true then true else (decide (r.Len > 4)))=true then true else (decide (r.At < 0)))=true then true else (decide (r.At > (m.Text.length:Int))))=true then true else (if (decide (j > 0))=true then (decide (r.At < (IntKind.wrap .i64 ((prv m j).At+(prv m j).Len)))) else false))=(if (if (if (decide (r.At < f))=true then true else (decide (r.At > (m.Text.length:Int))))=true then true else (decide (r.Len < 1)))=true then true else (decide (r.Len > 4))):=by
      simp only [ite_tt,ite_ff]
      rw [Bool.eq_iff_iff]
      simp only [Bool.or_eq_true,Bool.and_eq_true,decide_eq_true_eq]
      omega
    rw [gd_pos _ (by
      intro h
      have h':=of_decide_eq_true (Bool.and_eq_true_iff.1 h).2
      exact hw h'),hc]
    generalize hd:(if (if (if (decide (r.At < f))=true then true else (decide (r.At > (m.Text.length:Int))))=true then true else (decide (r.Len < 1)))=true then true else (decide (r.Len > 4)))=d
    cases d with
    | true=>exact .inr ⟨_,_,rfl,rfl,.inl ⟨rfl,rfl⟩⟩
    | false =>
      simp only [ite_tt] at hd
      simp only [Bool.or_eq_false_iff,decide_eq_false_iff_not] at hd
      simp only [Bool.false_eq_true,if_false]
      rw [contains_eq n _ _ _ _ (by omega) hS,in_eq n m _ _ _ _ (by omega) hS]
      simp only [Option.bind_some,ref31_CheckLoad_k4,ref31_CheckLoad_k3,bif_ite]
      cases m.Segments.any (inS r.At r.Len)
      · exact .inr ⟨_,_,rfl,rfl,.inl ⟨rfl,rfl⟩⟩
      · refine .inl ⟨_,_,rfl,rfl,⟨rfl,?_,?_,.inr ⟨?_,?_,?_⟩⟩,?_⟩
        all_goals (try rw [wid (n:=j+1) (by omega)])
        · omega
        · omega
        · omega
        · simp only [prv]
          rw [wid (n:=j+1 - 1) (by omega),show j+1 - 1=j by omega,hr]
        · simp only
          rw [wid (by omega)];omega
        · simp only;omega
  · simp only [hj,decide_false,bif_ite,Bool.false_eq_true,if_false]
    exact .inr ⟨_,_,rfl,rfl,.inr ⟨rfl,rfl⟩⟩
theorem check_eq (n:Nat) (m:TLoad) (hS:m.Segments.length≤2097152) (hT:m.Text.length≤2097152) (hR:m.Relocs.length≤2097152) (hn:2097152 < n):∃ b,module_CheckLoad n m=some (if b=true then 0 else 310)∧ref31_CheckLoad n m=some b:=by
  obtain ⟨b,h1,h2,h3⟩:=segments_eq n m hS hn
  obtain ⟨z,z',k1,k2,k3⟩:=loop_two (InvR m) (fun x=>m.Relocs.length - x.2.toNat) OutR (fun x i h=>reloc_step n m hS hT hR hn x i h) n (0,0) 0 ⟨rfl,by omega,by omega,.inl ⟨rfl,rfl⟩⟩ (by simp;omega)
  simp only [module_CheckLoad,ref31_CheckLoad,h1,h2,Option.bind_some,k1,k2,module_CheckLoad_k1,ref31_CheckLoad_k1]
  cases b with
  | false=>exact ⟨false,by simp [gd],by simp [gd]⟩
  | true =>
    have hl:(0:Int) < (m.Segments.length:Int):=by have:=h3 rfl;omega
    rw [gd_pos _ (fun _=>hl),gd_pos _ (fun _=>hl)]
    simp only [bif_ite]
    generalize (if (if (if (!true)=true then true else (decide ((m.Relocs.length:Int) > 8192)))=true then true else (decide (m.Entry < 0)))=true then true else (decide (m.Entry ≥ ((gt m.Segments 0).Len))))=c
    cases c with
    | true=>exact ⟨false,rfl,rfl⟩
    | false =>
      rcases k3 with ⟨rfl,rfl⟩ | ⟨rfl,rfl⟩
      · exact ⟨false,rfl,rfl⟩
      · exact ⟨true,rfl,rfl⟩
theorem size_body (n:Nat) (m:TLoad) (f i:Int):fetch_Size_b2 n m (m.Segments.length:Int) f i=ref33_Size_b2 n m f i:=by
  simp only [fetch_Size_b2,ref33_Size_b2,and_self]
theorem size_loop (n:Nat) (m:TLoad) (hl:m.Segments.length≤2097152) (hn:2097152 < n):∃ y,loopF (fun (x:Int×Int)=>ref33_Size_b2 n m x.1 x.2) n (0,0)=some y:=by
  obtain ⟨y,h,_⟩:=loopF_inv (body:=fun (x:Int×Int)=>ref33_Size_b2 n m x.1 x.2) (fun x=>0≤x.2∧x.2≤(m.Segments.length:Int)) (fun x=>m.Segments.length - x.2.toNat) (fun _=>True) (fun x hx=>by
    obtain ⟨f,i⟩:=x
    simp only at hx ⊢
    by_cases h:i < (m.Segments.length:Int)
    · refine .inl ⟨((if (IntKind.wrap .i64 (((gt m.Segments (Int.toNat i)).Origin)+((gt m.Segments (Int.toNat i)).Len))) > f then (IntKind.wrap .i64 (((gt m.Segments (Int.toNat i)).Origin)+((gt m.Segments (Int.toNat i)).Len))) else f),i+1),?_,?_,?_⟩
      · simp only [ref33_Size_b2,h,hx.1,and_self,decide_true,cond_true,gd_t]
        rw [wid (n:=i+1) (by omega)]
      · simp only;omega
      · simp only;omega
    · exact .inr ⟨f,by simp only [ref33_Size_b2,h,decide_false,cond_false],trivial⟩) n (0,0) ⟨by simp,by simp⟩ (by simp;omega)
  exact ⟨y,h⟩
theorem size_eq (n:Nat) (m:TLoad) (hS:m.Segments.length≤2097152) (hT:m.Text.length≤2097152) (hR:m.Relocs.length≤2097152) (hn:2097152 < n):∃ k,fetch_Size n m=some k∧ref33_Size n m=some k:=by
  obtain ⟨b,h1,h2⟩:=check_eq n m hS hT hR hn
  obtain ⟨y,hy⟩:=size_loop n m hS hn
  have e:(fun (x:Int×Int)=>fetch_Size_b2 n m (m.Segments.length:Int) x.1 x.2)=fun (x:Int×Int)=>ref33_Size_b2 n m x.1 x.2:=by
    funext x;exact size_body n m x.1 x.2
  simp only [fetch_Size,ref33_Size,h1,h2,Option.bind_some,e,hy,fetch_Size_k1,ref33_Size_k1]
  cases b with
  | false=>exact ⟨0,rfl,rfl⟩
  | true=>exact ⟨y,rfl,rfl⟩
theorem fit_eq (n:Nat) (m:TLoad) (size:Int) (hS:m.Segments.length≤2097152) (hT:m.Text.length≤2097152) (hR:m.Relocs.length≤2097152) (hn:2097152 < n):∃ k,fetch_Fit n m size=some k∧ref33_Fit n m size=some k:=by
  obtain ⟨b,h1,h2⟩:=check_eq n m hS hT hR hn
  obtain ⟨y,h3,h4⟩:=size_eq n m hS hT hR hn
  simp only [fetch_Fit,ref33_Fit,h1,h2,h3,h4,Option.bind_some]
  cases b with
  | false=>exact ⟨310,rfl,rfl⟩
  | true =>
    simp only [if_true,bif_ite,Bool.not_true,Bool.false_eq_true,if_false,bne_self_eq_false]
    split
    · exact ⟨_,rfl,rfl⟩
    · exact ⟨_,rfl,rfl⟩
end Go.Proofs.Ytcbcdjincgclaaa
/-
  ch. 32: a number added to some bytes: twice, at different places.
-/
set_option linter.unusedVariables false
set_option linter.unusedSimpArgs false
namespace Go.Proofs.Ytcbcdjincgclaaa
open Go.AE
def adj (b:List Int) (p:Nat):Nat→Int→List Int
  | 0,_=>b
  | k+1,v=>adj (b.set (p+k) ((v+gt b (p+k)) % 256)) p k ((v+gt b (p+k)) / 256)
theorem adj_len (b:List Int) (p:Nat):∀ k v,(adj b p k v).length=b.length:=by
  intro k
  induction k generalizing b with
  | zero=>intro v;rfl
  | succ k ih=>intro v;simp only [adj];rw [ih];simp
theorem gt_set {b:List Int} {i j:Nat} {v:Int}:gt (b.set i v) j=if i=j∧i < b.length then v else gt b j:=by
  simp only [gt,List.getD_eq_getElem?_getD,List.getElem?_set]
  by_cases h:i=j
  · subst h
    by_cases h2:i < b.length
    · simp [h2]
    · simp [h2,Nat.le_of_not_lt h2]
  · simp [h]
def bytesOk (b:List Int):Prop:=∀ i,i < b.length→0≤gt b i∧gt b i < 256
theorem bytesOk_set {b:List Int} (h:bytesOk b) (i:Nat) (x:Int) (hx:0≤x∧x < 256):bytesOk (b.set i x):=by
  intro j hj
  rw [gt_set]
  split
  · exact hx
  · exact h j (by simpa using hj)
theorem bytesOk_adj {b:List Int} (p:Nat):∀ k v,bytesOk b→bytesOk (adj b p k v):=by
  intro k
  induction k generalizing b with
  | zero=>intro v h;exact h
  | succ k ih =>
    intro v h
    simp only [adj]
    exact ih _ (bytesOk_set h _ _ (by omega))
end Go.Proofs.Ytcbcdjincgclaaa
/-
  ch. 32: relocation by the program: what it gives.
-/
set_option maxHeartbeats 1000000
set_option linter.unusedVariables false
set_option linter.unusedSimpArgs false
set_option maxRecDepth 100000
namespace Go.Proofs.Ytcbcdjincgclaaa
open Go.AE
theorem wu8 (x:Int):IntKind.wrap .u8 x=x % 256:=by simp [IntKind.wrap,IntKind.bits,IntKind.signed]
theorem adjust_loop (n:Nat) (p:Nat):∀ (k:Nat) (b:List Int) (v:Int),p+k≤b.length→b.length≤2097152→bytesOk b→-33554432≤v→v≤33554432→∀ f,k < f →
    loopF (fun (x:(List Int)×Int×Int)=>link_adjust_1_M1_b1 n (p:Int) x.1 x.2.1 x.2.2) f (b,v,(p:Int)+(k:Int) - 1)=some (adj b p k v):=by
  intro k
  induction k with
  | zero =>
    intro b v hl hb hk h1 h2 f hf
    obtain ⟨g,rfl⟩:∃ g,f=g+1:=⟨f - 1,by omega⟩
    refine loopF_done ?_
    simp only [link_adjust_1_M1_b1]
    have:decide ((p:Int)+((0:Nat):Int) - 1 ≥ (p:Int))=false:=decide_eq_false (by omega)
    rw [this]
    rfl
  | succ k ih =>
    intro b v hl hb hk h1 h2 f hf
    obtain ⟨g,rfl⟩:∃ g,f=g+1:=⟨f - 1,by omega⟩
    have hg:=hk (p+k) (by omega)
    have e0:(p:Int)+((k+1:Nat):Int) - 1=((p+k:Nat):Int):=by omega
    rw [e0]
    have hd:decide (((p+k:Nat):Int) ≥ (p:Int))=true:=decide_eq_true (by omega)
    refine (loopF_step (x':=(b.set (p+k) ((v+gt b (p+k)) % 256),(v+gt b (p+k)) / 256,(p:Int)+(k:Int) - 1)) ?_).trans ?_
    · simp only [link_adjust_1_M1_b1,hd,cond_true,Int.toNat_natCast]
      rw [gd_pos _ (by omega),gd_pos _ (by omega),wid (n:=gt b (p+k)) (by omega),wid (n:=v+gt b (p+k)) (by omega),wu8,wid (by omega)]
      have e1:(2:Int) ^ min 8 (IntKind.bits .i64)=256:=by decide
      rw [e1,Int.fdiv_eq_ediv_of_nonneg _ (by omega)]
      simp only [Option.some.injEq,Sum.inl.injEq,Prod.mk.injEq,true_and]
      omega
    · rw [ih _ _ (by simp;omega) (by simp;omega) (bytesOk_set hk _ _ (by omega)) (by omega) (by omega) g (by omega)]
      simp [adj]
theorem adjust_eq (n:Nat) (hn:8 < n) (p k:Nat) (b:List Int) (v:Int) (hl:p+k≤b.length) (hb:b.length≤2097152) (hk:bytesOk b) (h1:-33554432≤v) (h2:v≤33554432) (h4:k≤4) :
    link_adjust_1_M1 n (p:Int) (k:Int) v b=some (adj b p k v):=by
  unfold link_adjust_1_M1
  rw [wid (n:=(p:Int)+(k:Int)) (by omega),wid (by omega),adjust_loop n p k b v hl hb hk h1 h2 n (by omega)]
  rfl
def relOk (L:Nat) (r:TReloc):Prop:=0≤r.At∧1≤r.Len∧r.Len≤4∧r.At+r.Len≤(L:Int)
def by1 (r:TReloc) (a:Int):Int:=if r.Neg=true then -a else a
def rel1 (a:Int) (b:List Int) (r:TReloc):List Int:=adj b r.At.toNat r.Len.toNat (by1 r a)
def relF (a:Int):List TReloc→List Int→List Int
  | [],b=>b
  | r :: rs,b=>relF a rs (rel1 a b r)
theorem rel1_len (a:Int) (b:List Int) (r:TReloc):(rel1 a b r).length=b.length:=adj_len _ _ _ _
theorem relF_len (a:Int):∀ (rs:List TReloc) (b:List Int),(relF a rs b).length=b.length
  | [],b=>rfl
  | r :: rs,b=>by rw [relF,relF_len a rs,rel1_len]
theorem rel1_ok {a:Int} {b:List Int} {r:TReloc} (h:bytesOk b):bytesOk (rel1 a b r):=bytesOk_adj _ _ _ h
def apart1 (r s:TReloc):Prop:=r.At+r.Len≤s.At
def RelsOk (L:Nat):List TReloc→Prop
  | []=>True
  | r :: rs=>relOk L r∧(∀ s∈rs,apart1 r s)∧RelsOk L rs
theorem RelsOk.mem {L:Nat}:∀ {rs:List TReloc},RelsOk L rs→∀ s∈rs,relOk L s
  | r :: rs,h,s,hs=>by
    rcases List.mem_cons.1 hs with rfl | hs
    · exact h.1
    · exact RelsOk.mem h.2.2 s hs
theorem Clone_eq (n:Nat) (l:List Int) (hl:l.length≤2147483648):slices_Clone_f70 n l=some l:=by
  refine uniB_eq fun b hb=>?_
  cases b with
  | true=>rw [hb rfl];rfl
  | false=>simp [gd_pos _ hl]
theorem runL_rel {a:Int} {L:Nat}:∀ (rs:List TReloc) (b:List Int),runL (fun (s:List Int×Nat) (r:TReloc)=>(.inl (rel1 a s.1 r,s.2):(List Int×Nat) ⊕ (List Int×Nat))) (fun s=>s) rs (b,L)=(relF a rs b,L)
  | [],b=>rfl
  | r :: rs,b=>by
    simp only [runL,relF]
    exact runL_rel rs _
theorem Relocate_eq (n:Nat) (hn:2097152 < n) (m:TLoad) (a:Int) (hT:m.Text.length≤2097152) (hR:m.Relocs.length≤2097152) (hc:module_CheckLoad n m=some 0) (hk:bytesOk m.Text) (hr:RelsOk m.Text.length m.Relocs) (h0:0≤a) (h1:a≤16777215) :
    link_Relocate n m a=some (relF a m.Relocs m.Text,0):=by
  have h2:(if (decide (a < 0))=true then true else (decide (a ≥ 16777216)))=false:=by
    have e1:decide (a < 0)=false:=decide_eq_false (by omega)
    have e2:decide (a ≥ 16777216)=false:=decide_eq_false (by omega)
    rw [e1,e2];rfl
  simp only [link_Relocate,hc,Option.bind_some,bne_self_eq_false,cond_false,h2,Clone_eq n m.Text (by omega)]
  have hb:∀ k (hk:k < m.Relocs.length) (s:List Int×Nat),(s.1.length=m.Text.length∧bytesOk s.1)→link_Relocate_b2 n a m (m.Relocs.length:Int) s.1 s.2 (k:Int)=some (.inl (rel1 a s.1 m.Relocs[k],s.2,((k+1:Nat):Int))):=by
    intro k hk s ⟨hs1,hs2⟩
    have e1:decide ((k:Int) < (m.Relocs.length:Int))=true:=by simp;omega
    have hrk:=RelsOk.mem hr _ (List.getElem_mem hk)
    obtain ⟨r1,r2,r3,r4⟩:=hrk
    simp only [link_Relocate_b2,e1,cond_true,Int.toNat_natCast,gt_lt hk]
    rw [gd_pos _ (by omega)]
    generalize hrr:m.Relocs[k]=r at *
    have ea:r.At=((r.At.toNat:Nat):Int):=by omega
    have el:r.Len=((r.Len.toNat:Nat):Int):=by omega
    have hadj:∀ v:Int,-33554432≤v→v≤33554432→link_adjust_1_M1 n r.At r.Len v s.1=some (adj s.1 r.At.toNat r.Len.toNat v):=by
      intro v hv1 hv2
      rw [ea,el]
      exact adjust_eq n (by omega) r.At.toNat r.Len.toNat s.1 v (by omega) (by omega) hs2 hv1 hv2 (by omega)
    cases hneg:r.Neg with
    | true =>
      simp only [cond_true,wid (n:=0 - a) (by omega),hadj (0 - a) (by omega) (by omega),Option.bind_some,link_Relocate_k3,wid (n:=(k:Int)+1) (by omega)]
      have:0 - a=by1 r a:=by unfold by1;rw [if_pos hneg];omega
      rw [this]
      rfl
    | false =>
      simp only [cond_false,hadj a (by omega) (by omega),Option.bind_some,link_Relocate_k3,wid (n:=(k:Int)+1) (by omega)]
      have:a=by1 r a:=by unfold by1;rw [if_neg (by rw [hneg];simp)]
      unfold rel1
      rw [← this]
      rfl
  have h:=loop_list (body:=fun (x:(List Int)×Nat×Int)=>link_Relocate_b2 n a m (m.Relocs.length:Int) x.1 x.2.1 x.2.2) m.Relocs (fun k (s:List Int×Nat)=>(s.1,s.2,(k:Int)))
    (fun s r=>(.inl (rel1 a s.1 r,s.2):(List Int×Nat) ⊕ (List Int×Nat))) (fun s=>s) (fun k s=>s.1.length=m.Text.length∧bytesOk s.1) (s:=(m.Text,m.Text.length)) ⟨rfl,hk⟩
    (fun k hk s hs=>by rw [hb k hk s hs])
    (fun k hk s hs s' h=>by
      simp only [Sum.inl.injEq] at h
      subst h
      exact ⟨by rw [rel1_len];exact hs.1,rel1_ok hs.2⟩)
    (fun s hs=>by
      have e1:decide ((m.Relocs.length:Int) < (m.Relocs.length:Int))=false:=by simp
      simp only [link_Relocate_b2,e1,cond_false]) (n:=n) (by omega)
  have h':loopF (fun (x:(List Int)×Nat×Int)=>link_Relocate_b2 n a m (m.Relocs.length:Int) x.1 x.2.1 x.2.2) n (m.Text,m.Text.length,0)=_:=h
  rw [h',runL_rel]
  simp only [Option.bind_some,link_Relocate_k1]
  rw [List.take_of_length_le (by rw [relF_len];exact Nat.le_refl _)]
end Go.Proofs.Ytcbcdjincgclaaa
/-
  ch. 32: what a valid load module is.
-/
set_option maxHeartbeats 1000000
set_option linter.unusedVariables false
set_option linter.unusedSimpArgs false
set_option maxRecDepth 100000
namespace Go.Proofs.Ytcbcdjincgclaaa
open Go.AE
theorem loop_out {X Y:Type} {body:X→Option (X ⊕ Y)} (I:X→Prop) (R:Y→Prop) (h1:∀ x y,I x→body x=some (.inl y)→I y) (h2:∀ x z,I x→body x=some (.inr z)→R z):∀ (n:Nat) (x:X) (z:Y),I x→loopF body n x=some z→R z
  | 0,x,z,_,h=>by simp [loopF] at h
  | n+1,x,z,hI,h=>by
    cases hb:body x with
    | none=>simp [loopF,hb] at h
    | some w =>
      cases w with
      | inl y=>rw [loopF_step hb] at h;exact loop_out I R h1 h2 n y z (h1 x y hI hb) h
      | inr y=>rw [loopF_done hb] at h;cases h;exact h2 x z hI hb
def segOk (L:Int) (i:Nat) (s:TSegment):Prop:=0≤s.Len∧s.Len≤65536∧0≤s.Origin∧s.Origin≤65536∧0≤s.From∧s.From+s.Len≤L∧s.Origin+s.Len≤65536∧(i=0→s.Parent = -1∧s.Origin=0)∧(0 < i→0≤s.Parent∧s.Parent < (i:Int))
def segI (m:TLoad) (x:Int×Int):Prop:=∃ k:Nat,x.2=(k:Int)∧k≤m.Segments.length∧0≤x.1∧x.1≤65536 * (k:Int)∧∀ i,i < k→segOk x.1 i (gt m.Segments i)
theorem segOk_mono {L L':Int} {i:Nat} {s:TSegment} (h:segOk L i s) (hl:L≤L'):segOk L' i s:=by
  obtain ⟨h1,h2,h3,h4,h5,h6,h7⟩:=h
  exact ⟨h1,h2,h3,h4,h5,by omega,h7⟩
theorem seg_step (n:Nat) (m:TLoad) (hS:m.Segments.length≤2097152) (x y:Int×Int) (hI:segI m x) (h:module_validSegments_b2 n m (m.Segments.length:Int) x.1 x.2=some (.inl y)):segI m y:=by
  obtain ⟨f,j⟩:=x
  obtain ⟨k,hj,hk,h0,h1,h2⟩:=hI
  simp only at hj h0 h1 h2
  subst hj
  simp only [module_validSegments_b2,bif_ite,Int.toNat_natCast] at h
  by_cases c1:(k:Int) < (m.Segments.length:Int)
  · have hkl:k < m.Segments.length:=by omega
    simp only [c1,decide_true,if_true] at h
    obtain ⟨_,h⟩:=gd_some h
    simp only [ite_tt] at h
    generalize hc:(decide ((gt m.Segments k).Len < 0) || decide ((gt m.Segments k).Origin < 0) || decide ((gt m.Segments k).Origin > 65536) || decide ((gt m.Segments k).Len > IntKind.wrap .i64 (65536 - (gt m.Segments k).Origin)) || (gt m.Segments k).From != f)=c at h
    cases c with
    | true=>simp at h
    | false =>
      simp only [Bool.false_eq_true,if_false] at h
      simp only [Bool.or_eq_false_iff,decide_eq_false_iff_not,bne_eq_false_iff_eq] at hc
      obtain ⟨⟨⟨⟨k1,k2⟩,k3⟩,k4⟩,k5⟩:=hc
      rw [wid (by omega)] at k4
      have fin:(k=0→(gt m.Segments k).Parent = -1∧(gt m.Segments k).Origin=0)→(0 < k→0≤(gt m.Segments k).Parent∧(gt m.Segments k).Parent < (k:Int))→module_validSegments_k4 n m f (gt m.Segments k).Parent (gt m.Segments k).Origin (gt m.Segments k).From (gt m.Segments k).Len (m.Segments.length:Int) (k:Int)=some (.inl y)→segI m y:=by
        intro p1 p2 h
        simp only [module_validSegments_k4,module_validSegments_k3,Option.some.injEq,Sum.inl.injEq] at h
        subst h
        have hw:IntKind.wrap .i64 (f+(gt m.Segments k).Len)=f+(gt m.Segments k).Len:=wid (by omega)
        have hw2:IntKind.wrap .i64 ((k:Int)+1)=(k:Int)+1:=wid (by omega)
        refine ⟨k+1,?_,by omega,?_,?_,?_⟩
        · simp only [hw2];omega
        · simp only [hw];omega
        · simp only [hw];omega
        · intro i hi
          simp only [hw]
          by_cases e:i=k
          · subst e
            exact ⟨by omega,by omega,by omega,by omega,by omega,by omega,by omega,p1,p2⟩
          · exact segOk_mono (h2 i (by omega)) (by omega)
      by_cases e0:k=0
      · have e1:((k:Int) == 0)=true:=by rw [e0];rfl
        simp only [e1,if_true] at h
        generalize hd:((gt m.Segments k).Parent != -1 || (gt m.Segments k).Origin != 0 || decide ((gt m.Segments k).Len < 1))=d at h
        cases d with
        | true=>simp at h
        | false =>
          simp only [Bool.or_eq_false_iff,bne_eq_false_iff_eq] at hd
          simp only [Bool.false_eq_true,if_false] at h
          exact fin (fun _=>⟨hd.1.1,hd.1.2⟩) (fun hk0=>absurd e0 (by omega)) h
      · have e1:((k:Int) == 0)=false:=by rw [beq_eq_false_iff_ne];omega
        simp only [e1,Bool.false_eq_true,if_false] at h
        obtain ⟨_,h⟩:=gd_some h
        generalize hd:(decide ((gt m.Segments k).Parent < 0) || decide ((gt m.Segments k).Parent ≥ (k:Int)) || decide ((gt m.Segments k).Origin < IntKind.wrap .i64 ((gt m.Segments (Int.toNat (gt m.Segments k).Parent)).Origin+(gt m.Segments (Int.toNat (gt m.Segments k).Parent)).Len)))=d at h
        cases d with
        | true=>simp at h
        | false =>
          simp only [Bool.or_eq_false_iff,decide_eq_false_iff_not] at hd
          simp only [Bool.false_eq_true,if_false] at h
          exact fin (fun h=>absurd h e0) (fun _=>by omega) h
  · simp only [c1,decide_false,Bool.false_eq_true,if_false] at h
    cases h
theorem seg_end (n:Nat) (m:TLoad) (x:Int×Int) (z:Bool ⊕ Int) (hI:segI m x) (h:module_validSegments_b2 n m (m.Segments.length:Int) x.1 x.2=some (.inr z)):z = .inl false∨∃ f,z = .inr f∧∀ i,i < m.Segments.length→segOk f i (gt m.Segments i):=by
  obtain ⟨f,j⟩:=x
  obtain ⟨k,hj,hk,h0,h1,h2⟩:=hI
  simp only at hj h0 h1 h2
  subst hj
  simp only [module_validSegments_b2,bif_ite,Int.toNat_natCast] at h
  by_cases c1:(k:Int) < (m.Segments.length:Int)
  · simp only [c1,decide_true,if_true] at h
    obtain ⟨_,h⟩:=gd_some h
    left
    simp only [ite_tt] at h
    generalize (decide ((gt m.Segments k).Len < 0) || decide ((gt m.Segments k).Origin < 0) || decide ((gt m.Segments k).Origin > 65536) || decide ((gt m.Segments k).Len > IntKind.wrap .i64 (65536 - (gt m.Segments k).Origin)) || (gt m.Segments k).From != f)=c at h
    cases c with
    | true=>simp only [if_true,Option.some.injEq,Sum.inr.injEq] at h;exact h.symm
    | false =>
      simp only [Bool.false_eq_true,if_false] at h
      by_cases e0:k=0
      · have e1:((k:Int) == 0)=true:=by rw [e0];rfl
        simp only [e1,if_true] at h
        generalize ((gt m.Segments k).Parent != -1 || (gt m.Segments k).Origin != 0 || decide ((gt m.Segments k).Len < 1))=d at h
        cases d with
        | true=>simp only [if_true,Option.some.injEq,Sum.inr.injEq] at h;exact h.symm
        | false=>simp only [Bool.false_eq_true,if_false,module_validSegments_k4,module_validSegments_k3,Option.some.injEq] at h;cases h
      · have e1:((k:Int) == 0)=false:=by rw [beq_eq_false_iff_ne];omega
        simp only [e1,Bool.false_eq_true,if_false] at h
        have h:=(gd_some h).2
        generalize (decide ((gt m.Segments k).Parent < 0) || decide ((gt m.Segments k).Parent ≥ (k:Int)) || decide ((gt m.Segments k).Origin < IntKind.wrap .i64 ((gt m.Segments (Int.toNat (gt m.Segments k).Parent)).Origin+(gt m.Segments (Int.toNat (gt m.Segments k).Parent)).Len)))=d at h
        cases d with
        | true=>simp only [if_true,Option.some.injEq,Sum.inr.injEq] at h;exact h.symm
        | false=>simp only [Bool.false_eq_true,if_false,module_validSegments_k4,module_validSegments_k3,Option.some.injEq] at h;cases h
  · simp only [c1,decide_false,Bool.false_eq_true,if_false] at h
    cases h
    have:k=m.Segments.length:=by omega
    subst this
    exact .inr ⟨f,rfl,h2⟩
theorem segs_ok (n:Nat) (m:TLoad) (hS:m.Segments.length≤2097152) (h:module_validSegments n m=some true):1≤m.Segments.length∧m.Segments.length≤64∧∀ i,i < m.Segments.length→segOk (m.Text.length:Int) i (gt m.Segments i):=by
  unfold module_validSegments at h
  obtain ⟨z,hz,h⟩:=bind_some h
  have hi:segI m (0,0):=⟨0,rfl,by omega,by simp,by simp,fun i hi=>absurd hi (by omega)⟩
  rcases loop_out (segI m) (fun z=>z = .inl false∨∃ f,z = .inr f∧∀ i,i < m.Segments.length→segOk f i (gt m.Segments i)) (seg_step n m hS) (seg_end n m) n (0,0) z hi hz with rfl | ⟨f,rfl,hf⟩
  · cases h
  · have h:module_validSegments_k1 n m f=some true:=h
    unfold module_validSegments_k1 at h
    have h:=Option.some.inj h
    rw [ite_ff,ite_ff] at h
    simp only [Bool.and_eq_true,decide_eq_true_eq,beq_iff_eq] at h
    obtain ⟨⟨h1,h2⟩,rfl⟩:=h
    exact ⟨by omega,by omega,hf⟩
def relI (m:TLoad) (x:Int×Int):Prop:=∃ k:Nat,x.2=(k:Int)∧k≤m.Relocs.length∧0≤x.1∧(∀ i,i < k→relOk m.Text.length (gt m.Relocs i)∧(gt m.Relocs i).At+(gt m.Relocs i).Len≤x.1)∧∀ i j,i < j→j < k→apart1 (gt m.Relocs i) (gt m.Relocs j)
theorem rel_step (n:Nat) (m:TLoad) (hS:m.Segments.length≤2097152) (hT:m.Text.length≤2097152) (hR:m.Relocs.length≤2097152) (hn:2097152 < n) (hseg:∀ i,i < m.Segments.length→segOk (m.Text.length:Int) i (gt m.Segments i)) (x y:Int×Int) (hI:relI m x) (h:module_CheckLoad_b2 n m (m.Relocs.length:Int) x.1 x.2=some (.inl y)):relI m y:=by
  obtain ⟨f,j⟩:=x
  obtain ⟨k,hj,hk,h0,h1,h2⟩:=hI
  simp only at hj h0 h1
  subst hj
  simp only [module_CheckLoad_b2,bif_ite,Int.toNat_natCast] at h
  by_cases c1:(k:Int) < (m.Relocs.length:Int)
  · simp only [c1,decide_true,if_true] at h
    obtain ⟨_,h⟩:=gd_some h
    simp only [ite_tt] at h
    generalize hc:(decide ((gt m.Relocs k).At < f) || decide ((gt m.Relocs k).At > (m.Text.length:Int)) || decide ((gt m.Relocs k).Len < 1) || decide ((gt m.Relocs k).Len > 4))=c at h
    cases c with
    | true=>simp at h
    | false =>
      simp only [Bool.false_eq_true,if_false] at h
      simp only [Bool.or_eq_false_iff,decide_eq_false_iff_not] at hc
      rw [contains_eq n _ _ _ _ (by omega) hS] at h
      simp only [Option.bind_some] at h
      generalize ha:m.Segments.any (inS (gt m.Relocs k).At (gt m.Relocs k).Len)=a at h
      cases a with
      | false=>simp at h
      | true =>
        simp only [Bool.not_true,Bool.false_eq_true,if_false,Option.some.injEq,Sum.inl.injEq] at h
        subst h
        obtain ⟨s,hm,hin⟩:=List.any_eq_true.1 ha
        obtain ⟨i0,hi0,e0⟩:=List.mem_iff_getElem.1 hm
        have hso:=hseg i0 hi0
        rw [gt_lt hi0,e0] at hso
        obtain ⟨s1,s2,s3,s4,s5,s6,s7⟩:=hso
        have hend:(gt m.Relocs k).At+(gt m.Relocs k).Len≤(m.Text.length:Int):=by
          simp only [inS,ite_ff,Bool.and_eq_true,decide_eq_true_eq] at hin
          rw [wid (n:=(gt m.Relocs k).At+(gt m.Relocs k).Len) (by omega),wid (n:=s.From+s.Len) (by omega)] at hin
          omega
        have hw:IntKind.wrap .i64 ((gt m.Relocs k).At+(gt m.Relocs k).Len)=(gt m.Relocs k).At+(gt m.Relocs k).Len:=wid (by omega)
        have hw2:IntKind.wrap .i64 ((k:Int)+1)=(k:Int)+1:=wid (by omega)
        have hro:relOk m.Text.length (gt m.Relocs k):=⟨by omega,by omega,by omega,hend⟩
        refine ⟨k+1,?_,by omega,?_,?_,?_⟩
        · simp only [hw2];omega
        · simp only [hw];omega
        · intro i hi
          simp only [hw]
          by_cases e:i=k
          · subst e;exact ⟨hro,by omega⟩
          · have:=h1 i (by omega);exact ⟨this.1,by omega⟩
        · intro i j hij hj
          by_cases e:j=k
          · subst e;have:=(h1 i hij).2;unfold apart1;omega
          · exact h2 i j hij (by omega)
  · simp only [c1,decide_false,Bool.false_eq_true,if_false] at h
    cases h
theorem rel_end (n:Nat) (m:TLoad) (x:Int×Int) (z:Int ⊕ Unit) (hI:relI m x) (h:module_CheckLoad_b2 n m (m.Relocs.length:Int) x.1 x.2=some (.inr z)):z = .inl 310∨z = .inr ()∧((∀ i,i < m.Relocs.length→relOk m.Text.length (gt m.Relocs i))∧∀ i j,i < j→j < m.Relocs.length→apart1 (gt m.Relocs i) (gt m.Relocs j)):=by
  obtain ⟨f,j⟩:=x
  obtain ⟨k,hj,hk,h0,h1,h2⟩:=hI
  simp only at hj h0 h1
  subst hj
  simp only [module_CheckLoad_b2,bif_ite,Int.toNat_natCast] at h
  by_cases c1:(k:Int) < (m.Relocs.length:Int)
  · simp only [c1,decide_true,if_true] at h
    obtain ⟨_,h⟩:=gd_some h
    left
    simp only [ite_tt] at h
    generalize (decide ((gt m.Relocs k).At < f) || decide ((gt m.Relocs k).At > (m.Text.length:Int)) || decide ((gt m.Relocs k).Len < 1) || decide ((gt m.Relocs k).Len > 4))=c at h
    cases c with
    | true=>simp only [if_true,Option.some.injEq,Sum.inr.injEq] at h;exact h.symm
    | false =>
      simp only [Bool.false_eq_true,if_false] at h
      obtain ⟨b,hb,h⟩:=bind_some h
      cases b with
      | false=>simp only [Bool.not_false,if_true,Option.some.injEq,Sum.inr.injEq] at h;exact h.symm
      | true=>simp only [Bool.not_true,Bool.false_eq_true,if_false,Option.some.injEq] at h;cases h
  · simp only [c1,decide_false,Bool.false_eq_true,if_false] at h
    cases h
    have:k=m.Relocs.length:=by omega
    subst this
    exact .inr ⟨rfl,fun i hi=>(h1 i hi).1,h2⟩
theorem relsOk_of {L:Nat}:∀ {rs:List TReloc},(∀ i,i < rs.length→relOk L (gt rs i))→(∀ i j,i < j→j < rs.length→apart1 (gt rs i) (gt rs j))→RelsOk L rs
  | [],_,_=>trivial
  | r :: rs,h1,h2=>by
    refine ⟨h1 0 (by simp),fun s hs=>?_,relsOk_of (fun i hi=>by simpa using h1 (i+1) (by simpa using hi)) (fun i j hij hj=>by simpa using h2 (i+1) (j+1) (by omega) (by simpa using hj))⟩
    obtain ⟨i,hi,rfl⟩:=List.mem_iff_getElem.1 hs
    have:=h2 0 (i+1) (by omega) (by simpa using hi)
    simp only [gt_zero,gt_succ] at this
    rw [gt_lt hi] at this
    exact this
theorem load_ok (n:Nat) (m:TLoad) (hS:m.Segments.length≤2097152) (hT:m.Text.length≤2097152) (hR:m.Relocs.length≤2097152) (hn:2097152 < n) (h:module_CheckLoad n m=some 0) :
    RelsOk m.Text.length m.Relocs∧1≤m.Segments.length∧m.Segments.length≤64∧∀ i,i < m.Segments.length→segOk (m.Text.length:Int) i (gt m.Segments i):=by
  unfold module_CheckLoad at h
  obtain ⟨b,hb,h⟩:=bind_some h
  have h:=(gd_some h).2
  generalize hc:(if (if (if (!b)=true then true else (decide ((m.Relocs.length:Int) > 8192)))=true then true else (decide (m.Entry < 0)))=true then true else (decide (m.Entry ≥ ((gt m.Segments 0).Len))))=c at h
  cases c with
  | true=>rw [cond_true] at h;exact absurd (Option.some.inj h) (by decide)
  | false =>
    rw [cond_false] at h
    obtain ⟨z,hz,h⟩:=bind_some h
    have hb1:b=true:=by
      cases b with
      | true=>rfl
      | false=>simp at hc
    subst hb1
    obtain ⟨s1,s2,s3⟩:=segs_ok n m hS hb
    have hi:relI m (0,0):=⟨0,rfl,by omega,by simp,fun i hi=>absurd hi (by omega),fun i j hij hj=>absurd hj (by omega)⟩
    rcases loop_out (relI m) (fun z=>z = .inl 310∨z = .inr ()∧((∀ i,i < m.Relocs.length→relOk m.Text.length (gt m.Relocs i))∧∀ i j,i < j→j < m.Relocs.length→apart1 (gt m.Relocs i) (gt m.Relocs j))) (rel_step n m hS hT hR hn s3) (rel_end n m) n (0,0) z hi hz with rfl | ⟨rfl,h1,h2⟩
    · exact absurd (Option.some.inj h) (by decide)
    · exact ⟨relsOk_of h1 h2,s1,s2,s3⟩
theorem SameBytes_refl (n:Nat) (a:List Int) (hl:a.length≤2097152) (hn:2097152 < n):law08_SameBytes n a a=some true:=by
  have h:=loop_any (body:=fun (x:Int)=>law08_SameBytes_b2 n a a x) a (fun _=>false) (.inl false) (.inr ()) (fun k hk=>by
    have e1:decide ((k:Int) < (a.length:Int))=true:=by simp;omega
    simp only [law08_SameBytes_b2,e1,cond_true,Int.toNat_natCast]
    rw [gd_pos _ (by omega),wid (by omega)]
    simp) (by
    have e1:decide ((a.length:Int) < (a.length:Int))=false:=by simp
    simp only [law08_SameBytes_b2,e1,cond_false]) (n:=n) (by omega)
  unfold law08_SameBytes
  rw [h]
  simp [law08_SameBytes_k1]
end Go.Proofs.Ytcbcdjincgclaaa
