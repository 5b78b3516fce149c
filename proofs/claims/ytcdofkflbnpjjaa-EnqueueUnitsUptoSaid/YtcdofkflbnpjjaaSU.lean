/- Text. -/
import Derived.Test.YtcdofkflbnpjjaaF1
import Derived.Test.YtcdofkflbnpjjaaAE21
import Derived.Sort.AssemblyPlain
set_option linter.unusedSimpArgs false
set_option linter.unusedVariables false
set_option maxHeartbeats 1000000
set_option linter.unusedVariables false
set_option linter.unusedSimpArgs false
set_option maxRecDepth 100000
namespace Go.Proofs.Ytcdofkflbnpjjaa
open Go.AE
open Go.Sort (swp)
def NB:Nat:=48
theorem wid {n:Int} (h:-4611686018427387904≤n∧n≤4611686018427387904):IntKind.wrap .i64 n=n:=w64_id (by omega) (by omega)
theorem gd_t {α:Type} (x:Option α):gd True x=x:=rfl
def ltA (x y:TUnitConf):Bool:=decide (x.Addr < y.Addr)
theorem swoA:Go.Sort.SWO ltA:=⟨fun x=>by simp [ltA],fun x y z h1 h2=>by simp only [ltA,decide_eq_true_eq] at *;omega,fun x y z h1 h2=>by simp only [ltA,decide_eq_false_iff_not] at *;omega⟩
theorem gta (d:Array TUnitConf) (i:Nat):gt d.toList i=d[i]! := by
  simp only [gt,List.getD_eq_getElem?_getD,Array.getElem?_toList]
  by_cases h:i < d.size
  · simp [h]
  · simp [h]
theorem swp_l (d:Array TUnitConf) (i j:Nat):List.set (List.set d.toList i (d[j]!)) j (d[i]!)=(swp d i j).toList:=by
  unfold swp
  rw [Array.toList_setIfInBounds,Array.toList_setIfInBounds]
theorem swp_s (d:Array TUnitConf) (i j:Nat):(swp d i j).size=d.size:=by simp [swp]
theorem byAddr_val (n:Nat) (x y:TUnitConf):∃ r,enqueue_pool__byAddr_M1 n x y=some r∧decide (r < 0)=ltA x y:=by
  have hx:(x.Addr != x.Addr)=false:=by simp
  have hy:(y.Addr != y.Addr)=false:=by simp
  simp only [enqueue_pool__byAddr_M1,cmp_Compare_f74,cmp_isNaN_f93,hx,hy,Option.bind_some,cond_false]
  unfold ltA
  by_cases c:x.Addr < y.Addr
  · rw [decide_eq_true c];exact ⟨-1,rfl,rfl⟩
  · rw [decide_eq_false c]
    by_cases c2:x.Addr > y.Addr
    · rw [decide_eq_true c2];exact ⟨1,rfl,rfl⟩
    · rw [decide_eq_false c2];exact ⟨0,rfl,rfl⟩
theorem insInner_s (a:Nat):∀ (j:Nat) (d:Array TUnitConf),(Go.Sort.insInner ltA a j d).size=d.size
  | 0,d=>rfl
  | j+1,d=>by
    unfold Go.Sort.insInner
    split
    · rw [insInner_s a j,swp_s]
    · rfl
theorem ins_inner (n:Nat) (a:Nat) (b i:Int):∀ (j:Nat) (d:Array TUnitConf) (f:Nat),(a≤j∧j < d.size)→d.size≤NB→j < f →
    loopF (fun (x:(List TUnitConf)×Int)=>slices_insertionSortCmpFunc_f83_M1_b3 n (a:Int) b i x.1 x.2) f (d.toList,(j:Int))=some (Go.Sort.insInner ltA a j d).toList
  | j,d,f,hj,hs,hf=>by
    unfold NB at hs
    obtain ⟨f,rfl⟩:∃ g,f=g+1:=⟨f - 1,by omega⟩
    by_cases c:j > a
    · obtain ⟨j,rfl⟩:∃ k,j=k+1:=⟨j - 1,by omega⟩
      have e1:IntKind.wrap .i64 (((j+1:Nat):Int) - 1)=(j:Int):=by rw [wid (by omega)];omega
      have c1:decide (((j+1:Nat):Int) > (a:Int))=true:=decide_eq_true (by omega)
      obtain ⟨r,r1,r2⟩:=byAddr_val n d[j+1]! d[j]!
      have hb:slices_insertionSortCmpFunc_f83_M1_b3 n (a:Int) b i d.toList ((j+1:Nat):Int)=some (if ltA d[j+1]! d[j]! = true then .inl ((swp d (j+1) j).toList,(j:Int)) else .inr d.toList):=by
        unfold slices_insertionSortCmpFunc_f83_M1_b3
        simp only [e1,Int.toNat_natCast,gta,Array.length_toList]
        rw [gd_pos _ ⟨fun _=>by omega,fun _=>by omega,fun _=>by omega,fun _=>by omega⟩,c1,cond_true,gd_pos _ rfl,r1,Option.bind_some,r2]
        cases ltA d[j+1]! d[j]! with
        | true =>
          rw [cond_true,gd_pos _ (by omega),swp_l];rfl
        | false=>rfl
      have hi:Go.Sort.insInner ltA a (j+1) d=if ltA d[j+1]! d[j]! = true then Go.Sort.insInner ltA a j (swp d (j+1) j) else d:=by
        rw [Go.Sort.insInner]
        simp [c]
      rw [hi]
      by_cases cl:ltA d[j+1]! d[j]! = true
      · rw [if_pos cl] at hb
        rw [if_pos cl,loopF_step hb]
        exact ins_inner n a b i j (swp d (j+1) j) f ⟨by omega,by rw [swp_s];omega⟩ (by rw [swp_s];exact hs) (by omega)
      · rw [if_neg cl] at hb
        rw [if_neg cl]
        exact loopF_done hb
    · have hi:Go.Sort.insInner ltA a j d=d:=by
        cases j with
        | zero=>rfl
        | succ j=>rw [Go.Sort.insInner];simp [c]
      rw [hi]
      refine loopF_done ?_
      have c1:decide ((j:Int) > (a:Int))=false:=decide_eq_false (by omega)
      unfold slices_insertionSortCmpFunc_f83_M1_b3
      simp only [c1]
      rw [gd_pos _ (by refine ⟨fun h=>?_,fun h=>?_,fun h=>?_,fun h=>?_⟩ <;> cases h)]
      rfl
theorem insOuter_s (a b:Nat):∀ (m i:Nat) (d:Array TUnitConf),b - i=m→(Go.Sort.insOuter ltA a b i d).size=d.size
  | 0,i,d,h=>by rw [Go.Sort.insOuter,if_neg (by omega)]
  | m+1,i,d,h=>by rw [Go.Sort.insOuter,if_pos (by omega),insOuter_s a b m (i+1) _ (by omega),insInner_s]
theorem ins_outer (n:Nat) (hn:4194304≤n) (a b:Nat):∀ (m i:Nat) (d:Array TUnitConf) (f:Nat),b - i=m→a≤i→b≤d.size→d.size≤NB→m < f →
    loopF (fun (x:(List TUnitConf)×Int)=>slices_insertionSortCmpFunc_f83_M1_b1 n (a:Int) (b:Int) x.1 x.2) f (d.toList,(i:Int))=some (Go.Sort.insOuter ltA a b i d).toList
  | 0,i,d,f,hm,ha,hb,hs,hf=>by
    obtain ⟨f,rfl⟩:∃ g,f=g+1:=⟨f - 1,by omega⟩
    rw [Go.Sort.insOuter,if_neg (by omega)]
    refine loopF_done ?_
    unfold slices_insertionSortCmpFunc_f83_M1_b1
    simp only
    rw [decide_eq_false (by omega)];rfl
  | m+1,i,d,f,hm,ha,hb,hs,hf=>by
    obtain ⟨f,rfl⟩:∃ g,f=g+1:=⟨f - 1,by omega⟩
    have hs':=hs
    unfold NB at hs'
    rw [Go.Sort.insOuter,if_pos (by omega)]
    refine (loopF_step (x':=((Go.Sort.insInner ltA a i d).toList,((i+1:Nat):Int))) ?_).trans ?_
    · unfold slices_insertionSortCmpFunc_f83_M1_b1
      simp only
      rw [decide_eq_true (by omega),cond_true,ins_inner n a (b:Int) (i:Int) i d n ⟨ha,by omega⟩ hs (by omega),Option.bind_some]
      unfold slices_insertionSortCmpFunc_f83_M1_k2
      rw [wid (by omega)]
      rfl
    · exact ins_outer n hn a b m (i+1) _ f (by omega) (by omega) (by rw [insInner_s];exact hb) (by rw [insInner_s];exact hs) (by omega)
theorem ins_s (d:Array TUnitConf) (a b:Nat):(Go.Sort.insertionSort ltA d a b).size=d.size:=insOuter_s a b _ _ d rfl
theorem ins_eq (n:Nat) (hn:4194304≤n) (d:Array TUnitConf) (a b:Nat) (hb:b≤d.size) (ha:a≤NB) (hs:d.size≤NB):slices_insertionSortCmpFunc_f83_M1 n d.toList (a:Int) (b:Int)=some (Go.Sort.insertionSort ltA d a b).toList:=by
  have hs':=hs
  unfold NB at hs' ha
  unfold slices_insertionSortCmpFunc_f83_M1 Go.Sort.insertionSort
  have e:IntKind.wrap .i64 ((a:Int)+1)=((a+1:Nat):Int):=by rw [wid (by omega)];omega
  rw [e,ins_outer n hn a b (b - (a+1)) (a+1) d n rfl (by omega) hb hs (by omega)]
  rfl
theorem siftDown_s (hi first:Nat):∀ (m root:Nat) (d:Array TUnitConf),hi - root≤m→(Go.Sort.siftDown ltA hi first root d).size=d.size
  | 0,root,d,h=>by
    rw [Go.Sort.siftDown,dif_pos (by omega)]
  | m+1,root,d,h=>by
    rw [Go.Sort.siftDown]
    split
    · rfl
    · split
      · split
        · rfl
        · split
          · rw [siftDown_s hi first m _ _ (by omega),swp_s]
          · rfl
      · split
        · rfl
        · rw [siftDown_s hi first m _ _ (by omega),swp_s]
theorem sift_k2 (n:Nat) (d:Array TUnitConf) (hi:Int) (first root c:Nat) (h1:first+root < d.size) (h2:first+c < d.size) (hs:d.size≤NB) :
    slices_siftDownCmpFunc_f104_M1_k2 n d.toList hi (first:Int) (root:Int) (c:Int)=some (if ltA d[first+root]! d[first+c]! = true then .inl ((swp d (first+root) (first+c)).toList,(c:Int)) else .inr d.toList):=by
  unfold NB at hs
  have e1:IntKind.wrap .i64 ((first:Int)+(root:Int))=((first+root:Nat):Int):=by rw [wid (by omega)];omega
  have e2:IntKind.wrap .i64 ((first:Int)+(c:Int))=((first+c:Nat):Int):=by rw [wid (by omega)];omega
  obtain ⟨r,r1,r2⟩:=byAddr_val n d[first+root]! d[first+c]!
  unfold slices_siftDownCmpFunc_f104_M1_k2
  simp only [e1,e2,Int.toNat_natCast,gta,Array.length_toList]
  rw [gd_pos _ (by omega),r1,Option.bind_some,r2]
  cases ltA d[first+root]! d[first+c]! with
  | true =>
    simp only [Bool.not_true,cond_false,if_true]
    rw [gd_pos _ (by omega),swp_l]
  | false=>rfl
theorem sift_loop (n:Nat) (hi first:Nat):∀ (m root:Nat) (d:Array TUnitConf) (f:Nat),hi - root≤m→first+hi≤d.size→root < NB→d.size≤NB→m < f →
    loopF (fun (x:(List TUnitConf)×Int)=>slices_siftDownCmpFunc_f104_M1_b1 n (hi:Int) (first:Int) x.1 x.2) f (d.toList,(root:Int))=some (Go.Sort.siftDown ltA hi first root d).toList
  | m,root,d,f,hm,hh,hr,hs,hf=>by
    obtain ⟨f,rfl⟩:∃ g,f=g+1:=⟨f - 1,by omega⟩
    have hs':=hs
    unfold NB at hs' hr
    have e0:IntKind.wrap .i64 (2 * (root:Int))=((2 * root:Nat):Int):=by rw [wid (by omega)];omega
    have e1:IntKind.wrap .i64 (((2 * root:Nat):Int)+1)=((2 * root+1:Nat):Int):=by rw [wid (by omega)];omega
    have e2:IntKind.wrap .i64 (((2 * root+1:Nat):Int)+1)=((2 * root+2:Nat):Int):=by rw [wid (by omega)];omega
    have e3:IntKind.wrap .i64 ((first:Int)+((2 * root+1:Nat):Int))=((first+(2 * root+1):Nat):Int):=by rw [wid (by omega)];omega
    have e4:IntKind.wrap .i64 (((first+(2 * root+1):Nat):Int)+1)=((first+(2 * root+1)+1:Nat):Int):=by rw [wid (by omega)];omega
    rw [Go.Sort.siftDown]
    by_cases c1:2 * root+1 ≥ hi
    · rw [dif_pos c1]
      refine loopF_done ?_
      unfold slices_siftDownCmpFunc_f104_M1_b1
      simp only [e0,e1]
      rw [decide_eq_true (by omega),cond_true]
    · rw [dif_neg c1]
      match m,hm with
      | 0,hm=>omega
      | m+1,hm =>
      have go:∀ (c:Nat),c=2 * root+1∨c=2 * root+2→c < hi→slices_siftDownCmpFunc_f104_M1_b1 n (hi:Int) (first:Int) d.toList (root:Int)=slices_siftDownCmpFunc_f104_M1_k2 n d.toList (hi:Int) (first:Int) (root:Int) (c:Int) →
          loopF (fun (x:(List TUnitConf)×Int)=>slices_siftDownCmpFunc_f104_M1_b1 n (hi:Int) (first:Int) x.1 x.2) (f+1) (d.toList,(root:Int))=some (if (!ltA d[first+root]! d[first+c]!)=true then d else Go.Sort.siftDown ltA hi first c (swp d (first+root) (first+c))).toList:=by
        intro c hc hch hb
        rw [sift_k2 n d (hi:Int) first root c (by omega) (by omega) hs] at hb
        cases cl:ltA d[first+root]! d[first+c]! with
        | true =>
          rw [cl,if_pos rfl] at hb
          simp only [Bool.not_true,Bool.false_eq_true,if_false]
          rw [loopF_step hb]
          exact sift_loop n hi first m c (swp d (first+root) (first+c)) f (by omega) (by rw [swp_s];exact hh) (by unfold NB;omega) (by rw [swp_s];exact hs) (by omega)
        | false =>
          rw [cl,if_neg (by decide)] at hb
          simp only [Bool.not_false,if_true]
          exact loopF_done hb
      have hb0:slices_siftDownCmpFunc_f104_M1_b1 n (hi:Int) (first:Int) d.toList (root:Int)=slices_siftDownCmpFunc_f104_M1_k2 n d.toList (hi:Int) (first:Int) (root:Int) ((if (decide (2 * root+1+1 < hi) && ltA d[first+(2 * root+1)]! d[first+(2 * root+1)+1]!)=true then 2 * root+2 else 2 * root+1:Nat):Int):=by
        unfold slices_siftDownCmpFunc_f104_M1_b1
        simp only [e0,e1,e2,e3,e4,Int.toNat_natCast,gta,Array.length_toList]
        rw [decide_eq_false (by omega),cond_false]
        by_cases c2:2 * root+1+1 < hi
        · have d1:decide (((2 * root+2:Nat):Int) < (hi:Int))=true:=decide_eq_true (by omega)
          obtain ⟨r,r1,r2⟩:=byAddr_val n d[first+(2 * root+1)]! d[first+(2 * root+1)+1]!
          simp only [d1,decide_eq_true c2,Bool.true_and]
          rw [gd_pos _ (by refine ⟨fun _=>?_,fun _=>?_,fun _=>?_,fun _=>?_⟩ <;> omega),cond_true,gd_t,r1,Option.bind_some,r2]
          cases ltA d[first+(2 * root+1)]! d[first+(2 * root+1)+1]! <;> rfl
        · have d1:decide (((2 * root+2:Nat):Int) < (hi:Int))=false:=decide_eq_false (by omega)
          simp only [d1,decide_eq_false c2,Bool.false_and]
          rw [gd_pos _ (by refine ⟨fun h=>?_,fun h=>?_,fun h=>?_,fun h=>?_⟩ <;> cases h)]
          rfl
      cases c2:(decide (2 * root+1+1 < hi) && ltA d[first+(2 * root+1)]! d[first+(2 * root+1)+1]!) with
      | true =>
        rw [c2,if_pos rfl] at hb0
        have c3:2 * root+2 < hi:=by
          simp only [Bool.and_eq_true,decide_eq_true_eq] at c2;omega
        rw [if_pos rfl,dif_pos c3]
        exact go (2 * root+2) (.inr rfl) c3 hb0
      | false =>
        rw [c2,if_neg (by decide)] at hb0
        rw [if_neg (by decide)]
        exact go (2 * root+1) (.inl rfl) (by omega) hb0
theorem sift_eq (n:Nat) (hn:4194304≤n) (d:Array TUnitConf) (lo hi first:Nat) (hh:first+hi≤d.size) (hl:lo < NB) (hs:d.size≤NB):slices_siftDownCmpFunc_f104_M1 n d.toList (lo:Int) (hi:Int) (first:Int)=some (Go.Sort.siftDown ltA hi first lo d).toList:=by
  have hs':=hs
  unfold NB at hs'
  unfold slices_siftDownCmpFunc_f104_M1
  rw [sift_loop n hi first (hi - lo) lo d n (by omega) hh hl hs (by omega)]
  rfl
theorem siftDown_z (hi first root:Nat) (d:Array TUnitConf):(Go.Sort.siftDown ltA hi first root d).size=d.size:=siftDown_s hi first _ root d (Nat.le_refl _)
theorem build_s (hi first:Nat):∀ (k:Nat) (d:Array TUnitConf),(Go.Sort.heapBuild ltA hi first k d).size=d.size
  | 0,d=>rfl
  | k+1,d=>by rw [Go.Sort.heapBuild,build_s hi first k,siftDown_z]
theorem pop_s (first:Nat):∀ (k:Nat) (d:Array TUnitConf),(Go.Sort.heapPop ltA first k d).size=d.size
  | 0,d=>rfl
  | k+1,d=>by rw [Go.Sort.heapPop,pop_s first k,siftDown_z,swp_s]
theorem heap_build (n:Nat) (hn:4194304≤n) (hi first:Nat):∀ (k:Nat) (d:Array TUnitConf) (f:Nat),first+hi≤d.size→k≤NB→d.size≤NB→k < f →
    loopF (fun (x:(List TUnitConf)×Int)=>slices_heapSortCmpFunc_f84_M1_b3 n (first:Int) (hi:Int) x.1 x.2) f (d.toList,(k:Int) - 1)=some (Go.Sort.heapBuild ltA hi first k d).toList
  | 0,d,f,hh,hk,hs,hf=>by
    obtain ⟨f,rfl⟩:∃ g,f=g+1:=⟨f - 1,by omega⟩
    refine loopF_done ?_
    unfold slices_heapSortCmpFunc_f84_M1_b3
    simp only
    rw [decide_eq_false (by omega)];rfl
  | k+1,d,f,hh,hk,hs,hf=>by
    obtain ⟨f,rfl⟩:∃ g,f=g+1:=⟨f - 1,by omega⟩
    have hk':=hk
    unfold NB at hk'
    have e:((k+1:Nat):Int) - 1=(k:Int):=by omega
    rw [Go.Sort.heapBuild,e]
    refine (loopF_step (x':=((Go.Sort.siftDown ltA hi first k d).toList,(k:Int) - 1)) ?_).trans (heap_build n hn hi first k _ f (by rw [siftDown_z];exact hh) (by omega) (by rw [siftDown_z];exact hs) (by omega))
    unfold slices_heapSortCmpFunc_f84_M1_b3
    simp only
    rw [decide_eq_true (by omega),cond_true,sift_eq n hn d k hi first hh (by omega) hs,Option.bind_some,gd_pos _ (by rw [Array.length_toList,Array.length_toList,siftDown_z]),wid (by omega)]
theorem heap_pop (n:Nat) (hn:4194304≤n) (first:Nat):∀ (k:Nat) (d:Array TUnitConf) (f:Nat),first+k≤d.size→d.size≤NB→k < f →
    loopF (fun (x:(List TUnitConf)×Int)=>slices_heapSortCmpFunc_f84_M1_b2 n (first:Int) x.1 x.2) f (d.toList,(k:Int) - 1)=some (Go.Sort.heapPop ltA first k d).toList
  | 0,d,f,hh,hs,hf=>by
    obtain ⟨f,rfl⟩:∃ g,f=g+1:=⟨f - 1,by omega⟩
    refine loopF_done ?_
    unfold slices_heapSortCmpFunc_f84_M1_b2
    simp only
    rw [decide_eq_false (by omega)];rfl
  | k+1,d,f,hh,hs,hf=>by
    obtain ⟨f,rfl⟩:∃ g,f=g+1:=⟨f - 1,by omega⟩
    have hs':=hs
    unfold NB at hs'
    have e:((k+1:Nat):Int) - 1=(k:Int):=by omega
    have e1:IntKind.wrap .i64 ((first:Int)+(k:Int))=((first+k:Nat):Int):=by rw [wid (by omega)];omega
    rw [Go.Sort.heapPop,e]
    refine (loopF_step (x':=((Go.Sort.siftDown ltA k first 0 (swp d first (first+k))).toList,(k:Int) - 1)) ?_).trans (heap_pop n hn first k _ f (by rw [siftDown_z,swp_s];omega) (by rw [siftDown_z,swp_s];exact hs) (by omega))
    unfold slices_heapSortCmpFunc_f84_M1_b2
    simp only [e1,Int.toNat_natCast,gta,Array.length_toList]
    rw [decide_eq_true (by omega),cond_true,gd_pos _ (by omega),swp_l]
    have h0:=sift_eq n hn (swp d first (first+k)) 0 k first (by rw [swp_s];omega) (by unfold NB;omega) (by rw [swp_s];exact hs)
    have hz:((0:Nat):Int)=0:=rfl
    rw [hz] at h0
    rw [h0,Option.bind_some,gd_pos _ (by simp only [Array.length_toList,siftDown_z,swp_s]),wid (by omega)]
theorem heap_s (d:Array TUnitConf) (a b:Nat):(Go.Sort.heapSort ltA d a b).size=d.size:=by
  unfold Go.Sort.heapSort;rw [pop_s,build_s]
theorem heap_eq (n:Nat) (hn:4194304≤n) (d:Array TUnitConf) (a b:Nat) (hab:a≤b) (hb:b≤d.size) (hs:d.size≤NB):slices_heapSortCmpFunc_f84_M1 n d.toList (a:Int) (b:Int)=some (Go.Sort.heapSort ltA d a b).toList:=by
  have hs':=hs
  unfold NB at hs'
  have e1:IntKind.wrap .i64 ((b:Int) - (a:Int))=((b - a:Nat):Int):=by rw [wid (by omega)];omega
  have e2:IntKind.wrap .i64 (Int.tdiv (IntKind.wrap .i64 (((b - a:Nat):Int) - 1)) 2)=(((b - a - 1) / 2+1:Nat):Int) - 1:=by
    rw [wid (n:=((b - a:Nat):Int) - 1) (by omega)]
    by_cases c:b - a=0
    · rw [c];rfl
    · have:((b - a:Nat):Int) - 1=((b - a - 1:Nat):Int):=by omega
      rw [this,Int.tdiv_eq_ediv_of_nonneg (by omega),wid (by omega)]
      omega
  unfold slices_heapSortCmpFunc_f84_M1 Go.Sort.heapSort
  rw [e1,e2,heap_build n hn (b - a) a ((b - a - 1) / 2+1) d n (by omega) (by unfold NB;omega) hs (by omega),Option.bind_some]
  unfold slices_heapSortCmpFunc_f84_M1_k1
  rw [wid (n:=((b - a:Nat):Int) - 1) (by omega),heap_pop n hn a (b - a) _ n (by rw [build_s];omega) (by rw [build_s];exact hs) (by omega)]
  rfl
theorem rev_s:∀ (m i j:Nat) (d:Array TUnitConf),j - i≤m→(Go.Sort.reverseLoop i j d).size=d.size
  | 0,i,j,d,h=>by rw [Go.Sort.reverseLoop,if_neg (by omega)]
  | m+1,i,j,d,h=>by
    rw [Go.Sort.reverseLoop]
    split
    · rw [rev_s m (i+1) (j - 1) _ (by omega),swp_s]
    · rfl
theorem rev_loop (n:Nat):∀ (m i j:Nat) (d:Array TUnitConf) (f:Nat),j - i≤m→j < d.size→d.size≤NB→m < f →
    loopF (fun (x:(List TUnitConf)×Int×Int)=>slices_reverseRangeCmpFunc_f87_M1_b1 n x.1 x.2.1 x.2.2) f (d.toList,(i:Int),(j:Int))=some (Go.Sort.reverseLoop i j d).toList
  | m,i,j,d,f,hm,hj,hs,hf=>by
    obtain ⟨f,rfl⟩:∃ g,f=g+1:=⟨f - 1,by omega⟩
    have hs':=hs
    unfold NB at hs'
    rw [Go.Sort.reverseLoop]
    by_cases c:i < j
    · rw [if_pos c]
      match m,hm with
      | 0,hm=>omega
      | m+1,hm =>
      refine (loopF_step (x':=((swp d i j).toList,((i+1:Nat):Int),((j - 1:Nat):Int))) ?_).trans (rev_loop n m (i+1) (j - 1) _ f (by omega) (by rw [swp_s];omega) (by rw [swp_s];exact hs) (by omega))
      unfold slices_reverseRangeCmpFunc_f87_M1_b1
      simp only [Int.toNat_natCast,gta,Array.length_toList]
      have e1:IntKind.wrap .i64 ((i:Int)+1)=((i+1:Nat):Int):=by rw [wid (by omega)];omega
      have e2:IntKind.wrap .i64 ((j:Int) - 1)=((j - 1:Nat):Int):=by rw [wid (by omega)];omega
      rw [decide_eq_true (by omega),cond_true,gd_pos _ (by omega),swp_l,e1,e2]
    · rw [if_neg c]
      refine loopF_done ?_
      unfold slices_reverseRangeCmpFunc_f87_M1_b1
      simp only
      rw [decide_eq_false (by omega)];rfl
theorem revRange_s (d:Array TUnitConf) (a b:Nat):(Go.Sort.reverseRange d a b).size=d.size:=rev_s _ a (b - 1) d (Nat.le_refl _)
theorem rev_eq (n:Nat) (hn:4194304≤n) (d:Array TUnitConf) (a b:Nat) (hab:a < b) (hb:b≤d.size) (hs:d.size≤NB):slices_reverseRangeCmpFunc_f87_M1 n d.toList (a:Int) (b:Int)=some (Go.Sort.reverseRange d a b).toList:=by
  have hs':=hs
  unfold NB at hs'
  have e2:IntKind.wrap .i64 ((b:Int) - 1)=((b - 1:Nat):Int):=by rw [wid (by omega)];omega
  unfold slices_reverseRangeCmpFunc_f87_M1 Go.Sort.reverseRange
  rw [e2,rev_loop n (b - 1 - a) a (b - 1) d n (Nat.le_refl _) (by omega) hs (by omega)]
  rfl
end Go.Proofs.Ytcdofkflbnpjjaa
/-
  ch. 37: the sort by addresses is the kit's plain twin: the pivot, the patterns.
-/
set_option maxHeartbeats 1000000
set_option linter.unusedVariables false
set_option linter.unusedSimpArgs false
set_option maxRecDepth 100000
namespace Go.Proofs.Ytcdofkflbnpjjaa
open Go.AE
open Go.Sort (swp Hint)
theorem order2_r (d:Array TUnitConf) (a b s:Nat):((Go.Sort.order2 ltA d a b s).1=a∧(Go.Sort.order2 ltA d a b s).2.1=b∧(Go.Sort.order2 ltA d a b s).2.2=s)∨((Go.Sort.order2 ltA d a b s).1=b∧(Go.Sort.order2 ltA d a b s).2.1=a∧(Go.Sort.order2 ltA d a b s).2.2=s+1):=by
  unfold Go.Sort.order2
  split
  · exact .inr ⟨rfl,rfl,rfl⟩
  · exact .inl ⟨rfl,rfl,rfl⟩
theorem order2_eq (n:Nat) (d:Array TUnitConf) (a b s:Nat) (ha:a < d.size) (hb:b < d.size) (hs:s≤100):slices_order2CmpFunc_f112_M1 n d.toList (a:Int) (b:Int) (s:Int)=some (((Go.Sort.order2 ltA d a b s).1:Int),((Go.Sort.order2 ltA d a b s).2.1:Int),((Go.Sort.order2 ltA d a b s).2.2:Int)):=by
  obtain ⟨r,r1,r2⟩:=byAddr_val n d[b]! d[a]!
  unfold slices_order2CmpFunc_f112_M1 Go.Sort.order2
  simp only [Int.toNat_natCast,gta,Array.length_toList]
  rw [gd_pos _ (by omega),r1,Option.bind_some,r2]
  cases ltA d[b]! d[a]! with
  | true=>simp only [cond_true,if_true];rw [wid (by omega)];rfl
  | false=>rfl
theorem median_r (d:Array TUnitConf) (a b c s:Nat):((Go.Sort.median ltA d a b c s).1=a∨(Go.Sort.median ltA d a b c s).1=b∨(Go.Sort.median ltA d a b c s).1=c)∧(Go.Sort.median ltA d a b c s).2≤s+3:=by
  unfold Go.Sort.median
  simp only
  rcases order2_r d a b s with ⟨h1,h2,h3⟩ | ⟨h1,h2,h3⟩ <;> rw [h1,h2,h3]
  · rcases order2_r d b c s with ⟨k1,k2,k3⟩ | ⟨k1,k2,k3⟩ <;> rw [k1,k3]
    · rcases order2_r d a b s with ⟨m1,m2,m3⟩ | ⟨m1,m2,m3⟩ <;> rw [m2,m3] <;> simp <;> omega
    · rcases order2_r d a c (s+1) with ⟨m1,m2,m3⟩ | ⟨m1,m2,m3⟩ <;> rw [m2,m3] <;> simp <;> omega
  · rcases order2_r d a c (s+1) with ⟨k1,k2,k3⟩ | ⟨k1,k2,k3⟩ <;> rw [k1,k3]
    · rcases order2_r d b a (s+1) with ⟨m1,m2,m3⟩ | ⟨m1,m2,m3⟩ <;> rw [m2,m3] <;> simp <;> omega
    · rcases order2_r d b c (s+1+1) with ⟨m1,m2,m3⟩ | ⟨m1,m2,m3⟩ <;> rw [m2,m3] <;> simp <;> omega
theorem median_eq (n:Nat) (d:Array TUnitConf) (a b c s:Nat) (ha:a < d.size) (hb:b < d.size) (hc:c < d.size) (hs:s≤50):slices_medianCmpFunc_f108_M1 n d.toList (a:Int) (b:Int) (c:Int) (s:Int)=some (((Go.Sort.median ltA d a b c s).1:Int),((Go.Sort.median ltA d a b c s).2:Int)):=by
  unfold slices_medianCmpFunc_f108_M1 Go.Sort.median
  have q1:=order2_r d a b s
  have q2:=order2_r d (Go.Sort.order2 ltA d a b s).2.1 c (Go.Sort.order2 ltA d a b s).2.2
  rw [order2_eq n d a b s ha hb (by omega),Option.bind_some]
  simp only
  rw [order2_eq n d _ c _ (by omega) hc (by omega),Option.bind_some]
  simp only
  rw [order2_eq n d _ _ _ (by omega) (by omega) (by omega),Option.bind_some]
theorem medAdj_eq (n:Nat) (d:Array TUnitConf) (a s:Nat) (h1:1≤a) (ha:a+1 < d.size) (hz:d.size≤NB) (hs:s≤50):slices_medianAdjacentCmpFunc_f107_M1 n d.toList (a:Int) (s:Int)=some (((Go.Sort.medianAdjacent ltA d a s).1:Int),((Go.Sort.medianAdjacent ltA d a s).2:Int)):=by
  unfold NB at hz
  have e1:IntKind.wrap .i64 ((a:Int) - 1)=((a - 1:Nat):Int):=by rw [wid (by omega)];omega
  have e2:IntKind.wrap .i64 ((a:Int)+1)=((a+1:Nat):Int):=by rw [wid (by omega)];omega
  unfold slices_medianAdjacentCmpFunc_f107_M1 Go.Sort.medianAdjacent
  rw [e1,e2,median_eq n d (a - 1) a (a+1) s (by omega) (by omega) ha hs]
  rfl
def hintI:Hint→Int
  | .unknown=>0
  | .increasing=>1
  | .decreasing=>2
theorem pivot_k1 (n:Nat) (l:List TUnitConf) (s j:Nat):slices_choosePivotCmpFunc_f86_M1_k1 n l (s:Int) (j:Int)=some ((j:Int),hintI (if s=0 then .increasing else if s=12 then .decreasing else .unknown)):=by
  unfold slices_choosePivotCmpFunc_f86_M1_k1
  by_cases h0:s=0
  · subst h0;rfl
  · have e0:((s:Int) == 0)=false:=by rw [beq_eq_false_iff_ne];omega
    rw [e0,if_neg h0,cond_false]
    by_cases h1:s=12
    · subst h1;rfl
    · have e1:((s:Int) == 12)=false:=by rw [beq_eq_false_iff_ne];omega
      rw [e1,if_neg h1];rfl
theorem pivot_eq (n:Nat) (d:Array TUnitConf) (a b:Nat) (hab:a < b) (hb:b≤d.size) (hz:d.size≤NB):slices_choosePivotCmpFunc_f86_M1 n d.toList (a:Int) (b:Int)=some (((Go.Sort.choosePivot ltA d a b).1:Int),hintI (Go.Sort.choosePivot ltA d a b).2):=by
  have hz':=hz
  unfold NB at hz'
  have e0:IntKind.wrap .i64 ((b:Int) - (a:Int))=((b - a:Nat):Int):=by rw [wid (by omega)];omega
  have e1:IntKind.wrap .i64 (Int.tdiv ((b - a:Nat):Int) 4)=(((b - a) / 4:Nat):Int):=by
    rw [Int.tdiv_eq_ediv_of_nonneg (by omega),wid (by omega)];omega
  have e2:∀ k:Nat,k≤3→IntKind.wrap .i64 ((a:Int)+IntKind.wrap .i64 ((((b - a) / 4:Nat):Int) * (k:Int)))=((a+(b - a) / 4 * k:Nat):Int):=by
    intro k hk
    have:(((b - a) / 4:Nat):Int) * (k:Int)=(((b - a) / 4 * k:Nat):Int):=by simp
    rw [this]
    have hle:(b - a) / 4 * k≤64 * 3:=Nat.mul_le_mul (by omega) hk
    rw [wid (n:=(((b - a) / 4 * k:Nat):Int)) (by omega),wid (by omega)]
    omega
  have f1:=e2 1 (by omega)
  have f2:=e2 2 (by omega)
  have f3:=e2 3 (by omega)
  simp only [Int.natCast_one,show ((2:Nat):Int)=2 from rfl,show ((3:Nat):Int)=3 from rfl,show ((1:Nat):Int)=1 from rfl] at f1 f2 f3
  unfold slices_choosePivotCmpFunc_f86_M1 Go.Sort.choosePivot
  simp only [e0,e1,f1,f2,f3]
  by_cases c8:b - a ≥ 8
  · rw [decide_eq_true (by omega),cond_true,if_pos c8]
    by_cases c50:b - a ≥ 50
    · rw [decide_eq_true (by omega),cond_true,if_pos c50]
      have h1:=median_r d (a+(b - a) / 4 * 1 - 1) (a+(b - a) / 4 * 1) (a+(b - a) / 4 * 1+1) 0
      have m1:=medAdj_eq n d (a+(b - a) / 4 * 1) 0 (by omega) (by omega) hz (by omega)
      have hz0:((0:Nat):Int)=0:=rfl
      rw [hz0] at m1
      have h1':(Go.Sort.medianAdjacent ltA d (a+(b - a) / 4 * 1) 0).1 < d.size∧(Go.Sort.medianAdjacent ltA d (a+(b - a) / 4 * 1) 0).2≤3:=by unfold Go.Sort.medianAdjacent;omega
      have h2:=median_r d (a+(b - a) / 4 * 2 - 1) (a+(b - a) / 4 * 2) (a+(b - a) / 4 * 2+1) (Go.Sort.medianAdjacent ltA d (a+(b - a) / 4 * 1) 0).2
      have m2:=medAdj_eq n d (a+(b - a) / 4 * 2) (Go.Sort.medianAdjacent ltA d (a+(b - a) / 4 * 1) 0).2 (by omega) (by omega) hz (by omega)
      have h2':(Go.Sort.medianAdjacent ltA d (a+(b - a) / 4 * 2) (Go.Sort.medianAdjacent ltA d (a+(b - a) / 4 * 1) 0).2).1 < d.size∧(Go.Sort.medianAdjacent ltA d (a+(b - a) / 4 * 2) (Go.Sort.medianAdjacent ltA d (a+(b - a) / 4 * 1) 0).2).2≤6:=by
        generalize (Go.Sort.medianAdjacent ltA d (a+(b - a) / 4 * 1) 0).2=s at *
        unfold Go.Sort.medianAdjacent;omega
      have h3:=median_r d (a+(b - a) / 4 * 3 - 1) (a+(b - a) / 4 * 3) (a+(b - a) / 4 * 3+1) (Go.Sort.medianAdjacent ltA d (a+(b - a) / 4 * 2) (Go.Sort.medianAdjacent ltA d (a+(b - a) / 4 * 1) 0).2).2
      have m3:=medAdj_eq n d (a+(b - a) / 4 * 3) (Go.Sort.medianAdjacent ltA d (a+(b - a) / 4 * 2) (Go.Sort.medianAdjacent ltA d (a+(b - a) / 4 * 1) 0).2).2 (by omega) (by omega) hz (by omega)
      have h3':(Go.Sort.medianAdjacent ltA d (a+(b - a) / 4 * 3) (Go.Sort.medianAdjacent ltA d (a+(b - a) / 4 * 2) (Go.Sort.medianAdjacent ltA d (a+(b - a) / 4 * 1) 0).2).2).1 < d.size∧(Go.Sort.medianAdjacent ltA d (a+(b - a) / 4 * 3) (Go.Sort.medianAdjacent ltA d (a+(b - a) / 4 * 2) (Go.Sort.medianAdjacent ltA d (a+(b - a) / 4 * 1) 0).2).2).2≤9:=by
        generalize (Go.Sort.medianAdjacent ltA d (a+(b - a) / 4 * 2) (Go.Sort.medianAdjacent ltA d (a+(b - a) / 4 * 1) 0).2).2=s at *
        unfold Go.Sort.medianAdjacent;omega
      rw [m1,Option.bind_some,m2,Option.bind_some,m3,Option.bind_some]
      unfold slices_choosePivotCmpFunc_f86_M1_k2
      rw [median_eq n d _ _ _ _ h1'.1 h2'.1 h3'.1 (by omega),Option.bind_some]
      exact pivot_k1 n _ _ _
    · rw [decide_eq_false (by omega),cond_false,if_neg c50]
      unfold slices_choosePivotCmpFunc_f86_M1_k2
      have m:=median_eq n d (a+(b - a) / 4 * 1) (a+(b - a) / 4 * 2) (a+(b - a) / 4 * 3) 0 (by omega) (by omega) (by omega) (by omega)
      have hz0:((0:Nat):Int)=0:=rfl
      rw [hz0] at m
      rw [m,Option.bind_some]
      exact pivot_k1 n _ _ _
  · rw [decide_eq_false (by omega),cond_false,if_neg c8]
    have:=pivot_k1 n d.toList 0 (a+(b - a) / 4 * 2)
    have hz0:((0:Nat):Int)=0:=rfl
    rw [hz0] at this
    exact this
theorem bits_val (n:Nat):∀ x:Nat,x≤64→math_bits_Len n (x:Int)=some (Go.Sort.bitsLen x:Int):=by
  have e:math_bits_Len n=math_bits_Len 0:=rfl
  rw [e]
  have h:∀ x:Fin 65,math_bits_Len 0 ((x:Nat):Int)=some (Go.Sort.bitsLen x:Int):=by decide +kernel
  intro x hx
  exact h ⟨x,by omega⟩
def xnI (r:Int):Int:=match slices_xorshift__Next_M1 0 r with | some p=>p.1 | none=>0
theorem next_val (n:Nat) (r:Int):slices_xorshift__Next_M1 n r=some (xnI r,xnI r):=rfl
def othN (L:Nat) (r:UInt64):Nat:=if r.toNat &&& ((1 <<< Go.Sort.bitsLen L) - 1) ≥ L then (r.toNat &&& ((1 <<< Go.Sort.bitsLen L) - 1)) - L else r.toNat &&& ((1 <<< Go.Sort.bitsLen L) - 1)
def rawI (m r:Int):Int:=IntKind.wrap .i64 (IntKind.wrap .u64 ((BitVec.ofInt (IntKind.bits .u64) r &&& BitVec.ofInt (IntKind.bits .u64) (IntKind.wrap .u64 (m - 1))).toNat:Int))
def rn1 (L:Nat):UInt64:=Go.Sort.xorNext (UInt64.ofNat L)
def rn2 (L:Nat):UInt64:=Go.Sort.xorNext (rn1 L)
def rn3 (L:Nat):UInt64:=Go.Sort.xorNext (rn2 L)
def patOk (L:Nat):Bool:=decide (IntKind.wrap .u64 (L:Int)=(L:Int)∧xnI (L:Int)=((rn1 L).toNat:Int)∧xnI ((rn1 L).toNat:Int)=((rn2 L).toNat:Int)∧xnI ((rn2 L).toNat:Int)=((rn3 L).toNat:Int) ∧
  rawI ((1 <<< Go.Sort.bitsLen L:Nat):Int) ((rn1 L).toNat:Int)=(((rn1 L).toNat &&& ((1 <<< Go.Sort.bitsLen L) - 1):Nat):Int)∧rawI ((1 <<< Go.Sort.bitsLen L:Nat):Int) ((rn2 L).toNat:Int)=(((rn2 L).toNat &&& ((1 <<< Go.Sort.bitsLen L) - 1):Nat):Int)∧rawI ((1 <<< Go.Sort.bitsLen L:Nat):Int) ((rn3 L).toNat:Int)=(((rn3 L).toNat &&& ((1 <<< Go.Sort.bitsLen L) - 1):Nat):Int) ∧
  (8≤L→othN L (rn1 L) < L∧othN L (rn2 L) < L∧othN L (rn3 L) < L)∧IntKind.wrap .u64 (1 * 2 ^ min (Int.toNat (Go.Sort.bitsLen L:Int)) (IntKind.bits .u64))=((1 <<< Go.Sort.bitsLen L:Nat):Int))
theorem pat_ok:∀ L:Nat,L≤64→patOk L=true:=by
  have h:∀ x:Fin 65,patOk x=true:=by decide +kernel
  intro x hx
  exact h ⟨x,by omega⟩
theorem brk_step (n L a idx M:Nat) (d:Array TUnitConf) (r:Int) (q:UInt64) (hM:M=1 <<< Go.Sort.bitsLen L) (hr:xnI r=(q.toNat:Int)) (hraw:rawI (M:Int) (q.toNat:Int)=((q.toNat &&& (M - 1):Nat):Int)) (ho:othN L q < L) (hL:L≤64) (ha:a+L≤d.size) (hz:d.size≤NB) (hi:idx≤a+L / 4 * 2+1) (h8:8≤L) :
    slices_breakPatternsCmpFunc_f85_M1_b1 n (a:Int) (L:Int) (M:Int) d.toList r (idx:Int)=some (.inl ((swp d idx (a+othN L q)).toList,(q.toNat:Int),((idx+1:Nat):Int))):=by
  have hz':=hz
  unfold NB at hz'
  have e1:IntKind.wrap .i64 (Int.tdiv (L:Int) 4)=((L / 4:Nat):Int):=by
    rw [Int.tdiv_eq_ediv_of_nonneg (by omega),wid (by omega)];omega
  have e2:IntKind.wrap .i64 (((L / 4:Nat):Int) * 2)=((L / 4 * 2:Nat):Int):=by rw [wid (by omega)];omega
  have e3:IntKind.wrap .i64 ((a:Int)+((L / 4 * 2:Nat):Int))=((a+L / 4 * 2:Nat):Int):=by rw [wid (by omega)];omega
  have e4:IntKind.wrap .i64 (((a+L / 4 * 2:Nat):Int)+1)=((a+L / 4 * 2+1:Nat):Int):=by rw [wid (by omega)];omega
  have e5:IntKind.wrap .i64 ((a:Int)+((othN L q:Nat):Int))=((a+othN L q:Nat):Int):=by rw [wid (by omega)];omega
  have e6:IntKind.wrap .i64 ((idx:Int)+1)=((idx+1:Nat):Int):=by rw [wid (by omega)];omega
  have hk3:∀ o:Int,o=((othN L q:Nat):Int)→slices_breakPatternsCmpFunc_f85_M1_k3 n d.toList (a:Int) (L:Int) (q.toNat:Int) (M:Int) (idx:Int) o=some (.inl ((swp d idx (a+othN L q)).toList,(q.toNat:Int),((idx+1:Nat):Int))):=by
    intro o e
    subst e
    unfold slices_breakPatternsCmpFunc_f85_M1_k3 slices_breakPatternsCmpFunc_f85_M1_k2
    simp only [e5,e6,Int.toNat_natCast,gta,Array.length_toList]
    rw [gd_pos _ (by omega),swp_l]
  unfold slices_breakPatternsCmpFunc_f85_M1_b1
  simp only [e1,e2,e3,e4]
  rw [decide_eq_true (by omega),cond_true,next_val,Option.bind_some]
  simp only
  rw [hr]
  unfold rawI at hraw
  rw [hraw]
  by_cases c:(q.toNat &&& (M - 1)) ≥ L
  · have eo:othN L q=(q.toNat &&& (M - 1)) - L:=by unfold othN;rw [← hM,if_pos c]
    rw [decide_eq_true (by omega),cond_true]
    refine hk3 _ ?_
    have hb:(q.toNat &&& (M - 1)) < 64+L:=by omega
    rw [wid (by omega),eo]
    omega
  · have eo:othN L q=(q.toNat &&& (M - 1)):=by unfold othN;rw [← hM,if_neg c]
    rw [decide_eq_false (by omega),cond_false]
    refine hk3 _ ?_
    rw [eo]
theorem brk_eq (n:Nat) (hn:4194304≤n) (d:Array TUnitConf) (a b:Nat) (hab:a≤b) (hb:b≤d.size) (hz:d.size≤NB):slices_breakPatternsCmpFunc_f85_M1 n d.toList (a:Int) (b:Int)=some (Go.Sort.breakPatterns d a b).toList:=by
  have hz':=hz
  unfold NB at hz'
  have e0:IntKind.wrap .i64 ((b:Int) - (a:Int))=((b - a:Nat):Int):=by rw [wid (by omega)];omega
  unfold slices_breakPatternsCmpFunc_f85_M1 Go.Sort.breakPatterns
  simp only [e0]
  by_cases c8:b - a ≥ 8
  · rw [decide_eq_true (by omega),cond_true,if_pos c8]
    generalize hL:b - a=L at *
    have hp:=pat_ok L (by omega)
    unfold patOk at hp
    obtain ⟨p1,p2,p3,p4,p5,p6,p7,p8,p9⟩:=of_decide_eq_true hp
    obtain ⟨o1,o2,o3⟩:=p8 c8
    have e1:IntKind.wrap .i64 (Int.tdiv (L:Int) 4)=((L / 4:Nat):Int):=by
      rw [Int.tdiv_eq_ediv_of_nonneg (by omega),wid (by omega)];omega
    have e2:IntKind.wrap .i64 (((L / 4:Nat):Int) * 2)=((L / 4 * 2:Nat):Int):=by rw [wid (by omega)];omega
    have e3:IntKind.wrap .i64 ((a:Int)+((L / 4 * 2:Nat):Int))=((a+L / 4 * 2:Nat):Int):=by rw [wid (by omega)];omega
    have e4:IntKind.wrap .i64 (((a+L / 4 * 2:Nat):Int) - 1)=((a+L / 4 * 2 - 1:Nat):Int):=by rw [wid (by omega)];omega
    simp only [e1,e2,e3,e4,p1]
    unfold slices_nextPowerOfTwo
    rw [p1,bits_val n L (by omega),Option.bind_some,gd_pos _ (by omega),p9,Option.bind_some]
    obtain ⟨f,hf⟩:∃ f,n=f+4:=⟨n - 4,by omega⟩
    have s1:=brk_step n L a (a+L / 4 * 2 - 1) (1 <<< Go.Sort.bitsLen L) d (L:Int) (rn1 L) rfl p2 p5 o1 (by omega) (by omega) hz (by omega) c8
    have s2:=brk_step n L a (a+L / 4 * 2 - 1+1) (1 <<< Go.Sort.bitsLen L) (swp d (a+L / 4 * 2 - 1) (a+othN L (rn1 L))) _ (rn2 L) rfl p3 p6 o2 (by omega) (by rw [swp_s];omega) (by rw [swp_s];exact hz) (by omega) c8
    have s3:=brk_step n L a (a+L / 4 * 2 - 1+1+1) (1 <<< Go.Sort.bitsLen L) (swp (swp d (a+L / 4 * 2 - 1) (a+othN L (rn1 L))) (a+L / 4 * 2 - 1+1) (a+othN L (rn2 L))) _ (rn3 L) rfl p4 p7 o3 (by omega) (by rw [swp_s,swp_s];omega) (by rw [swp_s,swp_s];exact hz) (by omega) c8
    have s4:∀ (l:List TUnitConf) (r:Int),slices_breakPatternsCmpFunc_f85_M1_b1 n (a:Int) (L:Int) ((1 <<< Go.Sort.bitsLen L:Nat):Int) l r ((a+L / 4 * 2 - 1+1+1+1:Nat):Int)=some (.inr l):=by
      intro l r
      unfold slices_breakPatternsCmpFunc_f85_M1_b1
      have e5:IntKind.wrap .i64 (((a+L / 4 * 2:Nat):Int)+1)=((a+L / 4 * 2+1:Nat):Int):=by rw [wid (by omega)];omega
      simp only [e1,e2,e3,e5]
      rw [decide_eq_false (by omega),cond_false]
    rw [hf] at s1 s2 s3 s4 ⊢
    rw [loopF_step s1,loopF_step s2,loopF_step s3,loopF_done (s4 _ _),Option.bind_some]
    rfl
  · rw [decide_eq_false (by omega),cond_false,if_neg c8]
theorem brk_s (d:Array TUnitConf) (a b:Nat):(Go.Sort.breakPatterns d a b).size=d.size:=by
  unfold Go.Sort.breakPatterns Go.Sort.breakStep
  simp only
  split
  · rw [swp_s,swp_s,swp_s]
  · rfl
end Go.Proofs.Ytcdofkflbnpjjaa
/-
  ch. 37: the sort by addresses is the kit's plain twin: the partitions, the insertion sort that gives up.
-/
set_option maxHeartbeats 1000000
set_option linter.unusedVariables false
set_option linter.unusedSimpArgs false
set_option maxRecDepth 100000
namespace Go.Proofs.Ytcdofkflbnpjjaa
open Go.AE
open Go.Sort (swp scanUp scanDown)
theorem up_loop {body:Int→Option (Int ⊕ Int)} (p:TUnitConf→Bool) (d:Array TUnitConf) (j:Nat)
    (hb:∀ i:Nat,i≤j→body (i:Int)=some (if p d[i]! = true then .inl ((i+1:Nat):Int) else .inr (i:Int))) (he:∀ i:Nat,j < i→body (i:Int)=some (.inr (i:Int))) :
    ∀ (m i f:Nat),j+1 - i≤m→m < f→loopF body f (i:Int)=some ((scanUp p d j i:Nat):Int)
  | m,i,f,hm,hf=>by
    obtain ⟨f,rfl⟩:∃ g,f=g+1:=⟨f - 1,by omega⟩
    rw [Go.Sort.scanUp]
    by_cases c:i≤j
    · have h:=hb i c
      cases hp:p d[i]! with
      | true =>
        rw [hp,if_pos rfl] at h
        simp only [decide_eq_true c,Bool.and_self,if_true]
        match m,hm with
        | 0,hm=>omega
        | m+1,hm =>
        rw [loopF_step h]
        exact up_loop p d j hb he m (i+1) f (by omega) (by omega)
      | false =>
        rw [hp,if_neg (by decide)] at h
        simp only [Bool.and_false,Bool.false_eq_true,if_false]
        exact loopF_done h
    · simp only [decide_eq_false c,Bool.false_and,Bool.false_eq_true,if_false]
      exact loopF_done (he i (by omega))
theorem down_loop {body:Int→Option (Int ⊕ Int)} (p:TUnitConf→Bool) (d:Array TUnitConf) (i:Nat) (hi:1≤i)
    (hs:∀ j:Nat,∀ q:Nat,j=q+1→IntKind.wrap .i64 ((j:Int) - 1)=(q:Int)∨True)
    (J:Nat) (hb:∀ j:Nat,i≤j→j≤J→body (j:Int)=some (if p d[j]! = true then .inl ((j:Int) - 1) else .inr (j:Int))) (he:∀ j:Nat,j < i→body (j:Int)=some (.inr (j:Int))) :
    ∀ (j f:Nat),j≤J→j < f→loopF body f (j:Int)=some ((scanDown p d i j:Nat):Int)
  | 0,f,hJ,hf=>by
    obtain ⟨f,rfl⟩:∃ g,f=g+1:=⟨f - 1,by omega⟩
    exact loopF_done (he 0 (by omega))
  | j+1,f,hJ,hf=>by
    obtain ⟨f,rfl⟩:∃ g,f=g+1:=⟨f - 1,by omega⟩
    rw [Go.Sort.scanDown]
    by_cases c:i≤j+1
    · have h:=hb (j+1) c hJ
      cases hp:p d[j+1]! with
      | true =>
        rw [hp,if_pos rfl] at h
        simp only [decide_eq_true c,Bool.and_self,if_true]
        have e:((j+1:Nat):Int) - 1=(j:Int):=by omega
        rw [e] at h
        rw [loopF_step h]
        exact down_loop p d i hi hs J hb he j f (by omega) (by omega)
      | false =>
        rw [hp,if_neg (by decide)] at h
        simp only [Bool.and_false,Bool.false_eq_true,if_false]
        exact loopF_done h
    · simp only [decide_eq_false c,Bool.false_and,Bool.false_eq_true,if_false]
      exact loopF_done (he (j+1) (by omega))
section
variable (n:Nat) (hn:4194304≤n) (d:Array TUnitConf) (a:Nat) (ha:a < d.size) (hz:d.size≤NB)
include hn ha hz
theorem up_b8 (j i:Nat) (hj:j < d.size):loopF (fun (x:Int)=>slices_partitionCmpFunc_f90_M1_b8 n d.toList (a:Int) (j:Int) x) n (i:Int)=some ((scanUp (fun x=>ltA x d[a]!) d j i:Nat):Int):=by
  have hz':=hz
  unfold NB at hz'
  refine up_loop _ d j (fun i hi=>?_) (fun i hi=>?_) (j+1) i n (by omega) (by omega)
  · obtain ⟨r,r1,r2⟩:=byAddr_val n d[i]! d[a]!
    have e:IntKind.wrap .i64 ((i:Int)+1)=((i+1:Nat):Int):=by rw [wid (by omega)];omega
    have c:decide ((i:Int)≤(j:Int))=true:=decide_eq_true (by omega)
    unfold slices_partitionCmpFunc_f90_M1_b8
    simp only [e,Int.toNat_natCast,gta,Array.length_toList,c]
    rw [gd_pos _ (by refine ⟨fun _=>?_,fun _=>?_,fun _=>?_,fun _=>?_⟩ <;> omega),cond_true,gd_t,r1,Option.bind_some,r2]
    cases ltA d[i]! d[a]! <;> rfl
  · have c:decide ((i:Int)≤(j:Int))=false:=decide_eq_false (by omega)
    unfold slices_partitionCmpFunc_f90_M1_b8
    simp only [c]
    rw [gd_pos _ (by refine ⟨fun h=>?_,fun h=>?_,fun h=>?_,fun h=>?_⟩ <;> cases h)]
    rfl
theorem up_b10 (j i:Nat) (hj:j < d.size):loopF (fun (x:Int)=>slices_partitionCmpFunc_f90_M1_b10 n d.toList (a:Int) (j:Int) x) n (i:Int)=some ((scanUp (fun x=>ltA x d[a]!) d j i:Nat):Int):=up_b8 n hn d a ha hz j i hj
theorem up_b6 (j i:Nat) (hj:j < d.size):loopF (fun (x:Int)=>slices_partitionEqualCmpFunc_f89_M1_b6 n d.toList (a:Int) (j:Int) x) n (i:Int)=some ((scanUp (fun x=>!ltA d[a]! x) d j i:Nat):Int):=by
  have hz':=hz
  unfold NB at hz'
  refine up_loop _ d j (fun i hi=>?_) (fun i hi=>?_) (j+1) i n (by omega) (by omega)
  · obtain ⟨r,r1,r2⟩:=byAddr_val n d[a]! d[i]!
    have e:IntKind.wrap .i64 ((i:Int)+1)=((i+1:Nat):Int):=by rw [wid (by omega)];omega
    have c:decide ((i:Int)≤(j:Int))=true:=decide_eq_true (by omega)
    unfold slices_partitionEqualCmpFunc_f89_M1_b6
    simp only [e,Int.toNat_natCast,gta,Array.length_toList,c]
    rw [gd_pos _ (by refine ⟨fun _=>?_,fun _=>?_,fun _=>?_,fun _=>?_⟩ <;> omega),cond_true,gd_t,r1,Option.bind_some,r2]
    cases ltA d[a]! d[i]! <;> rfl
  · have c:decide ((i:Int)≤(j:Int))=false:=decide_eq_false (by omega)
    unfold slices_partitionEqualCmpFunc_f89_M1_b6
    simp only [c]
    rw [gd_pos _ (by refine ⟨fun h=>?_,fun h=>?_,fun h=>?_,fun h=>?_⟩ <;> cases h)]
    rfl
theorem down_b7 (i j:Nat) (hi:1≤i) (hj:j < d.size):loopF (fun (x:Int)=>slices_partitionCmpFunc_f90_M1_b7 n d.toList (a:Int) (i:Int) x) n (j:Int)=some ((scanDown (fun x=>!ltA x d[a]!) d i j:Nat):Int):=by
  have hz':=hz
  unfold NB at hz'
  refine down_loop _ d i hi (fun _ _ _=>.inr trivial) j (fun q h1 h2=>?_) (fun q h=>?_) j n (Nat.le_refl _) (by omega)
  · obtain ⟨r,r1,r2⟩:=byAddr_val n d[q]! d[a]!
    have e:IntKind.wrap .i64 ((q:Int) - 1)=(q:Int) - 1:=wid (by omega)
    have c:decide ((i:Int)≤(q:Int))=true:=decide_eq_true (by omega)
    unfold slices_partitionCmpFunc_f90_M1_b7
    simp only [e,Int.toNat_natCast,gta,Array.length_toList,c]
    rw [gd_pos _ (by refine ⟨fun _=>?_,fun _=>?_,fun _=>?_,fun _=>?_⟩ <;> omega),cond_true,gd_t,r1,Option.bind_some,r2]
    cases ltA d[q]! d[a]! <;> rfl
  · have c:decide ((i:Int)≤(q:Int))=false:=decide_eq_false (by omega)
    unfold slices_partitionCmpFunc_f90_M1_b7
    simp only [c]
    rw [gd_pos _ (by refine ⟨fun h=>?_,fun h=>?_,fun h=>?_,fun h=>?_⟩ <;> cases h)]
    rfl
theorem down_b9 (i j:Nat) (hi:1≤i) (hj:j < d.size):loopF (fun (x:Int)=>slices_partitionCmpFunc_f90_M1_b9 n d.toList (a:Int) (i:Int) x) n (j:Int)=some ((scanDown (fun x=>!ltA x d[a]!) d i j:Nat):Int):=down_b7 n hn d a ha hz i j hi hj
theorem down_b5 (i j:Nat) (hi:1≤i) (hj:j < d.size):loopF (fun (x:Int)=>slices_partitionEqualCmpFunc_f89_M1_b5 n d.toList (a:Int) (i:Int) x) n (j:Int)=some ((scanDown (fun x=>ltA d[a]! x) d i j:Nat):Int):=by
  have hz':=hz
  unfold NB at hz'
  refine down_loop _ d i hi (fun _ _ _=>.inr trivial) j (fun q h1 h2=>?_) (fun q h=>?_) j n (Nat.le_refl _) (by omega)
  · obtain ⟨r,r1,r2⟩:=byAddr_val n d[a]! d[q]!
    have e:IntKind.wrap .i64 ((q:Int) - 1)=(q:Int) - 1:=wid (by omega)
    have c:decide ((i:Int)≤(q:Int))=true:=decide_eq_true (by omega)
    unfold slices_partitionEqualCmpFunc_f89_M1_b5
    simp only [e,Int.toNat_natCast,gta,Array.length_toList,c]
    rw [gd_pos _ (by refine ⟨fun _=>?_,fun _=>?_,fun _=>?_,fun _=>?_⟩ <;> omega),cond_true,gd_t,r1,Option.bind_some,r2]
    cases ltA d[a]! d[q]! <;> rfl
  · have c:decide ((i:Int)≤(q:Int))=false:=decide_eq_false (by omega)
    unfold slices_partitionEqualCmpFunc_f89_M1_b5
    simp only [c]
    rw [gd_pos _ (by refine ⟨fun h=>?_,fun h=>?_,fun h=>?_,fun h=>?_⟩ <;> cases h)]
    rfl
end
theorem part_loop (n:Nat) (hn:4194304≤n) (a:Nat):∀ (m i j:Nat) (d:Array TUnitConf) (f:Nat),j+1 - i≤m→1≤i→j < d.size→a < d.size→d.size≤NB→m < f →
    loopF (fun (x:(List TUnitConf)×Int×Int)=>slices_partitionCmpFunc_f90_M1_b4 n (a:Int) x.1 x.2.1 x.2.2) f (d.toList,(i:Int),(j:Int))=some ((Go.Sort.partLoop ltA a i j d).2.toList,((Go.Sort.partLoop ltA a i j d).1:Int))∧(Go.Sort.partLoop ltA a i j d).1≤j∧(Go.Sort.partLoop ltA a i j d).2.size=d.size
  | m,i,j,d,f,hm,hi,hj,ha,hz,hf=>by
    obtain ⟨f,rfl⟩:∃ g,f=g+1:=⟨f - 1,by omega⟩
    have hz':=hz
    unfold NB at hz'
    rw [Go.Sort.partLoop_eq]
    have u:=up_b8 n hn d a ha hz j i hj
    obtain ⟨s1,s2,_,_⟩:=Go.Sort.scanUp_spec (fun x=>ltA x d[a]!) d j _ i rfl
    generalize hI:scanUp (fun x=>ltA x d[a]!) d j i=I at *
    have v:=down_b7 n hn d a ha hz I j (by omega) hj
    have t1:=Go.Sort.scanDown_le (fun x=>!ltA x d[a]!) d I j
    generalize hJ:scanDown (fun x=>!ltA x d[a]!) d I j=J at *
    have hb:slices_partitionCmpFunc_f90_M1_b4 n (a:Int) d.toList (i:Int) (j:Int)=slices_partitionCmpFunc_f90_M1_k6 n d.toList (a:Int) (I:Int) (J:Int):=by
      unfold slices_partitionCmpFunc_f90_M1_b4
      rw [u,Option.bind_some]
      unfold slices_partitionCmpFunc_f90_M1_k5
      rw [v,Option.bind_some]
    by_cases c:I > J
    · rw [if_pos c]
      refine ⟨loopF_done ?_,t1,rfl⟩
      simp only
      rw [hb]
      unfold slices_partitionCmpFunc_f90_M1_k6
      rw [decide_eq_true (by omega),cond_true]
    · rw [if_neg c]
      match m,hm with
      | 0,hm=>omega
      | m+1,hm =>
      obtain ⟨i1,i2,i3⟩:=part_loop n hn a m (I+1) (J - 1) (swp d I J) f (by omega) (by omega) (by rw [swp_s];omega) (by rw [swp_s];exact ha) (by rw [swp_s];exact hz) (by omega)
      refine ⟨(loopF_step (x':=((swp d I J).toList,((I+1:Nat):Int),((J - 1:Nat):Int))) ?_).trans i1,by omega,by rw [i3,swp_s]⟩
      simp only
      rw [hb]
      unfold slices_partitionCmpFunc_f90_M1_k6
      simp only [Int.toNat_natCast,gta,Array.length_toList]
      have e1:IntKind.wrap .i64 ((I:Int)+1)=((I+1:Nat):Int):=by rw [wid (by omega)];omega
      have e2:IntKind.wrap .i64 ((J:Int) - 1)=((J - 1:Nat):Int):=by rw [wid (by omega)];omega
      rw [decide_eq_false (by omega),cond_false,gd_pos _ (by omega),swp_l,e1,e2]
theorem part_eq (n:Nat) (hn:4194304≤n) (d:Array TUnitConf) (a b pivot:Nat) (h1:a≤pivot) (h2:pivot < b) (hb:b≤d.size) (hz:d.size≤NB) :
    slices_partitionCmpFunc_f90_M1 n d.toList (a:Int) (b:Int) (pivot:Int)=some (((Go.Sort.partition ltA d a b pivot).1:Int),(Go.Sort.partition ltA d a b pivot).2.1,(Go.Sort.partition ltA d a b pivot).2.2.toList)∧(Go.Sort.partition ltA d a b pivot).2.2.size=d.size:=by
  have hz':=hz
  unfold NB at hz'
  unfold slices_partitionCmpFunc_f90_M1 Go.Sort.partition
  simp only [Int.toNat_natCast,gta,Array.length_toList]
  have e1:IntKind.wrap .i64 ((a:Int)+1)=((a+1:Nat):Int):=by rw [wid (by omega)];omega
  have e2:IntKind.wrap .i64 ((b:Int) - 1)=((b - 1:Nat):Int):=by rw [wid (by omega)];omega
  rw [gd_pos _ (by omega),swp_l,e1,e2]
  have hsz:(swp d a pivot).size=d.size:=swp_s _ _ _
  generalize hD:swp d a pivot=D at *
  have u:=up_b10 n hn D a (by omega) (by rw [hsz];exact hz) (b - 1) (a+1) (by omega)
  obtain ⟨s1,s2,_,_⟩:=Go.Sort.scanUp_spec (fun x=>ltA x D[a]!) D (b - 1) _ (a+1) rfl
  generalize hI:scanUp (fun x=>ltA x D[a]!) D (b - 1) (a+1)=I at *
  have v:=down_b9 n hn D a (by omega) (by rw [hsz];exact hz) I (b - 1) (by omega) (by omega)
  have t1:=Go.Sort.scanDown_le (fun x=>!ltA x D[a]!) D I (b - 1)
  generalize hJ:scanDown (fun x=>!ltA x D[a]!) D I (b - 1)=J at *
  rw [u,Option.bind_some]
  unfold slices_partitionCmpFunc_f90_M1_k1
  rw [v,Option.bind_some]
  unfold slices_partitionCmpFunc_f90_M1_k2
  simp only [Int.toNat_natCast,gta,Array.length_toList]
  by_cases c:I > J
  · rw [decide_eq_true (by omega),cond_true,if_pos c,gd_pos _ (by omega),swp_l]
    exact ⟨rfl,by simp only [swp_s];exact hsz⟩
  · have e3:IntKind.wrap .i64 ((I:Int)+1)=((I+1:Nat):Int):=by rw [wid (by omega)];omega
    have e4:IntKind.wrap .i64 ((J:Int) - 1)=((J - 1:Nat):Int):=by rw [wid (by omega)];omega
    obtain ⟨i1,i2,i3⟩:=part_loop n hn a (J - 1+1 - (I+1)) (I+1) (J - 1) (swp D I J) n (Nat.le_refl _) (by omega) (by rw [swp_s];omega) (by rw [swp_s];omega) (by rw [swp_s,hsz];exact hz) (by omega)
    rw [swp_s] at i3
    rw [decide_eq_false (by omega),cond_false,if_neg c,gd_pos _ (by omega),swp_l,e3,e4,i1,Option.bind_some]
    simp only
    generalize Go.Sort.partLoop ltA a (I+1) (J - 1) (swp D I J)=R at *
    unfold slices_partitionCmpFunc_f90_M1_k3
    simp only [Int.toNat_natCast,gta,Array.length_toList]
    rw [gd_pos _ (by omega),swp_l]
    exact ⟨rfl,by rw [swp_s];omega⟩
theorem parteq_loop (n:Nat) (hn:4194304≤n) (a:Nat):∀ (m i j:Nat) (d:Array TUnitConf) (f:Nat),j+1 - i≤m→1≤i→i≤j+1→j < d.size→a < d.size→d.size≤NB→m < f →
    loopF (fun (x:(List TUnitConf)×Int×Int)=>slices_partitionEqualCmpFunc_f89_M1_b2 n (a:Int) x.1 x.2.1 x.2.2) f (d.toList,(i:Int),(j:Int))=some ((Go.Sort.partEqLoop ltA a i j d).2.toList,((Go.Sort.partEqLoop ltA a i j d).1:Int))∧i≤(Go.Sort.partEqLoop ltA a i j d).1∧(Go.Sort.partEqLoop ltA a i j d).1≤j+1∧(Go.Sort.partEqLoop ltA a i j d).2.size=d.size
  | m,i,j,d,f,hm,hi,hij,hj,ha,hz,hf=>by
    obtain ⟨f,rfl⟩:∃ g,f=g+1:=⟨f - 1,by omega⟩
    have hz':=hz
    unfold NB at hz'
    rw [Go.Sort.partEqLoop_eq]
    have u:=up_b6 n hn d a ha hz j i hj
    obtain ⟨s1,s2,_,s4⟩:=Go.Sort.scanUp_spec (fun x=>!ltA d[a]! x) d j _ i rfl
    generalize hI:scanUp (fun x=>!ltA d[a]! x) d j i=I at *
    have v:=down_b5 n hn d a ha hz I j (by omega) hj
    obtain ⟨t1,_,_,t4⟩:=Go.Sort.scanDown_spec (fun x=>ltA d[a]! x) d I j
    generalize hJ:scanDown (fun x=>ltA d[a]! x) d I j=J at *
    have hb:slices_partitionEqualCmpFunc_f89_M1_b2 n (a:Int) d.toList (i:Int) (j:Int)=slices_partitionEqualCmpFunc_f89_M1_k4 n d.toList (a:Int) (I:Int) (J:Int):=by
      unfold slices_partitionEqualCmpFunc_f89_M1_b2
      rw [u,Option.bind_some]
      unfold slices_partitionEqualCmpFunc_f89_M1_k3
      rw [v,Option.bind_some]
    by_cases c:I > J
    · rw [if_pos c]
      refine ⟨loopF_done ?_,s1,s2 hij,rfl⟩
      simp only
      rw [hb]
      unfold slices_partitionEqualCmpFunc_f89_M1_k4
      rw [decide_eq_true (by omega),cond_true]
    · rw [if_neg c]
      have hlt:I < J:=by
        by_cases e:I=J
        · subst e
          have h1:=s4 (by omega)
          have h2:=t4 (Nat.le_refl _) (by omega)
          simp only [Bool.not_eq_false'] at h1
          rw [h1] at h2;cases h2
        · omega
      match m,hm with
      | 0,hm=>omega
      | m+1,hm =>
      obtain ⟨i1,i2,i3,i4⟩:=parteq_loop n hn a m (I+1) (J - 1) (swp d I J) f (by omega) (by omega) (by omega) (by rw [swp_s];omega) (by rw [swp_s];exact ha) (by rw [swp_s];exact hz) (by omega)
      refine ⟨(loopF_step (x':=((swp d I J).toList,((I+1:Nat):Int),((J - 1:Nat):Int))) ?_).trans i1,by omega,by omega,by rw [i4,swp_s]⟩
      simp only
      rw [hb]
      unfold slices_partitionEqualCmpFunc_f89_M1_k4
      simp only [Int.toNat_natCast,gta,Array.length_toList]
      have e1:IntKind.wrap .i64 ((I:Int)+1)=((I+1:Nat):Int):=by rw [wid (by omega)];omega
      have e2:IntKind.wrap .i64 ((J:Int) - 1)=((J - 1:Nat):Int):=by rw [wid (by omega)];omega
      rw [decide_eq_false (by omega),cond_false,gd_pos _ (by omega),swp_l,e1,e2]
theorem parteq_eq (n:Nat) (hn:4194304≤n) (d:Array TUnitConf) (a b pivot:Nat) (h1:a≤pivot) (h2:pivot < b) (hb:b≤d.size) (hz:d.size≤NB) :
    slices_partitionEqualCmpFunc_f89_M1 n d.toList (a:Int) (b:Int) (pivot:Int)=some (((Go.Sort.partitionEqual ltA d a b pivot).1:Int),(Go.Sort.partitionEqual ltA d a b pivot).2.toList)∧a < (Go.Sort.partitionEqual ltA d a b pivot).1∧(Go.Sort.partitionEqual ltA d a b pivot).1≤b∧(Go.Sort.partitionEqual ltA d a b pivot).2.size=d.size:=by
  have hz':=hz
  unfold NB at hz'
  unfold slices_partitionEqualCmpFunc_f89_M1 Go.Sort.partitionEqual
  simp only [Int.toNat_natCast,gta,Array.length_toList]
  have e1:IntKind.wrap .i64 ((a:Int)+1)=((a+1:Nat):Int):=by rw [wid (by omega)];omega
  have e2:IntKind.wrap .i64 ((b:Int) - 1)=((b - 1:Nat):Int):=by rw [wid (by omega)];omega
  obtain ⟨i1,i2,i3,i4⟩:=parteq_loop n hn a (b - 1+1 - (a+1)) (a+1) (b - 1) (swp d a pivot) n (Nat.le_refl _) (by omega) (by omega) (by rw [swp_s];omega) (by rw [swp_s];omega) (by rw [swp_s];exact hz) (by omega)
  rw [swp_s] at i4
  rw [gd_pos _ (by omega),swp_l,e1,e2,i1,Option.bind_some]
  exact ⟨rfl,by omega,by omega,i4⟩
theorem sorted_loop (n:Nat) (hn:4194304≤n) (d:Array TUnitConf) (a:Int) (b:Nat) (q:Int) (hb:b≤d.size) (hz:d.size≤NB):∀ (m i f:Nat),b - i≤m→1≤i→i≤b→m < f →
    loopF (fun (x:Int)=>slices_partialInsertionSortCmpFunc_f88_M1_b8 n d.toList a (b:Int) q x) f (i:Int)=some ((Go.Sort.scanSorted ltA d b i:Nat):Int)
  | m,i,f,hm,h1,hi,hf=>by
    obtain ⟨f,rfl⟩:∃ g,f=g+1:=⟨f - 1,by omega⟩
    have hz':=hz
    unfold NB at hz'
    rw [Go.Sort.scanSorted]
    by_cases c:i < b
    · have c':decide ((i:Int) < (b:Int))=true:=decide_eq_true (by omega)
      obtain ⟨r,r1,r2⟩:=byAddr_val n d[i]! d[i - 1]!
      have e1:IntKind.wrap .i64 ((i:Int) - 1)=((i - 1:Nat):Int):=by rw [wid (by omega)];omega
      have e2:IntKind.wrap .i64 ((i:Int)+1)=((i+1:Nat):Int):=by rw [wid (by omega)];omega
      have hbd:slices_partialInsertionSortCmpFunc_f88_M1_b8 n d.toList a (b:Int) q (i:Int)=some (if (!ltA d[i]! d[i - 1]!)=true then .inl ((i+1:Nat):Int) else .inr (i:Int)):=by
        unfold slices_partialInsertionSortCmpFunc_f88_M1_b8
        simp only [e1,e2,Int.toNat_natCast,gta,Array.length_toList,c']
        rw [gd_pos _ (by refine ⟨fun _=>?_,fun _=>?_,fun _=>?_,fun _=>?_⟩ <;> omega),cond_true,gd_t,r1,Option.bind_some,r2]
        cases ltA d[i]! d[i - 1]! <;> rfl
      cases hp:(!ltA d[i]! d[i - 1]!) with
      | true =>
        rw [hp,if_pos rfl] at hbd
        simp only [decide_eq_true c,Bool.and_self,if_true]
        match m,hm with
        | 0,hm=>omega
        | m+1,hm =>
        rw [loopF_step hbd]
        exact sorted_loop n hn d a b q hb hz m (i+1) f (by omega) (by omega) (by omega) (by omega)
      | false =>
        rw [hp,if_neg (by decide)] at hbd
        simp only [Bool.and_false,Bool.false_eq_true,if_false]
        exact loopF_done hbd
    · have c':decide ((i:Int) < (b:Int))=false:=decide_eq_false (by omega)
      simp only [decide_eq_false c,Bool.false_and,Bool.false_eq_true,if_false]
      refine loopF_done ?_
      unfold slices_partialInsertionSortCmpFunc_f88_M1_b8
      simp only [c']
      rw [gd_pos _ (by refine ⟨fun h=>?_,fun h=>?_,fun h=>?_,fun h=>?_⟩ <;> cases h)]
      rfl
theorem partial_eq (n:Nat) (hn:4194304≤n) (d:Array TUnitConf) (a b:Nat) (hab:a < b) (hb:b≤d.size) (hz:d.size≤NB) :
    slices_partialInsertionSortCmpFunc_f88_M1 n d.toList (a:Int) (b:Int)=some ((Go.Sort.partialInsertionSort ltA d a b).2,(Go.Sort.partialInsertionSort ltA d a b).1.toList)∧(Go.Sort.partialInsertionSort ltA d a b).1.size=d.size:=by
  have hz':=hz
  unfold NB at hz'
  have e1:IntKind.wrap .i64 ((a:Int)+1)=((a+1:Nat):Int):=by rw [wid (by omega)];omega
  have e2:IntKind.wrap .i64 ((b:Int) - (a:Int))=((b - a:Nat):Int):=by rw [wid (by omega)];omega
  have ht:Go.Sort.partialInsertionSort ltA d a b=(d,decide (Go.Sort.scanSorted ltA d b (a+1)=b)):=by
    unfold Go.Sort.partialInsertionSort
    rw [Go.Sort.partialIns]
    simp only
    by_cases c:Go.Sort.scanSorted ltA d b (a+1)=b
    · rw [if_pos c,decide_eq_true c]
    · rw [if_neg c,if_pos (by omega),decide_eq_false c]
  rw [ht]
  refine ⟨?_,rfl⟩
  unfold slices_partialInsertionSortCmpFunc_f88_M1
  obtain ⟨f,hf⟩:∃ f,n=f+1:=⟨n - 1,by omega⟩
  have hb2:slices_partialInsertionSortCmpFunc_f88_M1_b2 n (a:Int) (b:Int) d.toList (IntKind.wrap .i64 ((a:Int)+1)) 0=some (.inr (.inl (decide (Go.Sort.scanSorted ltA d b (a+1)=b),d.toList))):=by
    unfold slices_partialInsertionSortCmpFunc_f88_M1_b2
    rw [show decide ((0:Int) < 5)=true from rfl,cond_true,e1,sorted_loop n hn d (a:Int) b 0 hb hz (b - (a+1)) (a+1) n (Nat.le_refl _) (by omega) (by omega) (by omega),Option.bind_some]
    unfold slices_partialInsertionSortCmpFunc_f88_M1_k4
    by_cases c:Go.Sort.scanSorted ltA d b (a+1)=b
    · have:(((Go.Sort.scanSorted ltA d b (a+1):Nat):Int) == (b:Int))=true:=by rw [c];simp
      rw [this,decide_eq_true c];rfl
    · have:(((Go.Sort.scanSorted ltA d b (a+1):Nat):Int) == (b:Int))=false:=by rw [beq_eq_false_iff_ne];omega
      rw [this,decide_eq_false c,cond_false,e2,decide_eq_true (by omega)];rfl
  have hlp:loopF (fun (x:(List TUnitConf)×Int×Int)=>slices_partialInsertionSortCmpFunc_f88_M1_b2 n (a:Int) (b:Int) x.1 x.2.1 x.2.2) n (d.toList,(IntKind.wrap .i64 ((a:Int)+1)),0)=some (.inl (decide (Go.Sort.scanSorted ltA d b (a+1)=b),d.toList)):=by
    rw [hf] at hb2 ⊢
    exact loopF_done hb2
  rw [hlp,Option.bind_some]
end Go.Proofs.Ytcdofkflbnpjjaa
/-
  ch. 37: the sort by addresses is the kit's plain twin: pdqsort; so it sorts.
-/
set_option maxHeartbeats 1000000
set_option linter.unusedVariables false
set_option linter.unusedSimpArgs false
set_option maxRecDepth 100000
namespace Go.Proofs.Ytcdofkflbnpjjaa
open Go.AE
open Go.Sort (swp Hint pdq)
def pT4 (d:Array TUnitConf) (a b limit pivot:Nat) (wb wp:Bool):Array TUnitConf :=
  if a > 0 && !ltA d[a - 1]! d[pivot]! then
    match Go.Sort.partitionEqual ltA d a b pivot with
    | (mid,d4)=>if _h:a < mid∧mid≤b then pdq ltA d4 mid b limit wb wp else d4
  else
    match Go.Sort.partition ltA d a b pivot with
    | (mid,ap,d4) =>
      if _h:a≤mid∧mid < b then
        if mid - a < b - mid then
          pdq ltA (pdq ltA d4 a mid limit true true) (mid+1) b limit (decide (mid - a ≥ (b - a) / 8)) ap
        else
          pdq ltA (pdq ltA d4 (mid+1) b limit true true) a mid limit (decide (b - mid ≥ (b - a) / 8)) ap
      else d4
def pT3 (d:Array TUnitConf) (a b limit pivot:Nat) (hint:Hint) (wb wp:Bool):Array TUnitConf :=
  if (if wb && wp && hint = .increasing then Go.Sort.partialInsertionSort ltA d a b else (d,false)).2 then (if wb && wp && hint = .increasing then Go.Sort.partialInsertionSort ltA d a b else (d,false)).1
  else pT4 (if wb && wp && hint = .increasing then Go.Sort.partialInsertionSort ltA d a b else (d,false)).1 a b limit pivot wb wp
def pT2 (d:Array TUnitConf) (a b limit:Nat) (wb wp:Bool):Array TUnitConf :=
  pT3 (if (Go.Sort.choosePivot ltA d a b).2 = .decreasing then Go.Sort.reverseRange d a b else d) a b limit
    (if (Go.Sort.choosePivot ltA d a b).2 = .decreasing then (b - 1) - ((Go.Sort.choosePivot ltA d a b).1 - a) else (Go.Sort.choosePivot ltA d a b).1)
    (if (Go.Sort.choosePivot ltA d a b).2 = .decreasing then Hint.increasing else (Go.Sort.choosePivot ltA d a b).2) wb wp
theorem pdq_un (d:Array TUnitConf) (a b limit:Nat) (wb wp:Bool):pdq ltA d a b limit wb wp =
    if b - a≤12 then Go.Sort.insertionSort ltA d a b else if limit=0 then Go.Sort.heapSort ltA d a b
    else pT2 (if !wb then Go.Sort.breakPatterns d a b else d) a b (if !wb then limit - 1 else limit) wb wp:=by
  rw [Go.Sort.pdq]
  rfl
def Out (S w L:Nat) (z:Option (((List TUnitConf)×Int×Int×Int×Bool×Bool) ⊕ (((List TUnitConf))))) (P:Array TUnitConf):Prop :=
  (∃ (d':Array TUnitConf) (a' b' l':Nat) (wb' wp':Bool),z=some (.inl (d'.toList,(a':Int),(b':Int),(l':Int),wb',wp'))∧P=pdq ltA d' a' b' l' wb' wp'∧d'.size=S∧a'≤b'∧b'≤S∧b' - a' < w∧l'≤L)∨(z=some (.inr P.toList)∧P.size=S)
section
variable (n:Nat) (hn:4194304≤n) (rec:List TUnitConf→Int→Int→Int→Option (List TUnitConf))
include hn
theorem k4_out (d:Array TUnitConf) (a b limit pivot:Nat) (wb wp:Bool) (h1:a≤pivot) (h2:pivot < b) (hb:b≤d.size) (hz:d.size≤NB) (hl:limit≤100)
    (hrec:∀ (d':Array TUnitConf) (a' b':Nat),d'.size=d.size→b' - a' < b - a→a'≤b'→b'≤d'.size→rec d'.toList (a':Int) (b':Int) (limit:Int)=some (pdq ltA d' a' b' limit true true).toList∧(pdq ltA d' a' b' limit true true).size=d'.size) :
    Out d.size (b - a) limit (pdqB_k4 rec n d.toList (a:Int) (b:Int) (limit:Int) wb wp ((b - a:Nat):Int) (pivot:Int)) (pT4 d a b limit pivot wb wp):=by
  have hz':=hz
  unfold NB at hz'
  obtain ⟨q1,q2,q3,q4⟩:=parteq_eq n hn d a b pivot h1 h2 hb hz
  obtain ⟨p1,p2⟩:=part_eq n hn d a b pivot h1 h2 hb hz
  obtain ⟨p3,p4,_⟩:=Go.Sort.partition_holds ltA swoA d a b pivot h1 h2 hb
  have main:Out d.size (b - a) limit ((slices_partitionCmpFunc_f90_M1 n d.toList (a:Int) (b:Int) (pivot:Int)).bind fun r6 =>
      gd (r6.2.2.length=d.toList.length) <|
      bif (decide ((IntKind.wrap .i64 (r6.1 - (a:Int))) < (IntKind.wrap .i64 ((b:Int) - r6.1)))) then
        (rec r6.2.2 (a:Int) r6.1 (limit:Int)).bind fun r7 =>
        gd (r7.length=d.toList.length) <|
        some (.inl (r7,(IntKind.wrap .i64 (r6.1+1)),(b:Int),(limit:Int),(decide ((IntKind.wrap .i64 (r6.1 - (a:Int))) ≥ (IntKind.wrap .i64 (Int.tdiv ((b - a:Nat):Int) 8)))),r6.2.1))
      else
        (rec r6.2.2 (IntKind.wrap .i64 (r6.1+1)) (b:Int) (limit:Int)).bind fun r8 =>
        gd (r8.length=d.toList.length) <|
        some (.inl (r8,(a:Int),r6.1,(limit:Int),(decide ((IntKind.wrap .i64 ((b:Int) - r6.1)) ≥ (IntKind.wrap .i64 (Int.tdiv ((b - a:Nat):Int) 8)))),r6.2.1)))
      (match Go.Sort.partition ltA d a b pivot with
    | (mid,ap,d4) =>
      if _h:a≤mid∧mid < b then
        if mid - a < b - mid then
          pdq ltA (pdq ltA d4 a mid limit true true) (mid+1) b limit (decide (mid - a ≥ (b - a) / 8)) ap
        else
          pdq ltA (pdq ltA d4 (mid+1) b limit true true) a mid limit (decide (b - mid ≥ (b - a) / 8)) ap
      else d4):=by
    rw [p1]
    generalize hR:Go.Sort.partition ltA d a b pivot=R at *
    obtain ⟨mid,ap,d4⟩:=R
    simp only [Option.bind_some] at p2 p3 p4 ⊢
    have e1:IntKind.wrap .i64 ((mid:Int) - (a:Int))=((mid - a:Nat):Int):=by rw [wid (by omega)];omega
    have e2:IntKind.wrap .i64 ((b:Int) - (mid:Int))=((b - mid:Nat):Int):=by rw [wid (by omega)];omega
    have e3:IntKind.wrap .i64 ((mid:Int)+1)=((mid+1:Nat):Int):=by rw [wid (by omega)];omega
    have e4:IntKind.wrap .i64 (Int.tdiv ((b - a:Nat):Int) 8)=(((b - a) / 8:Nat):Int):=by
      rw [Int.tdiv_eq_ediv_of_nonneg (by omega),wid (by omega)];omega
    rw [gd_pos _ (by rw [Array.length_toList,Array.length_toList];exact p2),e1,e2,e3,e4,dif_pos ⟨p3,p4⟩]
    by_cases c:mid - a < b - mid
    · obtain ⟨r1,r2⟩:=hrec d4 a mid p2 (by omega) p3 (by omega)
      rw [decide_eq_true (show ((mid - a:Nat):Int) < ((b - mid:Nat):Int) by omega),cond_true,r1,Option.bind_some,gd_pos _ (by rw [Array.length_toList,Array.length_toList];omega),if_pos c]
      refine .inl ⟨_,mid+1,b,limit,_,_,?_,rfl,by omega,by omega,hb,by omega,Nat.le_refl _⟩
      have:decide (((mid - a:Nat):Int) ≥ (((b - a) / 8:Nat):Int))=decide (mid - a ≥ (b - a) / 8):=by
        rw [Bool.eq_iff_iff,decide_eq_true_eq,decide_eq_true_eq];omega
      rw [this]
    · obtain ⟨r1,r2⟩:=hrec d4 (mid+1) b p2 (by omega) (by omega) (by omega)
      rw [decide_eq_false (show ¬ ((mid - a:Nat):Int) < ((b - mid:Nat):Int) by omega),cond_false,r1,Option.bind_some,gd_pos _ (by rw [Array.length_toList,Array.length_toList];omega),if_neg c]
      refine .inl ⟨_,a,mid,limit,_,_,?_,rfl,by omega,p3,by omega,by omega,Nat.le_refl _⟩
      have:decide (((b - mid:Nat):Int) ≥ (((b - a) / 8:Nat):Int))=decide (b - mid ≥ (b - a) / 8):=by
        rw [Bool.eq_iff_iff,decide_eq_true_eq,decide_eq_true_eq];omega
      rw [this]
  unfold pdqB_k4 pT4
  by_cases c0:a > 0
  · have e1:IntKind.wrap .i64 ((a:Int) - 1)=((a - 1:Nat):Int):=by rw [wid (by omega)];omega
    have c0':decide ((a:Int) > 0)=true:=decide_eq_true (by omega)
    obtain ⟨r,r1,r2⟩:=byAddr_val n d[a - 1]! d[pivot]!
    simp only [e1,c0',Int.toNat_natCast,gta]
    rw [gd_pos _ (by rw [Array.length_toList];refine ⟨fun _=>?_,fun _=>?_,fun _=>?_,fun _=>?_⟩ <;> omega),cond_true,gd_t,r1,Option.bind_some,r2]
    cases cl:ltA d[a - 1]! d[pivot]! with
    | false =>
      simp only [Bool.not_false,cond_true,decide_eq_true c0,Bool.and_self,if_true]
      rw [q1]
      generalize hR:Go.Sort.partitionEqual ltA d a b pivot=R at *
      obtain ⟨mid,d4⟩:=R
      simp only [Option.bind_some] at q2 q3 q4 ⊢
      rw [gd_pos _ (by rw [Array.length_toList,Array.length_toList];exact q4),dif_pos ⟨q2,q3⟩]
      exact .inl ⟨d4,mid,b,limit,wb,wp,rfl,rfl,q4,q3,hb,by omega,Nat.le_refl _⟩
    | true =>
      simp only [Bool.not_true,cond_false,Bool.and_false,Bool.false_eq_true,if_false]
      exact main
  · have c0':decide ((a:Int) > 0)=false:=decide_eq_false (by omega)
    simp only [c0',decide_eq_false c0,Bool.false_and,Bool.false_eq_true,if_false,false_implies,and_self,gd_t,cond_false]
    exact main
theorem k3_out (d:Array TUnitConf) (a b limit pivot:Nat) (hint:Hint) (wb wp:Bool) (h1:a≤pivot) (h2:pivot < b) (hb:b≤d.size) (hz:d.size≤NB) (hl:limit≤100)
    (hrec:∀ (d':Array TUnitConf) (a' b':Nat),d'.size=d.size→b' - a' < b - a→a'≤b'→b'≤d'.size→rec d'.toList (a':Int) (b':Int) (limit:Int)=some (pdq ltA d' a' b' limit true true).toList∧(pdq ltA d' a' b' limit true true).size=d'.size) :
    Out d.size (b - a) limit (pdqB_k3 rec n d.toList (a:Int) (b:Int) (limit:Int) wb wp ((b - a:Nat):Int) (pivot:Int) (hintI hint)) (pT3 d a b limit pivot hint wb wp):=by
  have hc:(if (if wb=true then wp else false)=true then (hintI hint == 1) else false)=(wb && wp && decide (hint = .increasing)):=by
    cases wb <;> cases wp <;> cases hint <;> rfl
  unfold pdqB_k3 pT3
  rw [hc]
  cases hw:(wb && wp && decide (hint = .increasing)) with
  | true =>
    obtain ⟨s1,s2⟩:=partial_eq n hn d a b (by omega) hb hz
    simp only [cond_true,if_true]
    rw [s1,Option.bind_some,gd_pos _ (by simp only [Array.length_toList];exact s2)]
    simp only
    cases hp:(Go.Sort.partialInsertionSort ltA d a b).2 with
    | true=>simp only [cond_true,if_true];exact .inr ⟨rfl,s2⟩
    | false =>
      simp only [cond_false,Bool.false_eq_true,if_false]
      have:=k4_out n hn rec (Go.Sort.partialInsertionSort ltA d a b).1 a b limit pivot wb wp h1 h2 (by omega) (by omega) hl (fun d' a' b' g1 g2 g3 g4=>hrec d' a' b' (by omega) g2 g3 g4)
      rw [s2] at this
      exact this
  | false =>
    simp only [cond_false,Bool.false_eq_true,if_false]
    exact k4_out n hn rec d a b limit pivot wb wp h1 h2 hb hz hl hrec
theorem k2_out (d:Array TUnitConf) (a b limit:Nat) (wb wp:Bool) (hab:a < b) (hb:b≤d.size) (hz:d.size≤NB) (hl:limit≤100)
    (hrec:∀ (d':Array TUnitConf) (a' b':Nat),d'.size=d.size→b' - a' < b - a→a'≤b'→b'≤d'.size→rec d'.toList (a':Int) (b':Int) (limit:Int)=some (pdq ltA d' a' b' limit true true).toList∧(pdq ltA d' a' b' limit true true).size=d'.size) :
    Out d.size (b - a) limit (pdqB_k2 rec n d.toList (a:Int) (b:Int) (limit:Int) wb wp ((b - a:Nat):Int)) (pT2 d a b limit wb wp):=by
  have hz':=hz
  unfold NB at hz'
  obtain ⟨c1,c2⟩:=Go.Sort.choosePivot_holds ltA d a b hab
  unfold pdqB_k2 pT2
  rw [pivot_eq n d a b hab hb hz,Option.bind_some]
  simp only
  generalize Go.Sort.choosePivot ltA d a b=C at *
  obtain ⟨p,h⟩:=C
  simp only at c1 c2 ⊢
  cases h with
  | decreasing =>
    have e1:IntKind.wrap .i64 ((b:Int) - 1)=((b - 1:Nat):Int):=by rw [wid (by omega)];omega
    have e2:IntKind.wrap .i64 ((p:Int) - (a:Int))=((p - a:Nat):Int):=by rw [wid (by omega)];omega
    have e3:IntKind.wrap .i64 (((b - 1:Nat):Int) - ((p - a:Nat):Int))=(((b - 1) - (p - a):Nat):Int):=by rw [wid (by omega)];omega
    simp only [hintI,beq_self_eq_true,cond_true,if_true]
    rw [rev_eq n hn d a b hab hb hz,Option.bind_some,gd_pos _ (by rw [Array.length_toList,Array.length_toList,revRange_s]),e1,e2,e3]
    have:=k3_out n hn rec (Go.Sort.reverseRange d a b) a b limit ((b - 1) - (p - a)) .increasing wb wp (by omega) (by omega) (by rw [revRange_s];exact hb) (by rw [revRange_s];exact hz) hl (fun d' a' b' g1 g2 g3 g4=>hrec d' a' b' (by rw [revRange_s] at g1;exact g1) g2 g3 g4)
    rw [revRange_s] at this
    exact this
  | increasing =>
    have:=k3_out n hn rec d a b limit p .increasing wb wp c1 c2 hb hz hl hrec
    simpa [hintI] using this
  | unknown =>
    have:=k3_out n hn rec d a b limit p .unknown wb wp c1 c2 hb hz hl hrec
    simpa [hintI] using this
theorem b1_out (d:Array TUnitConf) (a b limit:Nat) (wb wp:Bool) (hab:a≤b) (hb:b≤d.size) (hz:d.size≤NB) (hl:limit≤100)
    (hrec:∀ (d':Array TUnitConf) (a' b' l':Nat),d'.size=d.size→b' - a' < b - a→a'≤b'→b'≤d'.size→l'≤limit→rec d'.toList (a':Int) (b':Int) (l':Int)=some (pdq ltA d' a' b' l' true true).toList∧(pdq ltA d' a' b' l' true true).size=d'.size) :
    Out d.size (b - a) limit (pdqB_b1 rec n d.toList (a:Int) (b:Int) (limit:Int) wb wp) (pdq ltA d a b limit wb wp):=by
  have hz':=hz
  unfold NB at hz'
  have e0:IntKind.wrap .i64 ((b:Int) - (a:Int))=((b - a:Nat):Int):=by rw [wid (by omega)];omega
  rw [pdq_un]
  unfold pdqB_b1
  rw [e0]
  by_cases c1:b - a≤12
  · rw [decide_eq_true (by omega),cond_true,if_pos c1,ins_eq n hn d a b hb (by unfold NB;omega) hz,Option.bind_some,gd_pos _ (by rw [Array.length_toList,Array.length_toList,ins_s])]
    exact .inr ⟨rfl,ins_s _ _ _⟩
  · rw [decide_eq_false (by omega),cond_false,if_neg c1]
    by_cases c2:limit=0
    · subst c2
      have:(((0:Nat):Int) == 0)=true:=rfl
      rw [this,cond_true,if_pos rfl,heap_eq n hn d a b hab hb hz,Option.bind_some,gd_pos _ (by rw [Array.length_toList,Array.length_toList,heap_s])]
      exact .inr ⟨rfl,heap_s _ _ _⟩
    · have:((limit:Int) == 0)=false:=by rw [beq_eq_false_iff_ne];omega
      rw [this,cond_false,if_neg c2]
      cases wb with
      | true =>
        simp only [Bool.not_true,cond_false,Bool.false_eq_true,if_false]
        exact k2_out n hn rec d a b limit true wp (by omega) hb hz hl (fun d' a' b' g1 g2 g3 g4=>hrec d' a' b' limit g1 g2 g3 g4 (Nat.le_refl _))
      | false =>
        simp only [Bool.not_false,cond_true,if_true]
        have el:IntKind.wrap .i64 ((limit:Int) - 1)=((limit - 1:Nat):Int):=by rw [wid (by omega)];omega
        rw [brk_eq n hn d a b hab hb hz,Option.bind_some,gd_pos _ (by rw [Array.length_toList,Array.length_toList,brk_s]),el]
        have:=k2_out n hn rec (Go.Sort.breakPatterns d a b) a b (limit - 1) false wp (by omega) (by rw [brk_s];exact hb) (by rw [brk_s];exact hz) (by omega) (fun d' a' b' g1 g2 g3 g4=>hrec d' a' b' (limit - 1) (by rw [brk_s] at g1;exact g1) g2 g3 g4 (by omega))
        rw [brk_s] at this
        rcases this with ⟨d',a',b',l',wb',wp',g1,g2,g3,g4,g5,g6,g7⟩ | ⟨g1,g2⟩
        · exact .inl ⟨d',a',b',l',wb',wp',g1,g2,g3,g4,g5,g6,by omega⟩
        · exact .inr ⟨g1,g2⟩
end
theorem pdq_loop (n:Nat) (hn:4194304≤n):∀ (m k f a b limit:Nat) (wb wp:Bool) (d:Array TUnitConf),b - a≤m→a≤b→b≤d.size→d.size≤NB→limit≤100→m < k→m < f→m≤100 →
    loopF (fun (x:(List TUnitConf)×Int×Int×Int×Bool×Bool)=>pdqB_b1 (pdqR n k) n x.1 x.2.1 x.2.2.1 x.2.2.2.1 x.2.2.2.2.1 x.2.2.2.2.2) f (d.toList,(a:Int),(b:Int),(limit:Int),wb,wp)=some (pdq ltA d a b limit wb wp).toList∧(pdq ltA d a b limit wb wp).size=d.size
  | m,k,f,a,b,limit,wb,wp,d,hm,hab,hb,hz,hl,hk,hf,h100=>by
    have hz':=hz
    unfold NB at hz'
    obtain ⟨f,rfl⟩:∃ g,f=g+1:=⟨f - 1,by omega⟩
    obtain ⟨k,rfl⟩:∃ g,k=g+1:=⟨k - 1,by omega⟩
    have ho:=b1_out n hn (pdqR n (k+1)) d a b limit wb wp hab hb hz hl (fun d' a' b' l' g1 g2 g3 g4 g5=>by
      match m,hm with
      | 0,hm=>omega
      | m+1,hm =>
      obtain ⟨i1,i2⟩:=pdq_loop n hn m k n a' b' l' true true d' (by omega) g3 g4 (by omega) (by omega) (by omega) (by omega) (by omega)
      refine ⟨?_,i2⟩
      show pdqB (pdqR n k) n d'.toList (a':Int) (b':Int) (l':Int)=_
      unfold pdqB
      rw [i1,Option.bind_some])
    rcases ho with ⟨d',a',b',l',wb',wp',g1,g2,g3,g4,g5,g6,g7⟩ | ⟨g1,g2⟩
    · match m,hm with
      | 0,hm=>omega
      | m+1,hm =>
      obtain ⟨i1,i2⟩:=pdq_loop n hn m (k+1) f a' b' l' wb' wp' d' (by omega) g4 (by omega) (by omega) (by omega) (by omega) (by omega) (by omega)
      rw [g2]
      exact ⟨(loopF_step g1).trans i1,by omega⟩
    · exact ⟨loopF_done g1,g2⟩
theorem log_le (x:Nat) (h:x≤48):Go.Sort.bitsLen x≤100:=by
  have:∀ y:Fin 49,Go.Sort.bitsLen y≤100:=by decide +kernel
  exact this ⟨x,by omega⟩
theorem sort_val (n:Nat) (hn:4194304≤n) (l:List TUnitConf) (hl:l.length≤40):∃ r,slices_SortFunc_f49_M1 n l=some r∧r.Perm l∧r.Pairwise (fun x y=>x.Addr≤y.Addr):=by
  have hz:l.toArray.size≤NB:=by simp only [List.size_toArray];unfold NB;omega
  obtain ⟨i1,i2⟩:=pdq_loop n hn l.length n n 0 l.length (Go.Sort.bitsLen l.length) true true l.toArray (by omega) (by omega) (by simp) hz (log_le _ (by omega)) (by omega) (by omega) (by omega)
  obtain ⟨s1,s2⟩:=Go.Sort.pdq_sorts ltA swoA l.toArray 0 l.length (Go.Sort.bitsLen l.length) true true (by omega) (by simp) (.inl rfl)
  generalize hR:pdq ltA l.toArray 0 l.length (Go.Sort.bitsLen l.length) true true=R at *
  refine ⟨R.toList,?_,?_,?_⟩
  · have ew:IntKind.wrap .u64 (l.length:Int)=(l.length:Int):=by simp [IntKind.wrap,IntKind.bits,IntKind.signed];omega
    unfold slices_SortFunc_f49_M1
    rw [ew,bits_val n l.length (by omega),Option.bind_some]
    have hp:pdq_M n l 0 ((l.length:Nat):Int) (Go.Sort.bitsLen l.length:Int)=some R.toList:=by
      unfold pdq_M
      obtain ⟨k,hk⟩:∃ k,n=k+1:=⟨n - 1,by omega⟩
      obtain ⟨j1,_⟩:=pdq_loop n hn l.length k n 0 l.length (Go.Sort.bitsLen l.length) true true l.toArray (by omega) (by omega) (by simp) hz (log_le _ (by omega)) (by omega) (by omega) (by omega)
      rw [hR] at j1
      have:pdqR n n=pdqR n (k+1):=by rw [← hk]
      rw [this]
      show pdqB (pdqR n k) n l 0 (l.length:Int) (Go.Sort.bitsLen l.length:Int)=_
      unfold pdqB
      have hz0:((0:Nat):Int)=0:=rfl
      rw [hz0] at j1
      rw [j1,Option.bind_some]
    rw [hp,Option.bind_some,gd_pos _ (by rw [Array.length_toList,i2];simp)]
  · obtain ⟨t1,t2,t3⟩:=s1
    have e1:R.extract 0 l.length=R:=by
      have:l.length=R.size:=by rw [t1];simp
      rw [this];exact Array.extract_size
    have e2:l.toArray.extract 0 l.length=l.toArray:=by
      have:l.length=l.toArray.size:=by simp
      rw [this];exact Array.extract_size
    rw [e1,e2] at t3
    simpa using t3
  · rw [List.pairwise_iff_getElem]
    intro i j hi hj hij
    have hs:R.size=l.length:=by rw [i2];simp
    rw [Array.length_toList] at hi hj
    have:=s2 i j (by omega) hij (by omega)
    unfold ltA at this
    rw [decide_eq_false_iff_not] at this
    simp only [Array.getElem_toList]
    rw [getElem!_pos R j hj,getElem!_pos R i hi] at this
    omega
end Go.Proofs.Ytcdofkflbnpjjaa
