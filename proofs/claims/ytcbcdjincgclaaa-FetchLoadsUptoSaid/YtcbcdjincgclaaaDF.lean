/- Text. -/
import Derived.Test.YtcbcdjincgclaaaN
import Derived.Test.YtcbcdjincgclaaaL66
import Derived.Shelf.SlIterI.Nil
import Derived.Shelf.SortM.Plain
import Derived.Shelf.SortM.SortNone
import Derived.Maps.RangeRun
import Derived.Laws.IdiomRangeMap
set_option linter.unusedSimpArgs false
set_option linter.unusedVariables false
set_option linter.unusedVariables false
set_option linter.unusedSimpArgs false
set_option maxRecDepth 100000
namespace Go.Proofs.Ytcbcdjincgclaaa
open Go.AE
open Go.RowKit (Below)
open Go.Maps Go.Shelf Go.WideElems
theorem sorts66 (m:Nat):AnyZI.SortsIn Try.prog lay46_ren Fence.wide m :=
  ⟨fun blk off cap ss W hH hblk hsz=>callsIn_wide.2 (AnyM.slices_Sort_int lay66 blk off cap ss W hH hblk hsz),
   fun p cap W=>callsIn_wide.2 (AnyM.slices_Sort_int_none lay66 p cap W)⟩
theorem mrel_len {w:World} {al:Nat→Prop} {kk:Kd} {vp:Bool×List Kd} {es:List MapEntry} {m:List (C×List C)} (h:MRel Try.prog w al kk vp es m):es.length=m.length:=(MRel.perm h).1
theorem mrel_at {w:World} {al:Nat→Prop}:∀ {es:List MapEntry} {m:List (Int×Bool)},MRel Try.prog w al (.int .i64) (false,[.bool]) es (List.map em_Int_Bool m)→es.map (fun e=>(e.key,e.val))=m.map (fun x=>((.int .i64 x.1,.bool x.2):Value×Value))∧∀ x∈m,InR .i64 x.1
  | [],[],_=>⟨rfl,by simp⟩
  | [],_ :: _,h=>h.elim
  | _ :: _,[],h=>h.elim
  | e :: es,x :: m,h=>by
    obtain ⟨h1,h2,h3⟩:=h
    obtain ⟨i1,i2⟩:=mrel_at h3
    have h1:RepC Try.prog w al (.int .i64) e.key (.int x.1):=h1
    have h2:RepC Try.prog w al .bool e.val (.bool x.2):=h2.2.2
    obtain ⟨key,val,born⟩:=e
    dsimp only at h1 h2
    have hk:key = .int .i64 x.1∧InR .i64 x.1:=by cases h1 with | int _ _ h=>exact ⟨rfl,h⟩
    have hv:val = .bool x.2:=by cases h2;rfl
    refine ⟨by simp only [List.map_cons,i1,hk.1,hv],fun y hy=>?_⟩
    rcases List.mem_cons.1 hy with rfl | hy
    · exact hk.2
    · exact i2 y hy
theorem wf_of {x:Int} (h:InR .i64 x):(Lit.int .i64 x).wf=true:=by
  obtain ⟨h1,h2⟩:=h
  show (decide (IntKind.i64.min≤x) && decide (x≤IntKind.i64.max))=true
  rw [decide_eq_true h1,decide_eq_true h2];rfl
def slices_Sorted_M (n:Nat) (m:List (Int×Bool)):Option (List Int):=gd (m.length≤65536∧(m.map Prod.fst).Nodup) <| some ((m.map Prod.fst).mergeSort (fun x y=>decide (x≤y)))
theorem cslices_Sorted_M (n:Nat) (m:List (Int×Bool)) (r:List Int) (H:slices_Sorted_M n m=some r):CallsM Try.prog 46 [.ref (.fnv 67 [.box 0 0])] [.box [.mref 1],.mp (.int .i64) (false,[.bool]) (List.map em_Int_Bool m)]
    [.own 2 [.int .i64] 0 r.length] [.box [.mref 1],.mp (.int .i64) (false,[.bool]) (List.map em_Int_Bool m),.row 3 (List.map e_Int r)]:=by
  obtain ⟨⟨hm,hnd⟩,H⟩:=gd_some H
  obtain rfl:=Option.some.inj H
  refine ⟨fun args w=>Try.call46 args w,by show 2≤3;omega,?_⟩
  intro w al σ vs hal hB hinj hvl harg
  obtain ⟨Bx,vs0,t0,hσ0,hb0,hh0,hl0,hc0⟩:BRel Try.prog w (fun b=>b < w.heap.size) al σ 0 (.box [.mref 1]):=hB 0
  obtain ⟨Mb,es,clock,hσ1,hb1,hh1,hok,hmr⟩:BRel Try.prog w (fun b=>b < w.heap.size) al σ 1 (.mp (.int .i64) (false,[.bool]) (List.map em_Int_Bool m)):=hB 1
  obtain ⟨hent,hin⟩:=mrel_at hmr
  have hlen:es.size=m.length:=by have:=mrel_len hmr;simpa using this
  have a0:vs0.getD 0 undef = .map (some Mb):=by
    have:=hc0 0 (show 0 < 1 by decide)
    generalize vs0.getD 0 undef=u at this ⊢
    cases this with
    | mref _ b h=>rw [hσ1] at h;cases h;rfl
    | mrefGone _ _ h=>rw [hσ1] at h;cases h
    | itr _ _ _ h=>rw [hσ1] at h;cases h
  have hkeys:es.toList.map (·.key)=m.map (fun x=>(.int .i64 x.1:Value)):=by
    have:=congrArg (List.map Prod.fst) hent
    simpa [Function.comp_def] using this
  have hvals:∀ e∈es.toList,∃ x∈m,e.key = .int .i64 x.1∧e.val = .bool x.2:=fun e he=>by
    have:(e.key,e.val)∈es.toList.map (fun e=>(e.key,e.val)):=List.mem_map_of_mem he
    rw [hent] at this
    obtain ⟨x,hx,e1⟩:=List.mem_map.1 this
    simp only [Prod.mk.injEq] at e1
    exact ⟨x,hx,e1.1.symm,e1.2.symm⟩
  have hrd:∀ e∈es.toList,∀ x∈m,e.key = .int .i64 x.1→e.val = .bool x.2→rd Try.prog 3 (plainElem (H:=Unit) Try.prog 4) e=some (.int .i64 x.1,.lit (.bool x.2)):=fun e he x hx h1 h2=>by
    unfold rd
    rw [h1,h2,keyOf_int_mk Try.underlying3 (wf_of (hin x hx)),plainElem_bool Try.underlying4]
    rfl
  have hfit:Fit Try.prog 3 (plainElem (H:=Unit) Try.prog 4) es clock:=by
    refine ⟨by rw [hlen];exact Nat.le_trans hm (by decide),⟨hok.1,hok.2,?_⟩,fun e he=>?_⟩
    · rw [hkeys]
      have:m.map (fun x=>(.int .i64 x.1:Value))=(m.map Prod.fst).map (fun k=>(.int .i64 k:Value)):=by simp [Function.comp_def]
      rw [this]
      exact (List.pairwise_map.2 (hnd.imp fun {a b} hne e=>hne (by injection e)))
    · obtain ⟨x,hx,e1,e2⟩:=hvals e he
      exact ⟨_,hrd e he x hx e1 e2⟩
  obtain ⟨D0,hD0⟩:∃ D0:DataW Unit,D0 = .map ((es.toList.map (rg Try.prog 3 (plainElem Try.prog 4))).foldr DataW.insert []):=⟨_,rfl⟩
  have hown:w.ownsMap Try.prog 3 (plainElem (H:=Unit) Try.prog 4) Mb es.size D0:=⟨es,clock,hh1,hfit,Nat.le_refl _,hD0⟩
  have hik:(intKeys D0).Perm (m.map Prod.fst):=by
    rw [hD0]
    show (((es.toList.map (rg Try.prog 3 (plainElem Try.prog 4))).foldr DataW.insert []).map fun p=>Go.intOf p.1).Perm _
    refine ((WideShapes.sorted_perm _).map _).trans ?_
    have:(es.toList.map (rg Try.prog 3 (plainElem (H:=Unit) Try.prog 4))).map (fun p=>Go.intOf p.1)=m.map Prod.fst:=by
      have h1:∀ e∈es.toList,Go.intOf (rg Try.prog 3 (plainElem (H:=Unit) Try.prog 4) e).1=Go.Proofs.intOf e.key:=fun e he=>by
        obtain ⟨x,hx,e1,e2⟩:=hvals e he
        unfold rg
        rw [hrd e he x hx e1 e2,e1]
        rfl
      rw [List.map_map]
      have h2:es.toList.map ((fun p=>Go.intOf p.1) ∘ rg Try.prog 3 (plainElem (H:=Unit) Try.prog 4))=(es.toList.map (·.key)).map Go.Proofs.intOf:=by
        rw [List.map_map]
        exact List.map_congr_left fun e he=>h1 e he
      rw [h2,hkeys,List.map_map]
      exact List.map_congr_left fun x _=>rfl
    rw [this]
  have hsz:Maps.size D0=m.length:=by
    rw [hD0,← hlen]
    show ((es.toList.map _).foldr DataW.insert []).length=_
    rw [(WideShapes.sorted_perm _).length_eq];simp
  have hcell:w.cell? ⟨Bx,0,none⟩=some (.map (some Mb)):=by
    rw [cellOfHeap hh0]
    have h0:0 < vs0.size:=by rw [hl0];show 0 < 1;decide
    simp only [Array.getD,h0,dif_pos] at a0
    rw [Array.getElem?_eq_getElem h0]
    exact congrArg some a0
  match vs,hvl with
  | [v0],_ =>
    have g0:ARel Try.prog w al σ v0 (.fnv 67 [.box 0 0]):=harg 0 (show 0 < 1 by decide)
    obtain rfl:v0 = .func (.func 67) #[] #[.pointer (some ⟨Bx,0,none⟩)]:=by
      cases g0 with
      | fnv _ _ us hl hh =>
        match us,hl with
        | [u],_ =>
          have:=hh 0 (show 0 < 1 by decide)
          have e:=box_ptr (show ARel Try.prog w al σ u (.box 0 0) from this) hσ0
          subst e;rfl
    have hseq:SeqGives Fence.wide 2 Try.prog 67 #[.pointer (some ⟨Bx,0,none⟩)] encZ (fun ss=>ss.Perm (intKeys D0)) (Maps.size D0) w :=
      AnyZI.keys_gives (ρ:=lay47_ren) { lay47 with } Fence.wide 2 trivial rfl (by omega) Bx Mb es.size D0 w hb0 hcell hown
    have cS:=AnyZI.sorted_in lay46 Fence.wide 5 trivial trivial trivial trivial rfl (by omega) (sorts66 _) (enters_of Try.func66 (by kernel_rfl) rfl) 67 #[.pointer (some ⟨Bx,0,none⟩)] trivial (enters_of Try.func67 (by kernel_rfl) rfl) _ _ (by rw [hsz];exact Nat.le_trans hm (by decide)) (by rw [hsz];omega) w hseq
    change CallsIn _ _ Try.prog 46 _ _ _ at cS
    refine (callsIn_wide.1 cS).mono ?_
    rintro e w' ⟨v,ss,rfl,hS,hrow,hnil,hbel⟩
    have hsr:ss.mergeSort (fun x y=>decide (x≤y))=(m.map Prod.fst).mergeSort (fun x y=>decide (x≤y)):=mergeSort_of_perm_i (hS.trans hik)
    have hlr:ss.length=((m.map Prod.fst).mergeSort (fun x y=>decide (x≤y))).length:=by rw [← hsr];simp
    rw [hsr] at hrow
    have hinr:∀ x∈(m.map Prod.fst).mergeSort (fun x y=>decide (x≤y)),InR .i64 x:=fun x hx=>by
      have:=(List.mergeSort_perm (m.map Prod.fst) (fun x y=>decide (x≤y))).mem_iff.1 hx
      obtain ⟨y,hy,rfl⟩:=List.mem_map.1 this
      exact hin y hy
    have hrl:((m.map Prod.fst).mergeSort (fun x y=>decide (x≤y))).length≤65536:=by simpa using hm
    generalize (m.map Prod.fst).mergeSort (fun x y=>decide (x≤y))=r at *
    obtain ⟨hxl,hrow⟩:=hrow
    refine ⟨v,rfl,?_⟩
    have hd2:σ 2 = .dead:=dead_at hB (Nat.le_refl 2)
    rcases hrow with ⟨rfl,hz⟩ | ⟨gb,cap,cur,rfl,hgb,hgh,r1,r2,r3,r4⟩
    · have hr0:r=[]:=List.eq_nil_of_length_eq_zero (by omega)
      subst hr0
      refine ResM.newRow (hs:=[.box [.mref 1],.mp (.int .i64) (false,[.bool]) (List.map em_Int_Bool m)]) (r:=.rown 3 [.int .i64]) (B:=fun _=>True) hal hinj hB hbel (fun b h=>h.elim) ⟨_,ty3,by simp,.inl ⟨rfl,rfl⟩⟩ ?_
      exact ARel.ownNil 2 _ 0 3 (by simp [upd]) rfl
    · refine ResM.newRow (hs:=[.box [.mref 1],.mp (.int .i64) (false,[.bool]) (List.map em_Int_Bool m)]) (r:=.row gb cap 3 [.int .i64] r.length) (B:=fun _=>True) hal hinj hB hbel (fun b h=>by
        rcases h with h | h
        · omega
        · exact h.elim) ⟨_,ty3,by simp only [List.length_map];omega,.inr ⟨gb,cap,cur,3,by simp,trivial,hgh,by simp;omega,r2,by simpa using r3,fun i hi=>?_,fun i hi j hj=>?_⟩⟩ ?_
      · simp only [List.length_map] at hi
        simp [eg,List.getD_eq_getElem?_getD,hi,e_Int]
      · simp only [List.length_map] at hi
        have hj0:j=0:=by simp only [List.length_cons,List.length_nil] at hj;omega
        subst hj0
        have h1:cur.toList[i]? = some (encZ r[i]):=by
          have:=congrArg (fun l=>l[i]?) r4
          simp only [Nat.mul_one] at this
          rw [List.getElem?_take_of_lt (by omega)] at this
          rw [this];simp [hi]
        have h2:cur.getD i undef = .int .i64 r[i]:=by
          rw [Array.getElem?_toList] at h1
          rw [Array.getD_eq_getD_getElem?,h1];rfl
        have e3:(cg (eg (List.map e_Int r) i) 0) = .int r[i]:=by
          simp [eg,cg,List.getD_eq_getElem?_getD,hi,e_Int]
        rw [e3]
        have e4:cur.getD (i * [Kd.int .i64].length+0) undef = .int .i64 r[i]:=by simpa using h2
        rw [e4]
        exact RepC.int .i64 (.int r[i]) (hinr _ (List.getElem_mem _))
      · have:=ARel.own0 (P:=Try.prog) (w:=w') (al:=al) (σ:=upd σ 2 (.row gb cap 3 [.int .i64] r.length)) 2 [.int .i64] r.length gb cap r.length 3 (F:=fun _=>False) (by simp [upd]) (Nat.le_refl _)
        rw [hlr]
        exact this
end Go.Proofs.Ytcbcdjincgclaaa
/-
  maps.DeleteFunc with fetch.Segment's closure, as a call that is handed the map.
-/
set_option linter.unusedVariables false
set_option linter.unusedSimpArgs false
set_option maxRecDepth 100000
namespace Go.Proofs.Ytcbcdjincgclaaa
open Go.AE
open Go.RowKit (Below)
def delM (ss:List TSegment) (o l:Int) (i:Int):Bool :=
  decide (max o (gt ss i.toNat).Origin < min (RowKit.wrap64 (o+l)) (RowKit.wrap64 ((gt ss i.toNat).Origin+(gt ss i.toNat).Len)))
set_option maxHeartbeats 1000000 in
theorem del45 (i:Nat) (v:Bool) (Mb Gb sb so cap:Nat) (ss:List TSegment) (o l:Int) (W:World) (hi:i < ss.length)
    (hM:W.cell? ⟨Mb,2,none⟩=some (.slice (some ⟨sb,so,none⟩) ss.length cap))
    (h0:W.cell? ⟨sb,so+i * 4,none⟩=some (.int .i64 (gt ss i).Parent)) (h1:W.cell? ⟨sb,so+i * 4+1,none⟩=some (.int .i64 (gt ss i).Origin))
    (h2:W.cell? ⟨sb,so+i * 4+2,none⟩=some (.int .i64 (gt ss i).From)) (h3:W.cell? ⟨sb,so+i * 4+3,none⟩=some (.int .i64 (gt ss i).Len))
    (hGo:W.cell? ⟨Gb,1,none⟩=some (.int .i64 o)) (hGl:W.cell? ⟨Gb,3,none⟩=some (.int .i64 l)) (lM:Mb < W.heap.size) (lG:Gb < W.heap.size) :
    Calls Try.prog 45 #[.int .i64 (i:Int),.bool v,.pointer (some ⟨Mb,0,none⟩),.pointer (some ⟨Gb,0,none⟩)] W fun e W'=>e = .returned (.bool (delM ss o l i))∧Below W.heap.size W W':=by
  have hz:(i:Int) < (ss.length:Int):=by omega
  go_enter Try.func45,Try.ntmps45
  go_wp2
  go_ret
  exact ⟨rfl,(Below.refl _ W).alloc (Nat.le_refl _) _⟩
def keepE (dl:MapEntry→Bool) (seen:Array Nat) (e:MapEntry):Bool:=!(seen.contains e.born && dl e)
theorem born_inj {L:List MapEntry} (hn:(L.map (·.born)).Nodup) {x y:MapEntry} (hx:x∈L) (hy:y∈L) (h:x.born=y.born):x=y:=by
  induction L with
  | nil=>simp at hx
  | cons a L ih =>
    simp only [List.map_cons,List.nodup_cons] at hn
    rcases List.mem_cons.1 hx with hx | hx <;> rcases List.mem_cons.1 hy with hy | hy
    · rw [hx,hy]
    · exact absurd (List.mem_map_of_mem (f:=(·.born)) hy) (by rw [← h,hx];exact hn.1)
    · exact absurd (List.mem_map_of_mem (f:=(·.born)) hx) (by rw [h,hy];exact hn.1)
    · exact ih hn.2 hx hy
theorem key_inj {L:List MapEntry} (hn:(L.map (·.key)).Nodup) {x y:MapEntry} (hx:x∈L) (hy:y∈L) (h:x.key=y.key):x=y:=by
  induction L with
  | nil=>simp at hx
  | cons a L ih =>
    simp only [List.map_cons,List.nodup_cons] at hn
    rcases List.mem_cons.1 hx with hx | hx <;> rcases List.mem_cons.1 hy with hy | hy
    · rw [hx,hy]
    · exact absurd (List.mem_map_of_mem (f:=(·.key)) hy) (by rw [← h,hx];exact hn.1)
    · exact absurd (List.mem_map_of_mem (f:=(·.key)) hx) (by rw [h,hy];exact hn.1)
    · exact ih hn.2 hx hy
theorem erase_filter {e:MapEntry}:∀ {L:List MapEntry} {j:Nat},(L.map (·.born)).Nodup→L[j]? = some e→L.eraseIdx j=L.filter (fun x=>!(x.born == e.born))
  | [],j,_,h=>by simp at h
  | a :: L,0,hn,h=>by
    simp only [List.getElem?_cons_zero,Option.some.injEq] at h
    subst h
    simp only [List.map_cons,List.nodup_cons] at hn
    rw [List.filter_cons_of_neg (by simp),List.eraseIdx_cons_zero]
    symm
    refine List.filter_eq_self.2 fun x hx=>?_
    have:x.born≠a.born:=fun e=>hn.1 (by rw [← e];exact List.mem_map_of_mem hx)
    simpa using this
  | a :: L,j+1,hn,h=>by
    simp only [List.getElem?_cons_succ] at h
    simp only [List.map_cons,List.nodup_cons] at hn
    have he:e∈L:=List.mem_of_getElem? h
    have:a.born≠e.born:=fun x=>hn.1 (by rw [x];exact List.mem_map_of_mem he)
    rw [List.eraseIdx_cons_succ,List.filter_cons_of_pos (by simpa using this),erase_filter hn.2 h]
theorem keep_struck {L0:List MapEntry} (hn:(L0.map (·.born)).Nodup) {dl:MapEntry→Bool} {seen:Array Nat} {e:MapEntry} (he:e∈L0) (hd:dl e=true) :
    (L0.filter (keepE dl seen)).filter (fun x=>!(x.born == e.born))=L0.filter (keepE dl (seen.push e.born)):=by
  rw [List.filter_filter]
  refine List.filter_congr fun x hx=>?_
  unfold keepE
  by_cases h:x.born=e.born
  · have:=born_inj hn hx he h
    subst this
    simp [hd]
  · have h1:(seen.push e.born).contains x.born=seen.contains x.born:=by simp [h]
    rw [h1];simp [h]
theorem keep_stays {L0:List MapEntry} (hn:(L0.map (·.born)).Nodup) {dl:MapEntry→Bool} {seen:Array Nat} {e:MapEntry} (he:e∈L0) (hd:dl e=false) :
    L0.filter (keepE dl seen)=L0.filter (keepE dl (seen.push e.born)):=by
  refine List.filter_congr fun x hx=>?_
  unfold keepE
  by_cases h:x.born=e.born
  · have:=born_inj hn hx he h
    subst this
    simp [hd]
  · have h1:(seen.push e.born).contains x.born=seen.contains x.born:=by simp [h]
    rw [h1]
theorem keep_end {L0:List MapEntry} {dl:MapEntry→Bool} {seen:Array Nat} (h:(leftOf (L0.filter (keepE dl seen)).toArray seen).size=0):L0.filter (keepE dl seen)=L0.filter (fun e=>!dl e):=by
  refine List.filter_congr fun x hx=>?_
  by_cases hs:seen.contains x.born=true
  · unfold keepE;rw [hs];rfl
  · exfalso
    have hk:keepE dl seen x=true:=by unfold keepE;simp only [Bool.not_eq_true] at hs;rw [hs];rfl
    have:x∈(leftOf (L0.filter (keepE dl seen)).toArray seen).toList:=by
      simp only [leftOf,Array.toList_filter,List.mem_filter]
      exact ⟨⟨hx,hk⟩,by simpa using hs⟩
    have h2:(leftOf (L0.filter (keepE dl seen)).toArray seen).toList=[]:=List.eq_nil_of_length_eq_zero h
    rw [h2] at this
    cases this
def leftM (L0:List MapEntry) (r:Nat) (W:World):Nat :=
  match W.heap[r]? with
  | some (.mapIter _ _ seen _)=>(leftOf L0.toArray seen).size
  | _=>0
structure LoopD (w W:World) (b:Nat) (L0:List MapEntry) (clock:Nat) (dl:MapEntry→Bool) (seen:Array Nat) (c0:Nat):Prop where
  map:W.heap[b]? = some (.map (L0.filter (keepE dl seen)).toArray clock)
  iter:W.heap[w.heap.size]? = some (.mapIter (some b) clock seen c0)
  le:clock≤c0
  os:W.os=w.os
  tape:W.tape=w.tape
  output:W.output=w.output
  keep:∀ k,k < w.heap.size→k≠b→W.heap[k]? = w.heap[k]?
set_option maxHeartbeats 2000000 in
theorem delete44 (b:Nat) (L0:List MapEntry) (clock:Nat) (dl:MapEntry→Bool) (Mb Gb:Nat) (w:World) (hb:w.heap[b]? = some (.map L0.toArray clock)) (hold:∀ x∈L0,x.born < clock) (hn:(L0.map (·.born)).Nodup) (hkn:(L0.map (·.key)).Nodup) (hki:∀ x∈L0,∃ n:Int,x.key = .int .i64 n)
    (hdel:∀ W e,e∈L0→w.heap.size≤W.heap.size→(∀ k,k < w.heap.size→k≠b→W.heap[k]? = w.heap[k]?)→Calls Try.prog 45 #[e.key,e.val,.pointer (some ⟨Mb,0,none⟩),.pointer (some ⟨Gb,0,none⟩)] W fun x W'=>x = .returned (.bool (dl e))∧Below W.heap.size W W') :
    Calls Try.prog 44 #[.map (some b),.func (.func 45) #[] #[.pointer (some ⟨Mb,0,none⟩),.pointer (some ⟨Gb,0,none⟩)]] w fun x w'=>x = .returned (.tuple #[])∧w'.os=w.os∧w'.tape=w.tape∧w'.output=w.output∧w.heap.size≤w'.heap.size ∧
      (∀ k,k < w.heap.size→k≠b→w'.heap[k]? = w.heap[k]?)∧w'.heap[b]? = some (.map (L0.filter (fun e=>!dl e)).toArray clock):=by
  have hbl:b < w.heap.size:=(Array.getElem?_eq_some_iff.1 hb).1
  have hrg:=run_range_map (P:=Try.prog) w 74 3 4 b L0.toArray clock Try.underlying74 hb
  have hst:LoopD w (w.alloc (.mapIter (some b) clock #[] clock)) b L0 clock dl #[] clock:=by
    refine ⟨?_,?_,Nat.le_refl _,rfl,rfl,rfl,fun k hk _=>Below.heap_alloc w _ k hk⟩
    · rw [Below.heap_alloc w _ b hbl,hb,List.filter_eq_self.2 (fun x _=>by simp [keepE])]
    · exact heap_alloc_new w _
  go_enter Try.func44,Try.ntmps44
  go_wp2
  obtain ⟨w1,hw1⟩:∃ w1,w1=w.alloc (.mapIter (some b) clock #[] clock):=⟨_,rfl⟩
  rw [← hw1] at hst ⊢
  clear hrg
  go_loopw [8] (fun _ wr=>∃ (seen:Array Nat) (c0:Nat),LoopD w wr b L0 clock dl seen c0∧w.heap.size < wr.heap.size) (fun _ wr=>leftM L0 w.heap.size wr)
  case atStart=>exact ⟨_,_,hst,by rw [hw1];simp⟩
  case round =>
    obtain ⟨seen,c0,hL,hsz⟩:=hrel
    clear hst
    have hsub:(L0.filter (keepE dl seen)).Sublist L0:=List.filter_sublist
    have hnL:((L0.filter (keepE dl seen)).map (·.born)).Nodup:=(hsub.map (·.born)).nodup hn
    rcases run_next_at (P:=Try.prog) wr 0 w.heap.size b clock c0 seen (L0.filter (keepE dl seen)).toArray clock hL.iter hL.map (fun x hx=>hold x (hsub.subset (by simpa using hx))) hL.le with ⟨hz,hrun⟩ | ⟨e,he,w2,hw2,hrun⟩
    · have hfin:=hL.map
      rw [keep_end hz] at hfin
      go_wp2
      go_end0
      exact ⟨rfl,hL.os,hL.tape,hL.output,Nat.le_of_lt hsz,hL.keep,hfin⟩
    · have heL:e∈L0.filter (keepE dl seen):=by
        simp only [leftOf,Array.toList_filter,List.mem_filter] at he
        exact List.mem_filter.2 he.1
      have heu:seen.contains e.born=false:=by
        simp only [leftOf,Array.toList_filter,List.mem_filter] at he
        simpa using he.2
      have he0:e∈L0:=hsub.subset heL
      obtain ⟨W2,hW2⟩:∃ W2,W2=Go.ChangeMaps.setBlock w2 w.heap.size (.mapIter (some b) clock (seen.push e.born) clock):=⟨_,rfl⟩
      rw [← hW2] at hrun
      have hh:w2.heap=wr.heap∧w2.os=wr.os∧w2.tape=wr.tape∧w2.output=wr.output:=by rcases hw2 with rfl | rfl <;> exact ⟨rfl,rfl,rfl,rfl⟩
      obtain ⟨g1,g2,g3,g4⟩:=hh
      have kr:W2.heap[w.heap.size]? = some (.mapIter (some b) clock (seen.push e.born) clock):=by
        rw [hW2]
        show (w2.heap.setIfInBounds _ _)[_]? = _
        rw [g1,Array.getElem?_setIfInBounds_self_of_lt hsz]
      have ko:∀ k,k≠w.heap.size→W2.heap[k]? = wr.heap[k]? := fun k hk=>by
        rw [hW2]
        show (w2.heap.setIfInBounds _ _)[k]? = _
        rw [Array.getElem?_setIfInBounds_ne (Ne.symm hk),g1]
      have ks:W2.heap.size=wr.heap.size:=by
        rw [hW2]
        show (w2.heap.setIfInBounds _ _).size=_
        rw [Array.size_setIfInBounds,g1]
      have kos:W2.os=w.os∧W2.tape=w.tape∧W2.output=w.output:=by
        rw [hW2]
        exact ⟨g2.trans hL.os,g3.trans hL.tape,g4.trans hL.output⟩
      have kb:W2.heap[b]? = some (.map (L0.filter (keepE dl seen)).toArray clock):=(ko b (by omega)).trans hL.map
      have kk:∀ k,k < w.heap.size→k≠b→W2.heap[k]? = w.heap[k]? := fun k hk hkb=>(ko k (by omega)).trans (hL.keep k hk hkb)
      have hent:=run_entry_at (P:=Try.prog) W2 w.heap.size b clock seen (L0.filter (keepE dl seen)).toArray clock e kr kb (by simpa using heL) (by simpa using hnL)
      have hc:=hdel W2 e he0 (by omega) kk
      have hmr:leftM L0 w.heap.size wr=(leftOf L0.toArray seen).size:=by unfold leftM;rw [hL.iter]
      have hdec:(leftOf L0.toArray (seen.push e.born)).size < (leftOf L0.toArray seen).size:=by
        have:=(left_push (es:=L0.toArray) (seen:=seen) (e:=e) (by simpa using hn) (by
          simp only [leftOf,Array.toList_filter,List.mem_filter]
          exact ⟨by simpa using he0,by simpa using heu⟩)).length_eq
        simp only [List.length_cons,Array.length_toList] at this
        omega
      obtain ⟨key,val,born⟩:=e
      obtain ⟨nk,hnk⟩:=hki _ he0
      dsimp only at hnk hrun hent hc
      subst hnk
      clear hW2 hw2
      cases hdl:dl ⟨.int .i64 nk,val,born⟩ with
      | false =>
        rw [hdl] at hc
        go_wp2_with fail
        refine hc.mono ?_
        rintro x w3 ⟨rfl,hb3⟩
        go_wp2
        have hi3:=(hb3.block w.heap.size (by omega)).trans kr
        have hm3:leftM L0 w.heap.size w3=(leftOf L0.toArray (seen.push born)).size:=by unfold leftM;rw [hi3]
        refine ⟨⟨seen.push born,clock,⟨?_,hi3,Nat.le_refl _,hb3.os.trans kos.1,hb3.tape.trans kos.2.1,hb3.output.trans kos.2.2,fun k hk hkb=>(hb3.block k (by omega)).trans (kk k hk hkb)⟩,by have:=hb3.size;omega⟩,by rw [hm3,hmr];exact hdec⟩
        rw [(hb3.block b (by omega)).trans kb,keep_stays hn he0 hdl]
      | true =>
        rw [hdl] at hc
        go_wp2_with fail
        refine hc.mono ?_
        rintro x w3 ⟨rfl,hb3⟩
        have k3:=(hb3.block b (by omega)).trans kb
        have hkey:∀ x∈L0.filter (keepE dl seen),Go.MapKept.IsKey (.int .i64) x.key:=fun x hx=>by
          obtain ⟨n,hn⟩:=hki x (hsub.subset hx)
          rw [hn];rfl
        obtain ⟨j,e',hf,hj,hek⟩:∃ j e',Instr.findNow (.int .i64) (.int .i64 nk) (L0.filter (keepE dl seen)) 0=some (some (0+j,e'.val))∧(L0.filter (keepE dl seen))[j]? = some e'∧e'.key = .int .i64 nk:=by
          rcases Go.MapKept.findNow_spec (d:=.int .i64) (k:=.int .i64 nk) rfl (L0.filter (keepE dl seen)) 0 hkey with ⟨_,h⟩ | h
          · exact absurd rfl (h _ heL)
          · exact h
        obtain rfl:e'=⟨.int .i64 nk,val,born⟩:=key_inj hkn (hsub.subset (List.mem_of_getElem? hj)) he0 hek
        have hjl:j < (L0.filter (keepE dl seen)).toArray.size:=by
          have:=(List.getElem?_eq_some_iff.1 hj).1
          simpa using this
        have her:(L0.filter (keepE dl seen)).toArray.eraseIdxIfInBounds j=(L0.filter (keepE dl (seen.push born))).toArray:=by
          apply Array.toList_inj.1
          have e1:((L0.filter (keepE dl seen)).toArray.eraseIdxIfInBounds j).toList=(L0.filter (keepE dl seen)).eraseIdx j:=by
            unfold Array.eraseIdxIfInBounds
            rw [dif_pos hjl];simp
          rw [e1,erase_filter hnL hj,keep_struck hn he0 hdl]
        obtain ⟨w4,hw4⟩:∃ w4,w4={ w3 with heap:=w3.heap.setIfInBounds b (.map (L0.filter (keepE dl (seen.push born))).toArray clock) }:=⟨_,rfl⟩
        have hdr:(Builtin.delete_ #[74,3] 0 #[.map (some b),.int .i64 nk]).run Try.prog w3 = .ok (.tuple #[]) w4:=by
          have hf':Instr.findNow (.int .i64) (.int .i64 nk) (L0.filter (keepE dl seen)).toArray.toList 0=some (some (j,val)):=by
            simpa using hf
          simp [Builtin.delete_,run_underlying Try.underlying74,Go.MapKept.run_getObj_map k3,Go.MapKept.run_checkKey Try.underlying3 (show Go.MapKept.IsKey (.int .i64) (.int .i64 nk) from rfl),Go.MapKept.run_findKey Try.underlying3 hf',her,Go.MapKept.run_setObj_map _ k3,Result.andThen,hw4]
          rw [erase_filter hnL hj,keep_struck hn he0 hdl]
        have h4b:w4.heap[b]? = some (.map (L0.filter (keepE dl (seen.push born))).toArray clock):=by rw [hw4];exact (Go.MapKept.heap_set k3).1
        have h4o:∀ k,k≠b→w4.heap[k]? = w3.heap[k]? := fun k hk=>by rw [hw4];exact (Go.MapKept.heap_set k3).2 k hk
        have h4s:w4.heap.size=w3.heap.size:=by rw [hw4];simp
        have h4w:w4.os=w3.os∧w4.tape=w3.tape∧w4.output=w3.output:=by rw [hw4];exact ⟨rfl,rfl,rfl⟩
        clear hw4
        go_wp2
        have hi4:=(h4o w.heap.size (by omega)).trans ((hb3.block w.heap.size (by omega)).trans kr)
        have hm4:leftM L0 w.heap.size w4=(leftOf L0.toArray (seen.push born)).size:=by unfold leftM;rw [hi4]
        exact ⟨⟨seen.push born,clock,⟨h4b,hi4,Nat.le_refl _,(h4w.1.trans hb3.os).trans kos.1,(h4w.2.1.trans hb3.tape).trans kos.2.1,(h4w.2.2.trans hb3.output).trans kos.2.2,fun k hk hkb=>(h4o k hkb).trans ((hb3.block k (by omega)).trans (kk k hk hkb))⟩,by have:=hb3.size;omega⟩,by rw [hm4,hmr];exact hdec⟩
def kI:Value→Int
  | .int _ n=>n
  | _=>0
theorem mrel_filter {w:World} {al:Nat→Prop} (f:Int→Bool):∀ {es:List MapEntry} {m:List (Int×Bool)},MRel Try.prog w al (.int .i64) (false,[.bool]) es (List.map em_Int_Bool m)→MRel Try.prog w al (.int .i64) (false,[.bool]) (es.filter fun e=>f (kI e.key)) (List.map em_Int_Bool (m.filter fun x=>f x.1))
  | [],[],_=>trivial
  | [],_ :: _,h=>h.elim
  | _ :: _,[],h=>h.elim
  | e :: es,x :: m,h=>by
    obtain ⟨h1,h2,h3⟩:=h
    have ih:=mrel_filter f h3
    have hk:kI e.key=x.1:=by
      have h1:RepC Try.prog w al (.int .i64) e.key (.int x.1):=h1
      obtain ⟨key,val,born⟩:=e
      dsimp only at h1 ⊢
      cases h1;rfl
    cases hf:f x.1 with
    | true =>
      rw [List.filter_cons_of_pos (by rw [hk];exact hf),List.filter_cons_of_pos (p:=fun y:Int×Bool=>f y.1) hf]
      exact ⟨h1,h2,ih⟩
    | false =>
      rw [List.filter_cons_of_neg (by rw [hk,hf];simp),List.filter_cons_of_neg (p:=fun y:Int×Bool=>f y.1) (by rw [hf];simp)]
      exact ih
theorem seg_cells {w:World} {al:Nat→Prop} {v:Value} {ss:List TSegment} (h:RepC Try.prog w al (.slice 52) v (.slice (List.map e_TSegment ss))) (hs:0 < ss.length) :
    ∃ sb so cap,v = .slice (some ⟨sb,so,none⟩) ss.length cap∧al sb∧∀ i,i < ss.length→w.cell? ⟨sb,so+i * 4,none⟩=some (.int .i64 (gt ss i).Parent)∧w.cell? ⟨sb,so+i * 4+1,none⟩=some (.int .i64 (gt ss i).Origin) ∧
      w.cell? ⟨sb,so+i * 4+2,none⟩=some (.int .i64 (gt ss i).From)∧w.cell? ⟨sb,so+i * 4+3,none⟩=some (.int .i64 (gt ss i).Len):=by
  cases h with
  | empty _ _ a c h hz =>
    have:ss=[]:=by simpa using h
    subst this;simp at hs
  | slice _ _ B off cap hz E hE ha hlen hcap hel f hcell hrep =>
    rw [ty52] at hE
    simp only [Option.some.injEq] at hE
    subst hE
    simp only [C.toSl_slice,List.length_map,List.length_cons,List.length_nil,Nat.zero_add,Nat.reduceAdd] at hcell hrep hlen hcap
    refine ⟨B,off,cap,by simp,ha,fun i hi=>?_⟩
    have hcg:(eg (List.map e_TSegment ss) i)=e_TSegment (gt ss i):=by simp [eg,gt,List.getD_eq_getElem?_getD,hi]
    have key:∀ j x,j < 4→cg (e_TSegment (gt ss i)) j = .int x→([Kd.int .i64,.int .i64,.int .i64,.int .i64]:List Kd).getD j .other = .int .i64→w.cell? ⟨B,off+(i * 4+j),none⟩=some (.int .i64 x):=fun j x hj hx hk=>by
      have c1:=cellN_cell (hcell i hi j hj)
      have r1:=hrep i hi j hj
      rw [hcg,hx,hk] at r1
      generalize f i j=u at c1 r1
      cases r1;exact c1
    exact ⟨key 0 _ (by omega) rfl rfl,key 1 _ (by omega) rfl rfl,key 2 _ (by omega) rfl rfl,key 3 _ (by omega) rfl rfl⟩
def maps_DeleteFunc_M (n:Nat) (m:List (Int×Bool)) (a:List Int) (b:List TReloc) (ss:List TSegment) (e p o f l:Int):Option (List (Int×Bool)) :=
  gd ((∀ x∈m,0≤x.1∧x.1 < ss.length)∧(m.map Prod.fst).Nodup) <| some (m.filter fun x=>!delM ss o l x.1)
theorem cmaps_DeleteFunc_M (n:Nat) (m:List (Int×Bool)) (a:List Int) (b:List TReloc) (ss:List TSegment) (e p o f l:Int) (r:List (Int×Bool)) (H:maps_DeleteFunc_M n m a b ss e p o f l=some r):CallsM Try.prog 44 [.ref (.mref 0),.ref (.fnv 45 [.box 1 0,.box 2 0])]
    [.mp (.int .i64) (false,[.bool]) (List.map em_Int_Bool m),.box [.c (.slice 5) (.slice (List.map e_Int a)),.c (.slice 58) (.slice (List.map e_TReloc b)),.c (.slice 52) (.slice (List.map e_TSegment ss)),.c (.int .i64) (.int e)],.box [.c (.int .i64) (.int p),.c (.int .i64) (.int o),.c (.int .i64) (.int f),.c (.int .i64) (.int l)]]
    [] [.mp (.int .i64) (false,[.bool]) (List.map em_Int_Bool r),.box [.c (.slice 5) (.slice (List.map e_Int a)),.c (.slice 58) (.slice (List.map e_TReloc b)),.c (.slice 52) (.slice (List.map e_TSegment ss)),.c (.int .i64) (.int e)],.box [.c (.int .i64) (.int p),.c (.int .i64) (.int o),.c (.int .i64) (.int f),.c (.int .i64) (.int l)]]:=by
  obtain ⟨⟨hin,hnd⟩,H⟩:=gd_some H
  obtain rfl:=Option.some.inj H
  refine ⟨fun args w=>Try.call44 args w,Nat.le_refl 3,?_⟩
  intro w al σ vs hal hB hinj hvl harg
  obtain ⟨B0,es,clock,hσ0,hb0,hh0,hok,hmr⟩:BRel Try.prog w (fun b=>b < w.heap.size) al σ 0 (.mp (.int .i64) (false,[.bool]) (List.map em_Int_Bool m)):=hB 0
  obtain ⟨Mb,vs1,t1,hσ1,hb1,hh1,hl1,hc1⟩:BRel Try.prog w (fun b=>b < w.heap.size) al σ 1 (.box [.c (.slice 5) (.slice (List.map e_Int a)),.c (.slice 58) (.slice (List.map e_TReloc b)),.c (.slice 52) (.slice (List.map e_TSegment ss)),.c (.int .i64) (.int e)]):=hB 1
  obtain ⟨Gb,vs2,t2,hσ2,hb2,hh2,hl2,hc2⟩:BRel Try.prog w (fun b=>b < w.heap.size) al σ 2 (.box [.c (.int .i64) (.int p),.c (.int .i64) (.int o),.c (.int .i64) (.int f),.c (.int .i64) (.int l)]):=hB 2
  obtain ⟨hent,hir⟩:=mrel_at hmr
  have hvals:∀ x∈es.toList,∃ y∈m,x.key = .int .i64 y.1∧x.val = .bool y.2:=fun x hx=>by
    have:(x.key,x.val)∈es.toList.map (fun e=>(e.key,e.val)):=List.mem_map_of_mem hx
    rw [hent] at this
    obtain ⟨y,hy,e1⟩:=List.mem_map.1 this
    simp only [Prod.mk.injEq] at e1
    exact ⟨y,hy,e1.1.symm,e1.2.symm⟩
  have hkeys:es.toList.map (·.key)=m.map (fun x=>(.int .i64 x.1:Value)):=by
    have:=congrArg (List.map Prod.fst) hent
    simpa [Function.comp_def] using this
  have hkn:(es.toList.map (·.key)).Nodup:=by
    rw [hkeys]
    have:m.map (fun x=>(.int .i64 x.1:Value))=(m.map Prod.fst).map (fun k=>(.int .i64 k:Value)):=by simp [Function.comp_def]
    rw [this]
    exact List.pairwise_map.2 (hnd.imp fun {a b} hne e=>hne (by injection e))
  have n1:Mb≠B0:=fun h=>by have:=hinj 1 0 B0 (by rw [hσ1];exact h) (by rw [hσ0];rfl);cases this
  have n2:Gb≠B0:=fun h=>by have:=hinj 2 0 B0 (by rw [hσ2];exact h) (by rw [hσ0];rfl);cases this
  have cell0:∀ {W:World} {B:Nat} {vs:Array Value} {t:TypeId} (h:W.heap[B]? = some (.cells vs t (0,0))) (i:Nat) (v:Value),i < vs.size→vs.getD i undef=v→W.cell? ⟨B,i,none⟩=some v:=by
    intro W B vs t h i v hi hv
    rw [cellOfHeap h]
    simp only [Array.getD,hi,dif_pos] at hv
    rw [Array.getElem?_eq_getElem hi]
    exact congrArg some hv
  have g1:=int_cell (hc2 1 (show 1 < 4 by decide))
  have g3:=int_cell (hc2 3 (show 3 < 4 by decide))
  have hsl:RepC Try.prog w al (.slice 52) (vs1.getD 2 undef) (.slice (List.map e_TSegment ss)):=by
    have:=hc1 2 (show 2 < 4 by decide)
    generalize vs1.getD 2 undef=u at this ⊢
    cases this with | c _ _ _ h=>exact h
  have hdel:∀ W x,x∈es.toList→w.heap.size≤W.heap.size→(∀ k,k < w.heap.size→k≠B0→W.heap[k]? = w.heap[k]?)→Calls Try.prog 45 #[x.key,x.val,.pointer (some ⟨Mb,0,none⟩),.pointer (some ⟨Gb,0,none⟩)] W fun y W'=>y = .returned (.bool (delM ss o l (kI x.key)))∧Below W.heap.size W W':=by
    intro W x hx hsz hW
    obtain ⟨y,hy,e1,e2⟩:=hvals x hx
    obtain ⟨q1,q2⟩:=hin y hy
    obtain ⟨i,hi⟩:∃ i:Nat,y.1=(i:Int):=⟨y.1.toNat,by omega⟩
    have hil:i < ss.length:=by omega
    obtain ⟨sb,so,cap,ev,hasb,hcells⟩:=seg_cells hsl (by omega)
    have hsb:=hal sb hasb
    have nsb:sb≠B0:=fun h=>hsb.2 0 (by rw [hσ0,h];rfl)
    have hM:=hW Mb hb1 n1
    have hG:=hW Gb hb2 n2
    have hS:∀ {q v},w.cell? ⟨sb,q,none⟩=some v→W.cell? ⟨sb,q,none⟩=some v:=fun {q v} h=>by
      unfold World.cell? at h ⊢
      rw [show W.heap[sb]? = w.heap[sb]? from hW sb hsb.1 nsb];exact h
    obtain ⟨c0,c1,c2,c3⟩:=hcells i hil
    rw [e1,e2,hi]
    exact del45 i y.2 Mb Gb sb so cap ss o l W hil (cell0 (hM.trans hh1) 2 _ (by rw [hl1];show 2 < 4;decide) ev) (hS c0) (hS c1) (hS c2) (hS c3) (cell0 (hG.trans hh2) 1 _ (by rw [hl2];show 1 < 4;decide) g1) (cell0 (hG.trans hh2) 3 _ (by rw [hl2];show 3 < 4;decide) g3) (by omega) (by omega)
  match vs,hvl with
  | [v0,v1],_ =>
    have a0:ARel Try.prog w al σ v0 (.mref 0):=harg 0 (show 0 < 2 by decide)
    have a1:ARel Try.prog w al σ v1 (.fnv 45 [.box 1 0,.box 2 0]):=harg 1 (show 1 < 2 by decide)
    obtain rfl:v0 = .map (some B0):=by
      cases a0 with
      | mref _ b h=>rw [hσ0] at h;cases h;rfl
      | mrefGone _ _ h=>rw [hσ0] at h;cases h
      | itr _ _ _ h=>rw [hσ0] at h;cases h
    obtain rfl:v1 = .func (.func 45) #[] #[.pointer (some ⟨Mb,0,none⟩),.pointer (some ⟨Gb,0,none⟩)]:=by
      cases a1 with
      | fnv _ _ us hl hh =>
        match us,hl with
        | [u,u'],_ =>
          have e1:=box_ptr (show ARel Try.prog w al σ u (.box 1 0) from hh 0 (show 0 < 2 by decide)) hσ1
          have e2:=box_ptr (show ARel Try.prog w al σ u' (.box 2 0) from hh 1 (show 1 < 2 by decide)) hσ2
          subst e1;subst e2;rfl
    refine (delete44 B0 es.toList clock (fun x=>delM ss o l (kI x.key)) Mb Gb w (by simpa using hh0) hok.1 hok.2 hkn (fun x hx=>by obtain ⟨y,_,h,_⟩:=hvals x hx;exact ⟨_,h⟩) hdel).mono ?_
    rintro z w' ⟨rfl,q1,q2,q3,q4,q5,q6⟩
    refine ⟨_,rfl,?_⟩
    have hk:BRel Try.prog w' (fun _=>True) al σ 0 (.mp (.int .i64) (false,[.bool]) (List.map em_Int_Bool (m.filter fun x=>!delM ss o l x.1))):=by
      refine ⟨B0,_,clock,hσ0,trivial,q6,⟨fun x hx=>hok.1 x ?_,?_⟩,?_⟩
      · exact (List.mem_filter.1 hx).1
      · exact ((List.filter_sublist (l:=es.toList)).map (·.born)).nodup hok.2
      · have:=mrel_filter (fun k=>!delM ss o l k) hmr
        exact this.mono (fun c hc=>q5 c (hal c hc).1 (fun h=>(hal c hc).2 0 (by rw [hσ0,h];rfl))) (fun _ h=>h)
    exact ResM.turn (i:=0) (b0:=B0) hal hinj hB (by show 0 < 3;decide) (fun c=>by rw [hσ0];exact ⟨fun h=>h.symm,fun h=>h.symm⟩) q1 q2 q3 q4 q5 hk (.tup [] [] rfl (fun i hi=>by simp at hi))
end Go.Proofs.Ytcbcdjincgclaaa
