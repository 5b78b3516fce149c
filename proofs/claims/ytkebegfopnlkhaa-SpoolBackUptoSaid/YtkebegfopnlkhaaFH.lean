/- Text. -/
import Derived.Test.YtkebegfopnlkhaaT
import Derived.Lib.Builder
set_option linter.unusedSimpArgs false
set_option linter.unusedVariables false
set_option maxHeartbeats 2000000
set_option linter.unusedVariables false
set_option linter.unusedSimpArgs false
set_option maxRecDepth 100000
namespace Go.Proofs.Ytkebegfopnlkhaa
open Go.AE
def flR (r r':TRec):Prop:=r'.R=r.R∧r'.Key=r.Key∧r'.Data=r.Data
def flT (x x':List TRec):Prop:=x'.length=x.length∧∀ j (h:j < x.length) (h':j < x'.length),flR x[j] x'[j]
def flL (t t':List (List TRec)):Prop:=t'.length=t.length∧∀ j (h:j < t.length) (h':j < t'.length),flT t[j] t'[j]
theorem setCell_at {w:World} {b o:Nat} {cur:Array Value} {t:TypeId} {zz:Nat×Nat} (u:Value) (hc:w.heap[b]? = some (.cells cur t zz)):(w.setCell ⟨b,o,none⟩ u).heap[b]? = some (.cells (cur.setIfInBounds o u) t zz):=by
  simp [World.setCell,Array.getElem?_modify,hc]
theorem cellN_at {w:World} {b o:Nat} {cur:Array Value} {t:TypeId} {zz:Nat×Nat} (hc:w.heap[b]? = some (.cells cur t zz)):cellN w ⟨b,o,none⟩=if w.frozen? ⟨b,o,none⟩=true then none else cur[o]? := by
  unfold cellN
  rw [Lib.cell_of_heap hc]
theorem frz_set {w:World} {b o:Nat} {cur:Array Value} {t:TypeId} {zz:Nat×Nat} {u:Value} (hc:w.heap[b]? = some (.cells cur t zz)) (q:Nat):(w.setCell ⟨b,o,none⟩ u).frozen? ⟨b,q,none⟩=w.frozen? ⟨b,q,none⟩:=by
  unfold World.frozen?
  simp only [setCell_at u hc,hc]
theorem cellN_set {w:World} {b o:Nat} {cur:Array Value} {t:TypeId} {zz:Nat×Nat} {u:Value} (hc:w.heap[b]? = some (.cells cur t zz)) {g q:Nat} (hne:¬ (g=b∧q=o)):cellN (w.setCell ⟨b,o,none⟩ u) ⟨g,q,none⟩=cellN w ⟨g,q,none⟩:=by
  by_cases e:g=b
  · subst e
    have hq:q≠o:=fun h=>hne ⟨rfl,h⟩
    rw [cellN_at (setCell_at u hc),cellN_at hc,frz_set hc]
    simp [Ne.symm hq]
  · exact cellN_of_block (w:=w) (a:=⟨g,q,none⟩) (heap_setCell_other w ⟨b,o,none⟩ g u e)
section
variable {w:World} {al:Nat→Prop} {b o:Nat} {cur:Array Value} {t:TypeId} {zz:Nat×Nat} {b0 bn:Bool}
theorem fl_bytes {v:Value} {l:List Int} (hc:w.heap[b]? = some (.cells cur t zz)) (ho:cur[o]? = some (.bool b0)) (hz0:w.frozen? ⟨b,o,none⟩=false) (h:RepC Try.prog w al (.slice 5) v (.slice (List.map e_Int l))) :
    RepC Try.prog (w.setCell ⟨b,o,none⟩ (.bool bn)) al (.slice 5) v (.slice (List.map e_Int l)):=by
  have hp:cellN w ⟨b,o,none⟩=some (.bool b0):=by
    rw [cellN_at hc,hz0];simpa using ho
  generalize hx:C.slice (List.map e_Int l)=x at h
  cases h with
  | empty _ _ a c h hz=>exact .empty 5 x a c h hz
  | slice _ _ g off cap hz E hE ha hlen hcap hel f hcell hrep =>
    have hE':=hE
    rw [ty5] at hE
    simp only [Option.some.injEq] at hE
    subst hE
    have hf:∀ i,i < x.toSl.length→∃ n,f i 0 = .int .u8 n:=fun i hi=>by
      have:=hrep i hi 0 (by simp)
      have h2:RepC Try.prog w al (.int .u8) (f i 0) (cg (eg x.toSl i) 0):=this
      generalize f i 0=u at h2
      cases h2 with
      | int _ _ _=>exact ⟨_,rfl⟩
    refine .slice 5 x g off cap hz _ hE' ha hlen hcap hel f (fun i hi j hj=>?_) (fun i hi j hj=>?_)
    · have h1:=hcell i hi j hj
      rw [cellN_set hc fun ⟨e1,e2⟩=>by
        subst e1
        rw [e2,hp] at h1
        have:j=0:=by simpa using hj
        subst this
        obtain ⟨n,hn⟩:=hf i hi
        rw [hn] at h1;cases h1]
      exact h1
    · have h1:=hrep i hi j hj
      have:j=0:=by simpa using hj
      subst this
      have h2:RepC Try.prog w al (.int .u8) (f i 0) (cg (eg x.toSl i) 0):=h1
      show RepC Try.prog _ al (.int .u8) (f i 0) (cg (eg x.toSl i) 0)
      generalize f i 0=u at h2
      cases h2 with
      | int _ _ hr=>exact .int _ _ hr
theorem eg_m' {α:Type} (e:α→List C) (l:List α) (i:Nat) (h:i < l.length):eg (List.map e l) i=e l[i]:=by
  simp [eg,List.getD_eq_getElem?_getD,h]
theorem fl_recs {v:Value} {x:List TRec} (hc:w.heap[b]? = some (.cells cur t zz)) (ho:cur[o]? = some (.bool b0)) (hz0:w.frozen? ⟨b,o,none⟩=false) (h:RepC Try.prog w al (.slice 59) v (.slice (List.map e_TRec x))) :
    ∃ x',flT x x'∧RepC Try.prog (w.setCell ⟨b,o,none⟩ (.bool bn)) al (.slice 59) v (.slice (List.map e_TRec x'))∧∀ (g off n c k:Nat),v = .slice (some ⟨g,off,none⟩) n c→(hk:k < x'.length)→g=b→off+(k * 4+3)=o→(x'[k]).Bad=bn:=by
  have hp:cellN w ⟨b,o,none⟩=some (.bool b0):=by
    rw [cellN_at hc,hz0];simpa using ho
  have hpn:cellN (w.setCell ⟨b,o,none⟩ (.bool bn)) ⟨b,o,none⟩=some (.bool bn):=by
    have hlt:=(Array.getElem?_eq_some_iff.1 ho).1
    rw [cellN_at (setCell_at _ hc),frz_set hc,hz0]
    simp [hlt]
  cases h with
  | empty _ _ a c h hz =>
    have:x=[]:=by simpa using h
    subst this
    exact ⟨[],⟨rfl,fun j h=>by simp at h⟩,.empty 59 _ a c rfl nofun,fun _ _ _ _ k _ hk=>by simp at hk⟩
  | slice _ _ g off cap hz E hE ha hlen hcap hel f hcell hrep =>
    have hE':=hE
    rw [ty59] at hE
    simp only [Option.some.injEq] at hE
    subst hE
    simp only [C.toSl_slice,List.length_map,List.length_cons,List.length_nil,Nat.zero_add,Nat.reduceAdd] at hcell hrep hlen hcap
    obtain ⟨x',hx'⟩:∃ x':List TRec,x'=x.mapIdx fun i r=>if g=b∧off+(i * 4+3)=o then ⟨r.R,r.Key,r.Data,bn⟩ else r:=⟨_,rfl⟩
    have hl:x'.length=x.length:=by rw [hx'];simp
    have hg:∀ i (h:i < x.length) (h':i < x'.length),x'[i]=if g=b∧off+(i * 4+3)=o then ⟨x[i].R,x[i].Key,x[i].Data,bn⟩ else x[i]:=fun i h h'=>by
      subst hx';simp
    have hfl:flT x x':=⟨hl,fun j h h'=>by
      rw [hg j h h']
      split <;> exact ⟨rfl,rfl,rfl⟩⟩
    refine ⟨x',hfl,?_,fun g' off' n c k hv hk e1 e2=>?_⟩
    · obtain ⟨f',hf'⟩:∃ f':Nat→Nat→Value,f'=fun i j=>if g=b∧off+(i * 4+j)=o then .bool bn else f i j:=⟨_,rfl⟩
      have hr:∀ i (hi:i < x.length) j,j < 4→(¬ (g=b∧off+(i * 4+j)=o)∨j=3):=fun i hi j hj=>by
        by_cases e:g=b∧off+(i * 4+j)=o
        · right
          have h1:=hcell i hi j hj
          rw [e.1,e.2,hp] at h1
          have h2:=hrep i hi j hj
          have h3:f i j = .bool b0:=by simpa using h1.symm
          rw [h3,eg_m' _ _ _ hi] at h2
          match j,hj with
          | 0,_ =>
            have h2:RepC Try.prog w al (.int .i64) (.bool b0) (cg (e_TRec x[i]) 0):=h2
            cases h2
          | 1,_ =>
            have h2:RepC Try.prog w al (.slice 5) (.bool b0) (cg (e_TRec x[i]) 1):=h2
            generalize hqq:Value.bool b0=q at h2
            cases h2 <;> cases hqq
          | 2,_ =>
            have h2:RepC Try.prog w al (.slice 5) (.bool b0) (cg (e_TRec x[i]) 2):=h2
            generalize hqq:Value.bool b0=q at h2
            cases h2 <;> cases hqq
          | 3,_=>rfl
        · exact .inl e
      have:=RepC.slice (P:=Try.prog) (w:=w.setCell ⟨b,o,none⟩ (.bool bn)) (Al:=al) 59 (.slice (List.map e_TRec x')) g off cap nofun _ hE' ha (by simp [hl];omega) (by simp [hl];omega) (fun i hi=>by
          simp only [C.toSl_slice,List.length_map] at hi
          rw [C.toSl_slice,eg_m' _ _ _ hi];rfl) f' (fun i hi j hj=>by
          simp only [C.toSl_slice,List.length_map,hl] at hi
          have hj4:j < 4:=hj
          simp only [List.length_cons,List.length_nil,Nat.zero_add,Nat.reduceAdd]
          rw [hf']
          by_cases e:g=b∧off+(i * 4+j)=o
          · simp only [if_pos e]
            rw [e.1,e.2];exact hpn
          · simp only [if_neg e]
            rw [cellN_set hc e]
            exact hcell i hi j hj4) (fun i hi j hj=>by
          simp only [C.toSl_slice,List.length_map] at hi
          have hi0:i < x.length:=by omega
          have hj4:j < 4:=hj
          rw [C.toSl_slice,eg_m' _ _ _ hi,hg i hi0 hi,hf']
          have h2:=hrep i hi0 j hj4
          rw [eg_m' _ _ _ hi0] at h2
          match j,hj4 with
          | 0,_ =>
            have hn:¬ (g=b∧off+(i * 4+0)=o):=by
              rcases hr i hi0 0 (by omega) with h | h
              · exact h
              · omega
            simp only [if_neg hn]
            have h2:RepC Try.prog w al (.int .i64) (f i 0) (.int x[i].R):=h2
            have h3:RepC Try.prog (w.setCell ⟨b,o,none⟩ (.bool bn)) al (.int .i64) (f i 0) (.int x[i].R):=by
              generalize f i 0=u at h2
              cases h2 with
              | int _ _ hr=>exact .int .i64 (.int _) hr
            split <;> exact h3
          | 1,_ =>
            have hn:¬ (g=b∧off+(i * 4+1)=o):=by
              rcases hr i hi0 1 (by omega) with h | h
              · exact h
              · omega
            simp only [if_neg hn]
            have h3:=fl_bytes (bn:=bn) hc ho hz0 (show RepC Try.prog w al (.slice 5) (f i 1) (.slice (List.map e_Int x[i].Key)) from h2)
            split <;> exact h3
          | 2,_ =>
            have hn:¬ (g=b∧off+(i * 4+2)=o):=by
              rcases hr i hi0 2 (by omega) with h | h
              · exact h
              · omega
            simp only [if_neg hn]
            have h3:=fl_bytes (bn:=bn) hc ho hz0 (show RepC Try.prog w al (.slice 5) (f i 2) (.slice (List.map e_Int x[i].Data)) from h2)
            split <;> exact h3
          | 3,_ =>
            have h2:RepC Try.prog w al .bool (f i 3) (.bool x[i].Bad):=h2
            by_cases e:g=b∧off+(i * 4+3)=o
            · simp only [if_pos e];exact .bool (.bool bn)
            · simp only [if_neg e]
              show RepC Try.prog _ al .bool (f i 3) (.bool x[i].Bad)
              generalize f i 3=u at h2
              cases h2 with
              | bool _=>exact .bool (.bool _))
      simpa [hl] using this
    · have hk0:k < x.length:=by omega
      simp only [Value.slice.injEq,Option.some.injEq,Addr.mk.injEq] at hv
      obtain ⟨⟨rfl,rfl,_⟩,_⟩:=hv
      rw [hg k hk0 hk,if_pos ⟨e1,e2⟩]
theorem fl_trks {v:Value} {x:List (List TRec)} (hc:w.heap[b]? = some (.cells cur t zz)) (ho:cur[o]? = some (.bool b0)) (hz0:w.frozen? ⟨b,o,none⟩=false) (h:RepC Try.prog w al (.slice 57) v (.slice (List.map e_LTRec x))) :
    ∃ x',flL x x'∧RepC Try.prog (w.setCell ⟨b,o,none⟩ (.bool bn)) al (.slice 57) v (.slice (List.map e_LTRec x'))∧∀ (g off n c i g2 off2 n2 c2 k:Nat),v = .slice (some ⟨g,off,none⟩) n c→w.cell? ⟨g,off+i,none⟩=some (.slice (some ⟨g2,off2,none⟩) n2 c2)→(hi:i < x'.length)→(hk:k < x'[i].length)→g2=b→off2+(k * 4+3)=o→(x'[i][k]).Bad=bn:=by
  have hp:cellN w ⟨b,o,none⟩=some (.bool b0):=by
    rw [cellN_at hc,hz0];simpa using ho
  cases h with
  | empty _ _ a c h hz =>
    have:x=[]:=by simpa using h
    subst this
    exact ⟨[],⟨rfl,fun j h=>by simp at h⟩,.empty 57 _ a c rfl nofun,fun _ _ _ _ i _ _ _ _ _ _ _ hi=>by simp at hi⟩
  | slice _ _ g off cap hz E hE ha hlen hcap hel f hcell hrep =>
    have hE':=hE
    rw [ty57] at hE
    simp only [Option.some.injEq] at hE
    subst hE
    simp only [C.toSl_slice,List.length_map,List.length_cons,List.length_nil,Nat.zero_add,Nat.mul_one] at hcell hrep hlen hcap
    have hone:∀ i,∃ y:List TRec,∀ (hi:i < x.length),flT x[i] y∧RepC Try.prog (w.setCell ⟨b,o,none⟩ (.bool bn)) al (.slice 59) (f i 0) (.slice (List.map e_TRec y))∧∀ (g off n c k:Nat),f i 0 = .slice (some ⟨g,off,none⟩) n c→(hk:k < y.length)→g=b→off+(k * 4+3)=o→(y[k]).Bad=bn:=fun i=>by
      by_cases hi:i < x.length
      · have h2:=hrep i hi 0 (by omega)
        rw [eg_m' _ _ _ hi] at h2
        obtain ⟨y,q⟩:=fl_recs (bn:=bn) hc ho hz0 (show RepC Try.prog w al (.slice 59) (f i 0) (.slice (List.map e_TRec x[i])) from h2)
        exact ⟨y,fun _=>q⟩
      · exact ⟨[],fun h=>absurd h hi⟩
    obtain ⟨Y,hY⟩:∃ Y:Nat→List TRec,∀ i,∀ (hi:i < x.length),flT x[i] (Y i)∧RepC Try.prog (w.setCell ⟨b,o,none⟩ (.bool bn)) al (.slice 59) (f i 0) (.slice (List.map e_TRec (Y i)))∧∀ (g off n c k:Nat),f i 0 = .slice (some ⟨g,off,none⟩) n c→(hk:k < (Y i).length)→g=b→off+(k * 4+3)=o→((Y i)[k]).Bad=bn:=⟨fun i=>(hone i).choose,fun i=>(hone i).choose_spec⟩
    obtain ⟨x',hx'⟩:∃ x':List (List TRec),x'=x.mapIdx fun i _=>Y i:=⟨_,rfl⟩
    have hl:x'.length=x.length:=by rw [hx'];simp
    have hg:∀ i (h':i < x'.length),x'[i]=Y i:=fun i h'=>by
      subst hx';simp
    have hne:∀ i (hi:i < x.length),¬ (g=b∧off+i=o):=fun i hi ⟨e1,e2⟩=>by
      have h1:=hcell i hi 0 (by omega)
      rw [Nat.add_zero,e1,e2,hp] at h1
      have h2:=(hY i hi).2.1
      have h3:f i 0 = .bool b0:=by simpa using h1.symm
      rw [h3] at h2
      generalize hqq:Value.bool b0=q at h2
      cases h2 <;> cases hqq
    refine ⟨x',⟨hl,fun j h h'=>by rw [hg j h'];exact (hY j h).1⟩,?_,fun g' off' n c i g2 off2 n2 c2 k hv hcl hi hk e1 e2=>?_⟩
    · have:=RepC.slice (P:=Try.prog) (w:=w.setCell ⟨b,o,none⟩ (.bool bn)) (Al:=al) 57 (.slice (List.map e_LTRec x')) g off cap nofun _ hE' ha (by simp [hl];omega) (by simp [hl];omega) (fun i hi=>by
          simp only [C.toSl_slice,List.length_map] at hi
          rw [C.toSl_slice,eg_m' _ _ _ hi];rfl) f (fun i hi j hj=>by
          simp only [C.toSl_slice,List.length_map,hl] at hi
          have:j=0:=by simpa using hj
          subst this
          simp only [List.length_cons,List.length_nil,Nat.zero_add,Nat.mul_one,Nat.add_zero]
          rw [cellN_set hc (hne i hi)]
          exact hcell i hi 0 (by omega)) (fun i hi j hj=>by
          simp only [C.toSl_slice,List.length_map] at hi
          have:j=0:=by simpa using hj
          subst this
          rw [C.toSl_slice,eg_m' _ _ _ hi,hg i hi]
          exact (hY i (by omega)).2.1)
      simpa [hl] using this
    · have hi0:i < x.length:=by omega
      simp only [Value.slice.injEq,Option.some.injEq,Addr.mk.injEq] at hv
      obtain ⟨⟨rfl,rfl,_⟩,_⟩:=hv
      have h1:=cellN_cell (hcell i hi0 0 (by omega))
      rw [Nat.add_zero,hcl] at h1
      have h3:f i 0 = .slice (some ⟨g2,off2,none⟩) n2 c2:=by simpa using h1.symm
      have hk':k < (Y i).length:=by rw [← hg i hi];exact hk
      have:=(hY i hi0).2.2 g2 off2 n2 c2 k h3 hk' e1 e2
      simpa only [hg i hi] using this
end
end Go.Proofs.Ytkebegfopnlkhaa
/-
  ch. 39: SpoolBack: t[i][k].Bad = flag, as one step of memory.
-/
set_option maxHeartbeats 2000000
set_option linter.unusedVariables false
set_option linter.unusedSimpArgs false
set_option maxRecDepth 100000
namespace Go.Proofs.Ytkebegfopnlkhaa
open Go.AE
open Go.RowKit (Below)
def IsOp (o:Oper) (d:Option Nat) (op:Op):Prop:=o.dst=d∧o.op=op∧o.guard=none
theorem lw_v {P:Program} {ops:Array Oper} {rest:List Oper} {o:Oper} {a:Act} {Q:Exit→Act→World→Prop} {w w':World} {u:Value} {d:Option Nat} {op:Op} (hi:IsOp o d op) (hr:(execOp a.eval o).run P w = .ok (.value u) w') (h:wpList P ops Q rest (a.put d u) w'):wpList P ops Q (o :: rest) a w :=
  wpList_plain hi.2.2 fun _ hK=>by
    unfold Oper.wp
    rw [hr,Oper.upon_value,hi.1]
    exact hK _ _ h
theorem lw_s {P:Program} {ops:Array Oper} {rest:List Oper} {o:Oper} {a:Act} {Q:Exit→Act→World→Prop} {w w':World} {op:Op} (hi:IsOp o none op) (hr:(execOp a.eval o).run P w = .ok .skip w') (h:wpList P ops Q rest a w'):wpList P ops Q (o :: rest) a w :=
  wpList_plain hi.2.2 fun _ hK=>by
    unfold Oper.wp
    rw [hr,Oper.upon_skip,hi.1]
    exact hK _ _ h
theorem ev_put (a:Act) (d j:Nat) (v:Value) (hd:d < a.tmps.size):(a.put (some d) v).eval (.tmp j)=if j=d then v else a.eval (.tmp j):=by
  simp only [Act.eval,Act.put]
  by_cases e:j=d
  · subst e;simp [hd]
  · simp [Array.getD_eq_getD_getElem?,Array.getElem?_setIfInBounds,Ne.symm e,e]
theorem sz_put (a:Act) (d:Option Nat) (v:Value):(a.put d v).tmps.size=a.tmps.size:=by cases d <;> simp [Act.put]
def SameB (D:List Nat) (a a':Act):Prop:=a'.tmps.size=a.tmps.size∧a'.defers=a.defers∧∀ j,j ∉ D→a'.eval (.tmp j)=a.eval (.tmp j)
theorem SameB.refl (D:List Nat) (a:Act):SameB D a a:=⟨rfl,rfl,fun _ _=>rfl⟩
theorem SameB.put {D:List Nat} {a a':Act} {d:Nat} {v:Value} (h:SameB D a a') (hd:d∈D):SameB D a (a'.put (some d) v) :=
  ⟨(sz_put _ _ _).trans h.1,(put_defers _ _ _).trans h.2.1,fun j hj=>by
    rw [Act.eval_put (fun e he=>by injection he with he;subst he;intro h;injection h with h;subst h;exact hj hd)]
    exact h.2.2 j hj⟩
theorem flag_region {ops:Array Oper} {o1 o2 o3 o4 o5 o6 o7 o8:Oper} {d1 d2 d3 d4 d5 d6 d7:Nat} {bn:Bool} {a:Act} {w:World} {Q:Exit→Act→World→Prop} {D:List Nat}
    (h1:IsOp o1 (some d1) (.move (.tmp 8))) (h2:IsOp o2 (some d2) (.move (.tmp 13))) (h3:IsOp o3 (some d3) (.indexAddr 26 (.tmp d1) (.tmp d2))) (h4:IsOp o4 (some d4) (.load 57 (.tmp d3)))
    (h5:IsOp o5 (some d5) (.move (.tmp 14))) (h6:IsOp o6 (some d6) (.indexAddr 57 (.tmp d4) (.tmp d5))) (h7:IsOp o7 (some d7) (.fieldAddr 59 (.tmp d6) 3)) (h8:IsOp o8 none (.store 4 (.tmp d7) (.const (.bool bn))))
    (hD:[d1,d2,d3,d4,d5,d6,d7].all (fun d=>decide (d∈D) && decide (d < a.tmps.size) && decide (20 < d))=true) (hn:d1≠d2∧d4≠d5)
    {B off n c g o2' m c2 i k:Nat} {cur:Array Value} {tt:TypeId} {zz:Nat×Nat} {b0:Bool}
    (e8:a.eval (.tmp 8) = .slice (some ⟨B,off,none⟩) n c) (e13:a.eval (.tmp 13) = .int .i64 (i:Int)) (e14:a.eval (.tmp 14) = .int .i64 (k:Int)) (hi:i < n) (hc:w.cell? ⟨B,off+i,none⟩=some (.slice (some ⟨g,o2',none⟩) m c2)) (hk:k < m)
    (hg:w.heap[g]? = some (.cells cur tt zz)) (ho:cur[o2'+(k * 4+3)]? = some (.bool b0)) (hz0:w.frozen? ⟨g,o2'+(k * 4+3),none⟩=false)
    (h:∀ a',SameB D a a'→wpList Try.prog ops Q [] a' (w.setCell ⟨g,o2'+(k * 4+3),none⟩ (.bool bn))):wpList Try.prog ops Q [o1,o2,o3,o4,o5,o6,o7,o8] a w:=by
  simp only [List.all_cons,List.all_nil,Bool.and_true,Bool.and_eq_true,decide_eq_true_eq] at hD
  obtain ⟨⟨⟨m1,s1⟩,g1⟩,⟨⟨m2,s2⟩,g2⟩,⟨⟨m3,s3⟩,g3⟩,⟨⟨m4,s4⟩,g4⟩,⟨⟨m5,s5⟩,g5⟩,⟨⟨m6,s6⟩,g6⟩,⟨m7,s7⟩,g7⟩:=hD
  obtain ⟨a1,ha1⟩:∃ a1,a1=a.put (some d1) (.slice (some ⟨B,off,none⟩) n c):=⟨_,rfl⟩
  have S1:SameB D a a1:=ha1 ▸ (SameB.refl D a).put m1
  have v1:a1.eval (.tmp d1) = .slice (some ⟨B,off,none⟩) n c:=by rw [ha1,ev_put _ _ _ _ s1,if_pos rfl]
  have w13:a1.eval (.tmp 13) = .int .i64 (i:Int):=by rw [ha1,ev_put _ _ _ _ s1,if_neg (by omega)];exact e13
  have w14:a1.eval (.tmp 14) = .int .i64 (k:Int):=by rw [ha1,ev_put _ _ _ _ s1,if_neg (by omega)];exact e14
  refine lw_v h1 (u:=.slice (some ⟨B,off,none⟩) n c) (w':=w) (by simp [execOp,h1.2.1,e8]) ?_
  rw [← ha1]
  obtain ⟨a2,ha2⟩:∃ a2,a2=a1.put (some d2) (.int .i64 (i:Int)):=⟨_,rfl⟩
  have S2:SameB D a a2:=ha2 ▸ S1.put m2
  have z1:d2 < a1.tmps.size:=by rw [S1.1];exact s2
  have v2:a2.eval (.tmp d2) = .int .i64 (i:Int):=by rw [ha2,ev_put _ _ _ _ z1,if_pos rfl]
  have v1':a2.eval (.tmp d1) = .slice (some ⟨B,off,none⟩) n c:=by rw [ha2,ev_put _ _ _ _ z1,if_neg hn.1];exact v1
  have w14':a2.eval (.tmp 14) = .int .i64 (k:Int):=by rw [ha2,ev_put _ _ _ _ z1,if_neg (by omega)];exact w14
  refine lw_v h2 (u:=.int .i64 (i:Int)) (w':=w) (by simp [execOp,h2.2.1,w13]) ?_
  rw [← ha2]
  obtain ⟨u26,t57⟩:=slE_spec sl26
  obtain ⟨u57,t59⟩:=slE_spec sl57
  refine lw_v h3 (u:=.pointer (some ⟨B,off+i,none⟩)) (w':=w) (by
    simp only [execOp,h3.2.1]
    refine run_value ?_
    rw [v1',v2,run_indexAt u26 t57 .i64 (i:Int) B off n c ⟨by omega,by omega⟩]
    simp) ?_
  obtain ⟨a3,ha3⟩:∃ a3,a3=a2.put (some d3) (.pointer (some ⟨B,off+i,none⟩)):=⟨_,rfl⟩
  rw [← ha3]
  have S3:SameB D a a3:=ha3 ▸ S2.put m3
  have z2:d3 < a2.tmps.size:=by rw [S2.1];exact s3
  have v3:a3.eval (.tmp d3) = .pointer (some ⟨B,off+i,none⟩):=by rw [ha3,ev_put _ _ _ _ z2,if_pos rfl]
  refine lw_v h4 (u:=.slice (some ⟨g,o2',none⟩) m c2) (w':=w) (by
    simp only [execOp,h4.2.1]
    refine run_value ?_
    rw [v3]
    have:=run_loadAt (P:=Try.prog) (w:=w) ty57 B (off+i) (fun _=>.slice (some ⟨g,o2',none⟩) m c2) (fun j hj=>by
      have:j=0:=by simpa using hj
      subst this;exact hc)
    simpa using this) ?_
  obtain ⟨a4,ha4⟩:∃ a4,a4=a3.put (some d4) (.slice (some ⟨g,o2',none⟩) m c2):=⟨_,rfl⟩
  rw [← ha4]
  have S4:SameB D a a4:=ha4 ▸ S3.put m4
  have z3:d4 < a3.tmps.size:=by rw [S3.1];exact s4
  have v4:a4.eval (.tmp d4) = .slice (some ⟨g,o2',none⟩) m c2:=by rw [ha4,ev_put _ _ _ _ z3,if_pos rfl]
  have w14'':a4.eval (.tmp 14) = .int .i64 (k:Int):=by
    rw [ha4,ev_put _ _ _ _ z3,if_neg (by omega),ha3,ev_put _ _ _ _ z2,if_neg (by omega)];exact w14'
  refine lw_v h5 (u:=.int .i64 (k:Int)) (w':=w) (by simp [execOp,h5.2.1,w14'']) ?_
  obtain ⟨a5,ha5⟩:∃ a5,a5=a4.put (some d5) (.int .i64 (k:Int)):=⟨_,rfl⟩
  rw [← ha5]
  have S5:SameB D a a5:=ha5 ▸ S4.put m5
  have z4:d5 < a4.tmps.size:=by rw [S4.1];exact s5
  have v5:a5.eval (.tmp d5) = .int .i64 (k:Int):=by rw [ha5,ev_put _ _ _ _ z4,if_pos rfl]
  have v4':a5.eval (.tmp d4) = .slice (some ⟨g,o2',none⟩) m c2:=by rw [ha5,ev_put _ _ _ _ z4,if_neg hn.2];exact v4
  refine lw_v h6 (u:=.pointer (some ⟨g,o2'+k * 4,none⟩)) (w':=w) (by
    simp only [execOp,h6.2.1]
    refine run_value ?_
    rw [v4',v5,run_indexAt u57 t59 .i64 (k:Int) g o2' m c2 ⟨by omega,by omega⟩]
    simp) ?_
  obtain ⟨a6,ha6⟩:∃ a6,a6=a5.put (some d6) (.pointer (some ⟨g,o2'+k * 4,none⟩)):=⟨_,rfl⟩
  rw [← ha6]
  have S6:SameB D a a6:=ha6 ▸ S5.put m6
  have z5:d6 < a5.tmps.size:=by rw [S5.1];exact s6
  have v6:a6.eval (.tmp d6) = .pointer (some ⟨g,o2'+k * 4,none⟩):=by rw [ha6,ev_put _ _ _ _ z5,if_pos rfl]
  refine lw_v h7 (u:=.pointer (some ⟨g,o2'+(k * 4+3),none⟩)) (w':=w) (by
    simp only [execOp,h7.2.1]
    refine run_value ?_
    rw [v6]
    have:=(field_spec (P:=Try.prog) (w:=w) ty59 (f:=3) (p:=(3,4)) rfl g (o2'+k * 4)).1
    rw [this,Nat.add_assoc]) ?_
  obtain ⟨a7,ha7⟩:∃ a7,a7=a6.put (some d7) (.pointer (some ⟨g,o2'+(k * 4+3),none⟩)):=⟨_,rfl⟩
  rw [← ha7]
  have S7:SameB D a a7:=ha7 ▸ S6.put m7
  have z6:d7 < a6.tmps.size:=by rw [S6.1];exact s7
  have v7:a7.eval (.tmp d7) = .pointer (some ⟨g,o2'+(k * 4+3),none⟩):=by rw [ha7,ev_put _ _ _ _ z6,if_pos rfl]
  refine lw_s h8 (w':=w.setCell ⟨g,o2'+(k * 4+3),none⟩ (.bool bn)) (by
    simp only [execOp,h8.2.1]
    refine run_skip ?_
    rw [v7]
    have hst:=run_storeCells_cells (P:=Try.prog) g (o2'+(k * 4+3)) [.bool bn] 0 w (fun j hj=>by
      have:j=0:=by simpa using hj
      subst this
      rw [Lib.cell_of_heap hg,Nat.add_zero,Nat.add_zero,ho];rfl) (fun j hj=>by
      have:j=0:=by simpa using hj
      subst this
      exact hz0) (by simp [Value.oneCell'])
    simp only [Act.eval,Instr.storeAt,Instr.sureAddr,pure_bind,storeVar,Sem.run_bind,run_size ty4,Result.andThen_ok]
    have e:((Value.bool bn).cells.size≠[Kd.bool].length)=False:=by simp [Value.cells]
    simp only [e,if_false]
    exact hst) (h a7 S7)
theorem lw_c {P:Program} {ops:Array Oper} {rest:List Oper} {o:Oper} {a:Act} {Q:Exit→Act→World→Prop} {w:World} {d:Option Nat} {op:Op} {f:FuncId} {args:Array Value} {R:Value→World→Prop} (hi:IsOp o d op) (hr:(execOp a.eval o).run P w = .ok (.enter f args) w)
    (hc:Calls P f args w fun e w'=>∃ v,e = .returned v∧R v w') (h:∀ v w',R v w'→wpList P ops Q rest (a.put d v) w'):wpList P ops Q (o :: rest) a w :=
  wpList_plain hi.2.2 fun _ hK=>by
    unfold Oper.wp
    rw [hr,Oper.upon_enter,hi.1]
    refine hc.mono ?_
    rintro e w' ⟨v,rfl,hv⟩
    exact hK _ _ (h v w' hv)
theorem lines_region {ops:Array Oper} {o1 o2 o3 o4 o5 o6 o7 o8 o9:Oper} {a:Act} {w:World} {Q:Exit→Act→World→Prop} {D:List Nat} {at2:Array TypeId}
    (h1:IsOp o1 (some 100) (.move (.tmp 8))) (h2:IsOp o2 (some 101) (.move (.tmp 7))) (h3:IsOp o3 (some 102) (.call ⟨.builtin .len,#[.tmp 101],#[22]⟩)) (h4:IsOp o4 (some 103) (.call ⟨.value (.func 22),#[.tmp 100,.tmp 102],at2⟩))
    (h5:IsOp o5 (some 99) (.move (.tmp 103))) (h6:IsOp o6 (some 104) (.extract (.tmp 99) 0)) (h7:IsOp o7 (some 105) (.extract (.tmp 99) 1)) (h8:IsOp o8 (some 15) (.assign (.tmp 104))) (h9:IsOp o9 (some 16) (.assign (.tmp 105)))
    (hD:[100,101,102,103,99,104,105,15,16].all (fun d=>decide (d∈D))=true) (hsz:a.tmps.size=198)
    {v8:Value} {b7:Option Addr} {m7 c7:Nat} (e8:a.eval (.tmp 8)=v8) (e7:a.eval (.tmp 7) = .slice b7 m7 c7) (hent:∀ args w,(callFunc 22 args).run Try.prog w = .ok (.enter 22 args) w)
    (hc:Calls Try.prog 22 #[v8,.int .i64 (m7:Int)] w fun e w'=>∃ v,e = .returned v∧∃ x,v = .tuple #[x,.int .i64 390]∧Below w.heap.size w w')
    (h:∀ a' w',Below w.heap.size w w'→SameB D a a'→a'.eval (.tmp 16) = .int .i64 390→wpList Try.prog ops Q [] a' w'):wpList Try.prog ops Q [o1,o2,o3,o4,o5,o6,o7,o8,o9] a w:=by
  simp only [List.all_cons,List.all_nil,Bool.and_true,Bool.and_eq_true,decide_eq_true_eq] at hD
  obtain ⟨m1,m2,m3,m4,m5,m6,m7',m8,m9⟩:=hD
  obtain ⟨a1,ha1⟩:∃ a1,a1=a.put (some 100) v8:=⟨_,rfl⟩
  have S1:SameB D a a1:=ha1 ▸ (SameB.refl D a).put m1
  have z1:a1.tmps.size=198:=S1.1.trans hsz
  refine lw_v h1 (u:=v8) (w':=w) (by simp [execOp,h1.2.1,e8]) ?_
  rw [← ha1]
  have p1:a1.eval (.tmp 100)=v8:=by rw [ha1,ev_put _ _ _ _ (by omega),if_pos rfl]
  have p2:a1.eval (.tmp 7) = .slice b7 m7 c7:=by rw [ha1,ev_put _ _ _ _ (by omega),if_neg (by omega)];exact e7
  obtain ⟨a2,ha2⟩:∃ a2,a2=a1.put (some 101) (.slice b7 m7 c7):=⟨_,rfl⟩
  have S2:SameB D a a2:=ha2 ▸ S1.put m2
  have z2:a2.tmps.size=198:=S2.1.trans hsz
  refine lw_v h2 (u:=.slice b7 m7 c7) (w':=w) (by simp [execOp,h2.2.1,p2]) ?_
  rw [← ha2]
  have p3:a2.eval (.tmp 101) = .slice b7 m7 c7:=by rw [ha2,ev_put _ _ _ _ (by omega),if_pos rfl]
  have p1':a2.eval (.tmp 100)=v8:=by rw [ha2,ev_put _ _ _ _ (by omega),if_neg (by omega)];exact p1
  obtain ⟨a3,ha3⟩:∃ a3,a3=a2.put (some 102) (.int .i64 (m7:Int)):=⟨_,rfl⟩
  have S3:SameB D a a3:=ha3 ▸ S2.put m3
  have z3:a3.tmps.size=198:=S3.1.trans hsz
  refine lw_v h3 (u:=.int .i64 (m7:Int)) (w':=w) (by
    have:=Go.AE.run_len_slice (P:=Try.prog) (w:=w) (slE_spec sl22).1 o3.type b7 m7 c7
    simp [execOp,h3.2.1,Go.resolve,invoke,builtin,p3,this,Result.andThen]) ?_
  rw [← ha3]
  have p4:a3.eval (.tmp 102) = .int .i64 (m7:Int):=by rw [ha3,ev_put _ _ _ _ (by omega),if_pos rfl]
  have p5:a3.eval (.tmp 100)=v8:=by rw [ha3,ev_put _ _ _ _ (by omega),if_neg (by omega)];exact p1'
  have hfe:a3.eval (.func 22) = .func (.func 22) #[] #[]:=rfl
  refine lw_c h4 (R:=fun v w'=>∃ x,v = .tuple #[x,.int .i64 390]∧Below w.heap.size w w') (by
    simp only [execOp,h4.2.1,Go.resolve,Sem.run_bind,hfe,Deferred.ofValue,Sem.run_pure,Result.andThen_ok,invoke]
    simp [p4,p5,hent]) hc ?_
  rintro v w' ⟨x,rfl,hB⟩
  obtain ⟨a4,ha4⟩:∃ a4,a4=a3.put (some 103) (.tuple #[x,.int .i64 390]):=⟨_,rfl⟩
  rw [← ha4]
  have S4:SameB D a a4:=ha4 ▸ S3.put m4
  have z4:a4.tmps.size=198:=S4.1.trans hsz
  have p6:a4.eval (.tmp 103) = .tuple #[x,.int .i64 390]:=by rw [ha4,ev_put _ _ _ _ (by omega),if_pos rfl]
  obtain ⟨a5,ha5⟩:∃ a5,a5=a4.put (some 99) (.tuple #[x,.int .i64 390]):=⟨_,rfl⟩
  have S5:SameB D a a5:=ha5 ▸ S4.put m5
  have z5:a5.tmps.size=198:=S5.1.trans hsz
  refine lw_v h5 (u:=.tuple #[x,.int .i64 390]) (w':=w') (by simp [execOp,h5.2.1,p6]) ?_
  rw [← ha5]
  have p7:a5.eval (.tmp 99) = .tuple #[x,.int .i64 390]:=by rw [ha5,ev_put _ _ _ _ (by omega),if_pos rfl]
  obtain ⟨a6,ha6⟩:∃ a6,a6=a5.put (some 104) x:=⟨_,rfl⟩
  have S6:SameB D a a6:=ha6 ▸ S5.put m6
  have z6:a6.tmps.size=198:=S6.1.trans hsz
  refine lw_v h6 (u:=x) (w':=w') (by simp [execOp,h6.2.1,p7,Instr.extract]) ?_
  rw [← ha6]
  have p8:a6.eval (.tmp 99) = .tuple #[x,.int .i64 390]:=by rw [ha6,ev_put _ _ _ _ (by omega),if_neg (by omega)];exact p7
  have p9:a6.eval (.tmp 104)=x:=by rw [ha6,ev_put _ _ _ _ (by omega),if_pos rfl]
  obtain ⟨a7,ha7⟩:∃ a7,a7=a6.put (some 105) (.int .i64 390):=⟨_,rfl⟩
  have S7:SameB D a a7:=ha7 ▸ S6.put m7'
  have z7:a7.tmps.size=198:=S7.1.trans hsz
  refine lw_v h7 (u:=.int .i64 390) (w':=w') (by simp [execOp,h7.2.1,p8,Instr.extract]) ?_
  rw [← ha7]
  have p10:a7.eval (.tmp 105) = .int .i64 390:=by rw [ha7,ev_put _ _ _ _ (by omega),if_pos rfl]
  have p11:a7.eval (.tmp 104)=x:=by rw [ha7,ev_put _ _ _ _ (by omega),if_neg (by omega)];exact p9
  obtain ⟨a8,ha8⟩:∃ a8,a8=a7.put (some 15) x:=⟨_,rfl⟩
  have S8:SameB D a a8:=ha8 ▸ S7.put m8
  have z8:a8.tmps.size=198:=S8.1.trans hsz
  refine lw_v h8 (u:=x) (w':=w') (by simp [execOp,h8.2.1,p11]) ?_
  rw [← ha8]
  have p12:a8.eval (.tmp 105) = .int .i64 390:=by rw [ha8,ev_put _ _ _ _ (by omega),if_neg (by omega)];exact p10
  obtain ⟨a9,ha9⟩:∃ a9,a9=a8.put (some 16) (.int .i64 390):=⟨_,rfl⟩
  have S9:SameB D a a9:=ha9 ▸ S8.put m9
  refine lw_v h9 (u:=.int .i64 390) (w':=w') (by simp [execOp,h9.2.1,p12]) ?_
  rw [← ha9]
  exact h a9 w' hB S9 (by rw [ha9,ev_put _ _ _ _ (by omega),if_pos rfl])
end Go.Proofs.Ytkebegfopnlkhaa
/-
  ch. 39: SpoolBack: a flag is set, Lines is asked, the flag is taken back: memory is then as it was.
-/
set_option maxHeartbeats 2000000
set_option linter.unusedVariables false
set_option linter.unusedSimpArgs false
set_option maxRecDepth 100000
namespace Go.Proofs.Ytkebegfopnlkhaa
open Go.AE
open Go.RowKit (Below)
theorem trk_addr {w:World} {al:Nat→Prop} {v8:Value} {t:List (List TRec)} {i k:Nat} (h:RepC Try.prog w al (.slice 57) v8 (.slice (List.map e_LTRec t))) (hi:i < t.length) (hk:k < (t[i]).length) :
    ∃ B off c g o2 c2 cur tt zz,v8 = .slice (some ⟨B,off,none⟩) t.length c∧w.cell? ⟨B,off+i,none⟩=some (.slice (some ⟨g,o2,none⟩) (t[i]).length c2)∧w.heap[g]? = some (.cells cur tt zz)∧cur[o2+(k * 4+3)]? = some (.bool ((t[i])[k]).Bad)∧w.frozen? ⟨g,o2+(k * 4+3),none⟩=false∧al g:=by
  cases h with
  | empty _ _ a c h hz =>
    have:t=[]:=by simpa using h
    subst this;simp at hi
  | slice _ _ B off cap hz E hE ha hlen hcap hel f hcell hrep =>
    rw [ty57] at hE
    simp only [Option.some.injEq] at hE
    subst hE
    simp only [C.toSl_slice,List.length_map,List.length_cons,List.length_nil,Nat.zero_add,Nat.mul_one] at hcell hrep hlen hcap
    have c1:=cellN_cell (hcell i hi 0 (by omega))
    have r1:=hrep i hi 0 (by omega)
    rw [eg_m' _ _ _ hi] at r1
    have r1:RepC Try.prog w al (.slice 59) (f i 0) (.slice (List.map e_TRec t[i])):=r1
    generalize f i 0=u at c1 r1
    cases r1 with
    | empty _ _ a c h hz =>
      have:t[i]=[]:=by simpa using h
      rw [this] at hk;simp at hk
    | slice _ _ g o2 c2 hz E hE ha2 hlen2 hcap2 hel2 f2 hcell2 hrep2 =>
      rw [ty59] at hE
      simp only [Option.some.injEq] at hE
      subst hE
      simp only [C.toSl_slice,List.length_map,List.length_cons,List.length_nil,Nat.zero_add,Nat.reduceAdd] at hcell2 hrep2 hlen2 hcap2
      have c3:=hcell2 k hk 3 (by omega)
      have r3:=hrep2 k hk 3 (by omega)
      rw [eg_m' _ _ _ hk] at r3
      have r3:RepC Try.prog w al .bool (f2 k 3) (.bool ((t[i])[k]).Bad):=r3
      generalize f2 k 3=u at c3 r3
      cases r3 with
      | bool _ =>
        have c4:=cellN_cell c3
        have hfz:w.frozen? ⟨g,o2+(k * 4+3),none⟩=false:=by
          unfold cellN at c3
          split at c3
          · cases c3
          · rename_i h;simpa using h
        obtain ⟨cur,tt,zz,hg⟩:∃ cur tt zz,w.heap[g]? = some (.cells cur tt zz):=by
          unfold World.cell? at c4
          split at c4 <;> first | exact ⟨_,_,_,by assumption⟩ | cases c4
        rw [Lib.cell_of_heap hg] at c4
        exact ⟨B,off,cap,g,o2,c2,cur,tt,zz,by simp,by simpa using c1,hg,c4,hfz,ha2⟩
def unkTs:List Nat→(Nat→A)→Nat→A
  | [],tm=>tm
  | d :: ds,tm=>upd (unkTs ds tm) d .unk
theorem unkTs_at:∀ (ds:List Nat) (tm:Nat→A) (j:Nat),unkTs ds tm j=if j∈ds then .unk else tm j
  | [],tm,j=>by simp [unkTs]
  | d :: ds,tm,j=>by
    simp only [unkTs,upd,unkTs_at ds tm j,List.mem_cons]
    by_cases e:j=d
    · simp [e]
    · simp [e]
abbrev fragD:List Nat:=[92,93,94,95,96,97,98,100,101,102,103,99,104,105,15,106,107,108,109,110,111,112]
theorem SameB.sub {D D':List Nat} {a a':Act} (h:SameB D a a') (hs:∀ j∈D,j∈D'):SameB D' a a':=⟨h.1,h.2.1,fun j hj=>h.2.2 j fun h=>hj (hs j h)⟩
theorem SameB.trans {D:List Nat} {a b c:Act} (h:SameB D a b) (k:SameB D b c):SameB D a c:=⟨k.1.trans h.1,k.2.1.trans h.2.1,fun j hj=>(k.2.2 j hj).trans (h.2.2 j hj)⟩
theorem Sm.frag {kp:Nat} {rest:Code} {s:S} {Q:Exit→S→Prop} {p1 p2 p3 p4 p5 p6 p7 p8 q1 q2 q3 q4 q5 q6 q7 q8 q9 r1 r2 r3 r4 r5 r6 r7 r8:Oper} {i18 i19 i20:Nat} {at2:Array TypeId}
    (a1:IsOp p1 (some 92) (.move (.tmp 8))) (a2:IsOp p2 (some 93) (.move (.tmp 13))) (a3:IsOp p3 (some 94) (.indexAddr 26 (.tmp 92) (.tmp 93))) (a4:IsOp p4 (some 95) (.load 57 (.tmp 94)))
    (a5:IsOp p5 (some 96) (.move (.tmp 14))) (a6:IsOp p6 (some 97) (.indexAddr 57 (.tmp 95) (.tmp 96))) (a7:IsOp p7 (some 98) (.fieldAddr 59 (.tmp 97) 3)) (a8:IsOp p8 none (.store 4 (.tmp 98) (.const (.bool true))))
    (b1:IsOp q1 (some 100) (.move (.tmp 8))) (b2:IsOp q2 (some 101) (.move (.tmp 7))) (b3:IsOp q3 (some 102) (.call ⟨.builtin .len,#[.tmp 101],#[22]⟩)) (b4:IsOp q4 (some 103) (.call ⟨.value (.func 22),#[.tmp 100,.tmp 102],at2⟩))
    (b5:IsOp q5 (some 99) (.move (.tmp 103))) (b6:IsOp q6 (some 104) (.extract (.tmp 99) 0)) (b7:IsOp q7 (some 105) (.extract (.tmp 99) 1)) (b8:IsOp q8 (some 15) (.assign (.tmp 104))) (b9:IsOp q9 (some 16) (.assign (.tmp 105)))
    (c1:IsOp r1 (some 106) (.move (.tmp 8))) (c2:IsOp r2 (some 107) (.move (.tmp 13))) (c3:IsOp r3 (some 108) (.indexAddr 26 (.tmp 106) (.tmp 107))) (c4:IsOp r4 (some 109) (.load 57 (.tmp 108)))
    (c5:IsOp r5 (some 110) (.move (.tmp 14))) (c6:IsOp r6 (some 111) (.indexAddr 57 (.tmp 109) (.tmp 110))) (c7:IsOp r7 (some 112) (.fieldAddr 59 (.tmp 111) 3)) (c8:IsOp r8 none (.store 4 (.tmp 112) (.const (.bool false))))
    {t:List (List TRec)} {v:List TLine} {i k:Nat}
    (hf8:fitArg s.hp (false,[.slice 57]) (meltH s.hp (s.tm 8))=some [.slice (List.map e_LTRec t)]) (hf7:fitArg s.hp (false,[.slice 48]) (meltH s.hp (s.tm 7))=some [.slice (List.map e_TLine v)])
    (h13:s.tm 13 = .c (.int .i64) (.int (i:Int))) (h14:s.tm 14 = .c (.int .i64) (.int (k:Int))) (hi:i < t.length) (hk:k < (t[i]).length) (hbad:((t[i])[k]).Bad=false)
    (hent:∀ args w,(callFunc 22 args).run Try.prog w = .ok (.enter 22 args) w)
    (hL:∀ (w:World) (v8:Value) (t':List (List TRec)),RepC Try.prog w (fun b=>b < w.heap.size) (.slice 57) v8 (.slice (List.map e_LTRec t'))→flL t t'→(∀ (h1:i < t'.length) (h2:k < (t'[i]).length),((t'[i])[k]).Bad=true) →
      Calls Try.prog 22 #[v8,.int .i64 ((v.length:Nat):Int)] w fun e w'=>∃ u,e = .returned u∧∃ x,u = .tuple #[x,.int .i64 390]∧Below w.heap.size w w')
    (h:Sm Try.prog 198 kp rest ⟨upd (unkTs fragD s.tm) 16 (.c (.int .i64) (.int 390)),s.hp⟩ Q) :
    Sm Try.prog 198 kp (.seq (.region i18 #[p1,p2,p3,p4,p5,p6,p7,p8] false) (.seq (.region i19 #[q1,q2,q3,q4,q5,q6,q7,q8,q9] false) (.seq (.region i20 #[r1,r2,r3,r4,r5,r6,r7,r8] false) rest))) s Q:=by
  intro r w0 Q' a w hkp hr hd hR hQ
  obtain ⟨σ,hR⟩:=hR
  have nd:∀ {o:Oper} {d:Option Nat} {op:Op},IsOp o d op→(∀ c,op≠.defer c)→∀ c,o.op≠.defer c:=fun hi h c=>by rw [hi.2.1];exact h c
  have hsz:a.tmps.size=198:=hR.size
  -- what the temporaries hold
  have hx8:=meltH_rel hR (hR.tms 8)
  have hA8:=fitArg_sound (s:=⟨s.tm,meltHp s.hp⟩) h00 hR.melt (fun b hb=>hb.1) (fitArg_meltHp hf8) hx8 (fun id _ b hb=>(block_lt_of_bref (hR.melt.blks id) hb).1)
  have r8':RepC Try.prog w (fun b=>b < w.heap.size) (.slice 57) (a.eval (.tmp 8)) (.slice (List.map e_LTRec t)):=hA8.2.2
  have hx7:=meltH_rel hR (hR.tms 7)
  have hA7:=fitArg_sound (s:=⟨s.tm,meltHp s.hp⟩) h00 hR.melt (fun b hb=>hb.1) (fitArg_meltHp hf7) hx7 (fun id _ b hb=>(block_lt_of_bref (hR.melt.blks id) hb).1)
  have r7':RepC Try.prog w (fun b=>b < w.heap.size) (.slice 48) (a.eval (.tmp 7)) (.slice (List.map e_TLine v)):=hA7.2.2
  obtain ⟨B7,C7,e7⟩:∃ b c,a.eval (.tmp 7) = .slice b v.length c:=by
    generalize a.eval (.tmp 7)=u at r7'
    cases r7' with
    | empty _ _ a c h hz =>
      have e:v=[]:=by simpa using h
      subst e;exact ⟨a,c,rfl⟩
    | slice _ _ b off cap _ _ _ _ _ _ _ _ _ _=>exact ⟨some ⟨b,off,none⟩,cap,by simp⟩
  have e13:a.eval (.tmp 13) = .int .i64 (i:Int):=by
    have:=hR.tms 13
    rw [h13] at this
    show a.tmps.getD 13 undef=_
    generalize a.tmps.getD 13 undef=u at this
    cases this with
    | c _ _ _ h1=>cases h1 with
      | int _ _ _=>rfl
  have e14:a.eval (.tmp 14) = .int .i64 (k:Int):=by
    have:=hR.tms 14
    rw [h14] at this
    show a.tmps.getD 14 undef=_
    generalize a.tmps.getD 14 undef=u at this
    cases this with
    | c _ _ _ h1=>cases h1 with
      | int _ _ _=>rfl
  obtain ⟨B,off,c,g,o2,c2',cur,tt,zz,e8,hcB,hg,ho,hz0,hgs⟩:=trk_addr r8' hi hk
  rw [hbad] at ho
  have hol:=(Array.getElem?_eq_some_iff.1 ho).1
  -- the flag is set
  refine cw_seq (cw_region_list (by
    intro o ho c
    simp only [List.mem_cons,List.not_mem_nil,or_false] at ho
    rcases ho with rfl | rfl | rfl | rfl | rfl | rfl | rfl | rfl
    · exact nd a1 nofun c
    · exact nd a2 nofun c
    · exact nd a3 nofun c
    · exact nd a4 nofun c
    · exact nd a5 nofun c
    · exact nd a6 nofun c
    · exact nd a7 nofun c
    · exact nd a8 nofun c) ?_)
  refine flag_region (D:=fragD) a1 a2 a3 a4 a5 a6 a7 a8 (by rw [hsz];decide) (by decide) e8 e13 e14 hi hcB hk hg ho hz0 (fun x1 S1=>⟨by simp,?_⟩)
  show cwp r Try.prog _ Q' x1 _
  obtain ⟨w1,hw1⟩:∃ w1,w1=w.setCell ⟨g,o2+(k * 4+3),none⟩ (.bool true):=⟨_,rfl⟩
  rw [← hw1]
  have hs1:w1.heap.size=w.heap.size:=by rw [hw1];simp
  have hg1:w1.heap[g]? = some (.cells (cur.setIfInBounds (o2+(k * 4+3)) (.bool true)) tt zz):=by rw [hw1];exact setCell_at _ hg
  obtain ⟨t',hfl,hrep',hbk⟩:=fl_trks (bn:=true) hg ho hz0 r8'
  rw [← hw1] at hrep'
  have hb':=fun (h1:i < t'.length) (h2:k < (t'[i]).length)=>hbk B off t.length c i g o2 (t[i]).length c2' k e8 hcB h1 h2 rfl rfl
  have hrep1:RepC Try.prog w1 (fun b=>b < w1.heap.size) (.slice 57) (a.eval (.tmp 8)) (.slice (List.map e_LTRec t')):=hrep'.mono (fun _ _=>rfl) (fun b hb=>by rw [hs1];exact hb)
  have hcall:=hL w1 (a.eval (.tmp 8)) t' hrep1 hfl hb'
  -- Lines
  refine cw_seq (cw_region_list (by
    intro o ho c
    simp only [List.mem_cons,List.not_mem_nil,or_false] at ho
    rcases ho with rfl | rfl | rfl | rfl | rfl | rfl | rfl | rfl | rfl
    · exact nd b1 nofun c
    · exact nd b2 nofun c
    · exact nd b3 nofun c
    · exact nd b4 nofun c
    · exact nd b5 nofun c
    · exact nd b6 nofun c
    · exact nd b7 nofun c
    · exact nd b8 nofun c
    · exact nd b9 nofun c) ?_)
  refine lines_region (D:=16 :: fragD) b1 b2 b3 b4 b5 b6 b7 b8 b9 (by decide) (S1.1.trans hsz) ((S1.2.2 8 (by decide)).trans rfl) ((S1.2.2 7 (by decide)).trans e7) hent hcall (fun x2 w2 hB2 S2 e16=>⟨by simp,?_⟩)
  show cwp r Try.prog _ Q' x2 w2
  have S12:SameB (16 :: fragD) a x2:=(S1.sub fun j hj=>List.mem_cons_of_mem _ hj).trans S2
  -- the flag is taken back
  have hg2:w2.heap[g]? = some (.cells (cur.setIfInBounds (o2+(k * 4+3)) (.bool true)) tt zz):=(hB2.block g (by rw [hs1];exact hgs)).trans hg1
  have hf2:w2.frozen? ⟨g,o2+(k * 4+3),none⟩=false:=by
    have:w1.frozen? ⟨g,o2+(k * 4+3),none⟩=false:=by rw [hw1,frz_set hg];exact hz0
    unfold World.frozen? at this ⊢
    simp only [hg1] at this
    simp only [hg2]
    exact this
  have hBs:B < w.heap.size:=by
    have:=hcB
    unfold World.cell? at this
    rcases Nat.lt_or_ge B w.heap.size with q | q
    · exact q
    · rw [Array.getElem?_eq_none q] at this;cases this
  have hcB2:w2.cell? ⟨B,off+i,none⟩=some (.slice (some ⟨g,o2,none⟩) (t[i]).length c2'):=by
    have h1:w2.cell? ⟨B,off+i,none⟩=w1.cell? ⟨B,off+i,none⟩:=World.cell?_of_block (hB2.block B (by rw [hs1];exact hBs))
    rw [h1]
    by_cases e:B=g
    · subst e
      have hne:off+i≠o2+(k * 4+3):=fun e=>by
        rw [e,Lib.cell_of_heap hg,ho] at hcB;cases hcB
      rw [Lib.cell_of_heap hg1]
      rw [Lib.cell_of_heap hg] at hcB
      simp [Ne.symm hne,hcB]
    · rw [hw1]
      exact (World.cell?_of_block (heap_setCell_other w ⟨g,o2+(k * 4+3),none⟩ B _ e)).trans hcB
  refine cw_seq (cw_region_list (by
    intro o ho c
    simp only [List.mem_cons,List.not_mem_nil,or_false] at ho
    rcases ho with rfl | rfl | rfl | rfl | rfl | rfl | rfl | rfl
    · exact nd c1 nofun c
    · exact nd c2 nofun c
    · exact nd c3 nofun c
    · exact nd c4 nofun c
    · exact nd c5 nofun c
    · exact nd c6 nofun c
    · exact nd c7 nofun c
    · exact nd c8 nofun c) ?_)
  refine flag_region (D:=fragD) (b0:=true) c1 c2 c3 c4 c5 c6 c7 c8 (by rw [S12.1,hsz];decide) (by decide) ((S12.2.2 8 (by decide)).trans e8) ((S12.2.2 13 (by decide)).trans e13) ((S12.2.2 14 (by decide)).trans e14) hi hcB2 hk hg2 (by simp [hol]) hf2 (fun x3 S3=>⟨by simp,?_⟩)
  show cwp r Try.prog rest Q' x3 _
  obtain ⟨w3,hw3⟩:∃ w3,w3=w2.setCell ⟨g,o2+(k * 4+3),none⟩ (.bool false):=⟨_,rfl⟩
  rw [← hw3]
  have S13:SameB (16 :: fragD) a x3:=S12.trans (S3.sub fun j hj=>List.mem_cons_of_mem _ hj)
  have e16':x3.eval (.tmp 16) = .int .i64 390:=(S3.2.2 16 (by decide)).trans e16
  -- memory is as it was
  have hblk:∀ b,b < w.heap.size→w3.heap[b]? = w.heap[b]? := fun b hb=>by
    by_cases e:b=g
    · subst e
      rw [hw3,setCell_at _ hg2,hg]
      congr 2
      apply Array.ext_getElem?
      intro j
      simp only [Array.getElem?_setIfInBounds,Array.size_setIfInBounds]
      by_cases ej:o2+(k * 4+3)=j
      · subst ej
        simp [hol,ho]
        exact (Array.getElem?_eq_some_iff.1 ho).2.symm
      · simp [ej]
    · rw [hw3,heap_setCell_other w2 _ _ _ e,hB2.block b (by rw [hs1];exact hb),hw1,heap_setCell_other w _ _ _ e]
  have hbel:Below w.heap.size w w3:=by
    refine ⟨?_,?_,?_,?_,hblk⟩
    · rw [hw3];show w2.os=_;rw [hB2.os,hw1];rfl
    · rw [hw3];show w2.tape=_;rw [hB2.tape,hw1];rfl
    · rw [hw3];show w2.output=_;rw [hB2.output,hw1];rfl
    · have:=hB2.size
      rw [hw3];simp;omega
  have hnsz:w0.n≤w.heap.size:=hR.below.size
  have hal:∀ b,Al w0 w σ s.hp b→Al w0 w3 σ s.hp b:=fun b hb=>⟨Nat.lt_of_lt_of_le hb.1 hbel.size,hb.2.1,hb.2.2⟩
  have hR3:RelL Try.prog w0 198 σ ⟨s.tm,s.hp⟩ a.tmps w3:=hR.change (hR.below.then (hbel.mono hnsz)) hbel.size hal (fun b hb=>hbel.block b hb.1) (fun id _=>.inl rfl) (fun id=>.inl ⟨rfl,rfl,fun b hb=>hbel.block b (block_lt_of_bref (hR.blks id) hb).1⟩) (fun i j b hi hj=>hR.inj i j b hi hj)
  have hRx:RelL Try.prog w0 198 σ ⟨upd (unkTs fragD s.tm) 16 (.c (.int .i64) (.int 390)),s.hp⟩ x3.tmps w3:=by
    refine ⟨hR3.below,S13.1.trans hsz,fun j=>?_,hR3.blks,hR3.inj,hR3.keep,hR3.marks⟩
    show ARel _ _ _ _ (x3.tmps.getD j undef) (upd (unkTs fragD s.tm) 16 (.c (.int .i64) (.int 390)) j)
    unfold upd
    split
    · rename_i e
      subst e
      have:x3.tmps.getD 16 undef = .int .i64 390:=e16'
      rw [this]
      exact .c _ _ _ (.int .i64 (.int 390) (by unfold InR;decide))
    · rename_i e
      rw [unkTs_at]
      split
      · exact .unk _
      · rename_i e2
        have:x3.tmps.getD j undef=a.tmps.getD j undef:=S13.2.2 j (by simp only [List.mem_cons,not_or];exact ⟨e,by simpa using e2⟩)
        rw [this]
        exact hR3.tms j
  exact h r w0 Q' x3 w3 hkp hr (by rw [S13.2.1];exact hd) ⟨σ,hRx⟩ hQ
end Go.Proofs.Ytkebegfopnlkhaa
