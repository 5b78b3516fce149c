/- Text. -/
import Derived.Test.YtkebegfopnlkhaaSR
import Derived.Test.YtkebegfopnlkhaaSH
import Derived.Test.YtkebegfopnlkhaaSP2
set_option linter.unusedSimpArgs false
set_option linter.unusedVariables false
set_option maxHeartbeats 2000000
set_option maxRecDepth 100000
open _root_.Array renaming getElem?_eq_some_iff→ji
open _root_.List renaming getD_eq_getElem?_getD→ja,mem_iff_getElem→JD,length_map→jq,length_cons→jE,length_nil→jV,getElem?_eq_getElem→jA,getElem_mem→jm,getElem_map→JJ,mem_map→Jk
open _root_.Nat renaming eq_zero_or_pos→Jc,zero_add→jL,mul_one→JG,add_zero→j7
open _root_.Option.some renaming injEq→jb
open Go.Proofs.Try renaming prog→jd
namespace Go.Proofs.Ytkebegfopnlkhaa
open Go.AE
theorem list_of {α:Type} {n:Nat} {P:Nat→α→Prop} (h:∀ j,j < n→∃ y,P j y):∃ l:List α,l.length=n∧∀ j (hj:j < l.length),P j l[j]:=by
  induction n with
  | zero=>exact ⟨[],rfl,fun j hj=>by simp at hj⟩
  | succ n ih =>
    obtain ⟨l,hl,hP⟩:=ih fun j hj=>h j (by omega)
    obtain ⟨y,hy⟩:=h n (by omega)
    refine ⟨l ++ [y],by simp [hl],fun j hj=>?_⟩
    by_cases hjn:j < l.length
    · rw [List.getElem_append_left hjn];exact hP j hjn
    · have e:j=l.length:=by simp at hj;omega
      subst e
      simp only [List.getElem_append_right (Nat.le_refl _),Nat.sub_self,List.getElem_cons_zero]
      rw [hl];exact hy
theorem eg_m {α:Type} (e:α→List C) (l:List α) (i:Nat) (h:i < l.length):eg (List.map e l) i=e l[i]:=by
  simp [eg,ja,h]
theorem cellN_h {w:World} {b:Nat} {cs:Array Value} {t:TypeId} (hb:w.heap[b]? = some (.cells cs t (0,0))) (j:Nat):cellN w ⟨b,j,none⟩=cs[j]? := by
  unfold cellN
  rw [Lib.frozen_of_heap hb,Lib.cell_of_heap hb];rfl
abbrev AlN (W:World) (lo:Nat):Nat→Prop:=fun b=>lo≤b∧b < W.heap.size
theorem TB.read {W:World} {lo:Nat} {v:Value} (h:TB W lo v):∃ bs:List Int,bytS bs∧bs.length≤2000∧RepC jd W (AlN W lo) (.slice 5) v (.slice (List.map e_Int bs)):=by
  obtain ⟨a,n,c,rfl,h1,h2,h3⟩:=h
  rcases Jc n with rfl | hn
  · exact ⟨[],fun x hx=>by simp at hx,by simp,.empty 5 _ a c rfl nofun⟩
  · obtain ⟨b,off,cur,rfl,hb,hc,hj⟩:=h3 hn
    obtain ⟨bs,hl,hbs⟩:=list_of hj
    subst hl
    refine ⟨bs,fun x hx=>?_,h1,?_⟩
    · obtain ⟨j,hj,rfl⟩:=JD.1 hx
      exact (hbs j hj).2
    · have:=RepC.slice (P:=jd) (w:=W) (Al:=AlN W lo) 5 (.slice (List.map e_Int bs)) b off c nofun _ ty5 ⟨hb,(ji.1 hc).1⟩ (by simp;omega) (by simpa using h2) (fun i hi=>by
          simp only [C.toSl_slice,jq] at hi
          rw [C.toSl_slice,eg_m _ _ _ hi];rfl) (fun i j=>.int .u8 (bs.getD i 0)) (fun i hi j hj=>by
          simp only [C.toSl_slice,jq] at hi
          have:j=0:=by simpa using hj
          subst this
          rw [cellN_h hc]
          have:=(hbs i hi).1
          simp only [jE,jV,jL,JG,j7]
          rw [this,ja,jA hi];rfl) (fun i hi j hj=>by
          simp only [C.toSl_slice,jq] at hi
          have:j=0:=by simpa using hj
          subst this
          have hgd:bs.getD i 0=bs[i]:=by rw [ja,jA hi];rfl
          rw [C.toSl_slice,eg_m _ _ _ hi,hgd]
          refine .int .u8 (.int bs[i]) ?_
          have e1:IntKind.u8.min=0:=by decide
          have e2:IntKind.u8.max=255:=by decide
          have:=(hbs i hi).2
          show IntKind.u8.min≤bs[i]∧bs[i]≤IntKind.u8.max
          omega)
      simpa using this
def okTR (r:TRec):Prop:=(r.Data.length≤2000∧r.Key.length≤2000)∧bytS r.Data∧bytS r.Key
theorem TR.read {W:World} {lo b o:Nat} (h:TR W lo b o):∃ r:TRec,okTR r∧∃ g:Nat→Value,∀ j,j < 4→cellN W ⟨b,o+j,none⟩=some (g j)∧RepC jd W (AlN W lo) (([.int .i64,.slice 5,.slice 5,.bool]:List Kd).getD j .other) (g j) (cg (e_TRec r) j):=by
  obtain ⟨_,cur,hc,hf⟩:=h
  obtain ⟨_,f0,R,rfl,hR⟩:=hf 0 (by omega)
  obtain ⟨kv,f1,hk⟩:=hf 1 (by omega)
  obtain ⟨dv,f2,hd⟩:=hf 2 (by omega)
  obtain ⟨_,f3,bb,rfl⟩:=hf 3 (by omega)
  obtain ⟨ks,k1,k2,k3⟩:=TB.read hk
  obtain ⟨ds,d1,d2,d3⟩:=TB.read hd
  refine ⟨⟨R,ks,ds,bb⟩,⟨⟨d2,k2⟩,d1,k1⟩,fun j=>match j with | 0=>.int .i64 R | 1=>kv | 2=>dv | _=>.bool bb,fun j hj=>?_⟩
  match j,hj with
  | 0,_ =>
    refine ⟨(cellN_h hc _).trans f0,?_⟩
    refine .int .i64 (.int R) ?_
    have e1:IntKind.i64.min = -9223372036854775808:=by decide
    have e2:IntKind.i64.max=9223372036854775807:=by decide
    unfold inI at hR
    show IntKind.i64.min≤R∧R≤IntKind.i64.max
    omega
  | 1,_=>exact ⟨(cellN_h hc _).trans f1,k3⟩
  | 2,_=>exact ⟨(cellN_h hc _).trans f2,d3⟩
  | 3,_=>exact ⟨(cellN_h hc _).trans f3,.bool (.bool bb)⟩
theorem TT.read {W:World} {lo:Nat} {v:Value} (h:TT W lo v):∃ x:List TRec,(x.length≤300∧∀ r∈x,okTR r)∧RepC jd W (AlN W lo) (.slice 59) v (.slice (List.map e_TRec x)):=by
  obtain ⟨a,n,c,rfl,h1,h2,h3⟩:=h
  rcases Jc n with rfl | hn
  · exact ⟨[],⟨by simp,fun r hr=>by simp at hr⟩,.empty 59 _ a c rfl nofun⟩
  · obtain ⟨b,off,rfl,hb,hj⟩:=h3 hn
    obtain ⟨x,hl,hx⟩:=list_of fun j hjn=>TR.read (hj j hjn)
    have hsz:b < W.heap.size:=by
      obtain ⟨_,cur,hc,_⟩:=hj 0 hn
      exact (ji.1 hc).1
    subst hl
    obtain ⟨G,hG⟩:∃ G:Nat→Nat→Value,∀ i (hi:i < x.length),∀ j,j < 4→cellN W ⟨b,off+4 * i+j,none⟩=some (G i j)∧RepC jd W (AlN W lo) (([.int .i64,.slice 5,.slice 5,.bool]:List Kd).getD j .other) (G i j) (cg (e_TRec x[i]) j):=by
      have h4:∀ i,∃ g:Nat→Value,∀ (hi:i < x.length),∀ j,j < 4→cellN W ⟨b,off+4 * i+j,none⟩=some (g j)∧RepC jd W (AlN W lo) (([.int .i64,.slice 5,.slice 5,.bool]:List Kd).getD j .other) (g j) (cg (e_TRec x[i]) j):=fun i=>by
        by_cases hi:i < x.length
        · obtain ⟨_,g,hg⟩:=hx i hi
          exact ⟨g,fun _=>hg⟩
        · exact ⟨fun _=>undef,fun h=>absurd h hi⟩
      exact ⟨fun i=>(h4 i).choose,fun i hi=>(h4 i).choose_spec hi⟩
    refine ⟨x,⟨h1,fun r hr=>?_⟩,?_⟩
    · obtain ⟨j,hj,rfl⟩:=JD.1 hr
      exact (hx j hj).1
    · have:=RepC.slice (P:=jd) (w:=W) (Al:=AlN W lo) 59 (.slice (List.map e_TRec x)) b off c nofun _ ty59 ⟨hb,hsz⟩ (by simp;omega) (by simpa using h2) (fun i hi=>by
          simp only [C.toSl_slice,jq] at hi
          rw [C.toSl_slice,eg_m _ _ _ hi];rfl) G (fun i hi j hj=>by
          simp only [C.toSl_slice,jq] at hi
          have hj4:j < 4:=hj
          rw [← (hG i hi j hj4).1]
          congr 2
          simp only [jE,jV]
          omega) (fun i hi j hj=>by
          simp only [C.toSl_slice,jq] at hi
          have hj4:j < 4:=hj
          rw [C.toSl_slice,eg_m _ _ _ hi]
          exact (hG i hi j hj4).2)
      simpa using this
theorem TX.read {W:World} {lo:Nat} {v:Value} (h:TX 301 W lo v):∃ x:List (List TRec),okX x∧RepC jd W (AlN W lo) (.slice 57) v (.slice (List.map e_LTRec x)):=by
  obtain ⟨a,n,c,rfl,h1,h2,h3⟩:=h
  rcases Jc n with rfl | hn
  · exact ⟨[],⟨⟨by simp,fun r hr=>by simp at hr⟩,fun t ht=>by simp at ht⟩,.empty 57 _ a c rfl nofun⟩
  · obtain ⟨b,off,cur,rfl,hb,hc,hj⟩:=h3 hn
    obtain ⟨x,hl,hx⟩:∃ x:List (List TRec),x.length=n∧∀ j (hj:j < x.length),∃ tv,cur[off+j]? = some tv∧(x[j].length≤300∧∀ r∈x[j],okTR r)∧RepC jd W (AlN W lo) (.slice 59) tv (.slice (List.map e_TRec x[j])) :=
      list_of (P:=fun j (y:List TRec)=>∃ tv,cur[off+j]? = some tv∧(y.length≤300∧∀ r∈y,okTR r)∧RepC jd W (AlN W lo) (.slice 59) tv (.slice (List.map e_TRec y))) fun j hjn=>by
        obtain ⟨tv,q1,q2⟩:=hj j hjn
        obtain ⟨x,q3,q4⟩:=TT.read q2
        exact ⟨x,tv,q1,q3,q4⟩
    subst hl
    have hin:∀ t∈x,t.length≤300∧∀ r∈t,okTR r:=fun t ht=>by
      obtain ⟨j,hj,rfl⟩:=JD.1 ht
      obtain ⟨_,_,q,_⟩:=hx j hj
      exact q
    refine ⟨x,⟨⟨h1,fun t ht=>⟨(hin t ht).1,fun r hr=>((hin t ht).2 r hr).1⟩⟩,fun t ht r hr=>((hin t ht).2 r hr).2⟩,?_⟩
    have:=RepC.slice (P:=jd) (w:=W) (Al:=AlN W lo) 57 (.slice (List.map e_LTRec x)) b off c nofun _ ty57 ⟨hb,(ji.1 hc).1⟩ (by simp;omega) (by simpa using h2) (fun i hi=>by
        simp only [C.toSl_slice,jq] at hi
        rw [C.toSl_slice,eg_m _ _ _ hi];rfl) (fun i j=>(cur[off+i]?).getD undef) (fun i hi j hj=>by
        simp only [C.toSl_slice,jq] at hi
        have:j=0:=by simpa using hj
        subst this
        obtain ⟨tv,q1,_⟩:=hx i hi
        rw [cellN_h hc]
        simp only [jE,jV,jL,JG,j7]
        rw [q1];rfl) (fun i hi j hj=>by
        simp only [C.toSl_slice,jq] at hi
        have:j=0:=by simpa using hj
        subst this
        obtain ⟨tv,q1,_,q2⟩:=hx i hi
        rw [C.toSl_slice,eg_m _ _ _ hi,q1]
        exact q2)
    simpa using this
theorem byts_of {w:World} {al:Nat→Prop} {v:Value} {b:List Int} (hal:∀ b,al b→b < w.heap.size) (h:RepC jd w al (.slice 5) v (.slice (List.map e_Int b))):∃ a c,v = .slice a b.length c∧Byts w a b∧∀ x∈b,0≤x∧x≤255:=by
  cases h with
  | empty _ _ a c h hz =>
    have:b=[]:=by simpa using h
    subst this
    exact ⟨a,c,rfl,fun h=>by simp at h,fun x hx=>by simp at hx⟩
  | slice _ _ g off cap hz E hE ha hlen hcap hel f hcell hrep =>
    rw [ty5] at hE
    simp only [jb] at hE
    subst hE
    simp only [C.toSl_slice,jq,jE,jV,jL,JG] at hcell hrep
    have hq:∀ i (hi:i < b.length),cellN w ⟨g,off+i,none⟩=some (.int .u8 b[i])∧0≤b[i]∧b[i]≤255:=fun i hi=>by
      have h1:=hcell i hi 0 (by omega)
      have h2:=hrep i hi 0 (by omega)
      rw [eg_m _ _ _ hi] at h2
      generalize hff:f i 0=u at h1 h2
      have h2:RepC jd w al (.int .u8) u (.int b[i]):=h2
      cases h2 with
      | int _ _ hr =>
        have e1:IntKind.u8.min=0:=by decide
        have e2:IntKind.u8.max=255:=by decide
        simp only [C.toInt_int,InR] at hr
        exact ⟨h1,by omega,by omega⟩
    refine ⟨some ⟨g,off,none⟩,cap,by simp,fun _=>⟨g,off,rfl,hal g ha,fun j hj=>?_⟩,fun x hx=>?_⟩
    · have:=cellN_cell (hq j hj).1
      rw [this,ja,jA hj];rfl
    · obtain ⟨j,hj,rfl⟩:=JD.1 hx
      exact (hq j hj).2
def toRc (r:TRec):Rc:=(r.R,r.Key,r.Data,r.Bad)
theorem rcs_of {w:World} {al:Nat→Prop} {v:Value} {x:List TRec} (hal:∀ b,al b→b < w.heap.size) (h:RepC jd w al (.slice 59) v (.slice (List.map e_TRec x))) (hz:∀ r∈x,r.Data.length≤2000∧r.Key.length≤2000):∃ a c,v = .slice a x.length c∧RcSrc w a (x.map toRc)∧∀ r∈x,okRc (toRc r):=by
  cases h with
  | empty _ _ a c h hz =>
    have:x=[]:=by simpa using h
    subst this
    exact ⟨a,c,rfl,fun h=>by simp at h,fun r hr=>by simp at hr⟩
  | slice _ _ g off cap hz' E hE ha hlen hcap hel f hcell hrep =>
    rw [ty59] at hE
    simp only [jb] at hE
    subst hE
    simp only [C.toSl_slice,jq,jE,jV,jL,Nat.reduceAdd] at hcell hrep
    have hq:∀ i (hi:i < x.length),∃ ka kc da dc,cellN w ⟨g,off+(i * 4+0),none⟩=some (.int .i64 x[i].R)∧cellN w ⟨g,off+(i * 4+1),none⟩=some (.slice ka x[i].Key.length kc)∧cellN w ⟨g,off+(i * 4+2),none⟩=some (.slice da x[i].Data.length dc)∧cellN w ⟨g,off+(i * 4+3),none⟩=some (.bool x[i].Bad)∧Byts w ka x[i].Key∧Byts w da x[i].Data∧okRc (toRc x[i]):=fun i hi=>by
      have c0:=hcell i hi 0 (by omega)
      have c1:=hcell i hi 1 (by omega)
      have c2:=hcell i hi 2 (by omega)
      have c3:=hcell i hi 3 (by omega)
      have r0:=hrep i hi 0 (by omega)
      have r1:=hrep i hi 1 (by omega)
      have r2:=hrep i hi 2 (by omega)
      have r3:=hrep i hi 3 (by omega)
      rw [eg_m _ _ _ hi] at r0 r1 r2 r3
      obtain ⟨ka,kc,k1,k2,k3⟩:=byts_of hal (show RepC jd w al (.slice 5) (f i 1) (.slice (List.map e_Int x[i].Key)) from r1)
      obtain ⟨da,dc,d1,d2,d3⟩:=byts_of hal (show RepC jd w al (.slice 5) (f i 2) (.slice (List.map e_Int x[i].Data)) from r2)
      rw [k1] at c1
      rw [d1] at c2
      generalize f i 0=u0 at c0 r0
      generalize f i 3=u3 at c3 r3
      have r0:RepC jd w al (.int .i64) u0 (.int x[i].R):=r0
      have r3:RepC jd w al .bool u3 (.bool x[i].Bad):=r3
      obtain ⟨z1,z2⟩:=hz _ (jm hi)
      cases r0 with
      | int _ _ hr =>
        cases r3 with
        | bool _ =>
          have e1:IntKind.i64.min = -9223372036854775808:=by decide
          have e2:IntKind.i64.max=9223372036854775807:=by decide
          simp only [C.toInt_int,InR] at hr
          exact ⟨ka,kc,da,dc,c0,c1,c2,c3,k2,d2,⟨by show -9223372036854775808≤x[i].R;omega,by show x[i].R≤9223372036854775807;omega⟩,⟨z2,k3⟩,⟨z1,d3⟩⟩
    refine ⟨some ⟨g,off,none⟩,cap,by simp,fun _=>⟨g,off,rfl,hal g ha,fun j hj=>?_⟩,fun r hr=>?_⟩
    · rw [jq] at hj
      obtain ⟨ka,kc,da,dc,c0,c1,c2,c3,k2,d2,_⟩:=hq j hj
      simp only [JJ,toRc]
      exact ⟨ka,kc,da,dc,cellN_cell c0,cellN_cell c1,cellN_cell c2,cellN_cell c3,k2,d2⟩
    · obtain ⟨j,hj,rfl⟩:=JD.1 hr
      obtain ⟨_,_,_,_,_,_,_,_,_,_,q⟩:=hq j hj
      exact q
end Go.Proofs.Ytkebegfopnlkhaa
/-
  ch. 39: Spoil's contract: its answer is new data of the form of tracks.
-/
namespace Go.Proofs.Ytkebegfopnlkhaa
open Go.AE
theorem tks_of {w:World} {al:Nat→Prop} {v:Value} {u:List (List TRec)} (hal:∀ b,al b→b < w.heap.size) (h:RepC jd w al (.slice 57) v (.slice (List.map e_LTRec u))) (hz:∀ t∈u,∀ r∈t,r.Data.length≤2000∧r.Key.length≤2000):∃ a c,v = .slice a u.length c∧TkSrc w a (u.map fun x=>x.map toRc)∧∀ t∈u,∀ r∈t,okRc (toRc r):=by
  cases h with
  | empty _ _ a c h hz =>
    have:u=[]:=by simpa using h
    subst this
    exact ⟨a,c,rfl,fun h=>by simp at h,fun r hr=>by simp at hr⟩
  | slice _ _ g off cap hz' E hE ha hlen hcap hel f hcell hrep =>
    rw [ty57] at hE
    simp only [jb] at hE
    subst hE
    simp only [C.toSl_slice,jq,jE,jV,jL,JG] at hcell hrep
    have hq:∀ i (hi:i < u.length),∃ ta tc,cellN w ⟨g,off+i,none⟩=some (.slice ta u[i].length tc)∧RcSrc w ta (u[i].map toRc)∧∀ r∈u[i],okRc (toRc r):=fun i hi=>by
      have c0:=hcell i hi 0 (by omega)
      have r0:=hrep i hi 0 (by omega)
      rw [eg_m _ _ _ hi] at r0
      obtain ⟨ta,tc,k1,k2,k3⟩:=rcs_of hal (show RepC jd w al (.slice 59) (f i 0) (.slice (List.map e_TRec u[i])) from r0) (hz _ (jm hi))
      rw [k1] at c0
      exact ⟨ta,tc,c0,k2,k3⟩
    refine ⟨some ⟨g,off,none⟩,cap,by simp,fun _=>⟨g,off,rfl,hal g ha,fun j hj=>?_⟩,fun t ht=>?_⟩
    · rw [jq] at hj
      obtain ⟨ta,tc,c0,k2,_⟩:=hq j hj
      simp only [JJ,jq]
      exact ⟨ta,tc,cellN_cell c0,k2⟩
    · obtain ⟨j,hj,rfl⟩:=JD.1 ht
      obtain ⟨_,_,_,_,q⟩:=hq j hj
      exact q
theorem u8_of {w:World} {al:Nat→Prop} {v:Value} {a:Int} (h:RepC jd w al (.int .u8) v (.int a)):v = .int .u8 a∧0≤a∧a < 256:=by
  cases h with
  | int _ _ hr =>
    have e1:IntKind.u8.min=0:=by decide
    have e2:IntKind.u8.max=255:=by decide
    simp only [C.toInt_int,InR] at hr
    exact ⟨rfl,by omega,by omega⟩
theorem spoil_E:CallsE jd 16 psS preS (.slice 57) okC where
  enter:=fun args w=>enters_of Try.func16 (by kernel_rfl) rfl args w
  calls:=by
    intro w vs cs hvl hcl hargs hpre
    obtain ⟨u,a,h,b,rfl,hsz⟩:=hpre
    match vs,hvl with
    | [v0,v1,v2,v3],_ =>
      have h0:=(hargs 0 (by decide)).2.2
      have h1:=(hargs 1 (by decide)).2.2
      have h2:=(hargs 2 (by decide)).2.2
      have h3:=(hargs 3 (by decide)).2.2
      obtain ⟨a0,c0,e0,hT,hR⟩:=tks_of (fun b hb=>hb) (show RepC jd w _ (.slice 57) v0 (.slice (List.map e_LTRec u)) from h0) (fun t ht r hr=>(hsz.2 t ht).2 r hr)
      obtain ⟨e1,r1⟩:=u8_of (show RepC jd w _ (.int .u8) v1 (.int a) from h1)
      obtain ⟨e2,r2⟩:=u8_of (show RepC jd w _ (.int .u8) v2 (.int h) from h2)
      obtain ⟨e3,r3⟩:=u8_of (show RepC jd w _ (.int .u8) v3 (.int b) from h3)
      subst e0 e1 e2 e3
      have hS:=Spoil_raw (u.map fun x=>x.map toRc) a0 c0 a h b w hT (by rw [jq];exact hsz.1) (fun x hx=>by
        obtain ⟨t,ht,rfl⟩:=Jk.1 hx
        refine ⟨by rw [jq];exact (hsz.2 t ht).1,fun r hr=>?_⟩
        obtain ⟨q,hq,rfl⟩:=Jk.1 hr
        exact hR t ht q hq) r1 r2 r3
      rw [jq] at hS
      refine Calls.mono hS ?_
      rintro e w' ⟨v,rfl,hB,hX⟩
      obtain ⟨x,hx,hr⟩:=TX.read hX
      exact ⟨v,_,rfl,hB,⟨x,rfl,hx⟩,hr⟩
theorem claw39_SpoolReads' (n:Nat):Contract jd (xlaw39_SpoolReads n):=claw39_SpoolReads n spoil_E
end Go.Proofs.Ytkebegfopnlkhaa
