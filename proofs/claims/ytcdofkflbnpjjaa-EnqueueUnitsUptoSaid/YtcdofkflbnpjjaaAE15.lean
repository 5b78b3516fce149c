/- Text. -/
import Derived.Test.YtcdofkflbnpjjaaAE14
import Derived.Deep.Slices
import Derived.OpenShut
import Derived.Carry
set_option linter.unusedVariables false
namespace Go.AE
open Go.RowKit (Below)
open Go.ChangeShapes
variable {P:Program} {w:World} {al:Nat→Prop}
def litC:Lit→C
  | .bool b=>.bool b
  | .int _ n=>.int n
  | .string s=>.str s
  | _=>.z
mutual
def flatD {H:Type}:DataW H→List C
  | .lit l=>[litC l]
  | .nil=>[.slice []]
  | .slice es _=>[.slice (flats es)]
  | .agg ps=>(flats ps).flatten
  | _=>[.z]
def flats {H:Type}:List (DataW H)→List (List C)
  | []=>[]
  | d :: ds=>flatD d :: flats ds
end
mutual
def bulk {H:Type}:DataW H→Nat
  | .lit (.string bytes)=>bytes.length+1
  | .lit _=>1
  | .nil=>1
  | .ptr d=>bulk d+1
  | .slice elems spare=>bulkAll elems+bulkAll spare+1
  | .agg parts=>bulkAll parts+1
  | .iface _ d=>bulk d+1
  | .map _=>1
  | .held _=>1
def bulkAll {H:Type}:List (DataW H)→Nat
  | []=>0
  | d :: r=>bulk d+bulkAll r
end
mutual
def cb:C→Nat
  | .str s=>s.length+1
  | .slice es=>cbss es+es.length+1
  | _=>1
def cbs:List C→Nat
  | []=>0
  | c :: cs=>cb c+cbs cs
def cbss:List (List C)→Nat
  | []=>0
  | x :: xs=>cbs x+cbss xs
end
theorem cbs_append (xs ys:List C):cbs (xs ++ ys)=cbs xs+cbs ys:=by
  induction xs with
  | nil=>simp [cbs]
  | cons x xs ih=>simp [cbs,ih];omega
theorem cbs_flatten (xs:List (List C)):cbs xs.flatten=cbss xs:=by
  induction xs with
  | nil=>simp [cbs,cbss]
  | cons x xs ih=>simp [cbss,cbs_append,ih]
theorem flats_length {H:Type} (ds:List (DataW H)):(flats ds).length=ds.length:=by
  induction ds with
  | nil=>simp [flats]
  | cons d ds ih=>simp [flats,ih]
theorem flats_getD {H:Type} (ds:List (DataW H)) (i:Nat) (hi:i < ds.length):eg (flats ds) i=flatD ds[i]:=by
  induction ds generalizing i with
  | nil=>simp at hi
  | cons d ds ih =>
    cases i with
    | zero=>simp [flats,eg]
    | succ i=>simpa [flats,eg] using ih i (by simpa using hi)
mutual
theorem cbs_flat {H:Type}:∀ d:DataW H,cbs (flatD d)+1≤2 * bulk d
  | .lit l=>by cases l <;> simp [flatD,litC,cbs,cb,bulk] <;> omega
  | .nil=>by simp [flatD,cbs,cb,cbss,bulk]
  | .ptr d=>by simp [flatD,cbs,cb,bulk];omega
  | .slice es sp=>by
    have:=cbss_flats es
    simp [flatD,cbs,cb,bulk,flats_length];omega
  | .agg ps=>by
    have:=cbss_flats ps
    simp [flatD,cbs_flatten,bulk];omega
  | .iface n d=>by simp [flatD,cbs,cb,bulk];omega
  | .map es=>by simp [flatD,cbs,cb,bulk]
  | .held h=>by simp [flatD,cbs,cb,bulk]
theorem cbss_flats {H:Type}:∀ ds:List (DataW H),cbss (flats ds)+ds.length≤2 * bulkAll ds
  | []=>by simp [flats,cbss,bulkAll]
  | d :: ds=>by
    have:=cbs_flat d
    have:=cbss_flats ds
    simp [flats,cbss,bulkAll];omega
end
def okFs (P:Program) (ok:TypeId→Bool) (total:Nat):Nat→List Field→Bool
  | acc,[]=>acc == total
  | acc,f :: fs=>f.offset == acc && (ok f.type && okFs P ok total (acc+P.cellsOf f.type) fs)
def okF (P:Program):Nat→TypeId→Bool
  | 0,_=>false
  | n+1,t=>match P.underlying t with
    | some .bool=>true
    | some (.int _)=>true
    | some .string=>true
    | some (.slice e)=>(tyI P e).isSome && okF P n e
    | some (.struct fs)=>okFs P (okF P n) (P.cellsOf t) 0 fs.toList
    | _=>false
theorem cells?_at {base n:Nat} {a:Addr} {cs:List Value} (h:w.cells? base a n=some cs):cs.length=n∧∀ j,j < n→w.cell? (a.add j)=some (cs.getD j undef):=by
  unfold World.cells? at h
  split at h
  · refine ⟨by simpa using mapM_some_length h,fun j hj=>?_⟩
    have:=mapM_some_get h j j (by simp [hj])
    have hl:cs.length=n:=by simpa using mapM_some_length h
    rw [this]
    simp [List.getD_eq_getElem?_getD,show j < cs.length by omega]
  · cases h
theorem cellsOf_tyI {t:TypeId} {T:TyI} (h:tyI P t=some T):P.cellsOf t=T.kinds.length:=by
  obtain ⟨S⟩:=tyI_spec h
  simp [Program.cellsOf,S.info,S.size]
inductive Can (P:Program):Kd→C→Prop
  | bool (b:Bool):Can P .bool (.bool b)
  | int (k:IntKind) (n:Int) (h:InR k n):Can P (.int k) (.int n)
  | str (s:List UInt8):Can P .str (.str s)
  | nil (t:TypeId):Can P (.slice t) (.slice [])
  | slice (t:TypeId) (es:List (List C)) (E:TyI) (hE:tyI P t=some E) (hl:∀ i,i < es.length→(eg es i).length=E.kinds.length)
      (h:∀ i,i < es.length→∀ j,j < E.kinds.length→Can P (E.kinds.getD j .other) (cg (eg es i) j)):Can P (.slice t) (.slice es)
def FlatRep (P:Program) (w:World) (ks:List Kd) (cs:List Value) (xs:List C):Prop :=
  xs.length=ks.length∧cs.length=ks.length∧∀ j,j < ks.length→RepC P w (fun b=>b < w.heap.size) (ks.getD j .other) (cs.getD j undef) (cg xs j)∧Can P (ks.getD j .other) (cg xs j)
theorem getD_append_lt {α:Type} (l m:List α) (j:Nat) (d:α) (h:j < l.length):(l ++ m).getD j d=l.getD j d:=by
  simp [List.getD_eq_getElem?_getD,List.getElem?_append_left h]
theorem getD_append_ge {α:Type} (l m:List α) (j:Nat) (d:α) (h:l.length≤j):(l ++ m).getD j d=m.getD (j - l.length) d:=by
  simp [List.getD_eq_getElem?_getD,List.getElem?_append_right h]
theorem FlatRep.append {ks ks':List Kd} {cs cs':List Value} {xs xs':List C} (h:FlatRep P w ks cs xs) (h':FlatRep P w ks' cs' xs'):FlatRep P w (ks ++ ks') (cs ++ cs') (xs ++ xs'):=by
  obtain ⟨a1,a2,a3⟩:=h
  obtain ⟨b1,b2,b3⟩:=h'
  refine ⟨by simp [a1,b1],by simp [a2,b2],fun j hj=>?_⟩
  by_cases hlt:j < ks.length
  · rw [getD_append_lt _ _ _ _ hlt,getD_append_lt _ _ _ _ (by omega)]
    have e:cg (xs ++ xs') j=cg xs j:=getD_append_lt _ _ _ _ (by omega)
    rw [e];exact a3 j hlt
  · have hge:ks.length≤j:=by omega
    rw [getD_append_ge _ _ _ _ hge,getD_append_ge _ _ _ _ (by omega)]
    have e:cg (xs ++ xs') j=cg xs' (j - ks.length):=by
      rw [← a1];exact getD_append_ge _ _ _ _ (by omega)
    rw [e,a2]
    simp only [List.length_append] at hj
    exact b3 _ (by omega)
theorem bulkAll_le {H:Type} {d:DataW H}:∀ {ds:List (DataW H)},d∈ds→bulk d≤bulkAll ds
  | [],h=>by simp at h
  | e :: ds,h=>by
    simp only [bulkAll]
    rcases List.mem_cons.1 h with rfl | h
    · omega
    · have:=bulkAll_le h;omega
theorem bulk_pos {H:Type} (d:DataW H):1≤bulk d:=by
  cases d with
  | lit l=>cases l <;> simp [bulk]
  | _=>simp [bulk]
theorem length_bulkAll {H:Type}:∀ ds:List (DataW H),ds.length≤bulkAll ds
  | []=>by simp
  | d :: ds=>by
    have:=length_bulkAll ds
    have:=bulk_pos d
    simp only [bulkAll,List.length_cons];omega
theorem fields_rep {H:Type} {enc:TypeId×Value→H} {base:Nat} {sp:Nat→Bool} {hd:Bool} {total m fuel M:Nat} {ok:TypeId→Bool} {cs:List Value}
    (ih:∀ t ks cs' (d:DataW H) ps,ok t=true→kindsF P m t=some ks→DataW.trod enc P w base sp hd fuel t cs'=some (d,ps)→bulk d≤M→w.noneFrozen ps→FlatRep P w ks cs' (flatD d)) :
    ∀ (fs:List Field) (acc:Nat) (kss:List (List Kd)) (xs:List (DataW H×List MemPlace)),okFs P ok total acc fs=true→fs.mapM (fun f=>kindsF P m f.type)=some kss→xs.length=fs.length →
      (∀ (i:Nat) (f:Field),fs[i]? = some f→DataW.trod enc P w base sp hd fuel f.type ((cs.drop f.offset).take (P.cellsOf f.type))=xs[i]?)→bulkAll (xs.map (·.1))≤M→cs.length=total→(∀ x∈xs,w.noneFrozen x.2) →
      FlatRep P w kss.flatten (cs.drop acc) (flats (xs.map (·.1))).flatten
  | [],acc,kss,xs,hok,hk,hx,ht,hb,hcs,hz=>by
    simp only [List.mapM_nil,Option.pure_def,Option.some.injEq] at hk
    subst hk
    have:xs=[]:=List.eq_nil_of_length_eq_zero (by simpa using hx)
    subst this
    simp only [okFs,beq_iff_eq] at hok
    refine ⟨by simp [flats],by simp;omega,fun j hj=>by simp at hj⟩
  | f :: fs,acc,kss,xs,hok,hk,hx,ht,hb,hcs,hz=>by
    simp only [okFs,Bool.and_eq_true,beq_iff_eq] at hok
    obtain ⟨ho,h1,h2⟩:=hok
    cases xs with
    | nil=>simp at hx
    | cons x xs =>
      rw [List.mapM_cons] at hk
      cases hkf:kindsF P m f.type with
      | none=>simp [hkf] at hk
      | some ks =>
        cases hkr:fs.mapM (fun f=>kindsF P m f.type) with
        | none=>simp [hkf,hkr] at hk
        | some kr =>
          simp [hkf,hkr] at hk
          subst hk
          simp only [List.map_cons,bulkAll] at hb
          have t0:=ht 0 f rfl
          simp only [List.getElem?_cons_zero] at t0
          rw [ho] at t0
          have r0:=ih f.type ks _ x.1 x.2 h1 hkf t0 (by omega) (hz x (by simp))
          have r1:=fields_rep ih fs (acc+P.cellsOf f.type) kr xs h2 hkr (by simpa using hx) (fun i g hg=>by simpa using ht (i+1) g (by simpa using hg)) (by omega) hcs (fun y hy=>hz y (by simp [hy]))
          have e:cs.drop acc=(cs.drop acc).take (P.cellsOf f.type) ++ cs.drop (acc+P.cellsOf f.type):=by
            rw [← List.drop_drop];exact (List.take_append_drop _ _).symm
          rw [e]
          simp only [List.flatten_cons,List.map_cons,flats]
          exact r0.append r1
theorem FlatRep.one {k:Kd} {v:Value} {x:C} (h:RepC P w (fun b=>b < w.heap.size) k v x) (hc:Can P k x):FlatRep P w [k] [v] [x] :=
  ⟨rfl,rfl,fun j hj=>by
    have:j=0:=by simpa using hj
    subst this;exact ⟨h,hc⟩⟩
theorem read_rep {H:Type} {enc:TypeId×Value→H} {base:Nat} {sp:Nat→Bool} {hd:Bool}:∀ (n:Nat) (t:TypeId) (m fuel:Nat) (ks:List Kd) (cs:List Value) (d:DataW H) (ps:List MemPlace),
    okF P n t=true→kindsF P m t=some ks→DataW.trod enc P w base sp hd fuel t cs=some (d,ps)→bulk d≤1048576→w.noneFrozen ps→FlatRep P w ks cs (flatD d)
  | 0,t,m,fuel,ks,cs,d,ps,hok,hk,ht,hb,hz=>by simp [okF] at hok
  | n+1,t,0,fuel,ks,cs,d,ps,hok,hk,ht,hb,hz=>by simp [kindsF] at hk
  | n+1,t,m+1,0,ks,cs,d,ps,hok,hk,ht,hb,hz=>by simp [DataW.trod] at ht
  | n+1,t,m+1,fuel+1,ks,cs,d,ps,hok,hk,ht,hb,hz=>by
    cases hu:P.underlying t with
    | none=>simp [okF,hu] at hok
    | some D =>
      cases D with
      | bool =>
        simp only [kindsF,hu,Option.some.injEq] at hk;subst hk
        unfold DataW.trod at ht
        rw [hu] at ht
        split at ht <;> simp_all
        obtain ⟨rfl,rfl⟩:=ht
        exact FlatRep.one (.bool (.bool _)) (.bool _)
      | int k =>
        simp only [kindsF,hu,Option.some.injEq] at hk;subst hk
        unfold DataW.trod at ht
        rw [hu] at ht
        split at ht <;> simp_all
        obtain ⟨⟨rfl,hw⟩,rfl,rfl⟩:=ht
        simp only [Lit.wf,Bool.and_eq_true,decide_eq_true_eq] at hw
        exact FlatRep.one (.int _ (.int _) hw) (.int _ _ hw)
      | string =>
        simp only [kindsF,hu,Option.some.injEq] at hk;subst hk
        unfold DataW.trod at ht
        rw [hu] at ht
        split at ht <;> simp_all
        obtain ⟨hw,rfl,rfl⟩:=ht
        rename_i s
        refine FlatRep.one (.str (.str s.data.toList) ?_) (.str _)
        simpa [maxLen] using hw
      | struct fs =>
        simp only [kindsF,hu,Option.map_eq_some_iff] at hk
        obtain ⟨kss,hkss,rfl⟩:=hk
        simp only [okF,hu] at hok
        obtain ⟨xs,n',hf,hx,hcs,hxl,hel⟩:=DataW.trod_struct hu ht
        simp only [Nat.add_right_cancel_iff] at hf
        subst hf
        simp only [Prod.mk.injEq] at hx
        obtain ⟨rfl,rfl⟩:=hx
        simp only [bulk] at hb
        have:=fields_rep (M:=1048576) (fun t ks cs' d ps h1 h2 h3 h4 h5=>read_rep n t m fuel ks cs' d ps h1 h2 h3 h4 h5) fs.toList 0 kss xs hok hkss (by simpa using hxl)
          (fun i f hf=>hel i f (by simpa using hf)) (by omega) hcs (fun x hx b off h=>hz b off (List.mem_flatMap.2 ⟨x,hx,h⟩))
        simpa [flatD] using this
      | slice e =>
        simp only [kindsF,hu,Option.some.injEq] at hk;subst hk
        simp only [okF,hu,Bool.and_eq_true] at hok
        obtain ⟨hE,hok⟩:=hok
        obtain ⟨E,hE⟩:=Option.isSome_iff_exists.1 hE
        obtain ⟨S⟩:=tyI_spec hE
        rcases DataW.trod_slice hu ht with ⟨rfl,hx⟩ | ⟨a,len,cap,elems,rest,n',hf,rfl,hx,hbs,hl,hm,hlen,hel,_,_⟩
        · simp only [Prod.mk.injEq] at hx
          obtain ⟨rfl,rfl⟩:=hx
          exact FlatRep.one (.empty e (.slice []) none 0 rfl nofun) (.nil e)
        · simp only [Nat.add_right_cancel_iff] at hf
          subst hf
          simp only [Prod.mk.injEq] at hx
          obtain ⟨rfl,rfl⟩:=hx
          simp only [bulk] at hb
          have hL:(flats (elems.map (·.1))).length=len:=by rw [flats_length];simpa using hlen
          have hbl:len≤1048576:=by
            have:=length_bulkAll (elems.map (·.1))
            simp only [List.length_map] at this;omega
          -- an element
          have el:∀ i,i < len→∃ cs',w.cells? base (a.add (i * P.cellsOf e)) (P.cellsOf e)=some cs'∧FlatRep P w E.kinds cs' (eg (flats (elems.map (·.1))) i):=by
            intro i hi
            have hi':i < elems.length:=by omega
            have h0:=hel i hi
            rw [List.getElem?_eq_getElem hi'] at h0
            obtain ⟨cs',h1,h2⟩:=Option.bind_eq_some_iff.1 h0
            refine ⟨cs',h1,?_⟩
            rw [flats_getD _ _ (by simpa using hi')]
            simp only [List.getElem_map]
            refine read_rep n e 12 fuel E.kinds cs' _ elems[i].2 hok S.kinds h2 ?_ (fun b off h=>hz b off (List.mem_append.2 (.inr (List.mem_flatMap.2 ⟨elems[i],List.mem_append.2 (.inl (List.getElem_mem hi')),h⟩))))
            have:=bulkAll_le (d:=elems[i].1) (ds:=elems.map (·.1)) (List.mem_map.2 ⟨elems[i],List.getElem_mem hi',rfl⟩)
            omega
          simp only [flatD]
          by_cases h0:len=0
          · subst h0
            have hz:=List.eq_nil_of_length_eq_zero hL
            rw [hz]
            exact FlatRep.one (.empty e _ (some a) cap rfl nofun) (.nil e)
          · have hsz:=kinds_pos hE
            have hce:=cellsOf_tyI hE
            obtain ⟨b,off,spot⟩:=a
            have hspot:spot=none:=by
              obtain ⟨cs',h1,_⟩:=el 0 (by omega)
              obtain ⟨_,h2⟩:=cells?_at h1
              have:=h2 0 (by omega)
              rw [Nat.zero_mul] at this
              simp only [Addr.add,if_true] at this
              unfold World.cell? at this
              split at this
              · split at this
                · cases this
                · rename_i hs;simpa using hs
              · cases this
            subst hspot
            have hblk:b < w.heap.size:=by
              obtain ⟨cs',h1,_⟩:=el 0 (by omega)
              obtain ⟨_,h2⟩:=cells?_at h1
              have:=h2 0 (by omega)
              rw [Nat.zero_mul] at this
              simp only [Addr.add,if_true] at this
              unfold World.cell? at this
              split at this
              · rename_i hh;exact (Array.getElem?_eq_some_iff.1 hh).1
              · cases this
            have hadd:∀ i j,((⟨b,off,none⟩:Addr).add i).add j=⟨b,off+(i+j),none⟩:=by
              intro i j
              simp only [Addr.add]
              split <;> split <;> simp_all <;> omega
            refine FlatRep.one ?_ (.slice e _ E hE (fun i hi=>(el i (by omega)).choose_spec.2.1) (fun i hi j hj=>((el i (by omega)).choose_spec.2.2.2 j hj).2))
            have hlen':len=(C.slice (flats (elems.map (·.1)))).toSl.length:=hL.symm
            have key:=RepC.slice (P:=P) (w:=w) (Al:=fun b=>b < w.heap.size) e (C.slice (flats (elems.map (·.1)))) b off cap nofun E hE hblk (by rw [← hlen'];omega) (by rw [← hlen'];exact hl)
              (fun i hi=>by
                rw [← hlen'] at hi
                obtain ⟨cs',_,h2⟩:=el i hi
                exact h2.1)
              (fun i j=>(w.cell? ⟨b,off+(i * E.kinds.length+j),none⟩).getD undef)
              (fun i hi j hj=>by
                rw [← hlen'] at hi
                obtain ⟨cs',h1,h2⟩:=el i hi
                obtain ⟨_,h3⟩:=cells?_at h1
                have:=h3 j (by omega)
                rw [hadd,hce] at this
                refine cellN_of (by simp [this]) (hz b _ (List.mem_append.2 (.inl ?_)))
                simp only [MemPlace.row,List.mem_map,List.mem_range]
                refine ⟨i * E.kinds.length+j,?_,rfl⟩
                rw [hce]
                calc i * E.kinds.length+j < i * E.kinds.length+E.kinds.length:=by omega
                  _=(i+1) * E.kinds.length:=by rw [Nat.add_mul];omega
                  _≤(elems.length+rest.length) * E.kinds.length:=Nat.mul_le_mul_right _ (by omega))
              (fun i hi j hj=>by
                rw [← hlen'] at hi
                obtain ⟨cs',h1,h2⟩:=el i hi
                obtain ⟨_,h3⟩:=cells?_at h1
                have:=h3 j (by omega)
                rw [hadd,hce] at this
                simp only [this,Option.getD_some]
                exact (h2.2.2 j hj).1)
            rw [← hlen'] at key
            exact key
      | _=>simp [okF,hu] at hok
end Go.AE
