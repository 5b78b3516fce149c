/- Text. -/
import Derived.Test.YtijnkhcfondehaaGreatDoorAE14
import Derived.Deep.Slices
import Derived.OpenShut
import Derived.Carry
set_option linter.unusedVariables false
namespace Go.AE
open Go.RowKit (Below)
open Go.ChangeShapes
variable {P:Program} {w:World} {al:Nat→Prop}
def litC:Lit→C
 | .bool b=>.bool b
 | .int _ n=>.int n
 | .string s=>.str s
 | _=>.z
mutual
def cwy {H:Type}:DataW H→List C
 | .lit l=>[litC l]
 | .nil=>[.slice []]
 | .slice es _=>[.slice (bwz es)]
 | .agg ps=>(bwz ps).flatten
 | _=>[.z]
def bwz {H:Type}:List (DataW H)→List (List C)
 | []=>[]
 | d :: ds=>cwy d :: bwz ds
end
mutual
def bulk {H:Type}:DataW H→Nat
 | .lit (.string bytes)=>bytes.length+1
 | .lit _=>1
 | .nil=>1
 | .ptr d=>bulk d+1
 | .slice elems spare=>awt elems+awt spare+1
 | .agg parts=>awt parts+1
 | .iface _ d=>bulk d+1
 | .map _=>1
 | .held _=>1
def awt {H:Type}:List (DataW H)→Nat
 | []=>0
 | d :: r=>bulk d+awt r
end
mutual
def cb:C→Nat
 | .str s=>s.length+1
 | .slice es=>cbss es+es.length+1
 | _=>1
def cbs:List C→Nat
 | []=>0
 | c :: cs=>cb c+cbs cs
def cbss:List (List C)→Nat
 | []=>0
 | x :: xs=>cbs x+cbss xs
end
theorem fyb (xs ys:List C):cbs (xs ++ ys)=cbs xs+cbs ys:=by
 induction xs with
 | nil=>simp [cbs]
 | cons x xs ih=>simp [cbs,ih];omega
theorem fwg (xs:List (List C)):cbs xs.flatten=cbss xs:=by
 induction xs with
 | nil=>simp [cbs,cbss]
 | cons x xs ih=>simp [cbss,fyb,ih]
theorem cza {H:Type} (ds:List (DataW H)):(bwz ds).length=ds.length:=by
 induction ds with
 | nil=>simp [bwz]
 | cons d ds ih=>simp [bwz,ih]
theorem fy2 {H:Type} (ds:List (DataW H)) (i:Nat) (hi:i < ds.length):eg (bwz ds) i=cwy ds[i]:=by
 induction ds generalizing i with
 | nil=>simp at hi
 | cons d ds ih =>
  cases i with
  | zero=>simp [bwz,eg]
  | succ i=>simpa [bwz,eg] using ih i (by simpa using hi)
mutual
theorem gy9 {H:Type}:∀ d:DataW H,cbs (cwy d)+1≤2 * bulk d
 | .lit l=>by cases l <;> simp [cwy,litC,cbs,cb,bulk] <;> omega
 | .nil=>by simp [cwy,cbs,cb,cbss,bulk]
 | .ptr d=>by simp [cwy,cbs,cb,bulk];omega
 | .slice es sp=>by
  have:=cki es
  simp [cwy,cbs,cb,bulk,cza];omega
 | .agg ps=>by
  have:=cki ps
  simp [cwy,fwg,bulk];omega
 | .iface n d=>by simp [cwy,cbs,cb,bulk];omega
 | .map es=>by simp [cwy,cbs,cb,bulk]
 | .held h=>by simp [cwy,cbs,cb,bulk]
theorem cki {H:Type}:∀ ds:List (DataW H),cbss (bwz ds)+ds.length≤2 * awt ds
 | []=>by simp [bwz,cbss,awt]
 | d :: ds=>by
  have:=gy9 d
  have:=cki ds
  simp [bwz,cbss,awt];omega
end
def okFs (P:Program) (ok:TypeId→Bool) (total:Nat):Nat→List Field→Bool
 | acc,[]=>acc == total
 | acc,f :: fs=>f.offset == acc && (ok f.type && okFs P ok total (acc+P.cellsOf f.type) fs)
def okF (P:Program):Nat→TypeId→Bool
 | 0,_=>false
 | n+1,t=>match P.underlying t with
  | some .bool=>true
  | some (.int _)=>true
  | some .string=>true
  | some (.slice e)=>(tyI P e).isSome && okF P n e
  | some (.struct fs)=>okFs P (okF P n) (P.cellsOf t) 0 fs.toList
  | _=>false
theorem cells?_at {base n:Nat} {a:Addr} {cs:List Value} (h:w.cells? base a n=some cs):cs.length=n∧∀ j,j < n→w.cell? (a.add j)=some (cs.getD j undef):=by
 unfold World.cells? at h
 split at h
 ·refine ⟨by simpa using mapM_some_length h,fun j hj=>?_⟩
  have:=mapM_some_get h j j (by simp [hj])
  have hl:cs.length=n:=by simpa using mapM_some_length h
  rw [this]
  simp [List.getD_eq_getElem?_getD,show j < cs.length by omega]
 ·cases h
theorem fwl {t:TypeId} {T:TyI} (h:tyI P t=some T):P.cellsOf t=T.kinds.length:=by
 obtain ⟨S⟩:=aqb h
 simp [Program.cellsOf,S.info,S.size]
inductive Can (P:Program):Kd→C→Prop
 | bool (b:Bool):Can P .bool (.bool b)
 | int (k:IntKind) (n:Int) (h:InR k n):Can P (.int k) (.int n)
 | str (s:List UInt8):Can P .str (.str s)
 | nil (t:TypeId):Can P (.slice t) (.slice [])
 | slice (t:TypeId) (es:List (List C)) (E:TyI) (hE:tyI P t=some E) (hl:∀ i,i < es.length→(eg es i).length=E.kinds.length)
   (h:∀ i,i < es.length→∀ j,j < E.kinds.length→Can P (E.kinds.getD j .other) (cg (eg es i) j)):Can P (.slice t) (.slice es)
def bjd (P:Program) (w:World) (ks:List Kd) (cs:List Value) (xs:List C):Prop :=
 xs.length=ks.length∧cs.length=ks.length∧∀ j,j < ks.length→RepC P w (fun b=>b < w.heap.size) (ks.getD j .other) (cs.getD j undef) (cg xs j)∧Can P (ks.getD j .other) (cg xs j)
theorem cjn {α:Type} (l m:List α) (j:Nat) (d:α) (h:j < l.length):(l ++ m).getD j d=l.getD j d:=by
 simp [List.getD_eq_getElem?_getD,List.getElem?_append_left h]
theorem cjx {α:Type} (l m:List α) (j:Nat) (d:α) (h:l.length≤j):(l ++ m).getD j d=m.getD (j - l.length) d:=by
 simp [List.getD_eq_getElem?_getD,List.getElem?_append_right h]
theorem bjd.append {ks ks':List Kd} {cs cs':List Value} {xs xs':List C} (h:bjd P w ks cs xs) (h':bjd P w ks' cs' xs'):bjd P w (ks ++ ks') (cs ++ cs') (xs ++ xs'):=by
 obtain ⟨a1,a2,a3⟩:=h
 obtain ⟨b1,b2,b3⟩:=h'
 refine ⟨by simp [a1,b1],by simp [a2,b2],fun j hj=>?_⟩
 by_cases hlt:j < ks.length
 ·rw [cjn _ _ _ _ hlt,cjn _ _ _ _ (by omega)]
  have e:cg (xs ++ xs') j=cg xs j:=cjn _ _ _ _ (by omega)
  rw [e];exact a3 j hlt
 ·have hge:ks.length≤j:=by omega
  rw [cjx _ _ _ _ hge,cjx _ _ _ _ (by omega)]
  have e:cg (xs ++ xs') j=cg xs' (j - ks.length):=by
   rw [← a1];exact cjx _ _ _ _ (by omega)
  rw [e,a2]
  simp only [List.length_append] at hj
  exact b3 _ (by omega)
theorem bql {H:Type} {d:DataW H}:∀ {ds:List (DataW H)},d∈ds→bulk d≤awt ds
 | [],h=>by simp at h
 | e :: ds,h=>by
  simp only [awt]
  rcases List.mem_cons.1 h with rfl | h
  ·omega
  ·have:=bql h;omega
theorem gkz {H:Type} (d:DataW H):1≤bulk d:=by
 cases d with
 | lit l=>cases l <;> simp [bulk]
 | _=>simp [bulk]
theorem cy7 {H:Type}:∀ ds:List (DataW H),ds.length≤awt ds
 | []=>by simp
 | d :: ds=>by
  have:=cy7 ds
  have:=gkz d
  simp only [awt,List.length_cons];omega
theorem ez2 {H:Type} {enc:TypeId×Value→H} {base:Nat} {sp:Nat→Bool} {hd:Bool} {total m fuel M:Nat} {ok:TypeId→Bool} {cs:List Value}
  (ih:∀ t ks cs' (d:DataW H) ps,ok t=true→awb P m t=some ks→DataW.trod enc P w base sp hd fuel t cs'=some (d,ps)→bulk d≤M→bjd P w ks cs' (cwy d)) :
  ∀ (fs:List Field) (acc:Nat) (kss:List (List Kd)) (xs:List (DataW H×List MemPlace)),okFs P ok total acc fs=true→fs.mapM (fun f=>awb P m f.type)=some kss→xs.length=fs.length →
   (∀ (i:Nat) (f:Field),fs[i]? = some f→DataW.trod enc P w base sp hd fuel f.type ((cs.drop f.offset).take (P.cellsOf f.type))=xs[i]?)→awt (xs.map (·.1))≤M→cs.length=total →
   bjd P w kss.flatten (cs.drop acc) (bwz (xs.map (·.1))).flatten
 | [],acc,kss,xs,hok,hk,hx,ht,hb,hcs=>by
  simp only [List.mapM_nil,Option.pure_def,Option.some.injEq] at hk
  subst hk
  have:xs=[]:=List.eq_nil_of_length_eq_zero (by simpa using hx)
  subst this
  simp only [okFs,beq_iff_eq] at hok
  refine ⟨by simp [bwz],by simp;omega,fun j hj=>by simp at hj⟩
 | f :: fs,acc,kss,xs,hok,hk,hx,ht,hb,hcs=>by
  simp only [okFs,Bool.and_eq_true,beq_iff_eq] at hok
  obtain ⟨ho,h1,h2⟩:=hok
  cases xs with
  | nil=>simp at hx
  | cons x xs =>
   rw [List.mapM_cons] at hk
   cases hkf:awb P m f.type with
   | none=>simp [hkf] at hk
   | some ks =>
    cases hkr:fs.mapM (fun f=>awb P m f.type) with
    | none=>simp [hkf,hkr] at hk
    | some kr =>
     simp [hkf,hkr] at hk
     subst hk
     simp only [List.map_cons,awt] at hb
     have t0:=ht 0 f rfl
     simp only [List.getElem?_cons_zero] at t0
     rw [ho] at t0
     have r0:=ih f.type ks _ x.1 x.2 h1 hkf t0 (by omega)
     have r1:=ez2 ih fs (acc+P.cellsOf f.type) kr xs h2 hkr (by simpa using hx) (fun i g hg=>by simpa using ht (i+1) g (by simpa using hg)) (by omega) hcs
     have e:cs.drop acc=(cs.drop acc).take (P.cellsOf f.type) ++ cs.drop (acc+P.cellsOf f.type):=by
      rw [← List.drop_drop];exact (List.take_append_drop _ _).symm
     rw [e]
     simp only [List.flatten_cons,List.map_cons,bwz]
     exact r0.append r1
theorem bjd.one {k:Kd} {v:Value} {x:C} (h:RepC P w (fun b=>b < w.heap.size) k v x) (hc:Can P k x):bjd P w [k] [v] [x] :=
 ⟨rfl,rfl,fun j hj=>by
  have:j=0:=by simpa using hj
  subst this;exact ⟨h,hc⟩⟩
theorem ezy {H:Type} {enc:TypeId×Value→H} {base:Nat} {sp:Nat→Bool} {hd:Bool}:∀ (n:Nat) (t:TypeId) (m fuel:Nat) (ks:List Kd) (cs:List Value) (d:DataW H) (ps:List MemPlace),
  okF P n t=true→awb P m t=some ks→DataW.trod enc P w base sp hd fuel t cs=some (d,ps)→bulk d≤1048576→bjd P w ks cs (cwy d)
 | 0,t,m,fuel,ks,cs,d,ps,hok,hk,ht,hb=>by simp [okF] at hok
 | n+1,t,0,fuel,ks,cs,d,ps,hok,hk,ht,hb=>by simp [awb] at hk
 | n+1,t,m+1,0,ks,cs,d,ps,hok,hk,ht,hb=>by simp [DataW.trod] at ht
 | n+1,t,m+1,fuel+1,ks,cs,d,ps,hok,hk,ht,hb=>by
  cases hu:P.underlying t with
  | none=>simp [okF,hu] at hok
  | some D =>
   cases D with
   | bool =>
    simp only [awb,hu,Option.some.injEq] at hk;subst hk
    unfold DataW.trod at ht
    rw [hu] at ht
    split at ht <;> simp_all
    obtain ⟨rfl,rfl⟩:=ht
    exact bjd.one (.bool (.bool _)) (.bool _)
   | int k =>
    simp only [awb,hu,Option.some.injEq] at hk;subst hk
    unfold DataW.trod at ht
    rw [hu] at ht
    split at ht <;> simp_all
    obtain ⟨⟨rfl,hw⟩,rfl,rfl⟩:=ht
    simp only [Lit.wf,Bool.and_eq_true,decide_eq_true_eq] at hw
    exact bjd.one (.int _ (.int _) hw) (.int _ _ hw)
   | string =>
    simp only [awb,hu,Option.some.injEq] at hk;subst hk
    unfold DataW.trod at ht
    rw [hu] at ht
    split at ht <;> simp_all
    obtain ⟨hw,rfl,rfl⟩:=ht
    rename_i s
    refine bjd.one (.str (.str s.data.toList) ?_) (.str _)
    simpa [maxLen] using hw
   | struct fs =>
    simp only [awb,hu,Option.map_eq_some_iff] at hk
    obtain ⟨kss,hkss,rfl⟩:=hk
    simp only [okF,hu] at hok
    obtain ⟨xs,n',hf,hx,hcs,hxl,hel⟩:=DataW.trod_struct hu ht
    simp only [Nat.add_right_cancel_iff] at hf
    subst hf
    simp only [Prod.mk.injEq] at hx
    obtain ⟨rfl,rfl⟩:=hx
    simp only [bulk] at hb
    have:=ez2 (M:=1048576) (fun t ks cs' d ps h1 h2 h3 h4=>ezy n t m fuel ks cs' d ps h1 h2 h3 h4) fs.toList 0 kss xs hok hkss (by simpa using hxl)
     (fun i f hf=>hel i f (by simpa using hf)) (by omega) hcs
    simpa [cwy] using this
   | slice e =>
    simp only [awb,hu,Option.some.injEq] at hk;subst hk
    simp only [okF,hu,Bool.and_eq_true] at hok
    obtain ⟨hE,hok⟩:=hok
    obtain ⟨E,hE⟩:=Option.isSome_iff_exists.1 hE
    obtain ⟨S⟩:=aqb hE
    rcases DataW.trod_slice hu ht with ⟨rfl,hx⟩ | ⟨a,len,cap,elems,rest,n',hf,rfl,hx,hbs,hl,hm,hlen,hel,_,_⟩
    ·simp only [Prod.mk.injEq] at hx
     obtain ⟨rfl,rfl⟩:=hx
     exact bjd.one (.empty e (.slice []) none 0 rfl) (.nil e)
    ·simp only [Nat.add_right_cancel_iff] at hf
     subst hf
     simp only [Prod.mk.injEq] at hx
     obtain ⟨rfl,rfl⟩:=hx
     simp only [bulk] at hb
     have hL:(bwz (elems.map (·.1))).length=len:=by rw [cza];simpa using hlen
     have hbl:len≤1048576:=by
      have:=cy7 (elems.map (·.1))
      simp only [List.length_map] at this;omega
     -- an element
     have el:∀ i,i < len→∃ cs',w.cells? base (a.add (i * P.cellsOf e)) (P.cellsOf e)=some cs'∧bjd P w E.kinds cs' (eg (bwz (elems.map (·.1))) i):=by
      intro i hi
      have hi':i < elems.length:=by omega
      have h0:=hel i hi
      rw [List.getElem?_eq_getElem hi'] at h0
      obtain ⟨cs',h1,h2⟩:=Option.bind_eq_some_iff.1 h0
      refine ⟨cs',h1,?_⟩
      rw [fy2 _ _ (by simpa using hi')]
      simp only [List.getElem_map]
      refine ezy n e 12 fuel E.kinds cs' _ elems[i].2 hok S.kinds h2 ?_
      have:=bql (d:=elems[i].1) (ds:=elems.map (·.1)) (List.mem_map.2 ⟨elems[i],List.getElem_mem hi',rfl⟩)
      omega
     simp only [cwy]
     by_cases h0:len=0
     ·subst h0
      have hz:=List.eq_nil_of_length_eq_zero hL
      rw [hz]
      exact bjd.one (.empty e _ (some a) cap rfl) (.nil e)
     ·have hsz:=akj hE
      have hce:=fwl hE
      obtain ⟨b,off,spot⟩:=a
      have hspot:spot=none:=by
       obtain ⟨cs',h1,_⟩:=el 0 (by omega)
       obtain ⟨_,h2⟩:=cells?_at h1
       have:=h2 0 (by omega)
       rw [Nat.zero_mul] at this
       simp only [Addr.add,if_true] at this
       unfold World.cell? at this
       split at this
       ·split at this
        ·cases this
        ·rename_i hs;simpa using hs
       ·cases this
      subst hspot
      have hblk:b < w.heap.size:=by
       obtain ⟨cs',h1,_⟩:=el 0 (by omega)
       obtain ⟨_,h2⟩:=cells?_at h1
       have:=h2 0 (by omega)
       rw [Nat.zero_mul] at this
       simp only [Addr.add,if_true] at this
       unfold World.cell? at this
       split at this
       ·rename_i hh;exact (Array.getElem?_eq_some_iff.1 hh).1
       ·cases this
      have hadd:∀ i j,((⟨b,off,none⟩:Addr).add i).add j=⟨b,off+(i+j),none⟩:=by
       intro i j
       simp only [Addr.add]
       split <;> split <;> simp_all <;> omega
      refine bjd.one ?_ (.slice e _ E hE (fun i hi=>(el i (by omega)).choose_spec.2.1) (fun i hi j hj=>((el i (by omega)).choose_spec.2.2.2 j hj).2))
      have hlen':len=(C.slice (bwz (elems.map (·.1)))).toSl.length:=hL.symm
      have key:=RepC.slice (P:=P) (w:=w) (Al:=fun b=>b < w.heap.size) e (C.slice (bwz (elems.map (·.1)))) b off cap E hE hblk (by rw [← hlen'];omega) (by rw [← hlen'];exact hl)
       (fun i hi=>by
        rw [← hlen'] at hi
        obtain ⟨cs',_,h2⟩:=el i hi
        exact h2.1)
       (fun i j=>(w.cell? ⟨b,off+(i * E.kinds.length+j),none⟩).getD undef)
       (fun i hi j hj=>by
        rw [← hlen'] at hi
        obtain ⟨cs',h1,h2⟩:=el i hi
        obtain ⟨_,h3⟩:=cells?_at h1
        have:=h3 j (by omega)
        rw [hadd,hce] at this
        simp [this])
       (fun i hi j hj=>by
        rw [← hlen'] at hi
        obtain ⟨cs',h1,h2⟩:=el i hi
        obtain ⟨_,h3⟩:=cells?_at h1
        have:=h3 j (by omega)
        rw [hadd,hce] at this
        simp only [this,Option.getD_some]
        exact (h2.2.2 j hj).1)
      rw [← hlen'] at key
      exact key
   | _=>simp [okF,hu] at hok
end Go.AE
