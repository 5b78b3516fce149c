/- Text. -/
import Derived.Test.YtfhnelkbiihpiaaGreatDoorAE14
import Derived.Deep.Slices
import Derived.OpenShut
import Derived.Carry
set_option linter.unusedVariables false
open _root_.Bool renaming and_eq_true→jd
open _root_.List renaming getD_eq_getElem?_getD→jb,eq_nil_of_length_eq_zero→jx,map_cons→jX,mem_append→jf,getElem_mem→jC
open _root_.Option.some renaming injEq→ja
namespace Go.AE
open Go.RowKit (Below)
open Go.ChangeShapes
variable {P:Program} {w:World} {al:Nat→Prop}
def litC:Lit→C
 | .bool b=>.bool b
 | .int _ n=>.int n
 | .string s=>.str s
 | _=>.z
mutual
def bqp {H:Type}:DataW H→List C
 | .lit l=>[litC l]
 | .nil=>[.slice []]
 | .slice es _=>[.slice (akw es)]
 | .agg ps=>(akw ps).flatten
 | _=>[.z]
def akw {H:Type}:List (DataW H)→List (List C)
 | []=>[]
 | d :: ds=>bqp d :: akw ds
end
mutual
def bulk {H:Type}:DataW H→Nat
 | .lit (.string bytes)=>bytes.length+1
 | .lit _=>1
 | .nil=>1
 | .ptr d=>bulk d+1
 | .slice elems spare=>aqq elems+aqq spare+1
 | .agg parts=>aqq parts+1
 | .iface _ d=>bulk d+1
 | .map _=>1
 | .held _=>1
def aqq {H:Type}:List (DataW H)→Nat
 | []=>0
 | d :: r=>bulk d+aqq r
end
mutual
def cb:C→Nat
 | .str s=>s.length+1
 | .slice es=>cbss es+es.length+1
 | _=>1
def cbs:List C→Nat
 | []=>0
 | c :: cs=>cb c+cbs cs
def cbss:List (List C)→Nat
 | []=>0
 | x :: xs=>cbs x+cbss xs
end
theorem dzw (xs ys:List C):cbs (xs ++ ys)=cbs xs+cbs ys:=by
 induction xs with
 | nil=>simp [cbs]
 | cons x xs ih=>simp [cbs,ih];omega
theorem dw6 (xs:List (List C)):cbs xs.flatten=cbss xs:=by
 induction xs with
 | nil=>simp [cbs,cbss]
 | cons x xs ih=>simp [cbss,dzw,ih]
theorem bwk {H:Type} (ds:List (DataW H)):(akw ds).length=ds.length:=by
 induction ds with
 | nil=>simp [akw]
 | cons d ds ih=>simp [akw,ih]
theorem dkl {H:Type} (ds:List (DataW H)) (i:Nat) (hi:i < ds.length):eg (akw ds) i=bqp ds[i]:=by
 induction ds generalizing i with
 | nil=>simp at hi
 | cons d ds ih =>
  cases i with
  | zero=>simp [akw,eg]
  | succ i=>simpa [akw,eg] using ih i (by simpa using hi)
mutual
theorem ewu {H:Type}:∀ d:DataW H,cbs (bqp d)+1≤2 * bulk d
 | .lit l=>by cases l <;> simp [bqp,litC,cbs,cb,bulk] <;> omega
 | .nil=>by simp [bqp,cbs,cb,cbss,bulk]
 | .ptr d=>by simp [bqp,cbs,cb,bulk];omega
 | .slice es sp=>by
  have:=bwo es
  simp [bqp,cbs,cb,bulk,bwk];omega
 | .agg ps=>by
  have:=bwo ps
  simp [bqp,dw6,bulk];omega
 | .iface n d=>by simp [bqp,cbs,cb,bulk];omega
 | .map es=>by simp [bqp,cbs,cb,bulk]
 | .held h=>by simp [bqp,cbs,cb,bulk]
theorem bwo {H:Type}:∀ ds:List (DataW H),cbss (akw ds)+ds.length≤2 * aqq ds
 | []=>by simp [akw,cbss,aqq]
 | d :: ds=>by
  have:=ewu d
  have:=bwo ds
  simp [akw,cbss,aqq];omega
end
def okFs (P:Program) (ok:TypeId→Bool) (total:Nat):Nat→List Field→Bool
 | acc,[]=>acc == total
 | acc,f :: fs=>f.offset == acc && (ok f.type && okFs P ok total (acc+P.cellsOf f.type) fs)
def okF (P:Program):Nat→TypeId→Bool
 | 0,_=>false
 | n+1,t=>match P.underlying t with
  | some .bool=>true
  | some (.int _)=>true
  | some .string=>true
  | some (.slice e)=>(tyI P e).isSome && okF P n e
  | some (.struct fs)=>okFs P (okF P n) (P.cellsOf t) 0 fs.toList
  | _=>false
theorem cells?_at {base n:Nat} {a:Addr} {cs:List Value} (h:w.cells? base a n=some cs):cs.length=n∧∀ j,j < n→w.cell? (a.add j)=some (cs.getD j undef):=by
 unfold World.cells? at h
 split at h
 ·refine ⟨by simpa using mapM_some_length h,fun j hj=>?_⟩
  have:=mapM_some_get h j j (by simp [hj])
  have hl:cs.length=n:=by simpa using mapM_some_length h
  rw [this]
  simp [jb,show j < cs.length by omega]
 ·cases h
theorem dqc {t:TypeId} {T:TyI} (h:tyI P t=some T):P.cellsOf t=T.kinds.length:=by
 obtain ⟨S⟩:=ajk h
 simp [Program.cellsOf,S.info,S.size]
inductive Can (P:Program):Kd→C→Prop
 | bool (b:Bool):Can P .bool (.bool b)
 | int (k:IntKind) (n:Int) (h:InR k n):Can P (.int k) (.int n)
 | str (s:List UInt8):Can P .str (.str s)
 | nil (t:TypeId):Can P (.slice t) (.slice [])
 | slice (t:TypeId) (es:List (List C)) (E:TyI) (hE:tyI P t=some E) (hl:∀ i,i < es.length→(eg es i).length=E.kinds.length)
   (h:∀ i,i < es.length→∀ j,j < E.kinds.length→Can P (E.kinds.getD j .other) (cg (eg es i) j)):Can P (.slice t) (.slice es)
def azu (P:Program) (w:World) (ks:List Kd) (cs:List Value) (xs:List C):Prop :=
 xs.length=ks.length∧cs.length=ks.length∧∀ j,j < ks.length→RepC P w (fun b=>b < w.heap.size) (ks.getD j .other) (cs.getD j undef) (cg xs j)∧Can P (ks.getD j .other) (cg xs j)
theorem bjn {α:Type} (l m:List α) (j:Nat) (d:α) (h:j < l.length):(l ++ m).getD j d=l.getD j d:=by
 simp [jb,List.getElem?_append_left h]
theorem bjo {α:Type} (l m:List α) (j:Nat) (d:α) (h:l.length≤j):(l ++ m).getD j d=m.getD (j - l.length) d:=by
 simp [jb,List.getElem?_append_right h]
theorem azu.append {ks ks':List Kd} {cs cs':List Value} {xs xs':List C} (h:azu P w ks cs xs) (h':azu P w ks' cs' xs'):azu P w (ks ++ ks') (cs ++ cs') (xs ++ xs'):=by
 obtain ⟨a1,a2,a3⟩:=h
 obtain ⟨b1,b2,b3⟩:=h'
 refine ⟨by simp [a1,b1],by simp [a2,b2],fun j hj=>?_⟩
 by_cases hlt:j < ks.length
 ·rw [bjn _ _ _ _ hlt,bjn _ _ _ _ (by omega)]
  have e:cg (xs ++ xs') j=cg xs j:=bjn _ _ _ _ (by omega)
  rw [e];exact a3 j hlt
 ·have hge:ks.length≤j:=by omega
  rw [bjo _ _ _ _ hge,bjo _ _ _ _ (by omega)]
  have e:cg (xs ++ xs') j=cg xs' (j - ks.length):=by
   rw [← a1];exact bjo _ _ _ _ (by omega)
  rw [e,a2]
  simp only [List.length_append] at hj
  exact b3 _ (by omega)
theorem akd {H:Type} {d:DataW H}:∀ {ds:List (DataW H)},d∈ds→bulk d≤aqq ds
 | [],h=>by simp at h
 | e :: ds,h=>by
  simp only [aqq]
  rcases List.mem_cons.1 h with rfl | h
  ·omega
  ·have:=akd h;omega
theorem ewp {H:Type} (d:DataW H):1≤bulk d:=by
 cases d with
 | lit l=>cases l <;> simp [bulk]
 | _=>simp [bulk]
theorem bz9 {H:Type}:∀ ds:List (DataW H),ds.length≤aqq ds
 | []=>by simp
 | d :: ds=>by
  have:=bz9 ds
  have:=ewp d
  simp only [aqq,List.length_cons];omega
theorem cwr {H:Type} {enc:TypeId×Value→H} {base:Nat} {sp:Nat→Bool} {hd:Bool} {total m fuel M:Nat} {ok:TypeId→Bool} {cs:List Value}
  (ih:∀ t ks cs' (d:DataW H) ps,ok t=true→aqi P m t=some ks→DataW.trod enc P w base sp hd fuel t cs'=some (d,ps)→bulk d≤M→w.noneFrozen ps→azu P w ks cs' (bqp d)) :
  ∀ (fs:List Field) (acc:Nat) (kss:List (List Kd)) (xs:List (DataW H×List MemPlace)),okFs P ok total acc fs=true→fs.mapM (fun f=>aqi P m f.type)=some kss→xs.length=fs.length →
   (∀ (i:Nat) (f:Field),fs[i]? = some f→DataW.trod enc P w base sp hd fuel f.type ((cs.drop f.offset).take (P.cellsOf f.type))=xs[i]?)→aqq (xs.map (·.1))≤M→cs.length=total→(∀ x∈xs,w.noneFrozen x.2) →
   azu P w kss.flatten (cs.drop acc) (akw (xs.map (·.1))).flatten
 | [],acc,kss,xs,hok,hk,hx,ht,hb,hcs,hz=>by
  simp only [List.mapM_nil,Option.pure_def,ja] at hk
  subst hk
  have:xs=[]:=jx (by simpa using hx)
  subst this
  simp only [okFs,beq_iff_eq] at hok
  refine ⟨by simp [akw],by simp;omega,fun j hj=>by simp at hj⟩
 | f :: fs,acc,kss,xs,hok,hk,hx,ht,hb,hcs,hz=>by
  simp only [okFs,jd,beq_iff_eq] at hok
  obtain ⟨ho,h1,h2⟩:=hok
  cases xs with
  | nil=>simp at hx
  | cons x xs =>
   rw [List.mapM_cons] at hk
   cases hkf:aqi P m f.type with
   | none=>simp [hkf] at hk
   | some ks =>
    cases hkr:fs.mapM (fun f=>aqi P m f.type) with
    | none=>simp [hkf,hkr] at hk
    | some kr =>
     simp [hkf,hkr] at hk
     subst hk
     simp only [jX,aqq] at hb
     have t0:=ht 0 f rfl
     simp only [List.getElem?_cons_zero] at t0
     rw [ho] at t0
     have r0:=ih f.type ks _ x.1 x.2 h1 hkf t0 (by omega) (hz x (by simp))
     have r1:=cwr ih fs (acc+P.cellsOf f.type) kr xs h2 hkr (by simpa using hx) (fun i g hg=>by simpa using ht (i+1) g (by simpa using hg)) (by omega) hcs (fun y hy=>hz y (by simp [hy]))
     have e:cs.drop acc=(cs.drop acc).take (P.cellsOf f.type) ++ cs.drop (acc+P.cellsOf f.type):=by
      rw [← List.drop_drop];exact (List.take_append_drop _ _).symm
     rw [e]
     simp only [List.flatten_cons,jX,akw]
     exact r0.append r1
theorem azu.one {k:Kd} {v:Value} {x:C} (h:RepC P w (fun b=>b < w.heap.size) k v x) (hc:Can P k x):azu P w [k] [v] [x] :=
 ⟨rfl,rfl,fun j hj=>by
  have:j=0:=by simpa using hj
  subst this;exact ⟨h,hc⟩⟩
theorem czz {H:Type} {enc:TypeId×Value→H} {base:Nat} {sp:Nat→Bool} {hd:Bool}:∀ (n:Nat) (t:TypeId) (m fuel:Nat) (ks:List Kd) (cs:List Value) (d:DataW H) (ps:List MemPlace),
  okF P n t=true→aqi P m t=some ks→DataW.trod enc P w base sp hd fuel t cs=some (d,ps)→bulk d≤1048576→w.noneFrozen ps→azu P w ks cs (bqp d)
 | 0,t,m,fuel,ks,cs,d,ps,hok,hk,ht,hb,hz=>by simp [okF] at hok
 | n+1,t,0,fuel,ks,cs,d,ps,hok,hk,ht,hb,hz=>by simp [aqi] at hk
 | n+1,t,m+1,0,ks,cs,d,ps,hok,hk,ht,hb,hz=>by simp [DataW.trod] at ht
 | n+1,t,m+1,fuel+1,ks,cs,d,ps,hok,hk,ht,hb,hz=>by
  cases hu:P.underlying t with
  | none=>simp [okF,hu] at hok
  | some D =>
   cases D with
   | bool =>
    simp only [aqi,hu,ja] at hk;subst hk
    unfold DataW.trod at ht
    rw [hu] at ht
    split at ht <;> simp_all
    obtain ⟨rfl,rfl⟩:=ht
    exact azu.one (.bool (.bool _)) (.bool _)
   | int k =>
    simp only [aqi,hu,ja] at hk;subst hk
    unfold DataW.trod at ht
    rw [hu] at ht
    split at ht <;> simp_all
    obtain ⟨⟨rfl,hw⟩,rfl,rfl⟩:=ht
    simp only [Lit.wf,jd,decide_eq_true_eq] at hw
    exact azu.one (.int _ (.int _) hw) (.int _ _ hw)
   | string =>
    simp only [aqi,hu,ja] at hk;subst hk
    unfold DataW.trod at ht
    rw [hu] at ht
    split at ht <;> simp_all
    obtain ⟨hw,rfl,rfl⟩:=ht
    rename_i s
    refine azu.one (.str (.str s.data.toList) ?_) (.str _)
    simpa [maxLen] using hw
   | struct fs =>
    simp only [aqi,hu,Option.map_eq_some_iff] at hk
    obtain ⟨kss,hkss,rfl⟩:=hk
    simp only [okF,hu] at hok
    obtain ⟨xs,n',hf,hx,hcs,hxl,hel⟩:=DataW.trod_struct hu ht
    simp only [Nat.add_right_cancel_iff] at hf
    subst hf
    simp only [Prod.mk.injEq] at hx
    obtain ⟨rfl,rfl⟩:=hx
    simp only [bulk] at hb
    have:=cwr (M:=1048576) (fun t ks cs' d ps h1 h2 h3 h4 h5=>czz n t m fuel ks cs' d ps h1 h2 h3 h4 h5) fs.toList 0 kss xs hok hkss (by simpa using hxl)
     (fun i f hf=>hel i f (by simpa using hf)) (by omega) hcs (fun x hx b off h=>hz b off (List.mem_flatMap.2 ⟨x,hx,h⟩))
    simpa [bqp] using this
   | slice e =>
    simp only [aqi,hu,ja] at hk;subst hk
    simp only [okF,hu,jd] at hok
    obtain ⟨hE,hok⟩:=hok
    obtain ⟨E,hE⟩:=Option.isSome_iff_exists.1 hE
    obtain ⟨S⟩:=ajk hE
    rcases DataW.trod_slice hu ht with ⟨rfl,hx⟩ | ⟨a,len,cap,elems,rest,n',hf,rfl,hx,hbs,hl,hm,hlen,hel,_,_⟩
    ·simp only [Prod.mk.injEq] at hx
     obtain ⟨rfl,rfl⟩:=hx
     exact azu.one (.empty e (.slice []) none 0 rfl nofun) (.nil e)
    ·simp only [Nat.add_right_cancel_iff] at hf
     subst hf
     simp only [Prod.mk.injEq] at hx
     obtain ⟨rfl,rfl⟩:=hx
     simp only [bulk] at hb
     have hL:(akw (elems.map (·.1))).length=len:=by rw [bwk];simpa using hlen
     have hbl:len≤1048576:=by
      have:=bz9 (elems.map (·.1))
      simp only [List.length_map] at this;omega
     -- an element
     have el:∀ i,i < len→∃ cs',w.cells? base (a.add (i * P.cellsOf e)) (P.cellsOf e)=some cs'∧azu P w E.kinds cs' (eg (akw (elems.map (·.1))) i):=by
      intro i hi
      have hi':i < elems.length:=by omega
      have h0:=hel i hi
      rw [List.getElem?_eq_getElem hi'] at h0
      obtain ⟨cs',h1,h2⟩:=Option.bind_eq_some_iff.1 h0
      refine ⟨cs',h1,?_⟩
      rw [dkl _ _ (by simpa using hi')]
      simp only [List.getElem_map]
      refine czz n e 12 fuel E.kinds cs' _ elems[i].2 hok S.kinds h2 ?_ (fun b off h=>hz b off (jf.2 (.inr (List.mem_flatMap.2 ⟨elems[i],jf.2 (.inl (jC hi')),h⟩))))
      have:=akd (d:=elems[i].1) (ds:=elems.map (·.1)) (List.mem_map.2 ⟨elems[i],jC hi',rfl⟩)
      omega
     simp only [bqp]
     by_cases h0:len=0
     ·subst h0
      have hz:=jx hL
      rw [hz]
      exact azu.one (.empty e _ (some a) cap rfl nofun) (.nil e)
     ·have hsz:=az2 hE
      have hce:=dqc hE
      obtain ⟨b,off,spot⟩:=a
      have hspot:spot=none:=by
       obtain ⟨cs',h1,_⟩:=el 0 (by omega)
       obtain ⟨_,h2⟩:=cells?_at h1
       have:=h2 0 (by omega)
       rw [Nat.zero_mul] at this
       simp only [Addr.add,if_true] at this
       unfold World.cell? at this
       split at this
       ·split at this
        ·cases this
        ·rename_i hs;simpa using hs
       ·cases this
      subst hspot
      have hblk:b < w.heap.size:=by
       obtain ⟨cs',h1,_⟩:=el 0 (by omega)
       obtain ⟨_,h2⟩:=cells?_at h1
       have:=h2 0 (by omega)
       rw [Nat.zero_mul] at this
       simp only [Addr.add,if_true] at this
       unfold World.cell? at this
       split at this
       ·rename_i hh;exact (Array.getElem?_eq_some_iff.1 hh).1
       ·cases this
      have hadd:∀ i j,((⟨b,off,none⟩:Addr).add i).add j=⟨b,off+(i+j),none⟩:=by
       intro i j
       simp only [Addr.add]
       split <;> split <;> simp_all <;> omega
      refine azu.one ?_ (.slice e _ E hE (fun i hi=>(el i (by omega)).choose_spec.2.1) (fun i hi j hj=>((el i (by omega)).choose_spec.2.2.2 j hj).2))
      have hlen':len=(C.slice (akw (elems.map (·.1)))).toSl.length:=hL.symm
      have key:=RepC.slice (P:=P) (w:=w) (Al:=fun b=>b < w.heap.size) e (C.slice (akw (elems.map (·.1)))) b off cap nofun E hE hblk (by rw [← hlen'];omega) (by rw [← hlen'];exact hl)
       (fun i hi=>by
        rw [← hlen'] at hi
        obtain ⟨cs',_,h2⟩:=el i hi
        exact h2.1)
       (fun i j=>(w.cell? ⟨b,off+(i * E.kinds.length+j),none⟩).getD undef)
       (fun i hi j hj=>by
        rw [← hlen'] at hi
        obtain ⟨cs',h1,h2⟩:=el i hi
        obtain ⟨_,h3⟩:=cells?_at h1
        have:=h3 j (by omega)
        rw [hadd,hce] at this
        refine cjn (by simp [this]) (hz b _ (jf.2 (.inl ?_)))
        simp only [MemPlace.row,List.mem_map,List.mem_range]
        refine ⟨i * E.kinds.length+j,?_,rfl⟩
        rw [hce]
        calc i * E.kinds.length+j < i * E.kinds.length+E.kinds.length:=by omega
         _=(i+1) * E.kinds.length:=by rw [Nat.add_mul];omega
         _≤(elems.length+rest.length) * E.kinds.length:=Nat.mul_le_mul_right _ (by omega))
       (fun i hi j hj=>by
        rw [← hlen'] at hi
        obtain ⟨cs',h1,h2⟩:=el i hi
        obtain ⟨_,h3⟩:=cells?_at h1
        have:=h3 j (by omega)
        rw [hadd,hce] at this
        simp only [this,Option.getD_some]
        exact (h2.2.2 j hj).1)
      rw [← hlen'] at key
      exact key
   | _=>simp [okF,hu] at hok
end Go.AE
