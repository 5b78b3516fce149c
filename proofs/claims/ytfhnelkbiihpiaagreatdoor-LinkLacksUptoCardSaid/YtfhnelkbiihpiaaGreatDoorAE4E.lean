/- Text. -/
import Derived.Test.YtfhnelkbiihpiaaGreatDoorAE4
import Derived.Laws.StructEq
set_option linter.unusedVariables false
open _root_.Bool renaming and_eq_true→jd,not_eq_true'→Ja
open _root_.List renaming length_append→jh,eq_nil_of_length_eq_zero→jx,take_append_drop→Jp
open _root_.Option.some renaming injEq→ja
open Go.Result renaming andThen_ok→jl
open Go.Sem renaming run_bind→jn
namespace Go.AE
variable {P:Program} {w:World} {al:Nat→Prop} {σ:Nat→RefI}
def Rels (P:Program) (w:World) (al:Nat→Prop) (σ:Nat→RefI) (us:List Value) (xs:List A):Prop:=us.length=xs.length∧∀ j,j < xs.length→ARel P w al σ (us.getD j undef) (xs.getD j .unk)
theorem bzb:∀ {ks xs ys ks' xs' ys':List _} {b:Bool},xs.length=ks.length→xs.length=ys.length→aw6 (ks ++ ks') (xs ++ xs') (ys ++ ys')=some b→∃ p q,aw6 ks xs ys=some p∧aw6 ks' xs' ys'=some q∧b=(p && q)
 | [],[],[],ks',xs',ys',b,_,_,h=>⟨true,b,rfl,h,by simp⟩
 | _,[],_ :: _,_,_,_,_,_,hl,_=>by simp at hl
 | _,_ :: _,[],_,_,_,_,_,hl,_=>by simp at hl
 | [],_ :: _,_,_,_,_,_,hl,_,_=>by simp at hl
 | _ :: _,[],_,_,_,_,_,hl,_,_=>by simp at hl
 | k :: ks,x :: xs,y :: ys,ks',xs',ys',b,hk,hl,h=>by
  simp only [List.cons_append,aw6] at h
  split at h
  ·rename_i p q hp hq
   simp only [ja] at h;subst h
   obtain ⟨p',q',h1,h2,rfl⟩:=bzb (by simpa using hk) (by simpa using hl) hq
   exact ⟨p && p',q',by simp [aw6,hp,h1],h2,by simp [Bool.and_assoc]⟩
  ·cases h
theorem ay1:∀ {ks:List Kd} {xs ys:List A} {b:Bool},aw6 ks xs ys=some b→xs.length=ks.length∧xs.length=ys.length
 | [],[],[],_,_=>⟨rfl,rfl⟩
 | [],[],_ :: _,_,h=>by simp [aw6] at h
 | [],_ :: _,_,_,h=>by simp [aw6] at h
 | _ :: _,[],_,_,h=>by simp [aw6] at h
 | _ :: _,_ :: _,[],_,h=>by simp [aw6] at h
 | k :: ks,x :: xs,y :: ys,b,h=>by
  simp only [aw6] at h
  split at h
  ·rename_i p q hp hq
   obtain ⟨h1,h2⟩:=ay1 hq
   simp [h1];omega
  ·cases h
theorem Rels.drop {us:List Value} {xs:List A} (h:Rels P w al σ us xs) (n:Nat):Rels P w al σ (us.drop n) (xs.drop n):=by
 refine ⟨by simp [h.1],fun j hj=>?_⟩
 rw [akx,akx]
 exact h.2 _ (by simp at hj;omega)
theorem Rels.take {us:List Value} {xs:List A} (h:Rels P w al σ us xs) (n:Nat):Rels P w al σ (us.take n) (xs.take n):=by
 refine ⟨by simp [h.1],fun j hj=>?_⟩
 simp at hj
 rw [aju _ _ _ _ (by omega),aju _ _ _ _ (by omega)]
 exact h.2 _ (by omega)
def cjg (agg:Bool) (us:List Value):Value:=if agg then .agg us.toArray else us.getD 0 undef
theorem dzf {t:TypeId} {D:TypeDesc} (hu:P.underlying t=some D) (us:List Value) (off:Nat) (h:off+P.cellsOf t≤us.length) (h1:awn D=false→P.cellsOf t=1) (hi:∃ i,P.info? t=some i) :
  (part t us.toArray off).run P w = .ok (cjg (awn D) ((us.drop off).take (P.cellsOf t))) w:=by
 obtain ⟨i,hi⟩:=hi
 simp only [part,jn,cqn (w:=w) hu,jl]
 cases ha:awn D with
 | true =>
  have hs:(sizeOf t).run P w = .ok (P.cellsOf t) w:=by
   simp [sizeOf,typeInfo,hi,Program.cellsOf,Result.andThen]
  simp only [if_true,jn,hs,jl,Sem.run_pure,cjg]
  congr 2
  apply Array.ext'
  simp [List.take_drop]
 | false =>
  have:=h1 ha
  have hlt:off < us.length:=by omega
  simp only [Bool.false_eq_true,if_false,cjg]
  simp [hlt,this,List.getD_eq_getElem?_getD]
theorem cqi {t:TypeId} {D:TypeDesc} (h:P.underlying t=some D):∃ i,P.info? t=some i:=by
 cases hi:P.info? t with
 | some i=>exact ⟨i,rfl⟩
 | none=>simp [Program.underlying,hi] at h
theorem djn:∀ (n m:Nat) (t:TypeId) (ks:List Kd),eqT0 P n t=true→aqi P m t=some ks→ks.length=P.cellsOf t
 | 0,m,t,ks,h,hk=>by simp [eqT0] at h
 | n+1,0,t,ks,h,hk=>by simp [aqi] at hk
 | n+1,m+1,t,ks,h,hk=>by
  cases hD:P.underlying t with
  | none=>simp [eqT0,hD] at h
  | some D =>
   cases D with
   | bool =>
    simp only [eqT0,hD,beq_iff_eq] at h
    simp only [aqi,hD,ja] at hk
    subst hk;simp [h]
   | int k =>
    simp only [eqT0,hD,beq_iff_eq] at h
    simp only [aqi,hD,ja] at hk
    subst hk;simp [h]
   | string =>
    simp only [eqT0,hD,beq_iff_eq] at h
    simp only [aqi,hD,ja] at hk
    subst hk;simp [h]
   | struct fs =>
    simp only [eqT0,hD,jd,beq_iff_eq] at h
    simp only [aqi,hD,Option.map_eq_some_iff] at hk
    obtain ⟨kss,hkss,rfl⟩:=hk
    rw [h.2.2]
    have h1:=h.2.1
    clear h hD
    generalize fs.toList=l at *
    generalize 0=acc at h1
    induction l generalizing kss acc with
    | nil =>
     simp only [List.mapM_nil,Option.pure_def,ja] at hkss
     subst hkss;simp
    | cons f l ih =>
     simp only [eqFs,jd] at h1
     rw [List.mapM_cons] at hkss
     cases hkf:aqi P m f.type with
     | none=>simp [hkf] at hkss
     | some k0 =>
      cases hkr:l.mapM (fun f=>aqi P m f.type) with
      | none=>simp [hkf,hkr] at hkss
      | some kr =>
       simp [hkf,hkr] at hkss
       subst hkss
       have a:=djn n m f.type k0 h1.2.2.2.1 hkf
       have b:=ih kr hkr _ h1.2.2.2.2
       simp only [List.flatten_cons,jh,List.map_cons,List.sum_cons,a,b]
   | _=>simp [eqT0,hD] at h
theorem cyu {d n m:Nat} {us vs:List Value} {xs ys:List A}
  (ih:∀ t ks us vs xs ys b,eqT0 P n t=true→aqi P m t=some ks→Rels P w al σ us xs→Rels P w al σ vs ys→aw6 ks xs ys=some b →
   ∃ D,P.underlying t=some D∧(awn D=false→P.cellsOf t=1)∧(Op.equalIn d t (cjg (awn D) us) (cjg (awn D) vs)).run P w = .ok b w)
  (hu:Rels P w al σ us xs) (hv:Rels P w al σ vs ys):∀ (fs:List Field) (acc:Nat) (kss:List (List Kd)) (b:Bool),eqFs P (eqT0 P n) acc fs=true→fs.mapM (fun f=>aqi P m f.type)=some kss →
   aw6 kss.flatten (xs.drop acc) (ys.drop acc)=some b→(Op.eqFields d us.toArray vs.toArray fs).run P w = .ok b w
 | [],acc,kss,b,hok,hk,he=>by
  simp only [List.mapM_nil,Option.pure_def,ja] at hk
  subst hk
  obtain ⟨h1,h2⟩:=ay1 he
  have e1:xs.drop acc=[]:=jx (by simpa using h1)
  have e2:ys.drop acc=[]:=jx (by rw [← h2];simpa using h1)
  rw [e1,e2] at he
  simp only [List.flatten_nil,aw6,ja] at he;subst he
  simp [Op.eqFields]
 | f :: fs,acc,kss,b,hok,hk,he=>by
  simp only [eqFs,jd,beq_iff_eq,decide_eq_true_eq] at hok
  obtain ⟨ho,hname,hpos,h1,h2⟩:=hok
  rw [List.mapM_cons] at hk
  cases hkf:aqi P m f.type with
  | none=>simp [hkf] at hk
  | some k0 =>
   cases hkr:fs.mapM (fun f=>aqi P m f.type) with
   | none=>simp [hkf,hkr] at hk
   | some kr =>
    simp [hkf,hkr] at hk
    subst hk
    have lu:=hu.1
    have lv:=hv.1
    have hkl:=djn n m f.type k0 h1 hkf
    obtain ⟨l1,l2⟩:=ay1 he
    simp only [List.flatten_cons,jh,List.length_drop] at l1 l2
    rw [List.flatten_cons,← Jp (P.cellsOf f.type) (xs.drop acc),← Jp (P.cellsOf f.type) (ys.drop acc)] at he
    obtain ⟨p,q,hp,hq,rfl⟩:=bzb (by simp;omega) (by simp;omega) he
    rw [List.drop_drop,List.drop_drop] at hq
    obtain ⟨D,hD,hD1,hrun⟩:=ih f.type k0 ((us.drop acc).take (P.cellsOf f.type)) ((vs.drop acc).take (P.cellsOf f.type)) _ _ p h1 hkf ((hu.drop acc).take _) ((hv.drop acc).take _) hp
    have tail:=cyu ih hu hv fs (acc+P.cellsOf f.type) kr q h2 hkr hq
    have pu:=dzf (w:=w) hD us acc (by omega) hD1 (cqi hD)
    have pv:=dzf (w:=w) hD vs acc (by omega) hD1 (cqi hD)
    rw [Op.eqFields,if_pos hname]
    simp only [jn,ho,pu,pv,hrun,jl]
    cases p with
    | true=>simpa using tail
    | false=>simp
theorem dwp:∀ (n m d:Nat) (t:TypeId) (ks:List Kd) (us vs:List Value) (xs ys:List A) (b:Bool),n≤d→eqT0 P n t=true→aqi P m t=some ks→Rels P w al σ us xs→Rels P w al σ vs ys→aw6 ks xs ys=some b →
  ∃ D,P.underlying t=some D∧(awn D=false→P.cellsOf t=1)∧(Op.equalIn d t (cjg (awn D) us) (cjg (awn D) vs)).run P w = .ok b w
 | 0,m,d,t,ks,us,vs,xs,ys,b,hd,hok,hk,hu,hv,he=>by simp [eqT0] at hok
 | n+1,0,d,t,ks,us,vs,xs,ys,b,hd,hok,hk,hu,hv,he=>by simp [aqi] at hk
 | n+1,m+1,0,t,ks,us,vs,xs,ys,b,hd,hok,hk,hu,hv,he=>by omega
 | n+1,m+1,d+1,t,ks,us,vs,xs,ys,b,hd,hok,hk,hu,hv,he=>by
  obtain ⟨l1,l2⟩:=ay1 he
  have one:∀ k,ks=[k]→∃ u v x y,us=[u]∧vs=[v]∧xs=[x]∧ys=[y]∧ARel P w al σ u x∧ARel P w al σ v y∧bk3 k x y=some b:=by
   intro k hkk
   subst hkk
   have lu:=hu.1
   have lv:=hv.1
   obtain ⟨x,rfl⟩:∃ x,xs=[x]:=List.length_eq_one_iff.1 (by simpa using l1)
   obtain ⟨y,rfl⟩:∃ y,ys=[y]:=List.length_eq_one_iff.1 (by simpa using l2.symm)
   obtain ⟨u,rfl⟩:∃ u,us=[u]:=List.length_eq_one_iff.1 (by simpa using lu)
   obtain ⟨v,rfl⟩:∃ v,vs=[v]:=List.length_eq_one_iff.1 (by simpa using lv)
   refine ⟨u,v,x,y,rfl,rfl,rfl,rfl,hu.2 0 (by simp),hv.2 0 (by simp),?_⟩
   simp only [aw6] at he
   split at he
   ·rename_i p q hp hq
    simp only [ja] at hq he
    subst hq he
    simpa using hp
   ·cases he
  cases hD:P.underlying t with
  | none=>simp [eqT0,hD] at hok
  | some D =>
   refine ⟨D,rfl,?_⟩
   cases D with
   | bool =>
    simp only [eqT0,hD,beq_iff_eq] at hok
    simp only [aqi,hD,ja] at hk
    obtain ⟨u,v,x,y,rfl,rfl,rfl,rfl,hx,hy,hc⟩:=one _ hk.symm
    refine ⟨fun _=>hok,?_⟩
    unfold bk3 at hc
    split at hc
    ·simp only [ja] at hc;subst hc
     rw [hx.bool_inv,hy.bool_inv]
     simpa [cjg,awn] using run_equalIn_bool hD d _ _
    ·rename_i h;cases h
    ·rename_i h;cases h
    ·cases hc
   | int k =>
    simp only [eqT0,hD,beq_iff_eq] at hok
    simp only [aqi,hD,ja] at hk
    obtain ⟨u,v,x,y,rfl,rfl,rfl,rfl,hx,hy,hc⟩:=one _ hk.symm
    refine ⟨fun _=>hok,?_⟩
    unfold bk3 at hc
    split at hc
    ·rename_i h;cases h
    ·rename_i h
     split at hc
     ·split at hc
      ·rename_i e1 e2
       simp only [ja] at hc;subst hc
       subst e1 e2
       rw [hx.int_inv.1,hy.int_inv.1]
       simpa [cjg,awn] using run_equalIn_int w d t _ _ _ _ hD
      ·cases hc
     ·cases hc
    ·rename_i h;cases h
    ·cases hc
   | string =>
    simp only [eqT0,hD,beq_iff_eq] at hok
    simp only [aqi,hD,ja] at hk
    obtain ⟨u,v,x,y,rfl,rfl,rfl,rfl,hx,hy,hc⟩:=one _ hk.symm
    refine ⟨fun _=>hok,?_⟩
    unfold bk3 at hc
    split at hc
    ·rename_i h;cases h
    ·rename_i h;cases h
    ·simp only [ja] at hc;subst hc
     rw [hx.str_inv.1,hy.str_inv.1]
     have:=fun a b:List UInt8=>run_equalIn_string w d t ⟨a.toArray⟩ ⟨b.toArray⟩ hD
     simp only [cj4] at this
     simpa [cjg,awn] using this _ _
    ·cases hc
   | struct fs =>
    simp only [eqT0,hD,jd,Ja,beq_iff_eq] at hok
    simp only [aqi,hD,Option.map_eq_some_iff] at hk
    obtain ⟨kss,hkss,rfl⟩:=hk
    have hfo:P.fieldsOf t=fs:=by simp [Program.fieldsOf,hD]
    refine ⟨fun h=>by simp [awn] at h,?_⟩
    simp only [cjg,awn,if_true]
    rw [run_equalIn_struct w d t us.toArray vs.toArray (by rw [hfo];exact hD) hok.1,hfo]
    exact cyu (fun t ks us vs xs ys b h1 h2 h3 h4 h5=>dwp n m d t ks us vs xs ys b (by omega) h1 h2 h3 h4 h5) hu hv fs.toList 0 kss b hok.2.1 hkss he
   | _=>simp [eqT0,hD] at hok
theorem dkc {op:BinOp} {t:TypeId} {x y:A} {vx vy:Value} {p:Prop} {z:A} (h:binS P op t x y=some (p,z)) (hp:p) (hx:ARel P w al σ vx x) (hy:ARel P w al σ vy y) (ox oy:Operand) :
  ∃ u,(do eqGuard op t ox oy vx vy;binOp op t vx vy:Sem Value).run P w = .ok u w∧ARel P w al σ u z:=by
 unfold binS at h
 split at h
 ·rename_i xs ys
  split at h
  ·rename_i T hT
   split at h
   ·rename_i hE
    obtain ⟨S⟩:=ajk hT
    simp only [eqT,jd,Ja] at hE
    obtain ⟨hg,h0,hst⟩:=hE
    cases hx with
    | agg us _ hl hu =>
     cases hy with
     | agg vs _ hl' hv =>
      have key:∀ b,aw6 T.kinds xs ys=some b→(Op.equalIn 10000 t (.agg us.toArray) (.agg vs.toArray)).run P w = .ok b w:=by
       intro b hb
       obtain ⟨D,hD,_,hrun⟩:=dwp 12 12 10000 t T.kinds us vs xs ys b (by decide) h0 S.kinds ⟨hl,hu⟩ ⟨hl',hv⟩ hb
       rw [hD] at hst
       cases D <;> simp at hst
       simpa [cjg,awn] using hrun
      have hgd:=run_eqGuard_agg w op t ox oy us.toArray vs.toArray hg
      split at h
      ·rename_i b hb
       simp only [ja,Prod.mk.injEq] at h
       obtain ⟨rfl,rfl⟩:=h
       refine ⟨.bool b,?_,ARel.mk_bool _⟩
       simp only [jn,hgd,jl,run_eql_struct,key b hb]
      ·rename_i b hb
       simp only [ja,Prod.mk.injEq] at h
       obtain ⟨rfl,rfl⟩:=h
       refine ⟨.bool (!b),?_,ARel.mk_bool _⟩
       simp only [jn,hgd,jl,run_neq_struct,key b hb]
      ·cases h
   ·cases h
  ·cases h
 ·exact dzu t h hp hx hy ox oy
end Go.AE
