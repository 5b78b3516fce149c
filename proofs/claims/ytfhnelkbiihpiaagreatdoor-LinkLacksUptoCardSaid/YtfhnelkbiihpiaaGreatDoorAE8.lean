/- Text. -/
import Derived.Test.YtfhnelkbiihpiaaGreatDoorAE7
set_option linter.unusedVariables false
open _root_.Array renaming getD_eq_getD_getElem?→je,range→Jh
open _root_.Bool renaming and_eq_true→jd
open _root_.List renaming length_cons→jA,getD_eq_getElem?_getD→jb,getD_cons_zero→j8,map_cons→jX,getElem?_map→j1,getElem?_set_ne→Jv,mem_append→jf,replicate→jw
open _root_.Nat renaming mul_le_mul_right→jk,add_mul→jo,le_refl→jq
open _root_.Option renaming map_some→ju,getD_some→jB
open _root_.Option.some renaming injEq→ja
open Go.Result renaming andThen_ok→jl
open Go.Sem renaming run_bind→jn,run_pure→jy
namespace Go.AE
open Go.RowKit (Below)
variable {P:Program} {w0:Base} {w:World} {N:Nat} {σ:Nat→RefI} {s:S} {tms:Array Value} {ρ:Operand→Value} {al:Nat→Prop}
theorem dz0 (off:Nat):∀ (l:List Value) (j0:Nat) (cs:Array Value),off+j0+l.length≤cs.size →
  ((l.zipIdx j0).foldl (fun cs (p:Value×Nat)=>cs.setIfInBounds (off+p.2) p.1) cs).size=cs.size ∧
  ∀ k,((l.zipIdx j0).foldl (fun cs (p:Value×Nat)=>cs.setIfInBounds (off+p.2) p.1) cs).getD k undef=if off+j0≤k∧k < off+j0+l.length then l.getD (k - (off+j0)) undef else cs.getD k undef
 | [],j0,cs,h=>by
  refine ⟨rfl,fun k=>?_⟩
  simp only [List.zipIdx_nil,List.foldl_nil,List.length_nil]
  rw [if_neg (by omega)]
 | v :: l,j0,cs,h=>by
  simp only [jA] at h
  obtain ⟨h1,h2⟩:=dz0 off l (j0+1) (cs.setIfInBounds (off+j0) v) (by simp;omega)
  simp only [List.zipIdx_cons,List.foldl_cons]
  refine ⟨by rw [h1];simp,fun k=>?_⟩
  rw [h2 k,getD_set (by omega)]
  simp only [jA]
  by_cases hk:off+(j0+1)≤k∧k < off+(j0+1)+l.length
  ·rw [if_pos hk,if_pos (by omega)]
   have:k - (off+j0)=(k - (off+(j0+1)))+1:=by omega
   rw [this,List.getD_cons_succ]
  ·rw [if_neg hk]
   by_cases e:k=off+j0
   ·subst e
    rw [if_pos rfl,if_pos (by omega)]
    simp
   ·rw [if_neg e,if_neg (by omega)]
theorem dq4 (v:Value) (off:Nat) (cs:Array Value) :
  (v.cells.zipIdx.foldl (fun cs (c,j)=>cs.setIfInBounds (off+j) c) cs)=(v.cells.toList.zipIdx 0).foldl (fun cs (p:Value×Nat)=>cs.setIfInBounds (off+p.2) p.1) cs:=by
 rw [← Array.foldl_toList,Array.toList_zipIdx]
theorem ckj {place:Nat→Option (Nat×Nat)} {cells:Array Value} {i off n:Nat} {v:Value} {rest:List (Nat×Value)} (hp:place i=some (off,n)) (hn:v.cells.size=n) (hfit:off+n≤cells.size) :
  ∃ cells',Instr.fill place cells ((i,v) :: rest)=Instr.fill place cells' rest∧cells'.size=cells.size ∧
   ∀ k,cells'.getD k undef=if off≤k∧k < off+n then v.cells.getD (k - off) undef else cells.getD k undef:=by
 obtain ⟨h1,h2⟩:=dz0 off v.cells.toList 0 cells (by simp;omega)
 refine ⟨_,?_,h1,fun k=>?_⟩
 ·simp only [Instr.fill,hp]
  rw [if_neg (by simp;omega),dq4]
 ·rw [h2 k]
  simp only [Nat.add_zero,Array.length_toList,hn]
  have:v.cells.toList.getD (k - off) undef=v.cells.getD (k - off) undef:=by simp [je,jb]
  rw [this]
theorem bqf {T:TyI} {place:Nat→Option (Nat×Nat)} (hpl:∀ i p,T.fields[i]? = some p→∃ fi,P.info? p.2=some fi∧place i=some (p.1,fi.size)∧p.1+fi.size≤T.kinds.length) (h:RelL P w0 N σ s tms w) :
  ∀ (parts:List (Nat×A)) (vs:List (Nat×Value)) (xs ys:List A) (cells:Array Value),aw7 P T s.hp parts xs=some ys→vs.length=parts.length →
   (∀ k,k < parts.length→(vs.getD k (0,undef)).1=(parts.getD k (0,.unk)).1∧ARel P w (Al w0 w σ s.hp) σ (vs.getD k (0,undef)).2 (parts.getD k (0,.unk)).2) →
   cells.size=T.kinds.length→xs.length=T.kinds.length→(∀ j,j < xs.length→ARel P w (Al w0 w σ s.hp) σ (cells.getD j undef) (xs.getD j .unk)) →
   ∃ cells',Instr.fill place cells vs=some cells'∧cells'.size=T.kinds.length∧ys.length=T.kinds.length∧∀ j,j < ys.length→ARel P w (Al w0 w σ s.hp) σ (cells'.getD j undef) (ys.getD j .unk)
 | [],vs,xs,ys,cells,hb,hl,hv,hc,hx,hr=>by
  simp only [aw7,ja] at hb;subst hb
  cases vs with
  | nil=>exact ⟨cells,rfl,hc,hx,hr⟩
  | cons v vs=>simp at hl
 | (i,a) :: r,vs,xs,ys,cells,hb,hl,hv,hc,hx,hr=>by
  cases vs with
  | nil=>simp at hl
  | cons v vs =>
   obtain ⟨vi,v⟩:=v
   have h0:=hv 0 (by simp)
   simp only [j8] at h0
   obtain ⟨rfl,ha⟩:=h0
   simp only [aw7] at hb
   split at hb
   ·rename_i p hp
    split at hb
    ·rename_i F hF
     split at hb
     ·rename_i hok
      simp only [jd,beq_iff_eq] at hok
      obtain ⟨fi,hfi,hpn,hfit⟩:=hpl _ _ hp
      obtain ⟨SF⟩:=ajk hF
      have hsz:fi.size=F.kinds.length:=by
       have:=SF.info;rw [hfi] at this;simp only [ja] at this;rw [this];exact SF.size
      obtain ⟨hs,hcs⟩:=bjs h hok.1 ha
      obtain ⟨cells',hf,hc',hg⟩:=ckj (rest:=vs) (v:=v) hpn (by rw [hs,hok.2,hsz]) (by rw [hc];exact hfit)
      rw [hf]
      have hfit':p.1+(aje a).length≤xs.length:=by rw [hok.2,hx,← hsz];exact hfit
      refine bqf hpl h r vs _ ys cells' hb (by simpa using hl) (fun k hk=>by have:=hv (k+1) (by simp;omega);simpa using this) (hc'.trans hc) (by rw [aqt _ _ _ hfit',hx]) (fun j hj=>?_)
      rw [aqt _ _ _ hfit'] at hj
      rw [hg j,ak4 _ _ _ _ _ hfit',hok.2,← hsz]
      split
      ·exact hcs _ (by rw [hok.2,← hsz];omega)
      ·exact hr j hj
     ·cases hb
    ·cases hb
   ·cases hb
theorem mapM_pure {α β:Type} (f:α→Sem β) (g:α→β):∀ (l:List α),(∀ x,x∈l→(f x).run P w = .ok (g x) w)→(l.mapM f).run P w = .ok (l.map g) w
 | [],_=>rfl
 | x :: l,h=>by
  simp only [List.mapM_cons,jn,h x (by simp),jl,mapM_pure f g l (fun y hy=>h y (by simp [hy])),jy,jX]
theorem dw0 {t:TypeId} {T:TyI} {parts:List (Nat×A)} {vs:Array (Nat×Value)} {ys:List A} (h:RelL P w0 N σ s tms w) (hT:tyI P t=some T) (hb:aw7 P T s.hp parts (T.kinds.map bzq)=some ys) (hne:T.fields≠[] )
  (hl:vs.size=parts.length) (hv:∀ k,k < parts.length→(vs.toList.getD k (0,undef)).1=(parts.getD k (0,.unk)).1∧ARel P w (Al w0 w σ s.hp) σ (vs.toList.getD k (0,undef)).2 (parts.getD k (0,.unk)).2) :
  ∃ v,(Instr.build t vs).run P w = .ok v w∧ARel P w (Al w0 w σ s.hp) σ v (.agg ys):=by
 obtain ⟨S⟩:=ajk hT
 have hfs:=S.fields
 have hfit:=S.fit
 have hund:=S.und
 obtain ⟨z1,z2⟩:=cw0 (P:=P) (w:=w) (al:=Al w0 w σ s.hp) (σ:=σ) S.zfits
 generalize S.d=d at *
 cases d with
 | struct fs =>
  simp only [ay6] at hfs
  have hinfo:∀ f,f∈fs.toList→∃ fi,P.info? f.type=some fi∧f.offset+fi.size≤T.kinds.length:=by
   intro f hf
   simp only [bkc,ay6,List.all_map,List.all_eq_true] at hfit
   have:=hfit f hf
   simp only [Function.comp] at this
   cases hi:P.info? f.type with
   | none=>simp [hi] at this
   | some fi =>
    simp only [hi,jd,decide_eq_true_eq] at this
    exact ⟨fi,rfl,this.2⟩
  have hpl:(fs.mapM fun f=>do pure (f.offset,← sizeOf f.type):Sem (Array (Nat×Nat))).run P w = .ok (fs.toList.map fun f=>(f.offset,P.cellsOf f.type)).toArray w:=by
   rw [Array.mapM_eq_mapM_toList,Sem.run_map,mapM_pure (P:=P) (w:=w) _ (fun f=>(f.offset,P.cellsOf f.type)) fs.toList (fun f hf=>by
    obtain ⟨fi,hi,_⟩:=hinfo f hf
    simp only [jn,run_sizeOf w hi,jl,jy])]
   rfl
  obtain ⟨cells',hf,hc',hy,hr⟩:=bqf (P:=P) (T:=T) (place:=((fs.toList.map fun f=>(f.offset,P.cellsOf f.type)).toArray[·]?)) (by
   intro i p hp
   rw [hfs,j1] at hp
   cases hff:fs.toList[i]? with
   | none=>simp [hff] at hp
   | some fl =>
    simp only [hff,ju,ja] at hp
    subst hp
    obtain ⟨fi,hi,hle⟩:=hinfo fl (List.mem_of_getElem? hff)
    refine ⟨fi,hi,?_,hle⟩
    simp only [List.getElem?_toArray,j1,hff,ju,Program.cellsOf,hi,jB]) h parts vs.toList (T.kinds.map bzq) ys S.z.cells hb (by simpa using hl) hv (by simpa using z1) (by simp) (fun j hj=>by
    have:=z2 j (by simpa using hj)
    simpa [je,jb] using this)
  refine ⟨.agg cells',?_,?_⟩
  ·simp only [Instr.build,zeroValue,jn,run_typeInfo w S.info,jl,S.zero,jy,run_underlying hund,hpl,hf]
  ·have:=ARel.agg (P:=P) (w:=w) (al:=Al w0 w σ s.hp) (σ:=σ) cells'.toList ys (by simpa [hy] using hc') (fun i hi=>by
    have:=hr i hi
    simpa [je,jb] using this)
   simpa using this
 | _=>simp only [ay6] at hfs;exact absurd hfs hne
def bz2 (P:Program) (w:World) (al:Nat→Prop) (ks:List Kd) (cells:Array Value) (es:List (List C)):Prop :=
 (∀ i,i < es.length→(eg es i).length=ks.length)∧∀ i,i < es.length→∀ j,j < ks.length→RepC P w al (ks.getD j .other) (cells.getD (i * ks.length+j) undef) (cg (eg es i) j)
theorem bz2.set {ks:List Kd} {cells cells':Array Value} {es:List (List C)} {i:Nat} {v:Value} {xs:List C} (h:bz2 P w al ks cells es) (hi:i < es.length) (hx:xs.length=ks.length)
  (hg:∀ k,cells'.getD k undef=if i * ks.length≤k∧k < i * ks.length+ks.length then v.cells.getD (k - i * ks.length) undef else cells.getD k undef)
  (hr:∀ j,j < ks.length→RepC P w al (ks.getD j .other) (v.cells.getD j undef) (cg xs j)):bz2 P w al ks cells' (es.set i xs):=by
 refine ⟨fun i' hi'=>?_,fun i' hi' j hj=>?_⟩ <;> rw [List.length_set] at hi'
 ·by_cases e:i'=i
  ·subst e;simpa [eg,jb,hi'] using hx
  ·have:eg (es.set i xs) i'=eg es i':=by simp [eg,jb,Jv (Ne.symm e)]
   rw [this];exact h.1 i' hi'
 ·rw [hg]
  by_cases e:i'=i
  ·subst e
   have e1:eg (es.set i' xs) i'=xs:=by simp [eg,jb,hi']
   rw [if_pos (by omega),e1]
   have:i' * ks.length+j - i' * ks.length=j:=by omega
   rw [this];exact hr j hj
  ·have e1:eg (es.set i xs) i'=eg es i':=by simp [eg,jb,Jv (Ne.symm e)]
   rw [e1,if_neg ?_]
   ·exact h.2 i' hi' j hj
   ·rcases Nat.lt_or_ge i' i with hlt | hge
    ·have:(i'+1) * ks.length≤i * ks.length:=jk _ hlt
     rw [jo] at this;omega
    ·have:(i+1) * ks.length≤i' * ks.length:=jk _ (by omega)
     rw [jo] at this;omega
theorem bqh {ks:List Kd} {n:Nat} {al':Nat→Prop} (h00:tyI P 0=none) (h:RelL P w0 N σ s tms w) (h1:∀ b,Al w0 w σ s.hp b→al' b) (hks:0 < ks.length) :
  ∀ (parts:List (Nat×A)) (vs:List (Nat×Value)) (es es':List (List C)) (cells:Array Value),aqz s.hp ks parts es=some es'→vs.length=parts.length→es.length=n →
   (∀ k,k < parts.length→(vs.getD k (0,undef)).1=(parts.getD k (0,.unk)).1∧ARel P w (Al w0 w σ s.hp) σ (vs.getD k (0,undef)).2 (parts.getD k (0,.unk)).2) →
   (∀ id,id∈ak5 (parts.map (·.2))→∀ b,aj0 (σ id) b→al' b) →
   cells.size=n * ks.length→bz2 P w al' ks cells es →
   ∃ cells',Instr.fill (fun i=>some (i * ks.length,ks.length)) cells vs=some cells'∧cells'.size=n * ks.length∧es'.length=n∧bz2 P w al' ks cells' es'
 | [],vs,es,es',cells,hb,hl,hn,hv,h2,hc,hr=>by
  simp only [aqz,ja] at hb;subst hb
  cases vs with
  | nil=>exact ⟨cells,rfl,hc,hn,hr⟩
  | cons v vs=>simp at hl
 | (i,a) :: r,vs,es,es',cells,hb,hl,hn,hv,h2,hc,hr=>by
  cases vs with
  | nil=>simp at hl
  | cons v vs =>
   obtain ⟨vi,v⟩:=v
   have h0:=hv 0 (by simp)
   simp only [j8] at h0
   obtain ⟨rfl,ha⟩:=h0
   simp only [aqz] at hb
   split at hb
   ·rename_i ks' xs hto
    split at hb
    ·rename_i hok
     simp only [jd,beq_iff_eq,decide_eq_true_eq] at hok
     obtain ⟨⟨hbx,hfk⟩,hxl,hi⟩:=hok
     obtain ⟨hs,hcs⟩:=bjs h hbx ha
     obtain ⟨l1,l2,hrep⟩:=ay0 h h1 hto (vs:=v.cells.toList) (by simpa using hs) (fun j hj=>by
      have:=hcs j hj
      simpa [je,jb] using this) (fun id hid=>h2 id (by
       simp only [jX,ak5]
       exact jf.2 (.inl hid)))
     obtain ⟨f1,f2⟩:=bwz hfk
     have hvl:v.cells.size=ks.length:=by rw [hs,← l2,hxl]
     have hfit:vi * ks.length+ks.length≤cells.size:=by
      rw [hc]
      calc vi * ks.length+ks.length=(vi+1) * ks.length:=by rw [jo];omega
       _≤n * ks.length:=jk _ (by omega)
     obtain ⟨cells',hf,hc',hg⟩:=ckj (place:=fun i=>some (i * ks.length,ks.length)) (i:=vi) (rest:=vs) (v:=v) rfl hvl hfit
     rw [hf]
     refine bqh h00 h h1 hks r vs _ es' cells' hb (by simpa using hl) (by simpa using hn) (fun k hk=>by have:=hv (k+1) (by simp;omega);simpa using this) (fun id hid=>h2 id (by
      simp only [jX,ak5]
      exact jf.2 (.inr hid))) (hc'.trans hc) (hr.set hi hxl hg (fun j hj=>?_))
     have:=bz1 h00 (f2 j (by omega)) (hrep j (by omega))
     simpa [je,jb] using this
    ·cases hb
   ·cases hb
theorem eq9 {k:Kd} {v:Value} (h:bkk k v=true):RepC P w al k v (by7 k):=by
 unfold bkk at h
 split at h
 ·rename_i b
  have:b=false:=by simpa using h
  subst this;exact .bool (.bool false)
 ·rename_i k k' n
  simp only [jd,beq_iff_eq] at h
  obtain ⟨rfl,rfl⟩:=h
  exact .int k (.int 0) ⟨by cases k <;> decide,by cases k <;> decide⟩
 ·rename_i s
  have:s=⟨#[]⟩:=by
   apply ByteArray.ext
   simp only [beq_iff_eq] at h
   exact Array.eq_empty_of_size_eq_zero h
  subst this;exact .str (.str []) (by simp)
 ·exact .empty _ _ _ _ rfl nofun
 ·exact .ptr _ _ _
 ·exact .other _ _
 ·cases h
theorem azr:∀ {ks:List Kd} {vs:List Value},akp ks vs=true→vs.length=ks.length∧∀ j,j < ks.length→RepC P w al (ks.getD j .other) (vs.getD j undef) (cg (ks.map by7) j)
 | [],[],_=>⟨rfl,fun j hj=>by simp at hj⟩
 | [],_ :: _,h=>by simp [akp] at h
 | _ :: _,[],h=>by simp [akp] at h
 | k :: ks,v :: vs,h=>by
  simp only [akp,jd] at h
  obtain ⟨h1,h2⟩:=azr h.2
  refine ⟨by simp [h1],fun j hj=>?_⟩
  cases j with
  | zero=>simpa using eq9 h.1
  | succ j=>simpa using h2 j (by simpa using hj)
theorem dwq {e:TypeId} {E:TyI} (hE:tyI P e=some E) (S:ez7 P e E) (n:Nat) :
  ((Jh (n * E.kinds.length)).map (S.z.cells[· % S.z.cells.size]!)).size=n * E.kinds.length ∧
  bz2 P w al E.kinds ((Jh (n * E.kinds.length)).map (S.z.cells[· % S.z.cells.size]!)) (jw n (ajg E)):=by
 obtain ⟨z1,z2⟩:=azr (P:=P) (w:=w) (al:=al) S.zfits
 have hz:S.z.cells.size=E.kinds.length:=by simpa using z1
 have hp:=az2 hE
 refine ⟨by simp,fun i hi=>?_,fun i hi j hj=>?_⟩ <;> simp only [List.length_replicate] at hi
 ·simp [eg,jb,hi,ajg]
 ·have e1:eg (jw n (ajg E)) i=E.kinds.map by7:=by simp [eg,jb,hi,ajg]
  rw [e1]
  have hlt:i * E.kinds.length+j < n * E.kinds.length:=by
   calc i * E.kinds.length+j < i * E.kinds.length+E.kinds.length:=by omega
    _=(i+1) * E.kinds.length:=by rw [jo];omega
    _≤n * E.kinds.length:=jk _ (by omega)
  have e2:((Jh (n * E.kinds.length)).map (S.z.cells[· % S.z.cells.size]!)).getD (i * E.kinds.length+j) undef=S.z.cells.toList.getD j undef:=by
   have hm:(i * E.kinds.length+j) % S.z.cells.size=j:=by
    rw [hz,Nat.mul_comm,Nat.mul_add_mod,Nat.mod_eq_of_lt hj]
   rw [je,Array.getElem?_map,Array.getElem?_range,if_pos hlt]
   simp only [ju,jB,hm]
   have hj':j < S.z.cells.size:=by omega
   simp [getElem!_pos,hj',jb]
  rw [e2]
  exact z2 j hj
theorem cjh {t e:TypeId} {E:TyI} {n id:Nat} {parts:List (Nat×A)} {vs:Array (Nat×Value)} {es:List (List C)} (h00:tyI P 0=none) (h:RelL P w0 N σ s tms w) (hs:slE P t=some (e,E)) (hd:aqh (s.hp id)=true)
  (hb:aqz s.hp E.kinds parts (jw n (ajg E))=some es) (hby:(n:Int) * E.bytes≤140737488355328) (hcl:n * E.kinds.length≤16777216)
  (hl:vs.size=parts.length) (hv:∀ k,k < parts.length→(vs.toList.getD k (0,undef)).1=(parts.getD k (0,.unk)).1∧ARel P w (Al w0 w σ s.hp) σ (vs.toList.getD k (0,undef)).2 (parts.getD k (0,.unk)).2)
  (hids:∀ id,id∈ak5 (parts.map (·.2))→∃ t es,s.hp id = .row t es∨s.hp id = .frz t es) :
  ∃ v w',(Instr.buildSlice t n vs).run P w = .ok v w'∧∃ σ',RelL P w0 N σ' ⟨s.tm,upd (freezeAll s.hp (ak5 (parts.map (·.2)))) id (.row e es)⟩ tms w'∧ARel P w' (Al w0 w' σ' (upd (freezeAll s.hp (ak5 (parts.map (·.2)))) id (.row e es))) σ' v (.own id E.kinds 0 n):=by
 obtain ⟨hu,hE⟩:=aqa hs
 obtain ⟨S⟩:=ajk hE
 obtain ⟨hal1,hal2⟩:=bqs h (ak5 (parts.map (·.2))) hids
 have hz:=h.freezeAll (ak5 (parts.map (·.2)))
 obtain ⟨zs,zr⟩:=dwq (w:=w) (al:=Al w0 w σ (freezeAll s.hp (ak5 (parts.map (·.2))))) hE S n
 obtain ⟨cells',hf,hc',hel,hr⟩:=bqh h00 h hal1 (az2 hE) parts vs.toList _ es _ hb (by simpa using hl) (by simp) hv hal2 zs zr
 have hdz:freezeAll s.hp (ak5 (parts.map (·.2))) id = .dead:=by
  rw [azm]
  split
  ·rename_i hm
   obtain ⟨t,es,hh | hh⟩:=hids id hm <;> rw [hh] at hd <;> simp [aqh] at hd
  ·exact ajw hd
 refine ⟨.slice (some ⟨w.heap.size,0,none⟩) n n,w.alloc (.cells cells' e (0,0)),?_,upd σ id (.row w.heap.size n e E.kinds n),?_,.own0 (F:=fun _=>False) id _ n w.heap.size n n e (by simp [upd]) (jq _)⟩
 ·have hcl':¬ (n * E.kinds.length > 2 ^ 24):=by omega
  simp only [Instr.buildSlice,jn,run_underlying hu,jl,akn hE,hcl',if_false,pure_bind]
  by_cases h0:n * E.kinds.length=0
  ·have hn:n=0:=by
    rcases Nat.mul_eq_zero.1 h0 with h1 | h1
    ·exact h1
    ·have:=az2 hE;omega
   subst hn
   have e0:∀ f:Nat→Value,(Jh (0 * E.kinds.length)).map f = #[]:=fun f=>by simp
   rw [e0] at hf
   have e1:∀ f:Nat→Value,(Jh 0).map f = #[]:=fun f=>by simp
   simp only [Nat.zero_mul,if_true,e1,hf]
   simp only [newRow,newObj,jn]
   rfl
  ·simp only [h0,if_false,zeroValue,jn,run_typeInfo w S.info,jl,S.zero,jy,hf]
   simp only [newRow,newObj,jn]
   rfl
 ·refine hz.alloc hdz (.cells cells' e (0,0)) (.row w.heap.size n e E.kinds n) _ (by simp [aj0];try (intro c hc;exact hc.symm)) (fun hal hheap hss=>?_)
  refine ⟨E,hE,by rw [hel];exact hby,.inr ⟨w.heap.size,n,cells',_,by simp [upd,hel],.inl h.below.size,heap_alloc_new w _,by omega,?_,hc',hr.1,fun i hi j hj=>(hr.2 i hi j hj).mono hheap hal⟩⟩
  have:=az2 hE
  have:n * 1≤n * E.kinds.length:=Nat.mul_le_mul_left _ (by omega)
  simp only [maxLen];omega
theorem RelL.replace {w':World} {id key:Nat} {t:TypeId} {es es':List (List C)} {r':RefI} (h:RelL P w0 N σ s tms w) (hrow:s.hp id = .row t es) (hk:s.hp key = .dead)
  (hbelow:az1 w0.n w0.mu w0.world w') (hsz:w.heap.size≤w'.heap.size) (hkeep:∀ c,c < w.heap.size→¬ aj0 (σ id) c→w'.heap[c]? = w.heap[c]?)
  (hr:∀ c,aj0 r' c→aj0 (σ id) c∨w.heap.size≤c)
  (hnew:(∀ c,Al w0 w σ s.hp c→Al w0 w' (upd (upd σ id .gone) key r') (upd (upd s.hp id .gone) key (.row t es')) c)→(∀ c,Al w0 w σ s.hp c→w'.heap[c]? = w.heap[c]?) →
   aq2 P w' w0.wr (Al w0 w' (upd (upd σ id .gone) key r') (upd (upd s.hp id .gone) key (.row t es'))) r' t es') :
  RelL P w0 N (upd (upd σ id .gone) key r') ⟨s.tm,upd (upd s.hp id .gone) key (.row t es')⟩ tms w':=by
 have hne:id≠key:=by intro e;rw [e,hk] at hrow;cases hrow
 have hσk:=bj1 (h.blks key) hk
 have hnf:∀ c,Al w0 w σ s.hp c→¬ aj0 (σ id) c:=fun c hc e=>by have:=hc.2.1 id e;simp [hrow,ake] at this
 have hal:∀ c,Al w0 w σ s.hp c→Al w0 w' (upd (upd σ id .gone) key r') (upd (upd s.hp id .gone) key (.row t es')) c:=by
  intro c hc
  refine ⟨Nat.lt_of_lt_of_le hc.1 hsz,fun i hi=>?_,hc.2.2⟩
  by_cases e1:i=key
  ·simp only [upd,e1,if_true] at hi
   rcases hr c hi with h1 | h1
   ·exact absurd h1 (hnf c hc)
   ·have:=hc.1;omega
  ·by_cases e2:i=id
   ·simp [upd,e2,hne,aj0] at hi
   ·simp only [upd,e1,e2,if_false] at hi ⊢;exact hc.2.1 i hi
 have hheap:∀ c,Al w0 w σ s.hp c→w'.heap[c]? = w.heap[c]? := fun c hc=>hkeep c hc.1 (hnf c hc)
 refine h.change hbelow hsz hal hheap (fun i hi=>?_) (fun i=>?_) ?_
 ·by_cases e1:i=key
  ·subst e1;exact absurd hσk hi
  ·by_cases e2:i=id
   ·refine .inr ⟨by simp [upd,e2,hne],?_⟩
    have hB:=h.blks id
    rw [hrow] at hB
    obtain ⟨E,_,_,hB⟩:=hB
    rw [e2]
    rcases hB with ⟨hB,_⟩ | ⟨_,_,_,_,hB,_⟩ <;> rw [hB] <;> exact trivial
   ·exact .inl (by simp [upd,e1,e2])
 ·by_cases e1:i=key
  ·subst e1
   refine .inr ?_
   have:=hnew hal hheap
   simpa [upd,BRel] using this
  ·by_cases e2:i=id
   ·subst e2
    exact .inr (by simp [upd,hne,BRel])
   ·refine .inl ⟨by simp [upd,e1,e2],by simp [upd,e1,e2],fun b hb=>hkeep b (aj3 (h.blks i) hb).1 (fun e=>e2 (h.inj i id b hb e))⟩
 ·intro i j b hi hj
  by_cases e1:i=key <;> by_cases e2:j=key
  ·rw [e1,e2]
  ·by_cases e3:j=id
   ·simp [upd,e3,hne,aj0] at hj
   ·simp only [upd,e1,if_true] at hi
    simp only [upd,e2,e3,if_false] at hj
    rcases hr b hi with h1 | h1
    ·exact absurd (h.inj j id b hj h1) e3
    ·have:=(aj3 (h.blks j) hj).1;omega
  ·by_cases e3:i=id
   ·simp [upd,e3,hne,aj0] at hi
   ·simp only [upd,e2,if_true] at hj
    simp only [upd,e1,e3,if_false] at hi
    rcases hr b hj with h1 | h1
    ·exact absurd (h.inj i id b hi h1) e3
    ·have:=(aj3 (h.blks i) hi).1;omega
  ·by_cases e3:i=id
   ·simp [upd,e3,hne,aj0] at hi
   ·by_cases e4:j=id
    ·simp [upd,e4,hne,aj0] at hj
    ·simp only [upd,e1,e3,if_false] at hi
     simp only [upd,e2,e4,if_false] at hj
     exact h.inj i j b hi hj
theorem RelL.newNil {e:TypeId} {E:TyI} {id:Nat} (h:RelL P w0 N σ s tms w) (hE:tyI P e=some E) (hd:s.hp id = .dead) :
  RelL P w0 N (upd σ id (.rown e E.kinds)) ⟨s.tm,upd s.hp id (.row e [])⟩ tms w:=by
 have hσ:=bj1 (h.blks id) hd
 have hbl:∀ i b,aj0 (upd σ id (.rown e E.kinds) i) b→i≠id∧aj0 (σ i) b:=by
  intro i b hi
  by_cases e1:i=id
  ·simp [upd,e1,aj0] at hi
  ·simp only [upd,e1,if_false] at hi;exact ⟨e1,hi⟩
 refine h.change h.below (jq _) (fun c hc=>⟨hc.1,fun i hi=>?_,hc.2.2⟩) (fun _ _=>rfl) (fun i hi=>?_) (fun i=>?_) (fun i j b hi hj=>h.inj i j b (hbl i b hi).2 (hbl j b hj).2)
 ·obtain ⟨e1,e2⟩:=hbl i c hi
  simp only [upd,e1,if_false];exact hc.2.1 i e2
 ·by_cases e1:i=id
  ·subst e1;exact absurd hσ hi
  ·exact .inl (by simp [upd,e1])
 ·by_cases e1:i=id
  ·subst e1
   refine .inr ?_
   have e2:upd s.hp i (.row e []) i = .row e []:=by simp [upd]
   rw [e2]
   exact ⟨E,hE,by simp,.inl ⟨by simp [upd],rfl⟩⟩
  ·exact .inl ⟨by simp [upd,e1],by simp [upd,e1],fun _ _=>rfl⟩
end Go.AE
