/- Text. -/
import Derived.Test.YtcdofkflbnpjjaaAE7
set_option linter.unusedVariables false
namespace Go.AE
open Go.RowKit (Below)
variable {P:Program} {w0:Base} {w:World} {N:Nat} {σ:Nat→RefI} {s:S} {tms:Array Value} {ρ:Operand→Value} {al:Nat→Prop}
theorem fold_set (off:Nat):∀ (l:List Value) (j0:Nat) (cs:Array Value),off+j0+l.length≤cs.size →
    ((l.zipIdx j0).foldl (fun cs (p:Value×Nat)=>cs.setIfInBounds (off+p.2) p.1) cs).size=cs.size ∧
    ∀ k,((l.zipIdx j0).foldl (fun cs (p:Value×Nat)=>cs.setIfInBounds (off+p.2) p.1) cs).getD k undef=if off+j0≤k∧k < off+j0+l.length then l.getD (k - (off+j0)) undef else cs.getD k undef
  | [],j0,cs,h=>by
    refine ⟨rfl,fun k=>?_⟩
    simp only [List.zipIdx_nil,List.foldl_nil,List.length_nil]
    rw [if_neg (by omega)]
  | v :: l,j0,cs,h=>by
    simp only [List.length_cons] at h
    obtain ⟨h1,h2⟩:=fold_set off l (j0+1) (cs.setIfInBounds (off+j0) v) (by simp;omega)
    simp only [List.zipIdx_cons,List.foldl_cons]
    refine ⟨by rw [h1];simp,fun k=>?_⟩
    rw [h2 k,getD_set (by omega)]
    simp only [List.length_cons]
    by_cases hk:off+(j0+1)≤k∧k < off+(j0+1)+l.length
    · rw [if_pos hk,if_pos (by omega)]
      have:k - (off+j0)=(k - (off+(j0+1)))+1:=by omega
      rw [this,List.getD_cons_succ]
    · rw [if_neg hk]
      by_cases e:k=off+j0
      · subst e
        rw [if_pos rfl,if_pos (by omega)]
        simp
      · rw [if_neg e,if_neg (by omega)]
theorem zipIdx_fold (v:Value) (off:Nat) (cs:Array Value) :
    (v.cells.zipIdx.foldl (fun cs (c,j)=>cs.setIfInBounds (off+j) c) cs)=(v.cells.toList.zipIdx 0).foldl (fun cs (p:Value×Nat)=>cs.setIfInBounds (off+p.2) p.1) cs:=by
  rw [← Array.foldl_toList,Array.toList_zipIdx]
theorem fill_one {place:Nat→Option (Nat×Nat)} {cells:Array Value} {i off n:Nat} {v:Value} {rest:List (Nat×Value)} (hp:place i=some (off,n)) (hn:v.cells.size=n) (hfit:off+n≤cells.size) :
    ∃ cells',Instr.fill place cells ((i,v) :: rest)=Instr.fill place cells' rest∧cells'.size=cells.size ∧
      ∀ k,cells'.getD k undef=if off≤k∧k < off+n then v.cells.getD (k - off) undef else cells.getD k undef:=by
  obtain ⟨h1,h2⟩:=fold_set off v.cells.toList 0 cells (by simp;omega)
  refine ⟨_,?_,h1,fun k=>?_⟩
  · simp only [Instr.fill,hp]
    rw [if_neg (by simp;omega),zipIdx_fold]
  · rw [h2 k]
    simp only [Nat.add_zero,Array.length_toList,hn]
    have:v.cells.toList.getD (k - off) undef=v.cells.getD (k - off) undef:=by simp [Array.getD_eq_getD_getElem?,List.getD_eq_getElem?_getD]
    rw [this]
theorem buildParts_sound {T:TyI} {place:Nat→Option (Nat×Nat)} (hpl:∀ i p,T.fields[i]? = some p→∃ fi,P.info? p.2=some fi∧place i=some (p.1,fi.size)∧p.1+fi.size≤T.kinds.length) (h:RelL P w0 N σ s tms w) :
    ∀ (parts:List (Nat×A)) (vs:List (Nat×Value)) (xs ys:List A) (cells:Array Value),buildParts P T s.hp parts xs=some ys→vs.length=parts.length →
      (∀ k,k < parts.length→(vs.getD k (0,undef)).1=(parts.getD k (0,.unk)).1∧ARel P w (Al w0 w σ s.hp) σ (vs.getD k (0,undef)).2 (parts.getD k (0,.unk)).2) →
      cells.size=T.kinds.length→xs.length=T.kinds.length→(∀ j,j < xs.length→ARel P w (Al w0 w σ s.hp) σ (cells.getD j undef) (xs.getD j .unk)) →
      ∃ cells',Instr.fill place cells vs=some cells'∧cells'.size=T.kinds.length∧ys.length=T.kinds.length∧∀ j,j < ys.length→ARel P w (Al w0 w σ s.hp) σ (cells'.getD j undef) (ys.getD j .unk)
  | [],vs,xs,ys,cells,hb,hl,hv,hc,hx,hr=>by
    simp only [buildParts,Option.some.injEq] at hb;subst hb
    cases vs with
    | nil=>exact ⟨cells,rfl,hc,hx,hr⟩
    | cons v vs=>simp at hl
  | (i,a) :: r,vs,xs,ys,cells,hb,hl,hv,hc,hx,hr=>by
    cases vs with
    | nil=>simp at hl
    | cons v vs =>
      obtain ⟨vi,v⟩:=v
      have h0:=hv 0 (by simp)
      simp only [List.getD_cons_zero] at h0
      obtain ⟨rfl,ha⟩:=h0
      simp only [buildParts] at hb
      split at hb
      · rename_i p hp
        split at hb
        · rename_i F hF
          split at hb
          · rename_i hok
            simp only [Bool.and_eq_true,beq_iff_eq] at hok
            obtain ⟨fi,hfi,hpn,hfit⟩:=hpl _ _ hp
            obtain ⟨SF⟩:=tyI_spec hF
            have hsz:fi.size=F.kinds.length:=by
              have:=SF.info;rw [hfi] at this;simp only [Option.some.injEq] at this;rw [this];exact SF.size
            obtain ⟨hs,hcs⟩:=cellsA_rel h hok.1 ha
            obtain ⟨cells',hf,hc',hg⟩:=fill_one (rest:=vs) (v:=v) hpn (by rw [hs,hok.2,hsz]) (by rw [hc];exact hfit)
            rw [hf]
            have hfit':p.1+(cellsA a).length≤xs.length:=by rw [hok.2,hx,← hsz];exact hfit
            refine buildParts_sound hpl h r vs _ ys cells' hb (by simpa using hl) (fun k hk=>by have:=hv (k+1) (by simp;omega);simpa using this) (hc'.trans hc) (by rw [splice_length _ _ _ hfit',hx]) (fun j hj=>?_)
            rw [splice_length _ _ _ hfit'] at hj
            rw [hg j,splice_getD _ _ _ _ _ hfit',hok.2,← hsz]
            split
            · exact hcs _ (by rw [hok.2,← hsz];omega)
            · exact hr j hj
          · cases hb
        · cases hb
      · cases hb
theorem mapM_pure {α β:Type} (f:α→Sem β) (g:α→β):∀ (l:List α),(∀ x,x∈l→(f x).run P w = .ok (g x) w)→(l.mapM f).run P w = .ok (l.map g) w
  | [],_=>rfl
  | x :: l,h=>by
    simp only [List.mapM_cons,Sem.run_bind,h x (by simp),Result.andThen_ok,mapM_pure f g l (fun y hy=>h y (by simp [hy])),Sem.run_pure,List.map_cons]
theorem build_sound {t:TypeId} {T:TyI} {parts:List (Nat×A)} {vs:Array (Nat×Value)} {ys:List A} (h:RelL P w0 N σ s tms w) (hT:tyI P t=some T) (hb:buildParts P T s.hp parts (T.kinds.map zeroA)=some ys) (hne:T.fields≠[] )
    (hl:vs.size=parts.length) (hv:∀ k,k < parts.length→(vs.toList.getD k (0,undef)).1=(parts.getD k (0,.unk)).1∧ARel P w (Al w0 w σ s.hp) σ (vs.toList.getD k (0,undef)).2 (parts.getD k (0,.unk)).2) :
    ∃ v,(Instr.build t vs).run P w = .ok v w∧ARel P w (Al w0 w σ s.hp) σ v (.agg ys):=by
  obtain ⟨S⟩:=tyI_spec hT
  have hfs:=S.fields
  have hfit:=S.fit
  have hund:=S.und
  obtain ⟨z1,z2⟩:=zeros_rel (P:=P) (w:=w) (al:=Al w0 w σ s.hp) (σ:=σ) S.zfits
  generalize S.d=d at *
  cases d with
  | struct fs =>
    simp only [fieldsOfD] at hfs
    have hinfo:∀ f,f∈fs.toList→∃ fi,P.info? f.type=some fi∧f.offset+fi.size≤T.kinds.length:=by
      intro f hf
      simp only [fieldsFit,fieldsOfD,List.all_map,List.all_eq_true] at hfit
      have:=hfit f hf
      simp only [Function.comp] at this
      cases hi:P.info? f.type with
      | none=>simp [hi] at this
      | some fi =>
        simp only [hi,Bool.and_eq_true,decide_eq_true_eq] at this
        exact ⟨fi,rfl,this.2⟩
    have hpl:(fs.mapM fun f=>do pure (f.offset,← sizeOf f.type):Sem (Array (Nat×Nat))).run P w = .ok (fs.toList.map fun f=>(f.offset,P.cellsOf f.type)).toArray w:=by
      rw [Array.mapM_eq_mapM_toList,Sem.run_map,mapM_pure (P:=P) (w:=w) _ (fun f=>(f.offset,P.cellsOf f.type)) fs.toList (fun f hf=>by
        obtain ⟨fi,hi,_⟩:=hinfo f hf
        simp only [Sem.run_bind,run_sizeOf w hi,Result.andThen_ok,Sem.run_pure])]
      rfl
    obtain ⟨cells',hf,hc',hy,hr⟩:=buildParts_sound (P:=P) (T:=T) (place:=((fs.toList.map fun f=>(f.offset,P.cellsOf f.type)).toArray[·]?)) (by
      intro i p hp
      rw [hfs,List.getElem?_map] at hp
      cases hff:fs.toList[i]? with
      | none=>simp [hff] at hp
      | some fl =>
        simp only [hff,Option.map_some,Option.some.injEq] at hp
        subst hp
        obtain ⟨fi,hi,hle⟩:=hinfo fl (List.mem_of_getElem? hff)
        refine ⟨fi,hi,?_,hle⟩
        simp only [List.getElem?_toArray,List.getElem?_map,hff,Option.map_some,Program.cellsOf,hi,Option.getD_some]) h parts vs.toList (T.kinds.map zeroA) ys S.z.cells hb (by simpa using hl) hv (by simpa using z1) (by simp) (fun j hj=>by
        have:=z2 j (by simpa using hj)
        simpa [Array.getD_eq_getD_getElem?,List.getD_eq_getElem?_getD] using this)
    refine ⟨.agg cells',?_,?_⟩
    · simp only [Instr.build,zeroValue,Sem.run_bind,run_typeInfo w S.info,Result.andThen_ok,S.zero,Sem.run_pure,run_underlying hund,hpl,hf]
    · have:=ARel.agg (P:=P) (w:=w) (al:=Al w0 w σ s.hp) (σ:=σ) cells'.toList ys (by simpa [hy] using hc') (fun i hi=>by
        have:=hr i hi
        simpa [Array.getD_eq_getD_getElem?,List.getD_eq_getElem?_getD] using this)
      simpa using this
  | _=>simp only [fieldsOfD] at hfs;exact absurd hfs hne
def RowCells (P:Program) (w:World) (al:Nat→Prop) (ks:List Kd) (cells:Array Value) (es:List (List C)):Prop :=
  (∀ i,i < es.length→(eg es i).length=ks.length)∧∀ i,i < es.length→∀ j,j < ks.length→RepC P w al (ks.getD j .other) (cells.getD (i * ks.length+j) undef) (cg (eg es i) j)
theorem RowCells.set {ks:List Kd} {cells cells':Array Value} {es:List (List C)} {i:Nat} {v:Value} {xs:List C} (h:RowCells P w al ks cells es) (hi:i < es.length) (hx:xs.length=ks.length)
    (hg:∀ k,cells'.getD k undef=if i * ks.length≤k∧k < i * ks.length+ks.length then v.cells.getD (k - i * ks.length) undef else cells.getD k undef)
    (hr:∀ j,j < ks.length→RepC P w al (ks.getD j .other) (v.cells.getD j undef) (cg xs j)):RowCells P w al ks cells' (es.set i xs):=by
  refine ⟨fun i' hi'=>?_,fun i' hi' j hj=>?_⟩ <;> rw [List.length_set] at hi'
  · by_cases e:i'=i
    · subst e;simpa [eg,List.getD_eq_getElem?_getD,hi'] using hx
    · have:eg (es.set i xs) i'=eg es i':=by simp [eg,List.getD_eq_getElem?_getD,List.getElem?_set_ne (Ne.symm e)]
      rw [this];exact h.1 i' hi'
  · rw [hg]
    by_cases e:i'=i
    · subst e
      have e1:eg (es.set i' xs) i'=xs:=by simp [eg,List.getD_eq_getElem?_getD,hi']
      rw [if_pos (by omega),e1]
      have:i' * ks.length+j - i' * ks.length=j:=by omega
      rw [this];exact hr j hj
    · have e1:eg (es.set i xs) i'=eg es i':=by simp [eg,List.getD_eq_getElem?_getD,List.getElem?_set_ne (Ne.symm e)]
      rw [e1,if_neg ?_]
      · exact h.2 i' hi' j hj
      · rcases Nat.lt_or_ge i' i with hlt | hge
        · have:(i'+1) * ks.length≤i * ks.length:=Nat.mul_le_mul_right _ hlt
          rw [Nat.add_mul] at this;omega
        · have:(i+1) * ks.length≤i' * ks.length:=Nat.mul_le_mul_right _ (by omega)
          rw [Nat.add_mul] at this;omega
theorem placeParts_sound {ks:List Kd} {n:Nat} {al':Nat→Prop} (h00:tyI P 0=none) (h:RelL P w0 N σ s tms w) (h1:∀ b,Al w0 w σ s.hp b→al' b) (hks:0 < ks.length) :
    ∀ (parts:List (Nat×A)) (vs:List (Nat×Value)) (es es':List (List C)) (cells:Array Value),placeParts s.hp ks parts es=some es'→vs.length=parts.length→es.length=n →
      (∀ k,k < parts.length→(vs.getD k (0,undef)).1=(parts.getD k (0,.unk)).1∧ARel P w (Al w0 w σ s.hp) σ (vs.getD k (0,undef)).2 (parts.getD k (0,.unk)).2) →
      (∀ id,id∈idsOf (parts.map (·.2))→∀ b,blockOf (σ id) b→al' b) →
      cells.size=n * ks.length→RowCells P w al' ks cells es →
      ∃ cells',Instr.fill (fun i=>some (i * ks.length,ks.length)) cells vs=some cells'∧cells'.size=n * ks.length∧es'.length=n∧RowCells P w al' ks cells' es'
  | [],vs,es,es',cells,hb,hl,hn,hv,h2,hc,hr=>by
    simp only [placeParts,Option.some.injEq] at hb;subst hb
    cases vs with
    | nil=>exact ⟨cells,rfl,hc,hn,hr⟩
    | cons v vs=>simp at hl
  | (i,a) :: r,vs,es,es',cells,hb,hl,hn,hv,h2,hc,hr=>by
    cases vs with
    | nil=>simp at hl
    | cons v vs =>
      obtain ⟨vi,v⟩:=v
      have h0:=hv 0 (by simp)
      simp only [List.getD_cons_zero] at h0
      obtain ⟨rfl,ha⟩:=h0
      simp only [placeParts] at hb
      split at hb
      · rename_i ks' xs hto
        split at hb
        · rename_i hok
          simp only [Bool.and_eq_true,beq_iff_eq,decide_eq_true_eq] at hok
          obtain ⟨⟨hbx,hfk⟩,hxl,hi⟩:=hok
          obtain ⟨hs,hcs⟩:=cellsA_rel h hbx ha
          obtain ⟨l1,l2,hrep⟩:=toKCells_sound h h1 hto (vs:=v.cells.toList) (by simpa using hs) (fun j hj=>by
            have:=hcs j hj
            simpa [Array.getD_eq_getD_getElem?,List.getD_eq_getElem?_getD] using this) (fun id hid=>h2 id (by
              simp only [List.map_cons,idsOf]
              exact List.mem_append.2 (.inl hid)))
          obtain ⟨f1,f2⟩:=fitKs_spec hfk
          have hvl:v.cells.size=ks.length:=by rw [hs,← l2,hxl]
          have hfit:vi * ks.length+ks.length≤cells.size:=by
            rw [hc]
            calc vi * ks.length+ks.length=(vi+1) * ks.length:=by rw [Nat.add_mul];omega
              _≤n * ks.length:=Nat.mul_le_mul_right _ (by omega)
          obtain ⟨cells',hf,hc',hg⟩:=fill_one (place:=fun i=>some (i * ks.length,ks.length)) (i:=vi) (rest:=vs) (v:=v) rfl hvl hfit
          rw [hf]
          refine placeParts_sound h00 h h1 hks r vs _ es' cells' hb (by simpa using hl) (by simpa using hn) (fun k hk=>by have:=hv (k+1) (by simp;omega);simpa using this) (fun id hid=>h2 id (by
            simp only [List.map_cons,idsOf]
            exact List.mem_append.2 (.inr hid))) (hc'.trans hc) (hr.set hi hxl hg (fun j hj=>?_))
          have:=fitK_sound h00 (f2 j (by omega)) (hrep j (by omega))
          simpa [Array.getD_eq_getD_getElem?,List.getD_eq_getElem?_getD] using this
        · cases hb
      · cases hb
theorem zeroC_rel {k:Kd} {v:Value} (h:zeroFits k v=true):RepC P w al k v (zeroC k):=by
  unfold zeroFits at h
  split at h
  · rename_i b
    have:b=false:=by simpa using h
    subst this;exact .bool (.bool false)
  · rename_i k k' n
    simp only [Bool.and_eq_true,beq_iff_eq] at h
    obtain ⟨rfl,rfl⟩:=h
    exact .int k (.int 0) ⟨by cases k <;> decide,by cases k <;> decide⟩
  · rename_i s
    have:s=⟨#[]⟩:=by
      apply ByteArray.ext
      simp only [beq_iff_eq] at h
      exact Array.eq_empty_of_size_eq_zero h
    subst this;exact .str (.str []) (by simp)
  · exact .empty _ _ _ _ rfl nofun
  · exact .ptr _ _ _
  · exact .other _ _
  · cases h
theorem zerosC_rel:∀ {ks:List Kd} {vs:List Value},fitsAll ks vs=true→vs.length=ks.length∧∀ j,j < ks.length→RepC P w al (ks.getD j .other) (vs.getD j undef) (cg (ks.map zeroC) j)
  | [],[],_=>⟨rfl,fun j hj=>by simp at hj⟩
  | [],_ :: _,h=>by simp [fitsAll] at h
  | _ :: _,[],h=>by simp [fitsAll] at h
  | k :: ks,v :: vs,h=>by
    simp only [fitsAll,Bool.and_eq_true] at h
    obtain ⟨h1,h2⟩:=zerosC_rel h.2
    refine ⟨by simp [h1],fun j hj=>?_⟩
    cases j with
    | zero=>simpa using zeroC_rel h.1
    | succ j=>simpa using h2 j (by simpa using hj)
theorem zero_row {e:TypeId} {E:TyI} (hE:tyI P e=some E) (S:TySpec P e E) (n:Nat) :
    ((Array.range (n * E.kinds.length)).map (S.z.cells[· % S.z.cells.size]!)).size=n * E.kinds.length ∧
    RowCells P w al E.kinds ((Array.range (n * E.kinds.length)).map (S.z.cells[· % S.z.cells.size]!)) (List.replicate n (zeroRow E)):=by
  obtain ⟨z1,z2⟩:=zerosC_rel (P:=P) (w:=w) (al:=al) S.zfits
  have hz:S.z.cells.size=E.kinds.length:=by simpa using z1
  have hp:=kinds_pos hE
  refine ⟨by simp,fun i hi=>?_,fun i hi j hj=>?_⟩ <;> simp only [List.length_replicate] at hi
  · simp [eg,List.getD_eq_getElem?_getD,hi,zeroRow]
  · have e1:eg (List.replicate n (zeroRow E)) i=E.kinds.map zeroC:=by simp [eg,List.getD_eq_getElem?_getD,hi,zeroRow]
    rw [e1]
    have hlt:i * E.kinds.length+j < n * E.kinds.length:=by
      calc i * E.kinds.length+j < i * E.kinds.length+E.kinds.length:=by omega
        _=(i+1) * E.kinds.length:=by rw [Nat.add_mul];omega
        _≤n * E.kinds.length:=Nat.mul_le_mul_right _ (by omega)
    have e2:((Array.range (n * E.kinds.length)).map (S.z.cells[· % S.z.cells.size]!)).getD (i * E.kinds.length+j) undef=S.z.cells.toList.getD j undef:=by
      have hm:(i * E.kinds.length+j) % S.z.cells.size=j:=by
        rw [hz,Nat.mul_comm,Nat.mul_add_mod,Nat.mod_eq_of_lt hj]
      rw [Array.getD_eq_getD_getElem?,Array.getElem?_map,Array.getElem?_range,if_pos hlt]
      simp only [Option.map_some,Option.getD_some,hm]
      have hj':j < S.z.cells.size:=by omega
      simp [getElem!_pos,hj',List.getD_eq_getElem?_getD]
    rw [e2]
    exact z2 j hj
theorem buildSlice_sound {t e:TypeId} {E:TyI} {n id:Nat} {parts:List (Nat×A)} {vs:Array (Nat×Value)} {es:List (List C)} (h00:tyI P 0=none) (h:RelL P w0 N σ s tms w) (hs:slE P t=some (e,E)) (hd:isDead (s.hp id)=true)
    (hb:placeParts s.hp E.kinds parts (List.replicate n (zeroRow E))=some es) (hby:(n:Int) * E.bytes≤140737488355328) (hcl:n * E.kinds.length≤16777216)
    (hl:vs.size=parts.length) (hv:∀ k,k < parts.length→(vs.toList.getD k (0,undef)).1=(parts.getD k (0,.unk)).1∧ARel P w (Al w0 w σ s.hp) σ (vs.toList.getD k (0,undef)).2 (parts.getD k (0,.unk)).2)
    (hids:∀ id,id∈idsOf (parts.map (·.2))→∃ t es,s.hp id = .row t es∨s.hp id = .frz t es) :
    ∃ v w',(Instr.buildSlice t n vs).run P w = .ok v w'∧∃ σ',RelL P w0 N σ' ⟨s.tm,upd (freezeAll s.hp (idsOf (parts.map (·.2)))) id (.row e es)⟩ tms w'∧ARel P w' (Al w0 w' σ' (upd (freezeAll s.hp (idsOf (parts.map (·.2)))) id (.row e es))) σ' v (.own id E.kinds 0 n):=by
  obtain ⟨hu,hE⟩:=slE_spec hs
  obtain ⟨S⟩:=tyI_spec hE
  obtain ⟨hal1,hal2⟩:=al_freeze h (idsOf (parts.map (·.2))) hids
  have hz:=h.freezeAll (idsOf (parts.map (·.2)))
  obtain ⟨zs,zr⟩:=zero_row (w:=w) (al:=Al w0 w σ (freezeAll s.hp (idsOf (parts.map (·.2))))) hE S n
  obtain ⟨cells',hf,hc',hel,hr⟩:=placeParts_sound h00 h hal1 (kinds_pos hE) parts vs.toList _ es _ hb (by simpa using hl) (by simp) hv hal2 zs zr
  have hdz:freezeAll s.hp (idsOf (parts.map (·.2))) id = .dead:=by
    rw [freezeAll_at]
    split
    · rename_i hm
      obtain ⟨t,es,hh | hh⟩:=hids id hm <;> rw [hh] at hd <;> simp [isDead] at hd
    · exact isDead_spec hd
  refine ⟨.slice (some ⟨w.heap.size,0,none⟩) n n,w.alloc (.cells cells' e (0,0)),?_,upd σ id (.row w.heap.size n e E.kinds n),?_,.own0 (F:=fun _=>False) id _ n w.heap.size n n e (by simp [upd]) (Nat.le_refl _)⟩
  · have hcl':¬ (n * E.kinds.length > 2 ^ 24):=by omega
    simp only [Instr.buildSlice,Sem.run_bind,run_underlying hu,Result.andThen_ok,run_size hE,hcl',if_false,pure_bind]
    by_cases h0:n * E.kinds.length=0
    · have hn:n=0:=by
        rcases Nat.mul_eq_zero.1 h0 with h1 | h1
        · exact h1
        · have:=kinds_pos hE;omega
      subst hn
      have e0:∀ f:Nat→Value,(Array.range (0 * E.kinds.length)).map f = #[]:=fun f=>by simp
      rw [e0] at hf
      have e1:∀ f:Nat→Value,(Array.range 0).map f = #[]:=fun f=>by simp
      simp only [Nat.zero_mul,if_true,e1,hf]
      simp only [newRow,newObj,Sem.run_bind]
      rfl
    · simp only [h0,if_false,zeroValue,Sem.run_bind,run_typeInfo w S.info,Result.andThen_ok,S.zero,Sem.run_pure,hf]
      simp only [newRow,newObj,Sem.run_bind]
      rfl
  · refine hz.alloc hdz (.cells cells' e (0,0)) (.row w.heap.size n e E.kinds n) _ (by simp [blockOf];try (intro c hc;exact hc.symm)) (fun hal hheap hss=>?_)
    refine ⟨E,hE,by rw [hel];exact hby,.inr ⟨w.heap.size,n,cells',_,by simp [upd,hel],.inl h.below.size,heap_alloc_new w _,by omega,?_,hc',hr.1,fun i hi j hj=>(hr.2 i hi j hj).mono hheap hal⟩⟩
    have:=kinds_pos hE
    have:n * 1≤n * E.kinds.length:=Nat.mul_le_mul_left _ (by omega)
    simp only [maxLen];omega
theorem RelL.replace {w':World} {id key:Nat} {t:TypeId} {es es':List (List C)} {r':RefI} (h:RelL P w0 N σ s tms w) (hrow:s.hp id = .row t es) (hk:s.hp key = .dead)
    (hbelow:BelowX w0.n w0.mu w0.world w') (hsz:w.heap.size≤w'.heap.size) (hkeep:∀ c,c < w.heap.size→¬ blockOf (σ id) c→w'.heap[c]? = w.heap[c]?)
    (hr:∀ c,blockOf r' c→blockOf (σ id) c∨w.heap.size≤c)
    (hnew:(∀ c,Al w0 w σ s.hp c→Al w0 w' (upd (upd σ id .gone) key r') (upd (upd s.hp id .gone) key (.row t es')) c)→(∀ c,Al w0 w σ s.hp c→w'.heap[c]? = w.heap[c]?) →
      RowRel P w' w0.wr (Al w0 w' (upd (upd σ id .gone) key r') (upd (upd s.hp id .gone) key (.row t es'))) r' t es') :
    RelL P w0 N (upd (upd σ id .gone) key r') ⟨s.tm,upd (upd s.hp id .gone) key (.row t es')⟩ tms w':=by
  have hne:id≠key:=by intro e;rw [e,hk] at hrow;cases hrow
  have hσk:=bref_dead (h.blks key) hk
  have hnf:∀ c,Al w0 w σ s.hp c→¬ blockOf (σ id) c:=fun c hc e=>by have:=hc.2.1 id e;simp [hrow,isFrz] at this
  have hal:∀ c,Al w0 w σ s.hp c→Al w0 w' (upd (upd σ id .gone) key r') (upd (upd s.hp id .gone) key (.row t es')) c:=by
    intro c hc
    refine ⟨Nat.lt_of_lt_of_le hc.1 hsz,fun i hi=>?_,hc.2.2⟩
    by_cases e1:i=key
    · simp only [upd,e1,if_true] at hi
      rcases hr c hi with h1 | h1
      · exact absurd h1 (hnf c hc)
      · have:=hc.1;omega
    · by_cases e2:i=id
      · simp [upd,e2,hne,blockOf] at hi
      · simp only [upd,e1,e2,if_false] at hi ⊢;exact hc.2.1 i hi
  have hheap:∀ c,Al w0 w σ s.hp c→w'.heap[c]? = w.heap[c]? := fun c hc=>hkeep c hc.1 (hnf c hc)
  refine h.change hbelow hsz hal hheap (fun i hi=>?_) (fun i=>?_) ?_
  · by_cases e1:i=key
    · subst e1;exact absurd hσk hi
    · by_cases e2:i=id
      · refine .inr ⟨by simp [upd,e2,hne],?_⟩
        have hB:=h.blks id
        rw [hrow] at hB
        obtain ⟨E,_,_,hB⟩:=hB
        rw [e2]
        rcases hB with ⟨hB,_⟩ | ⟨_,_,_,_,hB,_⟩ <;> rw [hB] <;> exact trivial
      · exact .inl (by simp [upd,e1,e2])
  · by_cases e1:i=key
    · subst e1
      refine .inr ?_
      have:=hnew hal hheap
      simpa [upd,BRel] using this
    · by_cases e2:i=id
      · subst e2
        exact .inr (by simp [upd,hne,BRel])
      · refine .inl ⟨by simp [upd,e1,e2],by simp [upd,e1,e2],fun b hb=>hkeep b (block_lt_of_bref (h.blks i) hb).1 (fun e=>e2 (h.inj i id b hb e))⟩
  · intro i j b hi hj
    by_cases e1:i=key <;> by_cases e2:j=key
    · rw [e1,e2]
    · by_cases e3:j=id
      · simp [upd,e3,hne,blockOf] at hj
      · simp only [upd,e1,if_true] at hi
        simp only [upd,e2,e3,if_false] at hj
        rcases hr b hi with h1 | h1
        · exact absurd (h.inj j id b hj h1) e3
        · have:=(block_lt_of_bref (h.blks j) hj).1;omega
    · by_cases e3:i=id
      · simp [upd,e3,hne,blockOf] at hi
      · simp only [upd,e2,if_true] at hj
        simp only [upd,e1,e3,if_false] at hi
        rcases hr b hj with h1 | h1
        · exact absurd (h.inj i id b hi h1) e3
        · have:=(block_lt_of_bref (h.blks i) hi).1;omega
    · by_cases e3:i=id
      · simp [upd,e3,hne,blockOf] at hi
      · by_cases e4:j=id
        · simp [upd,e4,hne,blockOf] at hj
        · simp only [upd,e1,e3,if_false] at hi
          simp only [upd,e2,e4,if_false] at hj
          exact h.inj i j b hi hj
theorem RelL.newNil {e:TypeId} {E:TyI} {id:Nat} (h:RelL P w0 N σ s tms w) (hE:tyI P e=some E) (hd:s.hp id = .dead) :
    RelL P w0 N (upd σ id (.rown e E.kinds)) ⟨s.tm,upd s.hp id (.row e [])⟩ tms w:=by
  have hσ:=bref_dead (h.blks id) hd
  have hbl:∀ i b,blockOf (upd σ id (.rown e E.kinds) i) b→i≠id∧blockOf (σ i) b:=by
    intro i b hi
    by_cases e1:i=id
    · simp [upd,e1,blockOf] at hi
    · simp only [upd,e1,if_false] at hi;exact ⟨e1,hi⟩
  refine h.change h.below (Nat.le_refl _) (fun c hc=>⟨hc.1,fun i hi=>?_,hc.2.2⟩) (fun _ _=>rfl) (fun i hi=>?_) (fun i=>?_) (fun i j b hi hj=>h.inj i j b (hbl i b hi).2 (hbl j b hj).2)
  · obtain ⟨e1,e2⟩:=hbl i c hi
    simp only [upd,e1,if_false];exact hc.2.1 i e2
  · by_cases e1:i=id
    · subst e1;exact absurd hσ hi
    · exact .inl (by simp [upd,e1])
  · by_cases e1:i=id
    · subst e1
      refine .inr ?_
      have e2:upd s.hp i (.row e []) i = .row e []:=by simp [upd]
      rw [e2]
      exact ⟨E,hE,by simp,.inl ⟨by simp [upd],rfl⟩⟩
    · exact .inl ⟨by simp [upd,e1],by simp [upd,e1],fun _ _=>rfl⟩
end Go.AE
