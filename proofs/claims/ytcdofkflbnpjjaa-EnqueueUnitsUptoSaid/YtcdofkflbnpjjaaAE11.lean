/- Text. -/
import Derived.Test.YtcdofkflbnpjjaaAE10M
import Derived.Test.YtcdofkflbnpjjaaAE0F
import Derived.Test.YtcdofkflbnpjjaaAE4E
import Derived.Test.YtcdofkflbnpjjaaAE9O
set_option linter.unusedVariables false
namespace Go.AE
open Go.RowKit (Below)
variable {P:Program} {w0:Base} {w:World} {N:Nat} {σ:Nat→RefI} {s:S} {tms:Array Value} {ρ:Operand→Value} {al:Nat→Prop} {Γ:List Fn}
theorem run_value {x:Sem Value} {v:Value} {w':World} (h:x.run P w = .ok v w'):(do let a ← x;pure (Next.value a):Sem Next).run P w = .ok (.value v) w':=by
  simp only [Sem.run_bind,h,Result.andThen_ok,Sem.run_pure]
theorem run_skip {x:Sem Unit} {w':World} (h:x.run P w = .ok () w'):(do x;pure Next.skip:Sem Next).run P w = .ok .skip w':=by
  simp only [Sem.run_bind,h,Result.andThen_ok,Sem.run_pure]
theorem rows_of_parts {hp:Nat→Blk} {ks:List Kd}:∀ {parts:List (Nat×A)} {es es':List (List C)},placeParts hp ks parts es=some es'→∀ id,id∈idsOf (parts.map (·.2))→∃ t es,hp id = .row t es∨hp id = .frz t es
  | [],es,es',h,id,hid=>by simp [idsOf] at hid
  | (i,a) :: r,es,es',h,id,hid=>by
    simp only [placeParts] at h
    split at h
    · rename_i ks' xs hto
      split at h
      · simp only [List.map_cons,idsOf] at hid
        rcases List.mem_append.1 hid with hid | hid
        · exact toKCells_rows hto id hid
        · exact rows_of_parts h id hid
      · cases h
    · cases h
theorem array_of_toList {α:Type} {a:Array α} {l:List α} (h:a.toList=l):a=l.toArray:=by
  rw [← h]
theorem args_getD (as:List Operand) (v:Operand→A) (i:Nat) (hi:i < as.length):(as.map v).getD i .unk=v (as[i]):=by
  simp [List.getD_eq_getElem?_getD,hi]
theorem opA_sound {o:Oper} {r:Out} {v:Operand→A} (h00:tyI P 0=none) (hΓ:∀ g,g∈Γ→Contract P g) (h:RelL P w0 N σ s tms w) (hop:opA P Γ o s.tm s.hp v=some r)
    (hv:∀ x,x∈o.op.operands→ARel P w (Al w0 w σ s.hp) σ (ρ x) (v x)) (hp:r.pre):OpOk P w0 N s tms o ρ w r:=by
  obtain ⟨dst,op,type,pos,after,guard⟩:=o
  cases op with
  | move x =>
    simp only [opA,Option.some.injEq] at hop;subst hop
    exact OpOk.pure h rfl trivial rfl (hv x (by simp [Op.operands]))
  | assign x =>
    simp only [opA,Option.some.injEq] at hop;subst hop
    exact OpOk.pure h rfl trivial rfl (hv x (by simp [Op.operands]))
  | binOp op t x y yt =>
    simp only [opA] at hop
    split at hop
    · rename_i p a hb
      simp only [Option.some.injEq] at hop;subst hop
      obtain ⟨u,hr,hu⟩:=binS_sound hb hp (hv x (by simp [Op.operands])) (hv y (by simp [Op.operands])) x y
      exact OpOk.pure h (run_value hr) trivial rfl hu
    · cases hop
  | unOp op t x =>
    simp only [opA] at hop
    split at hop
    · rename_i a hb
      simp only [Option.some.injEq] at hop;subst hop
      obtain ⟨u,hr,hu⟩:=unA_sound hb (hv x (by simp [Op.operands]))
      exact OpOk.pure h (run_value hr) trivial rfl hu
    · cases hop
  | convert t u x =>
    simp only [opA] at hop
    split at hop
    · rename_i T hT
      obtain ⟨S⟩:=tyI_spec hT
      split at hop
      · rename_i a hb
        simp only [Option.some.injEq] at hop;subst hop
        obtain ⟨y,hr,hu⟩:=convA_sound S.und hb (hv x (by simp [Op.operands]))
        exact OpOk.pure h (run_value hr) trivial rfl hu
      · cases hop
    · cases hop
  | box t x =>
    simp only [opA] at hop
    split at hop
    · rename_i d
      split at hop
      · rename_i hd
        simp only [Bool.and_eq_true] at hd
        simp only [Option.some.injEq] at hop;subst hop
        obtain ⟨u,w',hr,σ',hR,hu⟩:=box_sound (t:=t) h hd.1 hd.2 (hv x (by simp [Op.operands]))
        exact .inl ⟨u,w',run_value hr,trivial,σ',hR,hu⟩
      · cases hop
    · cases hop
  | alloc t =>
    simp only [opA] at hop
    split at hop
    · rename_i d T hT
      split at hop
      · rename_i hd
        simp only [Option.some.injEq] at hop;subst hop
        obtain ⟨u,w',hr,σ',hR,hu⟩:=alloc_sound (t:=t) h hT hd
        exact .inl ⟨u,w',run_value hr,trivial,σ',hR,hu⟩
      · cases hop
    · cases hop
  | load t x =>
    simp only [opA] at hop
    split at hop
    · rename_i T hT
      split at hop
      · rename_i p a hb
        simp only [Option.some.injEq] at hop;subst hop
        obtain ⟨u,hr,hu⟩:=loadA_sound h hT hb hp (hv x (by simp [Op.operands]))
        exact OpOk.pure h (run_value hr) trivial rfl hu
      · cases hop
    · cases hop
  | store t x y =>
    simp only [opA] at hop
    split at hop
    · rename_i T p hp' hT hst
      split at hop
      · rename_i hlen
        split at hop
        · rename_i hbx
          simp only [Option.some.injEq] at hop;subst hop
          have hx:=hv x (by simp [Op.operands])
          have hy:=hv y (by simp [Op.operands])
          have key:∃ w',(Instr.storeAt t (ρ x) (ρ y)).run P w = .ok () w'∧RelL P w0 N σ ⟨s.tm,hp'⟩ tms w':=by
            unfold storeA at hst
            split at hst
            · rename_i id off hvx
              split at hst
              · rename_i cells hb
                simp only [Option.some.injEq,Prod.mk.injEq] at hst
                obtain ⟨rfl,rfl⟩:=hst
                rw [hvx] at hx
                exact store_box h hT hb hp.1 hp.2 hlen hx hy hbx
              · cases hst
            · rename_i id sz ks i off hvx
              split at hst
              · rename_i u es ks' xs hb hto
                split at hst
                · rename_i hn
                  simp only [Option.some.injEq,Prod.mk.injEq] at hst
                  obtain ⟨rfl,rfl⟩:=hst
                  rw [hvx] at hx
                  exact store_elt h00 h hT hb hto hn hp.1 hp.2 hlen hx hy hbx
                · cases hst
              · cases hst
            · cases hst
          obtain ⟨w',hr,hR⟩:=key
          exact .inr (.inl ⟨w',run_skip hr,rfl,trivial,σ,hR⟩)
        · cases hop
      · cases hop
    · cases hop
  | fieldAddr t x f =>
    simp only [opA] at hop
    split at hop
    · rename_i T hT
      split at hop
      · rename_i a hb
        simp only [Option.some.injEq] at hop;subst hop
        obtain ⟨u,hr,hu⟩:=fieldA_sound h hT hb (hv x (by simp [Op.operands]))
        exact OpOk.pure h (run_value hr) trivial rfl hu
      · cases hop
    · cases hop
  | indexAddr t x i =>
    simp only [opA] at hop
    split at hop
    · rename_i e E k n hs hvi
      split at hop
      · rename_i p a hb
        simp only [Option.some.injEq] at hop;subst hop
        have hi:=hv i (by simp [Op.operands])
        rw [hvi] at hi
        obtain ⟨hie,_⟩:=hi.int_inv
        obtain ⟨u,hr,hu⟩:=indexAddr_sound (k:=k) h hs hb hp (hv x (by simp [Op.operands]))
        rw [← hie] at hr
        exact OpOk.pure h (run_value hr) trivial rfl hu
      · cases hop
    · rename_i k n hs hvi
      split at hop
      · rename_i m e E hA
        split at hop
        · rename_i p a hb
          simp only [Option.some.injEq] at hop;subst hop
          have hi:=hv i (by simp [Op.operands])
          rw [hvi] at hi
          obtain ⟨hie,_⟩:=hi.int_inv
          obtain ⟨u,hr,hu⟩:=indexArr_sound (k:=k) h hA hb hp (hv x (by simp [Op.operands]))
          rw [← hie] at hr
          exact OpOk.pure h (run_value hr) trivial rfl hu
        · cases hop
      · cases hop
    · cases hop
  | index t x i =>
    simp only [opA] at hop
    split at hop
    · rename_i c k n hvx hvi
      split at hop
      · rename_i hs
        simp only [Option.some.injEq] at hop;subst hop
        have hi:=hv i (by simp [Op.operands])
        have hx:=hv x (by simp [Op.operands])
        rw [hvi] at hi
        rw [hvx] at hx
        obtain ⟨hie,_⟩:=hi.int_inv
        obtain ⟨u,hr,hu⟩:=index_sound (k:=k) hs hp hx
        rw [← hie] at hr
        exact OpOk.pure h (run_value hr) trivial rfl hu
      · cases hop
    · cases hop
  | slice t x lo hi mx =>
    cases mx with
    | some m=>simp [opA] at hop
    | none =>
      simp only [opA] at hop
      split at hop
      · rename_i p a hb
        simp only [Option.some.injEq] at hop;subst hop
        have hlo:BoundRel P w (Al w0 w σ s.hp) σ (lo.map ρ) (lo.map v):=by
          cases lo with
          | none=>trivial
          | some l=>exact hv l (by simp [Op.operands])
        have hhi:BoundRel P w (Al w0 w σ s.hp) σ (hi.map ρ) (hi.map v):=by
          cases hi with
          | none=>trivial
          | some l=>exact hv l (by simp [Op.operands])
        obtain ⟨u,hr,hu⟩:=sliceA_sound h hb hp (hv x (by simp [Op.operands])) hlo hhi
        exact OpOk.pure h (run_value hr) trivial rfl hu
      · cases hop
  | extract x i =>
    simp only [opA] at hop
    split at hop
    · rename_i xs hvx
      split at hop
      · rename_i a hb
        simp only [Option.some.injEq] at hop;subst hop
        have hx:=hv x (by simp [Op.operands])
        rw [hvx] at hx
        obtain ⟨u,hr,hu⟩:=extract_sound hb hx
        exact OpOk.pure h (run_value hr) trivial rfl hu
      · cases hop
    · cases hop
  | build t parts =>
    simp only [opA] at hop
    split at hop
    · rename_i T hT
      split at hop
      · cases hop
      · rename_i hne
        split at hop
        · rename_i a hb
          simp only [Option.some.injEq] at hop;subst hop
          cases hbp:buildParts P T s.hp (parts.toList.map fun p=>(p.1,v p.2)) (T.kinds.map zeroA) with
          | none=>simp [hbp] at hb
          | some ys =>
            simp only [hbp,Option.map_some,Option.some.injEq] at hb;subst hb
            obtain ⟨u,hr,hu⟩:=build_sound (vs:=parts.map fun (i,x)=>(i,ρ x)) h hT hbp (by intro e;simp [e] at hne) (by simp) (fun k hk=>by
              have hk':k < parts.size:=by simpa using hk
              simp only [Array.toList_map,List.getD_eq_getElem?_getD,List.getElem?_map,Array.getElem?_toList,Array.getElem?_eq_getElem hk',Option.map_some,Option.getD_some]
              exact ⟨trivial,hv _ (by simp only [Op.operands];simp;exact ⟨parts[k].1,Array.getElem_mem hk'⟩)⟩)
            exact OpOk.pure h (run_value hr) trivial rfl hu
        · cases hop
    · cases hop
  | buildSlice t n parts =>
    simp only [opA] at hop
    split at hop
    · rename_i d e E hs
      split at hop
      · rename_i hd
        split at hop
        · rename_i es hb
          simp only [Option.some.injEq] at hop;subst hop
          have hm:(parts.toList.map fun p=>v p.2)=(parts.toList.map fun p=>(p.1,v p.2)).map (·.2):=by simp
          have hids:=rows_of_parts hb
          obtain ⟨u,w',hr,σ',hR,hu⟩:=buildSlice_sound (vs:=parts.map fun (i,x)=>(i,ρ x)) h00 h hs hd hb hp.1 hp.2 (by simp) (fun k hk=>by
              have hk':k < parts.size:=by simpa using hk
              simp only [Array.toList_map,List.getD_eq_getElem?_getD,List.getElem?_map,Array.getElem?_toList,Array.getElem?_eq_getElem hk',Option.map_some,Option.getD_some]
              exact ⟨trivial,hv _ (by simp only [Op.operands];simp;exact ⟨parts[k].1,Array.getElem_mem hk'⟩)⟩) hids
          rw [← hm] at hR hu
          exact .inl ⟨u,w',run_value hr,trivial,σ',hR,hu⟩
        · cases hop
      · cases hop
    · cases hop
  | makeMap t r0 =>
    cases r0 with
    | some m=>simp [opA] at hop
    | none =>
      simp only [opA] at hop
      split at hop
      · rename_i d kk e E hm
        split at hop
        · rename_i hd
          simp only [Option.some.injEq] at hop;subst hop
          obtain ⟨u,w',hr,σ',hR,hu⟩:=makeMap_sound (t:=t) (kk:=kk) (vp:=(E.agg,E.kinds)) h hd
          exact .inl ⟨u,w',run_value hr,trivial,σ',hR,hu⟩
        · cases hop
      · cases hop
  | lookup t x y ok =>
    simp only [opA] at hop
    split at hop
    · rename_i a hb
      simp only [Option.some.injEq] at hop;subst hop
      obtain ⟨u,hr,hu⟩:=lookup_sound h hb (hv x (by simp [Op.operands])) (hv y (by simp [Op.operands]))
      exact OpOk.pure h (run_value hr) trivial rfl hu
    · cases hop
  | mapUpdate t x y z =>
    simp only [opA] at hop
    split at hop
    · rename_i hp' hb
      simp only [Option.some.injEq] at hop;subst hop
      obtain ⟨w',hr,hR⟩:=update_sound h00 h hb (hv x (by simp [Op.operands])) (hv y (by simp [Op.operands])) (hv z (by simp [Op.operands]))
      exact .inr (.inl ⟨w',run_skip hr,rfl,trivial,σ,hR⟩)
    · cases hop
  | call c =>
    obtain ⟨callee,args,argTypes⟩:=c
    have hargs:∀ x,x∈args.toList→ARel P w (Al w0 w σ s.hp) σ (ρ x) (v x):=fun x hx=>hv x (by
      simp only [Op.operands,Call.operands]
      exact Array.mem_append.2 (.inr (Array.mem_toList_iff.1 hx)))
    cases callee with
    | invoke rv m=>simp [opA] at hop
    | value f =>
      simp only [opA] at hop
      split at hop
      · rename_i dd g hvf
        have hf:=hv f (by simp [Op.operands,Call.operands])
        rw [hvf] at hf
        have hfe:ρ f = .func (.func g) #[] #[]:=by
          generalize ρ f=u at hf
          cases hf with
          | fnv _ _ vs hl hh =>
            have:vs=[]:=List.eq_nil_of_length_eq_zero hl
            subst this;rfl
        obtain ⟨hcf,hfact,hc⟩:=callA_sound (vs:=args.toList.map ρ) h00 hΓ h hop hp (by simp) (fun i hi=>by
          have hi':i < args.toList.length:=by simpa using hi
          rw [args_getD _ _ _ hi']
          have hi2:i < args.size:=by simpa using hi'
          have e:(args.toList.map ρ).getD i undef=ρ args.toList[i]:=by simp [List.getD_eq_getElem?_getD,hi2]
          rw [e]
          exact hargs _ (List.getElem_mem hi'))
        refine .inr (.inr ⟨g,(args.toList.map ρ).toArray,?_,hfact,hc⟩)
        have e2:args.map ρ=(args.toList.map ρ).toArray:=by rw [← Array.toList_map]
        simp only [execOp,resolve,Sem.run_bind,hfe,Deferred.ofValue,Sem.run_pure,Result.andThen_ok,invoke,e2]
        simpa using hcf
      · cases hop
    | builtin b =>
      cases b with
      | len =>
        simp only [opA] at hop
        split at hop
        · rename_i x t hax hat
          split at hop
          · rename_i p a hb
            simp only [Option.some.injEq] at hop;subst hop
            have e1:=array_of_toList hax
            have e2:=array_of_toList hat
            subst e1 e2
            obtain ⟨hpp,u,hr,hu⟩:=lenA_sound h hb (hargs x (by simp)) type
            refine OpOk.pure h (run_value (x:=Builtin.len_ #[t] type (#[x].map ρ)) ?_) hpp rfl hu
            simpa using hr
          · cases hop
        · cases hop
      | min =>
        simp only [opA] at hop
        split at hop
        · rename_i x r hax
          split at hop
          · rename_i a hb
            simp only [Option.some.injEq] at hop;subst hop
            have e1:=array_of_toList hax
            subst e1
            obtain ⟨u,hr,hu⟩:=foldMin_sound (r.map v) (r.map ρ) (v x) a (ρ x) hb (hargs x (by simp)) (by simp) (fun i hi=>by
              have hi':i < r.length:=by simpa using hi
              rw [args_getD _ _ _ hi']
              have e:(r.map ρ).getD i undef=ρ r[i]:=by simp [List.getD_eq_getElem?_getD,hi']
              rw [e]
              exact hargs _ (by simp))
            refine OpOk.pure h (run_value (x:=Builtin.min_ argTypes type ((x :: r).toArray.map ρ)) ?_) trivial rfl hu
            simpa [Builtin.min_] using hr
          · cases hop
        · cases hop
      | max =>
        simp only [opA] at hop
        split at hop
        · rename_i x r hax
          split at hop
          · rename_i a hb
            simp only [Option.some.injEq] at hop;subst hop
            have e1:=array_of_toList hax
            subst e1
            obtain ⟨u,hr,hu⟩:=foldMax_sound (r.map v) (r.map ρ) (v x) a (ρ x) hb (hargs x (by simp)) (by simp) (fun i hi=>by
              have hi':i < r.length:=by simpa using hi
              rw [args_getD _ _ _ hi']
              have e:(r.map ρ).getD i undef=ρ r[i]:=by simp [List.getD_eq_getElem?_getD,hi']
              rw [e]
              exact hargs _ (by simp))
            refine OpOk.pure h (run_value (x:=Builtin.max_ argTypes type ((x :: r).toArray.map ρ)) ?_) trivial rfl hu
            simpa [Builtin.max_] using hr
          · cases hop
        · cases hop
      | delete =>
        simp only [opA] at hop
        split at hop
        · rename_i x y t l hax hat
          split at hop
          · rename_i hp' hb
            simp only [Option.some.injEq] at hop;subst hop
            have e1:=array_of_toList hax
            have e2:=array_of_toList hat
            subst e1 e2
            obtain ⟨w',hr,hR⟩:=delete_sound (ty:=type) h hb (hargs x (by simp)) (hargs y (by simp)) (t :: l).toArray (by simp)
            exact .inl ⟨_,w',run_value (x:=Builtin.delete_ (t :: l).toArray type (#[x,y].map ρ)) (by simpa using hr),trivial,σ,hR,.tup [] [] rfl (fun i hi=>by simp at hi)⟩
          · cases hop
        · cases hop
      | append =>
        simp only [opA] at hop
        split at hop
        · rename_i x y t u d hax hat
          split at hop
          · rename_i e E hs
            split at hop
            · rename_i htu;subst htu
              have e1:=array_of_toList hax
              have e2:=array_of_toList hat
              subst e1 e2
              have hx:=hargs x (by simp)
              have hy:=hargs y (by simp)
              unfold appendA at hop
              split at hop
              · cases hop
              · rename_i new hsrc
                split at hop
                · rename_i hd
                  simp only [Bool.and_eq_true] at hd
                  replace hsrc:=src_soundA h (slE_spec hs).2 hsrc hy
                  split at hop
                  · rename_i hvx
                    simp only [Option.some.injEq] at hop;subst hop
                    rw [hvx] at hx
                    have hxe:ρ x = .slice none 0 0:=by generalize ρ x=q at hx;cases hx;rfl
                    obtain ⟨q,w',hr,σ',hR,hu⟩:=append_nil_sound h hs hsrc hd.1 hd.2 hp hy type
                    rw [← hxe] at hr
                    exact .inl ⟨q,w',run_value (x:=Builtin.append_ #[t,t] type (#[x,y].map ρ)) (by simpa using hr),trivial,σ',hR,hu⟩
                  · rename_i id ks len hvx
                    split at hop
                    · rename_i t' es hb
                      split at hop
                      · rename_i ht;subst ht
                        rw [hvx] at hx
                        split at hop
                        · simp only [Option.some.injEq] at hop;subst hop
                          obtain ⟨q,w',hr,σ',hR,hu⟩:=append_over_sound h hs hsrc hd.1 hd.2 hb hp hx hy type
                          rw [← overL_pos hp] at hR hu
                          exact .inl ⟨q,w',run_value (x:=Builtin.append_ #[t,t] type (#[x,y].map ρ)) (by simpa using hr),trivial,σ',hR,hu⟩
                        simp only [Option.some.injEq] at hop;subst hop
                        obtain ⟨q,w',hr,σ',hR,hu⟩:=append_own_sound h hs hsrc hd.1 hd.2 hb hp.1 hp.2 hx hy type
                        exact .inl ⟨q,w',run_value (x:=Builtin.append_ #[t,t] type (#[x,y].map ρ)) (by simpa using hr),trivial,σ',hR,hu⟩
                      · cases hop
                    · cases hop
                  · cases hop
                · cases hop
            · cases hop
          · cases hop
        · cases hop
      | _=>simp [opA] at hop
  | _=>simp [opA] at hop
end Go.AE
