/- Text. -/
import Derived.Test.YtfhnelkbiihpiaaGreatDoorAE10M
import Derived.Test.YtfhnelkbiihpiaaGreatDoorAE0F
import Derived.Test.YtfhnelkbiihpiaaGreatDoorAE4E
import Derived.Test.YtfhnelkbiihpiaaGreatDoorAE9O
set_option linter.unusedVariables false
open _root_.List renaming getD_eq_getElem?_getD→jb,getElem?_map→j1
open Go.Op renaming operands→jc
open _root_.Option renaming map_some→ju,getD_some→jB
open _root_.Option.some renaming injEq→ja
open Go.Result renaming andThen_ok→jl
open Go.Sem renaming run_bind→jn,run_pure→jy
namespace Go.AE
open Go.RowKit (Below)
variable {P:Program} {w0:Base} {w:World} {N:Nat} {σ:Nat→RefI} {s:S} {tms:Array Value} {ρ:Operand→Value} {al:Nat→Prop} {Γ:List Fn}
theorem run_value {x:Sem Value} {v:Value} {w':World} (h:x.run P w = .ok v w'):(do let a ← x;pure (Next.value a):Sem Next).run P w = .ok (.value v) w':=by
 simp only [jn,h,jl,jy]
theorem run_skip {x:Sem Unit} {w':World} (h:x.run P w = .ok () w'):(do x;pure Next.skip:Sem Next).run P w = .ok .skip w':=by
 simp only [jn,h,jl,jy]
theorem bkp {hp:Nat→Blk} {ks:List Kd}:∀ {parts:List (Nat×A)} {es es':List (List C)},aqz hp ks parts es=some es'→∀ id,id∈ak5 (parts.map (·.2))→∃ t es,hp id = .row t es∨hp id = .frz t es
 | [],es,es',h,id,hid=>by simp [ak5] at hid
 | (i,a) :: r,es,es',h,id,hid=>by
  simp only [aqz] at h
  split at h
  ·rename_i ks' xs hto
   split at h
   ·simp only [List.map_cons,ak5] at hid
    rcases List.mem_append.1 hid with hid | hid
    ·exact akg hto id hid
    ·exact bkp h id hid
   ·cases h
  ·cases h
theorem aj7 {α:Type} {a:Array α} {l:List α} (h:a.toList=l):a=l.toArray:=by
 rw [← h]
theorem bkm (as:List Operand) (v:Operand→A) (i:Nat) (hi:i < as.length):(as.map v).getD i .unk=v (as[i]):=by
 simp [jb,hi]
theorem eja {o:Oper} {r:Out} {v:Operand→A} (h00:tyI P 0=none) (hΓ:∀ g,g∈Γ→aj9 P g) (h:RelL P w0 N σ s tms w) (hop:opA P Γ o s.tm s.hp v=some r)
  (hv:∀ x,x∈o.op.operands→ARel P w (Al w0 w σ s.hp) σ (ρ x) (v x)) (hp:r.pre):OpOk P w0 N s tms o ρ w r:=by
 obtain ⟨dst,op,type,pos,after,guard⟩:=o
 cases op with
 | move x =>
  simp only [opA,ja] at hop;subst hop
  exact OpOk.pure h rfl trivial rfl (hv x (by simp [jc]))
 | assign x =>
  simp only [opA,ja] at hop;subst hop
  exact OpOk.pure h rfl trivial rfl (hv x (by simp [jc]))
 | binOp op t x y yt =>
  simp only [opA] at hop
  split at hop
  ·rename_i p a hb
   simp only [ja] at hop;subst hop
   obtain ⟨u,hr,hu⟩:=dkc hb hp (hv x (by simp [jc])) (hv y (by simp [jc])) x y
   exact OpOk.pure h (run_value hr) trivial rfl hu
  ·cases hop
 | unOp op t x =>
  simp only [opA] at hop
  split at hop
  ·rename_i a hb
   simp only [ja] at hop;subst hop
   obtain ⟨u,hr,hu⟩:=ejm hb (hv x (by simp [jc]))
   exact OpOk.pure h (run_value hr) trivial rfl hu
  ·cases hop
 | convert t u x =>
  simp only [opA] at hop
  split at hop
  ·rename_i T hT
   obtain ⟨S⟩:=ajk hT
   split at hop
   ·rename_i a hb
    simp only [ja] at hop;subst hop
    obtain ⟨y,hr,hu⟩:=dqr S.und hb (hv x (by simp [jc]))
    exact OpOk.pure h (run_value hr) trivial rfl hu
   ·cases hop
  ·cases hop
 | box t x =>
  simp only [opA] at hop
  split at hop
  ·rename_i d
   split at hop
   ·rename_i hd
    simp only [Bool.and_eq_true] at hd
    simp only [ja] at hop;subst hop
    obtain ⟨u,w',hr,σ',hR,hu⟩:=dy7 (t:=t) h hd.1 hd.2 (hv x (by simp [jc]))
    exact .inl ⟨u,w',run_value hr,trivial,σ',hR,hu⟩
   ·cases hop
  ·cases hop
 | alloc t =>
  simp only [opA] at hop
  split at hop
  ·rename_i d T hT
   split at hop
   ·rename_i hd
    simp only [ja] at hop;subst hop
    obtain ⟨u,w',hr,σ',hR,hu⟩:=dq9 (t:=t) h hT hd
    exact .inl ⟨u,w',run_value hr,trivial,σ',hR,hu⟩
   ·cases hop
  ·cases hop
 | load t x =>
  simp only [opA] at hop
  split at hop
  ·rename_i T hT
   split at hop
   ·rename_i p a hb
    simp only [ja] at hop;subst hop
    obtain ⟨u,hr,hu⟩:=cqj h hT hb hp (hv x (by simp [jc]))
    exact OpOk.pure h (run_value hr) trivial rfl hu
   ·cases hop
  ·cases hop
 | store t x y =>
  simp only [opA] at hop
  split at hop
  ·rename_i T p hp' hT hst
   split at hop
   ·rename_i hlen
    split at hop
    ·rename_i hbx
     simp only [ja] at hop;subst hop
     have hx:=hv x (by simp [jc])
     have hy:=hv y (by simp [jc])
     have key:∃ w',(Instr.storeAt t (ρ x) (ρ y)).run P w = .ok () w'∧RelL P w0 N σ ⟨s.tm,hp'⟩ tms w':=by
      unfold bzc at hst
      split at hst
      ·rename_i id off hvx
       split at hst
       ·rename_i cells hb
        simp only [ja,Prod.mk.injEq] at hst
        obtain ⟨rfl,rfl⟩:=hst
        rw [hvx] at hx
        exact eqe h hT hb hp.1 hp.2 hlen hx hy hbx
       ·cases hst
      ·rename_i id sz ks i off hvx
       split at hst
       ·rename_i u es ks' xs hb hto
        split at hst
        ·rename_i hn
         simp only [ja,Prod.mk.injEq] at hst
         obtain ⟨rfl,rfl⟩:=hst
         rw [hvx] at hx
         exact dks h00 h hT hb hto hn hp.1 hp.2 hlen hx hy hbx
        ·cases hst
       ·cases hst
      ·cases hst
     obtain ⟨w',hr,hR⟩:=key
     exact .inr (.inl ⟨w',run_skip hr,rfl,trivial,σ,hR⟩)
    ·cases hop
   ·cases hop
  ·cases hop
 | fieldAddr t x f =>
  simp only [opA] at hop
  split at hop
  ·rename_i T hT
   split at hop
   ·rename_i a hb
    simp only [ja] at hop;subst hop
    obtain ⟨u,hr,hu⟩:=cyi h hT hb (hv x (by simp [jc]))
    exact OpOk.pure h (run_value hr) trivial rfl hu
   ·cases hop
  ·cases hop
 | indexAddr t x i =>
  simp only [opA] at hop
  split at hop
  ·rename_i e E k n hs hvi
   split at hop
   ·rename_i p a hb
    simp only [ja] at hop;subst hop
    have hi:=hv i (by simp [jc])
    rw [hvi] at hi
    obtain ⟨hie,_⟩:=hi.int_inv
    obtain ⟨u,hr,hu⟩:=cqw (k:=k) h hs hb hp (hv x (by simp [jc]))
    rw [← hie] at hr
    exact OpOk.pure h (run_value hr) trivial rfl hu
   ·cases hop
  ·rename_i k n hs hvi
   split at hop
   ·rename_i m e E hA
    split at hop
    ·rename_i p a hb
     simp only [ja] at hop;subst hop
     have hi:=hv i (by simp [jc])
     rw [hvi] at hi
     obtain ⟨hie,_⟩:=hi.int_inv
     obtain ⟨u,hr,hu⟩:=cwh (k:=k) h hA hb hp (hv x (by simp [jc]))
     rw [← hie] at hr
     exact OpOk.pure h (run_value hr) trivial rfl hu
    ·cases hop
   ·cases hop
  ·cases hop
 | index t x i =>
  simp only [opA] at hop
  split at hop
  ·rename_i c k n hvx hvi
   split at hop
   ·rename_i hs
    simp only [ja] at hop;subst hop
    have hi:=hv i (by simp [jc])
    have hx:=hv x (by simp [jc])
    rw [hvi] at hi
    rw [hvx] at hx
    obtain ⟨hie,_⟩:=hi.int_inv
    obtain ⟨u,hr,hu⟩:=dw4 (k:=k) hs hp hx
    rw [← hie] at hr
    exact OpOk.pure h (run_value hr) trivial rfl hu
   ·cases hop
  ·cases hop
 | slice t x lo hi mx =>
  cases mx with
  | some m=>simp [opA] at hop
  | none =>
   simp only [opA] at hop
   split at hop
   ·rename_i p a hb
    simp only [ja] at hop;subst hop
    have hlo:bzw P w (Al w0 w σ s.hp) σ (lo.map ρ) (lo.map v):=by
     cases lo with
     | none=>trivial
     | some l=>exact hv l (by simp [jc])
    have hhi:bzw P w (Al w0 w σ s.hp) σ (hi.map ρ) (hi.map v):=by
     cases hi with
     | none=>trivial
     | some l=>exact hv l (by simp [jc])
    obtain ⟨u,hr,hu⟩:=dj4 h hb hp (hv x (by simp [jc])) hlo hhi
    exact OpOk.pure h (run_value hr) trivial rfl hu
   ·cases hop
 | extract x i =>
  simp only [opA] at hop
  split at hop
  ·rename_i xs hvx
   split at hop
   ·rename_i a hb
    simp only [ja] at hop;subst hop
    have hx:=hv x (by simp [jc])
    rw [hvx] at hx
    obtain ⟨u,hr,hu⟩:=ck8 hb hx
    exact OpOk.pure h (run_value hr) trivial rfl hu
   ·cases hop
  ·cases hop
 | build t parts =>
  simp only [opA] at hop
  split at hop
  ·rename_i T hT
   split at hop
   ·cases hop
   ·rename_i hne
    split at hop
    ·rename_i a hb
     simp only [ja] at hop;subst hop
     cases hbp:aw7 P T s.hp (parts.toList.map fun p=>(p.1,v p.2)) (T.kinds.map bzq) with
     | none=>simp [hbp] at hb
     | some ys =>
      simp only [hbp,ju,ja] at hb;subst hb
      obtain ⟨u,hr,hu⟩:=dw0 (vs:=parts.map fun (i,x)=>(i,ρ x)) h hT hbp (by intro e;simp [e] at hne) (by simp) (fun k hk=>by
       have hk':k < parts.size:=by simpa using hk
       simp only [Array.toList_map,jb,j1,Array.getElem?_toList,Array.getElem?_eq_getElem hk',ju,jB]
       exact ⟨trivial,hv _ (by simp only [jc];simp;exact ⟨parts[k].1,Array.getElem_mem hk'⟩)⟩)
      exact OpOk.pure h (run_value hr) trivial rfl hu
    ·cases hop
  ·cases hop
 | buildSlice t n parts =>
  simp only [opA] at hop
  split at hop
  ·rename_i d e E hs
   split at hop
   ·rename_i hd
    split at hop
    ·rename_i es hb
     simp only [ja] at hop;subst hop
     have hm:(parts.toList.map fun p=>v p.2)=(parts.toList.map fun p=>(p.1,v p.2)).map (·.2):=by simp
     have hids:=bkp hb
     obtain ⟨u,w',hr,σ',hR,hu⟩:=cjh (vs:=parts.map fun (i,x)=>(i,ρ x)) h00 h hs hd hb hp.1 hp.2 (by simp) (fun k hk=>by
       have hk':k < parts.size:=by simpa using hk
       simp only [Array.toList_map,jb,j1,Array.getElem?_toList,Array.getElem?_eq_getElem hk',ju,jB]
       exact ⟨trivial,hv _ (by simp only [jc];simp;exact ⟨parts[k].1,Array.getElem_mem hk'⟩)⟩) hids
     rw [← hm] at hR hu
     exact .inl ⟨u,w',run_value hr,trivial,σ',hR,hu⟩
    ·cases hop
   ·cases hop
  ·cases hop
 | makeMap t r0 =>
  cases r0 with
  | some m=>simp [opA] at hop
  | none =>
   simp only [opA] at hop
   split at hop
   ·rename_i d kk e E hm
    split at hop
    ·rename_i hd
     simp only [ja] at hop;subst hop
     obtain ⟨u,w',hr,σ',hR,hu⟩:=ckg (t:=t) (kk:=kk) (vp:=(E.agg,E.kinds)) h hd
     exact .inl ⟨u,w',run_value hr,trivial,σ',hR,hu⟩
    ·cases hop
   ·cases hop
 | lookup t x y ok =>
  simp only [opA] at hop
  split at hop
  ·rename_i a hb
   simp only [ja] at hop;subst hop
   obtain ⟨u,hr,hu⟩:=djo h hb (hv x (by simp [jc])) (hv y (by simp [jc]))
   exact OpOk.pure h (run_value hr) trivial rfl hu
  ·cases hop
 | mapUpdate t x y z =>
  simp only [opA] at hop
  split at hop
  ·rename_i hp' hb
   simp only [ja] at hop;subst hop
   obtain ⟨w',hr,hR⟩:=cyf h00 h hb (hv x (by simp [jc])) (hv y (by simp [jc])) (hv z (by simp [jc]))
   exact .inr (.inl ⟨w',run_skip hr,rfl,trivial,σ,hR⟩)
  ·cases hop
 | call c =>
  obtain ⟨callee,args,argTypes⟩:=c
  have hargs:∀ x,x∈args.toList→ARel P w (Al w0 w σ s.hp) σ (ρ x) (v x):=fun x hx=>hv x (by
   simp only [jc,Call.operands]
   exact Array.mem_append.2 (.inr (Array.mem_toList_iff.1 hx)))
  cases callee with
  | invoke rv m=>simp [opA] at hop
  | value f =>
   simp only [opA] at hop
   split at hop
   ·rename_i dd g hvf
    have hf:=hv f (by simp [jc,Call.operands])
    rw [hvf] at hf
    have hfe:ρ f = .func (.func g) #[] #[]:=by
     generalize ρ f=u at hf
     cases hf with
     | fnv _ _ vs hl hh =>
      have:vs=[]:=List.eq_nil_of_length_eq_zero hl
      subst this;rfl
    obtain ⟨hcf,hfact,hc⟩:=dqp (vs:=args.toList.map ρ) h00 hΓ h hop hp (by simp) (fun i hi=>by
     have hi':i < args.toList.length:=by simpa using hi
     rw [bkm _ _ _ hi']
     have hi2:i < args.size:=by simpa using hi'
     have e:(args.toList.map ρ).getD i undef=ρ args.toList[i]:=by simp [jb,hi2]
     rw [e]
     exact hargs _ (List.getElem_mem hi'))
    refine .inr (.inr ⟨g,(args.toList.map ρ).toArray,?_,hfact,hc⟩)
    have e2:args.map ρ=(args.toList.map ρ).toArray:=by rw [← Array.toList_map]
    simp only [execOp,resolve,jn,hfe,Deferred.ofValue,jy,jl,invoke,e2]
    simpa using hcf
   ·cases hop
  | builtin b =>
   cases b with
   | len =>
    simp only [opA] at hop
    split at hop
    ·rename_i x t hax hat
     split at hop
     ·rename_i p a hb
      simp only [ja] at hop;subst hop
      have e1:=aj7 hax
      have e2:=aj7 hat
      subst e1 e2
      obtain ⟨hpp,u,hr,hu⟩:=dkk h hb (hargs x (by simp)) type
      refine OpOk.pure h (run_value (x:=Builtin.len_ #[t] type (#[x].map ρ)) ?_) hpp rfl hu
      simpa using hr
     ·cases hop
    ·cases hop
   | min =>
    simp only [opA] at hop
    split at hop
    ·rename_i x r hax
     split at hop
     ·rename_i a hb
      simp only [ja] at hop;subst hop
      have e1:=aj7 hax
      subst e1
      obtain ⟨u,hr,hu⟩:=bk8 (r.map v) (r.map ρ) (v x) a (ρ x) hb (hargs x (by simp)) (by simp) (fun i hi=>by
       have hi':i < r.length:=by simpa using hi
       rw [bkm _ _ _ hi']
       have e:(r.map ρ).getD i undef=ρ r[i]:=by simp [jb,hi']
       rw [e]
       exact hargs _ (by simp))
      refine OpOk.pure h (run_value (x:=Builtin.min_ argTypes type ((x :: r).toArray.map ρ)) ?_) trivial rfl hu
      simpa [Builtin.min_] using hr
     ·cases hop
    ·cases hop
   | max =>
    simp only [opA] at hop
    split at hop
    ·rename_i x r hax
     split at hop
     ·rename_i a hb
      simp only [ja] at hop;subst hop
      have e1:=aj7 hax
      subst e1
      obtain ⟨u,hr,hu⟩:=bki (r.map v) (r.map ρ) (v x) a (ρ x) hb (hargs x (by simp)) (by simp) (fun i hi=>by
       have hi':i < r.length:=by simpa using hi
       rw [bkm _ _ _ hi']
       have e:(r.map ρ).getD i undef=ρ r[i]:=by simp [jb,hi']
       rw [e]
       exact hargs _ (by simp))
      refine OpOk.pure h (run_value (x:=Builtin.max_ argTypes type ((x :: r).toArray.map ρ)) ?_) trivial rfl hu
      simpa [Builtin.max_] using hr
     ·cases hop
    ·cases hop
   | delete =>
    simp only [opA] at hop
    split at hop
    ·rename_i x y t l hax hat
     split at hop
     ·rename_i hp' hb
      simp only [ja] at hop;subst hop
      have e1:=aj7 hax
      have e2:=aj7 hat
      subst e1 e2
      obtain ⟨w',hr,hR⟩:=cy7 (ty:=type) h hb (hargs x (by simp)) (hargs y (by simp)) (t :: l).toArray (by simp)
      exact .inl ⟨_,w',run_value (x:=Builtin.delete_ (t :: l).toArray type (#[x,y].map ρ)) (by simpa using hr),trivial,σ,hR,.tup [] [] rfl (fun i hi=>by simp at hi)⟩
     ·cases hop
    ·cases hop
   | append =>
    simp only [opA] at hop
    split at hop
    ·rename_i x y t u d hax hat
     split at hop
     ·rename_i e E hs
      split at hop
      ·rename_i htu;subst htu
       have e1:=aj7 hax
       have e2:=aj7 hat
       subst e1 e2
       have hx:=hargs x (by simp)
       have hy:=hargs y (by simp)
       unfold bkz at hop
       split at hop
       ·cases hop
       ·rename_i new hsrc
        split at hop
        ·rename_i hd
         simp only [Bool.and_eq_true] at hd
         replace hsrc:=dkh h (aqa hs).2 hsrc hy
         split at hop
         ·rename_i hvx
          simp only [ja] at hop;subst hop
          rw [hvx] at hx
          have hxe:ρ x = .slice none 0 0:=by generalize ρ x=q at hx;cases hx;rfl
          obtain ⟨q,w',hr,σ',hR,hu⟩:=cj7 h hs hsrc hd.1 hd.2 hp hy type
          rw [← hxe] at hr
          exact .inl ⟨q,w',run_value (x:=Builtin.append_ #[t,t] type (#[x,y].map ρ)) (by simpa using hr),trivial,σ',hR,hu⟩
         ·rename_i id ks len hvx
          split at hop
          ·rename_i t' es hb
           split at hop
           ·rename_i ht;subst ht
            rw [hvx] at hx
            split at hop
            ·simp only [ja] at hop;subst hop
             obtain ⟨q,w',hr,σ',hR,hu⟩:=byf h hs hsrc hd.1 hd.2 hb hp hx hy type
             rw [← bkj hp] at hR hu
             exact .inl ⟨q,w',run_value (x:=Builtin.append_ #[t,t] type (#[x,y].map ρ)) (by simpa using hr),trivial,σ',hR,hu⟩
            simp only [ja] at hop;subst hop
            obtain ⟨q,w',hr,σ',hR,hu⟩:=cje h hs hsrc hd.1 hd.2 hb hp.1 hp.2 hx hy type
            exact .inl ⟨q,w',run_value (x:=Builtin.append_ #[t,t] type (#[x,y].map ρ)) (by simpa using hr),trivial,σ',hR,hu⟩
           ·cases hop
          ·cases hop
         ·cases hop
        ·cases hop
      ·cases hop
     ·cases hop
    ·cases hop
   | _=>simp [opA] at hop
 | _=>simp [opA] at hop
end Go.AE
