/- Text. -/
import Derived.Test.YtfhnelkbiihpiaaGreatDoorAE11
set_option linter.unusedVariables false
open _root_.List renaming length_cons→jA,getD_cons_succ→jS,getD_eq_getElem?_getD→jb
open Go.Sem renaming run_bind→jn
namespace Go.AE
open Go.RowKit (Below)
variable {P:Program} {w0:Base} {w:World} {N kp:Nat} {σ:Nat→RefI} {s:S} {tms:Array Value} {ρ:Operand→Value} {al:Nat→Prop}
theorem dy2:∀ (l:List (Nat×Value)) (i0:Nat) (cells:Array Value),(∀ j,j < l.length→(l.getD j (0,undef)).1=i0+j∧(l.getD j (0,undef)).2.cells = #[(l.getD j (0,undef)).2])→i0+l.length≤cells.size →
  ∃ cells',Instr.fill (fun i=>some (i * 1,1)) cells l=Instr.fill (fun i=>some (i * 1,1)) cells' []∧cells'.size=cells.size ∧
   ∀ k,cells'.getD k undef=if i0≤k∧k < i0+l.length then (l.getD (k - i0) (0,undef)).2 else cells.getD k undef
 | [],i0,cells,_,_=>⟨cells,rfl,rfl,fun k=>by rw [if_neg (by simp)]⟩
 | (i,v) :: l,i0,cells,h,hs=>by
  obtain ⟨h1,h2⟩:=h 0 (by simp)
  simp only [List.getD_cons_zero,Nat.add_zero] at h1 h2
  subst h1
  simp only [jA] at hs
  obtain ⟨c1,f1,s1,g1⟩:=ckj (place:=fun i=>some (i * 1,1)) (cells:=cells) (i:=i) (off:=i * 1) (n:=1) (v:=v) (rest:=l) rfl (by rw [h2];rfl) (by omega)
  obtain ⟨c2,f2,s2,g2⟩:=dy2 l (i+1) c1 (fun j hj=>by
   have:=h (j+1) (by simp;omega)
   simp only [jS] at this
   exact ⟨by omega,this.2⟩) (by omega)
  refine ⟨c2,f1.trans f2,s2.trans s1,fun k=>?_⟩
  rw [g2 k,g1 k]
  simp only [jA]
  by_cases e:k=i
  ·subst e
   rw [if_neg (by omega),if_pos (by omega),if_pos (by omega),h2]
   simp
  ·by_cases e2:i+1≤k∧k < i+1+l.length
   ·rw [if_pos e2,if_pos (by omega)]
    have:k - i=(k - (i+1))+1:=by omega
    rw [this,jS]
   ·rw [if_neg e2,if_neg (by omega),if_neg (by omega)]
def boxP:List (Nat×A)→Nat→Bool
 | [],_=>true
 | (i,.box _ _) :: l,k=>(i == k) && boxP l (k+1)
 | _,_=>false
theorem djt:∀ {l:List (Nat×A)} {k:Nat},boxP l k=true→∀ j,j < l.length→(l.getD j (0,.unk)).1=k+j∧∃ id off,(l.getD j (0,.unk)).2 = .box id off
 | (i,a) :: l,k,h,j,hj=>by
  cases a <;> simp only [boxP,Bool.false_eq_true,Bool.and_eq_true,beq_iff_eq] at h
  obtain ⟨rfl,h⟩:=h
  cases j with
  | zero=>exact ⟨rfl,_,_,rfl⟩
  | succ j =>
   obtain ⟨h1,h2⟩:=djt h j (by simpa using hj)
   simp only [jS]
   exact ⟨by omega,h2⟩
def bsP (P:Program) (t:TypeId) (n:Nat) (parts:List (Nat×A)) (dst:Option Nat) (hp:Nat→Blk):Option Out :=
 match slE P t,dst with
 | some (_,E),some d=>if (E.kinds.length == 1 && boxP parts 0) && (parts.length == n && aqh (hp (key d 0))) then
   some ⟨n≤1000∧(n:Int) * E.bytes≤140737488355328,True,.bsl (key d 0) n,upd hp (key d 0) (.box (parts.map (·.2))),false⟩
  else none
 | _,_=>none
theorem eq4 {o:Oper} {q:Out} {t:TypeId} {n:Nat} {parts:Array (Nat×Operand)} {v:Operand→A} (h:RelL P w0 N σ s tms w) (hf:bsP P t n (parts.toList.map fun p=>(p.1,v p.2)) o.dst s.hp=some q) (ho:o.op = .buildSlice t n parts) (hp:q.pre)
  (hv:∀ x,x∈o.op.operands→ARel P w (Al w0 w σ s.hp) σ (ρ x) (v x)):OpOk P w0 N s tms o ρ w q:=by
 unfold bsP at hf
 split at hf
 ·rename_i e E d hs hdst
  split at hf
  ·rename_i hc
   simp only [Bool.and_eq_true,beq_iff_eq,List.length_map,Array.length_toList] at hc
   obtain ⟨⟨hk1,hbx⟩,hn,hd⟩:=hc
   simp only [Option.some.injEq] at hf;subst hf
   obtain ⟨hn1,hby⟩:=hp
   obtain ⟨hu,hE⟩:=aqa hs
   obtain ⟨S⟩:=ajk hE
   have hdd:=ajw hd
   have hparts:∀ j,j < n→∃ hj:j < parts.size,(parts[j]).1=j∧(∃ id off,v (parts[j]).2 = .box id off)∧ARel P w (Al w0 w σ s.hp) σ (ρ (parts[j]).2) (v (parts[j]).2):=by
    intro j hj
    have hj':j < parts.size:=by omega
    have:=djt hbx j (by simpa using hj')
    simp only [jb,List.getElem?_map,Array.getElem?_toList,Array.getElem?_eq_getElem hj',Option.map_some,Option.getD_some,Nat.zero_add] at this
    refine ⟨hj',this.1,this.2,hv _ ?_⟩
    rw [ho];simp only [Op.operands];simp
    exact ⟨parts[j].1,Array.getElem_mem hj'⟩
   have hvs:∀ j,j < n→(((parts.map fun (i,x)=>(i,ρ x)).toList.getD j (0,undef)).1=0+j∧((parts.map fun (i,x)=>(i,ρ x)).toList.getD j (0,undef)).2.cells = #[((parts.map fun (i,x)=>(i,ρ x)).toList.getD j (0,undef)).2])∧ARel P w (Al w0 w σ s.hp) σ ((parts.map fun (i,x)=>(i,ρ x)).toList.getD j (0,undef)).2 (((parts.toList.map fun p=>(p.1,v p.2)).map (·.2)).getD j .unk):=by
    intro j hj
    obtain ⟨hj',e1,⟨id,off,e2⟩,e3⟩:=hparts j hj
    have ee:(parts.map fun (i,x)=>(i,ρ x)).toList.getD j (0,undef)=((parts[j]).1,ρ (parts[j]).2):=by
     simp [jb,hj']
    have ea:((parts.toList.map fun p=>(p.1,v p.2)).map (·.2)).getD j .unk=v (parts[j]).2:=by
     simp [jb,hj']
    rw [ee,ea]
    refine ⟨⟨by rw [e1,Nat.zero_add],?_⟩,e3⟩
    rw [e2] at e3
    generalize ρ (parts[j]).2=u at e3
    cases e3;rfl
   obtain ⟨cells',hfl,hcs,hg⟩:=dy2 (parts.map fun (i,x)=>(i,ρ x)).toList 0 ((Array.range (n * 1)).map (S.z.cells[· % S.z.cells.size]!)) (fun j hj=>(hvs j (by simpa [hn] using hj)).1) (by simp [hn])
   have hcsz:cells'.size=n:=by rw [hcs];simp
   refine .inl ⟨.slice (some ⟨w.heap.size,0,none⟩) n n,w.alloc (.cells cells' e (0,0)),?_,trivial,upd σ (key d 0) (.box w.heap.size),?_,.bsl _ _ w.heap.size n (by simp [upd])⟩
   ·simp only [execOp,ho]
    refine run_value ?_
    have hcl':¬ (n * 1 > 2 ^ 24):=by omega
    simp only [Instr.buildSlice,jn,run_underlying hu,Result.andThen_ok,akn hE,hk1,hcl',if_false,pure_bind]
    by_cases h0:n * 1=0
    ·have hn0:n=0:=by omega
     subst hn0
     have e0:∀ f:Nat→Value,(Array.range (0 * 1)).map f = #[]:=fun f=>by simp
     rw [e0] at hfl
     have e1:∀ f:Nat→Value,(Array.range 0).map f = #[]:=fun f=>by simp
     simp only [Nat.zero_mul,if_true,e1,hfl]
     simp only [Instr.fill,newRow,newObj,jn]
     rfl
    ·simp only [h0,if_false,zeroValue,jn,run_typeInfo w S.info,Result.andThen_ok,S.zero,Sem.run_pure,hfl]
     simp only [Instr.fill,newRow,newObj,jn]
     rfl
   ·refine h.alloc hdd (.cells cells' e (0,0)) (.box w.heap.size) _ (by simp [aj0];try (intro c hc;exact hc.symm)) (fun hal hheap hss=>?_)
    refine ⟨w.heap.size,cells',e,by simp [upd],.inl h.below.size,heap_alloc_new w _,by simp [hcsz,hn],fun j hj=>?_⟩
    have hjn:j < n:=by simpa [hn] using hj
    rw [hg j,if_pos ⟨by omega,by simp [hn];omega⟩]
    exact ((hvs j hjn).2).mono hheap hal hss
  ·cases hf
 ·cases hf
end Go.AE
