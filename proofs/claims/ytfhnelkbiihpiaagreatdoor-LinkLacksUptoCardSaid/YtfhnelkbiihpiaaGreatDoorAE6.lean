/- Text. -/
import Derived.Test.YtfhnelkbiihpiaaGreatDoorAE5
set_option linter.unusedVariables false
open _root_.Array renaming getD_eq_getD_getElem?→je
open _root_.Bool renaming and_eq_true→jd
open _root_.List renaming getD_eq_getElem?_getD→jb,getElem?_append_left→jr,getElem?_take→Jc,getElem?_append_right→jt,getElem?_drop→Jm
open _root_.Option.some renaming injEq→ja
open _root_.Prod.mk renaming injEq→jj
open Go.Sem renaming run_bind→jn,run_pure→jy
namespace Go.AE
open Go.RowKit (Below)
variable {P:Program} {w0:Base} {w:World} {N:Nat} {σ:Nat→RefI} {s:S} {tms:Array Value} {ρ:Operand→Value} {al:Nat→Prop}
theorem ajw {b:Blk} (h:aqh b=true):b = .dead:=by
 cases b <;> simp [aqh] at h
 rfl
theorem RepC.one {k:Kd} {v:Value} {x:C} (h:RepC P w al k v x) (hk:k≠.other) (hk':(∀ t,k≠.ptr t)∧∀ t,k≠.arr t):v.oneCell'=true:=by
 cases h <;> first | rfl | exact absurd rfl hk | exact absurd rfl (hk'.1 _) | exact absurd rfl (hk'.2 _)
theorem cze {a:A} {v:Value} (h:RelL P w0 N σ s tms w) (ho:oneA s.hp a=true) (hx:ARel P w (Al w0 w σ s.hp) σ v a):v.oneCell'=true:=by
 cases a with
 | unk=>simp [oneA] at ho
 | c k x =>
  cases k with
  | other=>simp [oneA] at ho
  | ptr t=>simp [oneA] at ho
  | arr t=>simp [oneA] at ho
  | _=>exact hx.c_inv.one (by simp) (by simp)
 | nilsl=>cases hx;rfl
 | agg xs=>simp [oneA] at ho
 | tup xs=>simp [oneA] at ho
 | own id ks off len =>
  have hl:=aze h ho
  cases hx <;> first | rfl | (rename_i hg;exact absurd hg hl.1)
 | box id off =>
  have hl:=aze h ho
  cases hx <;> first | rfl | (rename_i hg;exact absurd hg hl.1)
 | elt id sz ks i off =>
  have hl:=aze h ho
  cases hx <;> first | rfl | (rename_i hg;exact absurd hg hl.1)
 | bsl id len=>cases hx;rfl
 | pp ks cells off=>cases hx;rfl
 | fnv f caps=>cases hx;rfl
 | fnb f caps=>cases hx;rfl
 | mref id =>
  simp only [oneA] at ho
  split at ho
  ·rename_i kk vp m hb
   have hB:=h.blks id
   rw [hb] at hB
   obtain ⟨b,es,clock,hσ,_⟩:=hB
   cases hx with
   | mref _ b' hs=>rfl
   | mrefGone _ _ hs=>rw [hσ] at hs;cases hs
   | itr _ r b' hs=>rfl
  ·cases ho
 | «when» g a=>simp [oneA] at ho
 | rg id k x =>
  simp only [oneA,jd] at ho
  obtain ⟨hk,ho⟩:=ho
  split at ho
  ·rename_i hb
   have hB:=h.blks id
   rw [hb] at hB
   obtain ⟨W,Q,hσ,_⟩:=hB
   cases hx with
   | rg _ _ _ _ W' Q' hs hr=>cases hr <;> first | rfl | simp at hk
   | rgGone _ _ _ _ hs=>rw [hσ] at hs;cases hs
  ·cases ho
 | rp id ks cells off =>
  simp only [oneA] at ho
  split at ho
  ·rename_i hb
   have hB:=h.blks id
   rw [hb] at hB
   obtain ⟨W,Q,hσ,_⟩:=hB
   cases hx with
   | rp _ _ _ _ b o W' Q' hs=>rfl
   | rpGone _ _ _ _ _ hs=>rw [hσ] at hs;cases hs
  ·cases ho
theorem djy {v:Value} (h:v.oneCell'=true):v.cells = #[v]:=by
 cases v <;> first | rfl | simp [Value.oneCell'] at h
theorem bjs {a:A} {v:Value} (h:RelL P w0 N σ s tms w) (hb:ayb s.hp a=true) (hx:ARel P w (Al w0 w σ s.hp) σ v a) :
  v.cells.size=(aje a).length∧∀ j,j < (aje a).length→ARel P w (Al w0 w σ s.hp) σ (v.cells.getD j undef) ((aje a).getD j .unk):=by
 have one:oneA s.hp a=true→aje a=[a]→v.cells.size=(aje a).length∧∀ j,j < (aje a).length→ARel P w (Al w0 w σ s.hp) σ (v.cells.getD j undef) ((aje a).getD j .unk):=by
  intro ho hc
  rw [hc,djy (cze h ho hx)]
  refine ⟨rfl,fun j hj=>?_⟩
  have:j=0:=by simp at hj;omega
  subst this
  exact hx
 cases a with
 | agg xs =>
  cases hx with
  | agg vs _ hl hh =>
   refine ⟨by simpa [Value.cells,aje] using hl,fun j hj=>?_⟩
   have:=hh j hj
   simpa [Value.cells,aje,je,jb] using this
 | _=>exact one hb rfl
theorem dy7 {t:TypeId} {id:Nat} {a:A} {v:Value} (h:RelL P w0 N σ s tms w) (hd:aqh (s.hp id)=true) (hb:ayb s.hp a=true) (hx:ARel P w (Al w0 w σ s.hp) σ v a) :
  ∃ v' w',(Instr.box t v).run P w = .ok v' w'∧∃ σ',RelL P w0 N σ' ⟨s.tm,upd s.hp id (.box (aje a))⟩ tms w'∧ARel P w' (Al w0 w' σ' (upd s.hp id (.box (aje a)))) σ' v' (.box id 0):=by
 obtain ⟨hsz,hc⟩:=bjs h hb hx
 refine ⟨_,w.alloc (.cells v.cells t (0,0)),?_,upd σ id (.box w.heap.size),?_,.box id 0 w.heap.size (by simp [upd])⟩
 ·simp only [Instr.box,newVar,newRow,newObj,jn,jy]
  rfl
 ·refine h.alloc (ajw hd) (.cells v.cells t (0,0)) (.box w.heap.size) _ (by simp [aj0];try (intro c hc;exact hc.symm)) (fun hal hheap hs=>?_)
  exact ⟨w.heap.size,v.cells,t,by simp [upd],.inl h.below.size,heap_alloc_new w _,hsz,fun j hj=>(hc j hj).mono hheap hal hs⟩
theorem eq8 {k:Kd} {v:Value} (h:bkk k v=true):ARel P w al σ v (bzq k):=by
 unfold bkk at h
 split at h
 ·rename_i b
  have:b=false:=by simpa using h
  subst this;exact ARel.mk_bool false
 ·rename_i k k' n
  simp only [jd,beq_iff_eq] at h
  obtain ⟨rfl,rfl⟩:=h
  exact ARel.mk_int ⟨by cases k <;> decide,by cases k <;> decide⟩
 ·rename_i s
  have:s=⟨#[]⟩:=by
   apply ByteArray.ext
   simp only [beq_iff_eq] at h
   exact Array.eq_empty_of_size_eq_zero h
  subst this;exact ARel.mk_str (by simp)
 ·exact .nilsl
 ·exact .unk _
 ·exact .unk _
 ·cases h
theorem cw0:∀ {ks:List Kd} {vs:List Value},akp ks vs=true→vs.length=ks.length∧∀ j,j < ks.length→ARel P w al σ (vs.getD j undef) ((ks.map bzq).getD j .unk)
 | [],[],_=>⟨rfl,fun j hj=>by simp at hj⟩
 | [],_ :: _,h=>by simp [akp] at h
 | _ :: _,[],h=>by simp [akp] at h
 | k :: ks,v :: vs,h=>by
  simp only [akp,jd] at h
  obtain ⟨h1,h2⟩:=cw0 h.2
  refine ⟨by simp [h1],fun j hj=>?_⟩
  cases j with
  | zero=>simpa using eq8 h.1
  | succ j=>simpa using h2 j (by simpa using hj)
theorem dq9 {t:TypeId} {T:TyI} {id:Nat} (h:RelL P w0 N σ s tms w) (hT:tyI P t=some T) (hd:aqh (s.hp id)=true) :
  ∃ v' w',(Instr.alloc t true (.tuple #[])).run P w = .ok v' w'∧∃ σ',RelL P w0 N σ' ⟨s.tm,upd s.hp id (.box (T.kinds.map bzq))⟩ tms w'∧ARel P w' (Al w0 w' σ' (upd s.hp id (.box (T.kinds.map bzq)))) σ' v' (.box id 0):=by
 obtain ⟨S⟩:=ajk hT
 refine ⟨_,w.alloc (.cells S.z.cells t (0,0)),?_,upd σ id (.box w.heap.size),?_,.box id 0 w.heap.size (by simp [upd])⟩
 ·simp only [Instr.alloc,zeroValue,jn,run_typeInfo w S.info,Result.andThen_ok,S.zero,jy,newVar,newRow,newObj]
  rfl
 ·refine h.alloc (ajw hd) (.cells S.z.cells t (0,0)) (.box w.heap.size) _ (by simp [aj0];try (intro c hc;exact hc.symm)) (fun hal hheap hs=>?_)
  obtain ⟨h1,h2⟩:=cw0 (P:=P) (w:=w.alloc (.cells S.z.cells t (0,0))) (al:=Al w0 (w.alloc (.cells S.z.cells t (0,0))) (upd σ id (.box w.heap.size)) (upd s.hp id (.box (T.kinds.map bzq)))) (σ:=upd σ id (.box w.heap.size)) S.zfits
  refine ⟨w.heap.size,S.z.cells,t,by simp [upd],.inl h.below.size,heap_alloc_new w _,by simpa using h1,fun j hj=>?_⟩
  have:=h2 j (by simpa using hj)
  simpa [je,jb] using this
theorem ak4 {α:Type} (l xs:List α) (off j:Nat) (d:α) (h:off+xs.length≤l.length) :
  (awg l off xs).getD j d=if off≤j∧j < off+xs.length then xs.getD (j - off) d else l.getD j d:=by
 simp only [awg,jb,List.append_assoc]
 by_cases h1:j < off
 ·rw [jr (by simp;omega),Jc,if_pos h1,if_neg (by omega)]
 ·rw [jt (by simp;omega)]
  have e:(l.take off).length=off:=by simp;omega
  rw [e]
  by_cases h2:j < off+xs.length
  ·rw [jr (by omega),if_pos (by omega)]
  ·rw [jt (by omega),Jm,if_neg (by omega)]
   congr 2;omega
theorem aqt {α:Type} (l xs:List α) (off:Nat) (h:off+xs.length≤l.length):(awg l off xs).length=l.length:=by
 simp [awg];omega
theorem cjz {hp:Nat→Blk}:∀ {as:List A},bwg hp as=true→∀ j,j < as.length→oneA hp (as.getD j .unk)=true
 | [],_,j,hj=>by simp at hj
 | a :: as,h,j,hj=>by
  simp only [bwg,jd] at h
  cases j with
  | zero=>simpa using h.1
  | succ j=>simpa using cjz h.2 j (by simpa using hj)
theorem bzm {t:TypeId} {T:TyI} (hT:tyI P t=some T) {v:Value} {n:Nat} (hn:v.cells.size=n) (hk:n=T.kinds.length) {b o:Nat} {cur:Array Value} {u:TypeId} (hh:w.heap[b]? = some (.cells cur u (0,0)))
  (hfit:o+n≤cur.size) (h1:∀ j,j < n→(v.cells.getD j undef).oneCell'=true) :
  (Instr.storeAt t (.pointer (some ⟨b,o,none⟩)) v).run P w = .ok () (w.setRow b (awg cur.toList o v.cells.toList).toArray):=by
 have h:=run_storeCells_at P b o u v.cells.toList 0 cur w hh (by simp;omega) (by
  intro x hx
  obtain ⟨j,hj,rfl⟩:=List.getElem_of_mem hx
  have:=h1 j (by simp at hj;omega)
  have hj':j < v.cells.size:=by simpa using hj
  simpa [Array.getD,hj'] using this)
 simp only [Nat.add_zero] at h
 simp only [Instr.storeAt,Instr.sureAddr,pure_bind,storeVar,jn,akn hT,Result.andThen_ok]
 rw [if_neg (by omega)]
 exact h
theorem awp {a:A} {v:Value} {k:Kd} {x:C} {al':Nat→Prop} (h:RelL P w0 N σ s tms w) (hto:toCell s.hp a=some (k,x)) (hx:ARel P w (Al w0 w σ s.hp) σ v a)
  (h1:∀ b,Al w0 w σ s.hp b→al' b) (h2:∀ id,id∈ajc a→∀ b,aj0 (σ id) b→al' b):RepC P w al' k v x:=by
 unfold toCell at hto
 split at hto
 ·simp only [ja,jj] at hto
  obtain ⟨rfl,rfl⟩:=hto
  exact hx.c_inv.mono (fun _ _=>rfl) h1
 ·simp only [ja,jj] at hto
  obtain ⟨rfl,rfl⟩:=hto
  cases hx
  exact .empty _ _ _ _ rfl nofun
 ·rename_i id ks off len
  have key:∀ t es,(s.hp id = .row t es∨s.hp id = .frz t es)→k = .slice t→x = .slice ((es.drop off).take len)→RepC P w al' k v x:=by
   rintro t es hb rfl rfl
   have hlv:live s.hp id=true:=by unfold live;rcases hb with hb | hb <;> simp [hb]
   have hB:aq2 P w w0.wr (Al w0 w σ s.hp) (σ id) t es:=by
    have:=h.blks id
    rcases hb with hb | hb <;> rw [hb] at this <;> exact this
   obtain ⟨t',es',hb',hle,⟨E,hE,rfl⟩,hbd,hv⟩:=azs h hlv hx
   have heq:t'=t∧es'=es:=by
    rcases hb with hb | hb <;> rcases hb' with hb' | hb' <;> rw [hb] at hb' <;> simp at hb' <;> exact ⟨hb'.1.symm,hb'.2.symm⟩
   obtain ⟨rfl,rfl⟩:=heq
   have hlen:((es'.drop off).take len).length=len:=by simp;omega
   rcases hv with ⟨rfl,rfl,_⟩ | ⟨rfl,_,a,c,rfl⟩ | ⟨b,cap,c,hg,rfl,_,hlc⟩
   ·exact .empty _ _ _ _ (by simp) nofun
   ·exact .empty _ _ _ _ (by simp) nofun
   ·obtain ⟨_,_,_,_,cur,tg,hh,_,_,_,_,hel,hcell⟩:=awe hB hg
    have e:len=(C.slice ((es'.drop off).take len)).toSl.length:=by rw [C.toSl_slice,hlen]
    have e2:∀ i,i < len→eg ((es'.drop off).take len) i=eg es' (off+i):=fun i hi=>by
     simp only [eg,jb,Jc,Jm,hi,if_true]
    have hr:=RepC.slice (P:=P) (w:=w) (Al:=al') t' (.slice ((es'.drop off).take len)) b (off * E.kinds.length) c nofun E hE (h2 id (by simp [ajc]) b (by simp [hg,aj0])) (by rw [← e];omega) (by rw [← e];exact hlc) (fun i hi=>by rw [← e] at hi;rw [C.toSl_slice,e2 i hi];exact hel _ (by omega))
     (fun i j=>cur.getD ((off+i) * E.kinds.length+j) undef) (fun i hi j hj=>by
      rw [← e] at hi
      refine cjn ?_ (ekn (cur:=cur) (t:=tg) hh)
      rw [← (hcell (off+i) (by omega) j hj).2.1,Nat.add_mul,Nat.add_assoc]) (fun i hi j hj=>by
      rw [← e] at hi
      have:=(hcell (off+i) (by omega) j hj).2.2.mono (fun _ _=>rfl) h1
      rw [C.toSl_slice,e2 i hi];exact this)
    rw [← e] at hr
    exact hr
  split at hto
  ·rename_i t es hb
   simp only [ja,jj] at hto
   exact key t es (.inl hb) hto.1.symm hto.2.symm
  ·rename_i t es hb
   simp only [ja,jj] at hto
   exact key t es (.inr hb) hto.1.symm hto.2.symm
  ·cases hto
 ·cases hto
theorem bz1 {k k':Kd} {v:Value} {x:C} (h00:tyI P 0=none) (hf:fitK k k'=true) (h:RepC P w al k' v x):RepC P w al k v x:=by
 unfold fitK at hf
 split at hf
 ·exact h
 ·simp only [beq_iff_eq] at hf;subst hf;exact h
 ·exact h
 ·rename_i t u
  by_cases hu:u=0
  ·subst hu
   cases h with
   | empty _ _ a c he hz=>exact .empty _ _ _ _ he hz
   | slice _ _ b off cap _ E hE=>rw [h00] at hE;cases hE
  ·have:t=u:=by simp [hu] at hf;exact hf
   subst this;exact h
 ·cases hf
theorem bz0 {k k':Kd} {v:Value} {x:C} (h00:tyI P 0=none) (hf:fitP k k'=true) (h:RepC P w al k' v x):RepC P w al k v x:=by
 unfold fitP at hf
 split at hf
 ·simp only [beq_iff_eq] at hf;subst hf;exact h
 ·exact bz1 h00 hf h
theorem eww {k k':Kd} {v:Value} {x:C} (hf:fitK k k'=true) (h:RepC P w al k' v x):v.oneCell'=true:=by
 unfold fitK at hf
 split at hf
 ·exact h.one (by simp) (by simp)
 ·exact h.one (by simp) (by simp)
 ·exact h.one (by simp) (by simp)
 ·exact h.one (by simp) (by simp)
 ·cases hf
theorem ay0 {al':Nat→Prop} (h:RelL P w0 N σ s tms w) (h1:∀ b,Al w0 w σ s.hp b→al' b):∀ {xs:List A} {vs:List Value} {ks:List Kd} {cs:List C},aqj s.hp xs=some (ks,cs)→vs.length=xs.length →
  (∀ i,i < xs.length→ARel P w (Al w0 w σ s.hp) σ (vs.getD i undef) (xs.getD i .unk))→(∀ id,id∈xs.flatMap ajc→∀ b,aj0 (σ id) b→al' b) →
  ks.length=xs.length∧cs.length=xs.length∧∀ j,j < xs.length→RepC P w al' (ks.getD j .other) (vs.getD j undef) (cg cs j)
 | [],vs,ks,cs,ht,hl,hx,h2=>by
  simp only [aqj,ja,jj] at ht
  obtain ⟨rfl,rfl⟩:=ht
  exact ⟨rfl,rfl,fun j hj=>by simp at hj⟩
 | x :: xs,[],ks,cs,ht,hl,hx,h2=>by simp at hl
 | x :: xs,v :: vs,ks,cs,ht,hl,hx,h2=>by
  simp only [aqj] at ht
  split at ht
  ·rename_i k c ks' cs' hk hks
   simp only [ja,jj] at ht
   obtain ⟨rfl,rfl⟩:=ht
   have h0:=hx 0 (by simp)
   simp only [List.getD_cons_zero] at h0
   have hc:=awp h hk h0 h1 (fun id hid=>h2 id (by simp [hid]))
   obtain ⟨e1,e2,e3⟩:=ay0 h h1 hks (by simpa using hl) (fun i hi=>by have:=hx (i+1) (by simp;omega);simpa using this) (fun id hid=>h2 id (by
    simp only [List.flatMap_cons,List.mem_append];exact .inr hid))
   refine ⟨by simp [e1],by simp [e2],fun j hj=>?_⟩
   cases j with
   | zero=>simpa using hc
   | succ j=>simpa using e3 j (by simpa using hj)
  ·cases ht
theorem bwz:∀ {ks ks':List Kd},cqh ks ks'=true→ks'.length≤ks.length∧∀ j,j < ks'.length→fitK (ks.getD j .other) (ks'.getD j .other)=true
 | _,[],_=>⟨by simp,fun j hj=>by simp at hj⟩
 | [],_ :: _,h=>by simp [cqh] at h
 | k :: ks,k' :: ks',h=>by
  simp only [cqh,jd] at h
  obtain ⟨h1,h2⟩:=bwz h.2
  refine ⟨by simp [h1],fun j hj=>?_⟩
  cases j with
  | zero=>simpa using h.1
  | succ j=>simpa using h2 j (by simpa using hj)
theorem RelL.freezeAll (h:RelL P w0 N σ s tms w) (ids:List Nat):RelL P w0 N σ ⟨s.tm,AE.freezeAll s.hp ids⟩ tms w:=by
 induction ids generalizing s with
 | nil=>exact h
 | cons id ids ih=>exact ih (h.freeze id)
theorem eqe {t:TypeId} {T:TyI} {id off:Nat} {cells:List A} {a:A} {v vp:Value} (h:RelL P w0 N σ s tms w) (hT:tyI P t=some T) (hb:s.hp id = .box cells) (hfit:off+(aje a).length≤cells.length)
  (hone:bwg s.hp (aje a)=true) (hlen:(aje a).length=T.kinds.length) (hp:ARel P w (Al w0 w σ s.hp) σ vp (.box id off)) (hx:ARel P w (Al w0 w σ s.hp) σ v a) (hbx:ayb s.hp a=true) :
  ∃ w',(Instr.storeAt t vp v).run P w = .ok () w'∧RelL P w0 N σ ⟨s.tm,upd s.hp id (.box (awg cells off (aje a)))⟩ tms w':=by
 have hB:=h.blks id
 rw [hb] at hB
 obtain ⟨b,vs,u,hr,hB0,hh,hsz,hc⟩:=hB
 obtain ⟨hs,hcs⟩:=bjs h hbx hx
 cases hp with
 | box _ _ b' hg =>
  rw [hr] at hg;simp only [RefI.box.injEq] at hg;subst hg
  have hone':∀ j,j < (aje a).length→(v.cells.getD j undef).oneCell'=true:=fun j hj=>cze h (cjz hone j hj) (hcs j hj)
  refine ⟨_,bzm hT hs hlen hh (by omega) hone',?_⟩
  refine h.write (b:=b) (by simp [hr,aj0]) (by simp [hb,ake]) _ (by simp) (by simp) (by simp) (by simp) (fun c hc=>setRow_other w b c _ hc) (fun hal hheap=>?_)
  have hl:off+v.cells.toList.length≤vs.toList.length:=by simp;omega
  refine ⟨b,_,u,hr,hB0,setRow_heap w b vs _ u _ hh,?_,fun j hj=>?_⟩
  ·rw [List.size_toArray,aqt _ _ _ hl,aqt _ _ _ hfit];simpa using hsz
  ·rw [aqt _ _ _ hfit] at hj
   have e:(awg vs.toList off v.cells.toList).toArray.getD j undef=(awg vs.toList off v.cells.toList).getD j undef:=by
    simp [je,jb]
   rw [e,ak4 _ _ _ _ _ hl,ak4 _ _ _ _ _ hfit]
   have hs':v.cells.toList.length=(aje a).length:=by simpa using hs
   rw [hs']
   split
   ·have:=(hcs (j - off) (by omega)).mono hheap hal (fun _ _=>.inl rfl)
    simpa [je,jb] using this
   ·have:=(hc j hj).mono hheap hal (fun _ _=>.inl rfl)
    simpa [je,jb] using this
end Go.AE
