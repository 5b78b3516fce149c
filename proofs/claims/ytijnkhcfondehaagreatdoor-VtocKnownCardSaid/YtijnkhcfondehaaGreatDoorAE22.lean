/- Text. -/
import Derived.Test.YtijnkhcfondehaaGreatDoorAE18
set_option linter.unusedVariables false
open _root_.Array renaming getD_eq_getD_getElem?→jf,length_toList→jt,range→jN
open _root_.Bool renaming and_eq_true→jg
open _root_.Int renaming mul_le_mul_of_nonneg_left→j4
open _root_.List renaming replicate→jC,getElem?_append_left→jA,getElem?_append_right→jE,getD_eq_getElem?_getD→ja,getElem?_map→Ji,length_replicate→jT,getElem_of_mem→Jt,size_toArray→jD,length_append→ji,length_drop→jF
open _root_.Nat renaming zero_add→j6,add_mul→js,mul_le_mul_right→jh,add_zero→j3
open Go.Op renaming operands→je
open _root_.Option.some renaming injEq→jb
open Go.Result renaming andThen_ok→jq
open Go.Sem renaming run_bind→jy,run_pure→jJ
namespace Go.AE
open Go.RowKit (Below)
variable {P:Program} {w0:Base} {w:World} {N:Nat} {σ:Nat→RefI} {s:S} {tms:Array Value} {ρ:Operand→Value} {al:Nat→Prop} {Γ:List Fn}
def aqt {α:Type} (n:Nat) (x:α):List α:=jC n x
theorem dj0 {α:Type} (n:Nat) (x:α):(aqt n x).length=n:=by simp [aqt]
theorem dj6 {α:Type} {n:Nat} {r:List C} {f:α→List C} {x:α} (h:r=f x):aqt n r=List.map f (aqt n x):=by simp [aqt,h]
def fqc (P:Program) (d:Option Nat) (t:TypeId) (hp:Nat→Blk):Option Out :=
 match d,arrI P t with
 | some d,some (n,e,E)=>if aq9 (hp (key d 0)) then some ⟨True,True,.elt (key d 0) E.kinds.length E.kinds 0 0,upd hp (key d 0) (.row e (aqt n (ajn E))),false⟩ else none
 | _,_=>none
def boxX (P:Program) (d:Option Nat) (t:TypeId) (hp:Nat→Blk) (x:A):Option Out :=
 match d,arrI P t,x with
 | some d,some (_,e,E),.c (.arr t') c=>if aq9 (hp (key d 0)) && t' == t then some ⟨True,True,.elt (key d 0) E.kinds.length E.kinds 0 0,upd hp (key d 0) (.row e c.toSl),false⟩ else none
 | _,_,_=>none
def gjr (P:Program) (t:TypeId) (hp:Nat→Blk) (x:A):Option Out :=
 match dy2 P t hp x with
 | some q=>some ⟨q.1,True,q.2,hp,true⟩
 | none=>none
def fjw (P:Program) (t:TypeId) (hp:Nat→Blk) (x y:A):Option Out :=
 match arrI P t,x,y with
 | some (n,e,E),.elt id _ _ 0 0,.c (.arr t') c=>match hp id with
  | .row t1 es=>if t1 == e && (t' == t && azf E.kinds) then some ⟨es.length=n,True,.unk,upd hp id (.row t1 c.toSl),false⟩ else none
  | _=>none
 | _,_,_=>none
def gql (P:Program) (d:Option Nat) (t:TypeId) (hp:Nat→Blk) (l c:A):Option Out :=
 match d,slE P t,l,c with
 | some d,some (e,E),.c (.int _) l,.c (.int _) c=>if aq9 (hp (key d 0)) then
   some ⟨0≤l.toInt∧l.toInt≤c.toInt∧c.toInt * E.bytes≤140737488355328,True,.own (key d 0) E.kinds 0 l.toInt.toNat,upd hp (key d 0) (.row e (aqt l.toInt.toNat (ajn E))),false⟩
  else none
 | _,_,_,_=>none
def fq1 (P:Program) (t:TypeId) (hp:Nat→Blk) (x:A):Option Out :=
 match slE P t,x with
 | some (e,E),.own id ks off len=>match hp id with
  | .row t' es=>if t' == e && azf E.kinds then some ⟨off+len≤es.length,True,.tup [],upd hp id (.row t' (bkf es off (aqt len (ajn E)))),false⟩ else none
  | _=>none
 | _,_=>none
def ewp (P:Program) (t:TypeId) (hp:Nat→Blk) (x:A) (l h m:A):Option Out :=
 match slE P t,l,h,m with
 | some (e,E),.c (.int _) l,.c (.int _) h,.c (.int _) m=>match x with
  | .c (.slice _) c=>some ⟨0≤l.toInt∧l.toInt≤h.toInt∧h.toInt≤m.toInt∧m.toInt≤(c.toSl.length:Int),True,.unk,hp,true⟩
  | .own id ks off len=>if live hp id then (if ks=E.kinds then some ⟨0≤l.toInt∧l.toInt≤h.toInt∧h.toInt≤m.toInt∧m.toInt≤(len:Int),True,.unk,hp,true⟩ else none) else none
  | _=>none
 | _,_,_,_=>none
def opX (P:Program) (o:Oper) (hp:Nat→Blk) (v:Operand→A):Option Out :=
 match o.op with
 | .alloc t=>fqc P o.dst t hp
 | .box t x=>boxX P o.dst t hp (v x)
 | .load t x=>gjr P t hp (v x)
 | .store t x y=>fjw P t hp (v x) (v y)
 | .makeSlice t l c=>gql P o.dst t hp (v l) (v c)
 | .slice t x (some l) (some h) (some m)=>ewp P t hp (v x) (v l) (v h) (v m)
 | .makeFunc fn first caps=>match fn,first.toList with
  | .func f,[]=>some ⟨True,True,.fnv f (caps.toList.map v),hp,true⟩
  | _,_=>none
 | .call c=>match c.callee with
  | .builtin .clear=>match c.args.toList,c.argTypes.toList with
   | [x],[t]=>fq1 P t hp (v x)
   | _,_=>none
  | _=>none
 | _=>none
theorem RepC.arr_inv {t:TypeId} {v:Value} {x:C} (h:RepC P w al (.arr t) v x):∃ n e E,∃ vs:List Value,arrI P t=some (n,e,E)∧v = .agg vs.toArray∧x.toSl.length=n∧vs.length=n * E.kinds.length∧(∀ i,i < n→(eg x.toSl i).length=E.kinds.length) ∧
  ∀ i,i < n→∀ j,j < E.kinds.length→RepC P w al (E.kinds.getD j .other) (vs.getD (i * E.kinds.length+j) undef) (cg (eg x.toSl i) j):=by
 cases h with
 | arr _ _ vs n e E hA hn hl hel hrep=>exact ⟨n,e,E,vs,hA,rfl,hn,hl,hel,hrep⟩
theorem gjx {ks:List Kd}:∀ (n:Nat) {vs:List Value},awu (jC n ks).flatten vs=true→vs.length=n * ks.length∧∀ i,i < n→∀ j,j < ks.length→RepC P w al (ks.getD j .other) (vs.getD (i * ks.length+j) undef) (cg (ks.map dq9) j):=by
 intro n vs h
 obtain ⟨h1,h2⟩:=ak2 (P:=P) (w:=w) (al:=al) h
 have hl:(jC n ks).flatten.length=n * ks.length:=by simp
 refine ⟨by rw [h1,hl],fun i hi j hj=>?_⟩
 have hlt:=bkq hi hj
 have:=h2 (i * ks.length+j) (by rw [hl];exact hlt)
 have hk:∀ (m i:Nat),i < m→(jC m ks).flatten[i * ks.length+j]? = ks[j]? := by
  intro m
  induction m with
  | zero=>intro i hi;omega
  | succ m ih =>
   intro i hi
   rw [List.replicate_succ,List.flatten_cons]
   cases i with
   | zero=>rw [Nat.zero_mul,j6,jA hj]
   | succ i =>
    rw [jE (by rw [js];omega)]
    have e:(i+1) * ks.length+j - ks.length=i * ks.length+j:=by rw [js];omega
    rw [e];exact ih i (by omega)
 have e1:(jC n ks).flatten.getD (i * ks.length+j) .other=ks.getD j .other:=by
  rw [ja,hk n i hi,← ja]
 have e2:cg ((jC n ks).flatten.map dq9) (i * ks.length+j)=cg (ks.map dq9) j:=by
  unfold cg
  rw [ja,Ji,hk n i hi,ja,Ji]
 rw [e1,e2] at this
 exact this
theorem RepC.heap {w':World} {al':Nat→Prop} {k:Kd} {v:Value} {x:C} (h:RepC P w al k v x) (hheap:∀ b,al b→w'.heap[b]? = w.heap[b]?) (hal:∀ b,al b→al' b):RepC P w' al' k v x:=h.mono hheap hal
theorem ew1 {id:Nat} {e:TypeId} {E:TyI} {es:List (List C)} {cells:Array Value} {tg:TypeId} {cap:Nat} (h:RelL P w0 N σ s tms w) (hd:aq9 (s.hp id)=true) (hE:tyI P e=some E) (hby:(es.length:Int) * E.bytes≤140737488355328)
  (hle:es.length≤cap) (hm:cap≤maxLen) (hsz:cells.size=cap * E.kinds.length) (hel:∀ i,i < es.length→(eg es i).length=E.kinds.length)
  (hr:∀ i,i < es.length→∀ j,j < E.kinds.length→RepC P w (Al w0 w σ s.hp) (E.kinds.getD j .other) (cells.getD (i * E.kinds.length+j) undef) (cg (eg es i) j)) :
  RelL P w0 N (upd σ id (.row w.heap.size cap e E.kinds es.length)) ⟨s.tm,upd s.hp id (.row e es)⟩ tms (w.alloc (.cells cells tg (0,0))):=by
 refine h.alloc (ajz hd) (.cells cells tg (0,0)) (.row w.heap.size cap e E.kinds es.length) _ (by simp [aj5];try (intro c hc;exact hc.symm)) (fun hal hheap hss=>?_)
 exact ⟨E,hE,hby,.inr ⟨w.heap.size,cap,cells,tg,by simp [upd],.inl h.below.size,heap_alloc_new w _,hle,hm,hsz,hel,fun i hi j hj=>(hr i hi j hj).mono hheap hal⟩⟩
theorem djn {n b:Nat} (hb:0 < b) (h:(n:Int) * b≤140737488355328):n≤maxLen:=by
 have:(n:Int) * 1≤n * b:=j4 (by omega) (by omega)
 simp only [maxLen];omega
theorem ez1 {o:Oper} {t:TypeId} {r:Out} (h:RelL P w0 N σ s tms w) (hf:fqc P o.dst t s.hp=some r) (ho:o.op = .alloc t):OpOk P w0 N s tms o ρ w r:=by
 unfold fqc aqt at hf
 split at hf
 ·rename_i d n e E hdst hA
  split at hf
  ·rename_i hd
   simp only [jb] at hf;subst hf
   obtain ⟨i,z,hi,hu,hE,hsize,hpos,hby,hz,hfit⟩:=cjj hA
   obtain ⟨S⟩:=ajp hE
   have hby':(n:Int) * E.bytes≤140737488355328:=by rw [← Int.natCast_mul];omega
   obtain ⟨h1,h2⟩:=gjx (P:=P) (w:=w) (al:=Al w0 w σ s.hp) n hfit
   have hR:=ew1 (tg:=t) (cells:=z) (es:=jC n (ajn E)) (cap:=n) h hd hE (by simpa using hby') (by simp) (djn S.pos hby') (by simpa using h1) (fun i hi=>by
     simp only [jT] at hi
     simp [eg,ja,hi,ajn]) (fun i hi j hj=>by
     simp only [jT] at hi
     have e1:eg (jC n (ajn E)) i=E.kinds.map dq9:=by simp [eg,ja,hi,ajn]
     rw [e1]
     have:=h2 i hi j hj
     simpa [jf,ja] using this)
   refine .inl ⟨.pointer (some ⟨w.heap.size,0,none⟩),w.alloc (.cells z t (0,0)),?_,trivial,_,hR,?_⟩
   ·have:(Instr.alloc t true (.tuple #[])).run P w = .ok (.pointer (some ⟨w.heap.size,0,none⟩)) (w.alloc (.cells z t (0,0))):=by
     simp only [Instr.alloc,zeroValue,jy,run_typeInfo w hi,jq,hz,jJ,newVar,newRow,newObj]
     rfl
    simp only [execOp,ho]
    exact aje this
   ·have:=ARel.elt (F:=fun _=>False) (P:=P) (w:=w.alloc (.cells z t (0,0))) (al:=Al w0 (w.alloc (.cells z t (0,0))) (upd σ (key d 0) (.row w.heap.size n e E.kinds (jC n (ajn E)).length)) (upd s.hp (key d 0) (.row e (jC n (ajn E)))))
     (σ:=upd σ (key d 0) (.row w.heap.size n e E.kinds (jC n (ajn E)).length)) (key d 0) E.kinds E.kinds 0 0 w.heap.size n (jC n (ajn E)).length e (by simp [upd]) (by simpa using hpos) (by simp)
    simpa using this
  ·cases hf
 ·cases hf
theorem fwr {o:Oper} {t:TypeId} {x:Operand} {a:A} {r:Out} (h:RelL P w0 N σ s tms w) (hf:boxX P o.dst t s.hp a=some r) (ho:o.op = .box t x) (hx:ARel P w (Al w0 w σ s.hp) σ (ρ x) a):OpOk P w0 N s tms o ρ w r:=by
 unfold boxX at hf
 split at hf
 ·rename_i d n e E t' c hdst hA
  split at hf
  ·rename_i hd
   simp only [jg,beq_iff_eq] at hd
   obtain ⟨hd,rfl⟩:=hd
   simp only [jb] at hf;subst hf
   obtain ⟨i,z,hi,hu,hE,hsize,hpos,hby,hz,hfit⟩:=cjj hA
   obtain ⟨S⟩:=ajp hE
   obtain ⟨n',e',E',vs,hA',hv,hn,hl,hel,hrep⟩:=hx.c_inv.arr_inv
   rw [hA] at hA'
   simp only [jb,Prod.mk.injEq] at hA'
   obtain ⟨rfl,rfl,rfl⟩:=hA'
   have hby':(n:Int) * E.bytes≤140737488355328:=by rw [← Int.natCast_mul];omega
   have hR:=ew1 (tg:=t') (cells:=vs.toArray) (es:=c.toSl) (cap:=n) h hd hE (by rw [hn];exact hby') (by omega) (djn S.pos hby') (by simpa using hl) (fun i hi=>hel i (by omega)) (fun i hi j hj=>by
     have:=hrep i (by omega) j hj
     simpa [jf,ja] using this)
   refine .inl ⟨.pointer (some ⟨w.heap.size,0,none⟩),w.alloc (.cells vs.toArray t' (0,0)),?_,trivial,_,hR,?_⟩
   ·have:(Instr.box t' (ρ x)).run P w = .ok (.pointer (some ⟨w.heap.size,0,none⟩)) (w.alloc (.cells vs.toArray t' (0,0))):=by
     rw [hv]
     simp only [Instr.box,newVar,newRow,newObj,jy,jJ]
     rfl
    simp only [execOp,ho]
    exact aje this
   ·have:=ARel.elt (F:=fun _=>False) (P:=P) (w:=w.alloc (.cells vs.toArray t' (0,0))) (al:=Al w0 (w.alloc (.cells vs.toArray t' (0,0))) (upd σ (key d 0) (.row w.heap.size n e E.kinds c.toSl.length)) (upd s.hp (key d 0) (.row e c.toSl)))
     (σ:=upd σ (key d 0) (.row w.heap.size n e E.kinds c.toSl.length)) (key d 0) E.kinds E.kinds 0 0 w.heap.size n c.toSl.length e (by simp [upd]) (by omega) (by simp)
    simpa using this
  ·cases hf
 ·cases hf
theorem ey4 {o:Oper} {t:TypeId} {x:Operand} {a:A} {r:Out} (h:RelL P w0 N σ s tms w) (hf:gjr P t s.hp a=some r) (ho:o.op = .load t x) (hp:r.pre) (hx:ARel P w (Al w0 w σ s.hp) σ (ρ x) a):OpOk P w0 N s tms o ρ w r:=by
 unfold gjr at hf
 split at hf
 ·rename_i q hl
  simp only [jb] at hf;subst hf
  obtain ⟨_,u,_,hr,hu⟩:=djz (p:=q.1) (z:=q.2) h hl hp hx
  exact OpOk.pure h (by simp only [execOp,ho];exact aje hr) trivial rfl hu
 ·cases hf
theorem ezg {o:Oper} {t:TypeId} {x y:Operand} {a b0:A} {r:Out} (h:RelL P w0 N σ s tms w) (hf:fjw P t s.hp a b0=some r) (ho:o.op = .store t x y) (hp:r.pre) (hx:ARel P w (Al w0 w σ s.hp) σ (ρ x) a) (hy:ARel P w (Al w0 w σ s.hp) σ (ρ y) b0):OpOk P w0 N s tms o ρ w r:=by
 unfold fjw at hf
 split at hf
 ·rename_i n e E id sz ks t' c hA
  split at hf
  ·rename_i t1 es hb
   split at hf
   ·rename_i hc
    simp only [jg,beq_iff_eq] at hc
    obtain ⟨rfl,rfl,hpl⟩:=hc
    simp only [jb] at hf;subst hf
    have hn':es.length=n:=hp
    obtain ⟨i,z,hi,hu,hE,hsize,hpos,hby,hz,hfit⟩:=cjj hA
    obtain ⟨E',b,cap,cur,tg,hE',hby',hv,hg,hwr,hh,hsz,hec,hcm,hel,hcell⟩:=fki h (.inl hb) hx
    rw [hE] at hE';simp only [jb] at hE';subst hE'
    obtain ⟨n',e',E',vs,hA',hvy,hn,hl,hel',hrep⟩:=hy.c_inv.arr_inv
    rw [hA] at hA'
    simp only [jb,Prod.mk.injEq] at hA'
    obtain ⟨rfl,rfl,rfl⟩:=hA'
    have hone:∀ u∈vs,u.oneCell'=true:=by
     intro u hu'
     obtain ⟨k,hk0,rfl⟩:=Jt hu'
     obtain ⟨h1,h2,h3⟩:=dq4 (k:=k) (n:=n) (sz:=E.kinds.length) (by omega)
     have:=hrep _ h1 _ h2
     rw [h3] at this
     have e:vs.getD k undef=vs[k]:=by simp [ja,hk0]
     rw [e] at this
     exact this.one (awg hpl _ h2).1 (awg hpl _ h2).2
    have hfit2:vs.length≤cur.size:=by rw [hl,hsz];exact jh _ (by omega)
    have hst:=run_storeCells_at P b 0 tg vs 0 cur w hh (by omega) hone
    simp only [j3,j6,List.take_zero,List.nil_append] at hst
    have hr:(Instr.storeAt t' (ρ x) (ρ y)).run P w = .ok () (w.setRow b (vs ++ cur.toList.drop vs.length).toArray):=by
     rw [hv,hvy]
     simp only [Instr.storeAt,Instr.sureAddr,pure_bind,storeVar,jy,sizeOf,run_typeInfo w hi,jq,jJ]
     rw [if_neg (by simp [Value.cells,hsize,hl])]
     exact hst
    refine .inr (.inl ⟨_,by simp only [execOp,ho];exact cw5 hr,rfl,trivial,σ,?_⟩)
    refine h.write (b:=b) (by simp [hg,aj5]) (by simp [hb,akb]) _ (by simp) (by simp) (by simp) (by simp) (fun c hc=>setRow_other w b c _ hc) (fun hal hheap=>?_)
    refine ⟨E,hE,by rw [hn,← hn'];exact hby',.inr ⟨b,cap,_,tg,by rw [hg,hn,hn'],hwr,setRow_heap w b cur _ _ _ hh,by omega,hcm,?_,fun i hi=>hel' i (by omega),fun i hi j hj=>?_⟩⟩
    ·simp only [jD,ji,jF,jt];omega
    ·have hlt:i * E.kinds.length+j < vs.length:=by rw [hl];exact bkq (by omega) hj
     have e1:(vs ++ cur.toList.drop vs.length).toArray.getD (i * E.kinds.length+j) undef=vs.getD (i * E.kinds.length+j) undef:=by
      simp [jf,ja,jA hlt]
     rw [e1]
     exact (hrep i (by omega) j hj).mono hheap hal
   ·cases hf
  ·cases hf
 ·cases hf
theorem eyg {o:Oper} {t:TypeId} {l c:Operand} {a b0:A} {r:Out} (h:RelL P w0 N σ s tms w) (hf:gql P o.dst t s.hp a b0=some r) (ho:o.op = .makeSlice t l c) (hp:r.pre) (hx:ARel P w (Al w0 w σ s.hp) σ (ρ l) a) (hy:ARel P w (Al w0 w σ s.hp) σ (ρ c) b0):OpOk P w0 N s tms o ρ w r:=by
 unfold gql aqt at hf
 split at hf
 ·rename_i d e E k1 x k2 y hdst hs
  split at hf
  ·rename_i hd
   simp only [jb] at hf;subst hf
   obtain ⟨h0,h1,h2⟩:=hp
   obtain ⟨hu,hE⟩:=ajx hs
   obtain ⟨S⟩:=ajp hE
   obtain ⟨hxe,_⟩:=hx.int_inv
   obtain ⟨hye,_⟩:=hy.int_inv
   have hbpos:=S.pos
   have hc0:0≤y.toInt:=by omega
   have hy1:y.toInt * 1≤y.toInt * E.bytes:=j4 (by omega) hc0
   have hz:=fq4 (P:=P) (w:=w) (al:=Al w0 w σ s.hp) hE S y.toInt.toNat
   have hrun:=run_make (P:=P) w t e S.i S.z hu S.info S.zero k1 k2 x.toInt y.toInt h0 h1 (by rw [S.bytes,Int.mul_comm];omega) (by omega)
   have hcast:((y.toInt.toNat:Nat):Int)=y.toInt:=by omega
   have hcells:madeCells S.z.cells (y.toInt.toNat * S.i.size)=(jN (y.toInt.toNat * E.kinds.length)).map (S.z.cells[· % S.z.cells.size]!):=by rw [S.size];rfl
   rw [hcells] at hrun
   have hR:=ew1 (tg:=e) (cells:=(jN (y.toInt.toNat * E.kinds.length)).map (S.z.cells[· % S.z.cells.size]!)) (es:=jC x.toInt.toNat (ajn E)) (cap:=y.toInt.toNat) h hd hE (by
     rw [jT]
     have:((x.toInt.toNat:Nat):Int) * E.bytes≤y.toInt * E.bytes:=Int.mul_le_mul_of_nonneg_right (by omega) (by omega)
     omega) (by rw [jT];omega) (djn S.pos (by rw [hcast];exact h2)) hz.1 (fun i hi=>by
     simp only [jT] at hi
     simp [eg,ja,hi,ajn]) (fun i hi j hj=>by
     simp only [jT] at hi
     have:=hz.2.2 i (by rw [jT];omega) j hj
     have e1:eg (jC x.toInt.toNat (ajn E)) i=ajn E:=by simp [eg,ja,hi]
     have hi2:i < y.toInt.toNat:=by omega
     have e2:eg (jC y.toInt.toNat (ajn E)) i=ajn E:=by simp [eg,ja,hi2]
     rw [e1];rw [e2] at this;exact this)
   refine .inl ⟨.slice (some ⟨w.heap.size,0,none⟩) x.toInt.toNat y.toInt.toNat,_,?_,trivial,_,hR,?_⟩
   ·simp only [execOp,ho,hxe,hye]
    exact aje hrun
   ·have:=ARel.own0 (F:=fun _=>False) (P:=P) (w:=w.alloc (.cells ((jN (y.toInt.toNat * E.kinds.length)).map (S.z.cells[· % S.z.cells.size]!)) e (0,0)))
     (al:=Al w0 (w.alloc (.cells ((jN (y.toInt.toNat * E.kinds.length)).map (S.z.cells[· % S.z.cells.size]!)) e (0,0))) (upd σ (key d 0) (.row w.heap.size y.toInt.toNat e E.kinds (jC x.toInt.toNat (ajn E)).length)) (upd s.hp (key d 0) (.row e (jC x.toInt.toNat (ajn E)))))
     (σ:=upd σ (key d 0) (.row w.heap.size y.toInt.toNat e E.kinds (jC x.toInt.toNat (ajn E)).length)) (key d 0) E.kinds x.toInt.toNat w.heap.size y.toInt.toNat (jC x.toInt.toNat (ajn E)).length e (by simp [upd]) (by simp)
    exact this
  ·cases hf
 ·cases hf
theorem ej1 {z:Array Value} {n sz i j:Nat} (hz:z.size=sz) (hi:i < n) (hj:j < sz):(Builtin.zeroCells z n).getD (i * sz+j) undef=z.getD j undef:=by
 have hlt:=bkq hi hj
 have hm:(i * sz+j) % sz=j:=by rw [Nat.mul_comm,Nat.mul_add_mod,Nat.mod_eq_of_lt hj]
 have hsz:(Builtin.zeroCells z n).size=n * sz:=by rw [az7,hz]
 have e:(Builtin.zeroCells z n)[i * sz+j]? = some z[j]! := by
  unfold Builtin.zeroCells
  simp [hz,hlt,hm]
 have hj':j < z.size:=by omega
 simp [jf,e,hj']
theorem gwm {α:Type} {d:α} (a b c:List α) {k:Nat} (h:k < a.length):(a ++ b ++ c).getD k d=a.getD k d:=by
 rw [ja,jA (by rw [ji];omega),jA h,← ja]
theorem gz1 {α:Type} {d:α} (a b c:List α) {k:Nat} (h1:a.length≤k) (h2:k < a.length+b.length):(a ++ b ++ c).getD k d=b.getD (k - a.length) d:=by
 rw [ja,jA (by rw [ji];omega),jE h1,← ja]
theorem gz7 {α:Type} {d:α} (a b c:List α) {k:Nat} (h1:a.length+b.length≤k):(a ++ b ++ c).getD k d=c.getD (k - (a.length+b.length)) d:=by
 rw [ja,jE (by rw [ji];omega),ji,← ja]
theorem ek4 {o:Oper} {t:TypeId} {x:Operand} {a:A} {r:Out} (h:RelL P w0 N σ s tms w) (hf:fq1 P t s.hp a=some r) (hp:r.pre) (hx:ARel P w (Al w0 w σ s.hp) σ (ρ x) a) (ty:TypeId) :
  ∃ w',(Builtin.clear_ #[t] ty #[ρ x]).run P w = .ok (.tuple #[]) w'∧RelL P w0 N σ ⟨s.tm,r.hp⟩ tms w'∧r.val = .tup []∧r.fact:=by
 unfold fq1 aqt at hf
 split at hf
 ·rename_i e E id ks off len hs
  split at hf
  ·rename_i t' es hb
   split at hf
   ·rename_i hc
    simp only [jg,beq_iff_eq] at hc
    obtain ⟨rfl,hpl⟩:=hc
    have hle:off+len≤es.length:=by
     simp only [jb] at hf;subst hf;exact hp
    rw [djf (by rw [jT];exact hle),jT] at hf
    simp only [jb] at hf;subst hf
    obtain ⟨hu,hE⟩:=ajx hs
    obtain ⟨S⟩:=ajp hE
    have hlv:live s.hp id=true:=by unfold live;simp [hb]
    have hB0:ajo P w w0.wr (Al w0 w σ s.hp) (σ id) t' es:=by have:=h.blks id;rw [hb] at this;exact this
    obtain ⟨t2,es2,hb',_,⟨E',hE',hks⟩,hbd,hv⟩:=azd h hlv hx
    have heq:t2=t'∧es2=es:=by rcases hb' with hb' | hb' <;> rw [hb] at hb' <;> simp at hb';exact ⟨hb'.1.symm,hb'.2.symm⟩
    obtain ⟨rfl,rfl⟩:=heq
    rw [hE] at hE';simp only [jb] at hE';subst hE';subst hks
    have hself:upd s.hp id (.row t2 es2)=s.hp:=by
     funext k;simp only [upd];split
     ·rename_i e;rw [e,hb]
     ·rfl
    have zero:len=0→RelL P w0 N σ ⟨s.tm,upd s.hp id (.row t2 (es2.take off ++ jC len (ajn E) ++ es2.drop (off+len)))⟩ tms w:=by
     rintro rfl
     simp only [List.replicate_zero,List.append_nil,j3,List.take_append_drop]
     rw [hself];exact h
    have hlen':(es2.take off ++ jC len (ajn E) ++ es2.drop (off+len)).length=es2.length:=by simp;omega
    rcases hv with ⟨hv,h0,_⟩ | ⟨h0,_,a0,c,hv⟩ | ⟨b,cap,c,hg,hv,hc0,hlc⟩
    ·refine ⟨w,?_,zero h0,rfl,trivial⟩
     rw [hv];simp [Builtin.clear_,run_underlying hu]
    ·refine ⟨w,?_,zero h0,rfl,trivial⟩
     rw [hv];cases a0 <;> simp [Builtin.clear_,run_underlying hu]
    ·by_cases h0:len=0
     ·refine ⟨w,?_,zero h0,rfl,trivial⟩
      rw [hv,h0];simp [Builtin.clear_,run_underlying hu]
     ·obtain ⟨_,_,_,hBb,cur,tg,hh,hsz,hec,hcm,_,hel,hcell⟩:=awh hB0 hg
      have hcl:cur.toList.length=cur.size:=jt
      obtain ⟨z1,z2⟩:=ak2 (P:=P) (w:=w) (al:=Al w0 w σ s.hp) S.zfits
      have hz:S.z.cells.size=E.kinds.length:=by simpa using z1
      have hks:=awp hE
      obtain ⟨vs,hvs⟩:∃ vs:List Value,vs=(Builtin.zeroCells S.z.cells len).toList:=⟨_,rfl⟩
      have hvl:vs.length=len * E.kinds.length:=by rw [hvs,jt,az7,hz]
      have hvg:∀ i,i < len→∀ j,j < E.kinds.length→RepC P w (Al w0 w σ s.hp) (E.kinds.getD j .other) (vs.getD (i * E.kinds.length+j) undef) (cg (ajn E) j):=by
       intro i hi j hj
       have e1:vs.getD (i * E.kinds.length+j) undef=S.z.cells.getD j undef:=by
        rw [← ej1 hz hi hj,hvs]
        simp [jf,ja]
       rw [e1]
       have:=z2 j hj
       simpa [jf,ja,ajn] using this
      have hone:∀ u∈vs,u.oneCell'=true:=by
       intro u hu'
       obtain ⟨k,hk0,rfl⟩:=Jt hu'
       obtain ⟨h1,h2,h3⟩:=dq4 (k:=k) (n:=len) (sz:=E.kinds.length) (by omega)
       have:=hvg _ h1 _ h2
       rw [h3] at this
       have e:vs.getD k undef=vs[k]:=by simp [ja,hk0]
       rw [e] at this
       exact this.one (awg hpl _ h2).1 (awg hpl _ h2).2
      have hle2:off * E.kinds.length+vs.length≤es2.length * E.kinds.length:=by rw [hvl,← js];exact jh _ hle
      have hle3:es2.length * E.kinds.length≤cur.size:=by rw [hsz];exact jh _ hec
      have hst:=run_storeCells_at P b (off * E.kinds.length) tg vs 0 cur w hh (by omega) hone
      simp only [j3] at hst
      have hr:(Builtin.clear_ #[t] ty #[ρ x]).run P w = .ok (.tuple #[]) (w.setRow b (cur.toList.take (off * E.kinds.length) ++ vs ++ cur.toList.drop (off * E.kinds.length+vs.length)).toArray):=by
       rw [hv]
       have hlen0:∃ m,len=m+1:=⟨len - 1,by omega⟩
       obtain ⟨m,hm⟩:=hlen0
       subst hm
       simp only [Builtin.clear_,List.getElem?_toArray,List.getElem?_cons_zero,jy,run_underlying hu,jq,zeroValue,run_typeInfo w S.info,S.zero,jJ]
       rw [← hvs,hst]
       rfl
      refine ⟨_,hr,?_,rfl,trivial⟩
      refine h.write (b:=b) (by simp [hg,aj5]) (by simp [hb,akb]) _ (by simp) (by simp) (by simp) (by simp) (fun c hc=>setRow_other w b c _ hc) (fun hal hheap=>?_)
      obtain ⟨E2,hE2,hby,_⟩:=hB0
      rw [hE] at hE2;simp only [jb] at hE2;subst hE2
      have htk:(cur.toList.take (off * E.kinds.length)).length=off * E.kinds.length:=by rw [List.length_take];omega
      refine ⟨E,hE,by rw [hlen'];exact hby,.inr ⟨b,cap,_,tg,by rw [hg,hlen'],hBb,setRow_heap w b cur _ _ _ hh,by rw [hlen'];exact hec,hcm,?_,fun i hi=>?_,fun i hi j hj=>?_⟩⟩
      ·simp only [jD,ji,htk,jF,hcl];omega
      ·rw [hlen'] at hi
       by_cases h1:i < off
       ·rw [ake (by simp;omega),ake (by simp;omega),byn h1];exact hel i hi
       ·by_cases h2:i < off+len
        ·rw [ake (by simp;omega),bw2 (by simp;omega)]
         have h3:i - (es2.take off).length < len:=by simp;omega
         have e1:eg (jC len (ajn E)) (i - (es2.take off).length)=ajn E:=by
          simp only [eg,ja,List.getElem?_replicate,h3,if_true,Option.getD_some]
         rw [e1];simp [ajn]
        ·rw [bw2 (by simp;omega),dqm]
         exact hel _ (by simp;omega)
      ·rw [hlen'] at hi
       have hk:=bkq hi hj
       have e0:∀ k,(cur.toList.take (off * E.kinds.length) ++ vs ++ cur.toList.drop (off * E.kinds.length+vs.length)).toArray.getD k undef=(cur.toList.take (off * E.kinds.length) ++ vs ++ cur.toList.drop (off * E.kinds.length+vs.length)).getD k undef:=by
        intro k;simp [jf,ja]
       rw [e0]
       by_cases h1:i < off
       ·rw [ake (by simp;omega),ake (by simp;omega),byn h1]
        have hlt:=bkq h1 hj
        rw [gwm _ _ _ (by rw [htk];exact hlt),aju _ _ _ _ hlt]
        have:=((hcell i hi j hj).2.2).mono hheap hal
        simpa [jf,ja] using this
       ·by_cases h2:i < off+len
        ·have hto:(es2.take off).length=off:=by simp;omega
         rw [ake (by simp;omega),bw2 (by omega),hto]
         have h3:i - off < len:=by omega
         have e1:eg (jC len (ajn E)) (i - off)=ajn E:=by simp [eg,ja,h3]
         rw [e1]
         have hge:off * E.kinds.length≤i * E.kinds.length+j:=by
          have:=jh E.kinds.length (show off≤i by omega);omega
         have hlt2:=bkq h2 hj
         rw [js] at hlt2
         rw [gz1 _ _ _ (by rw [htk];exact hge) (by rw [htk,hvl];exact hlt2),htk]
         have e2:i * E.kinds.length+j - off * E.kinds.length=(i - off) * E.kinds.length+j:=by
          have:=jh E.kinds.length (show off≤i by omega)
          rw [Nat.sub_mul];omega
         rw [e2]
         exact (hvg (i - off) h3 j hj).mono hheap hal
        ·have hto:(es2.take off ++ jC len (ajn E)).length=off+len:=by simp;omega
         rw [bw2 (by omega),hto,dqm]
         have e3:off+len+(i - (off+len))=i:=by omega
         rw [e3]
         have hge:(off+len) * E.kinds.length≤i * E.kinds.length+j:=by
          have:=jh E.kinds.length (show off+len≤i by omega);omega
         rw [js,← hvl] at hge
         rw [gz7 _ _ _ (by rw [htk];exact hge),htk,akt]
         have e4:off * E.kinds.length+vs.length+(i * E.kinds.length+j - (off * E.kinds.length+vs.length))=i * E.kinds.length+j:=by omega
         rw [e4]
         have:=((hcell i hi j hj).2.2).mono hheap hal
         simpa [jf,ja] using this
   ·cases hf
  ·cases hf
 ·cases hf
theorem ewq {o:Oper} {t:TypeId} {x l hh m:Operand} {a al' ah am:A} {r:Out} (h:RelL P w0 N σ s tms w) (hf:ewp P t s.hp a al' ah am=some r) (ho:o.op = .slice t x (some l) (some hh) (some m)) (hp:r.pre)
  (hx:ARel P w (Al w0 w σ s.hp) σ (ρ x) a) (hl:ARel P w (Al w0 w σ s.hp) σ (ρ l) al') (hh':ARel P w (Al w0 w σ s.hp) σ (ρ hh) ah) (hm:ARel P w (Al w0 w σ s.hp) σ (ρ m) am):OpOk P w0 N s tms o ρ w r:=by
 unfold ewp at hf
 split at hf
 ·rename_i e E k1 l' k2 h' k3 m' hs
  obtain ⟨hu,hE⟩:=ajx hs
  obtain ⟨hle,_⟩:=hl.int_inv
  obtain ⟨hhe,_⟩:=hh'.int_inv
  obtain ⟨hme,_⟩:=hm.int_inv
  have key:∀ (ad:Option Addr) (n c:Nat),ρ x = .slice ad n c→n≤c→(0≤l'.toInt∧l'.toInt≤h'.toInt∧h'.toInt≤m'.toInt∧m'.toInt≤(n:Int))→r.val = .unk→r.hp=s.hp→r.fact→OpOk P w0 N s tms o ρ w r:=by
   rintro ad n c hv hnc ⟨h1,h2,h3,h4⟩ hval hhp hfact
   obtain ⟨u,hr⟩:∃ u,(Instr.sliceAt t (ρ x) (some (ρ l)) (some (ρ hh)) (some (ρ m))).run P w = .ok u w:=by
    rw [hv,hle,hhe,hme]
    have e1:(Instr.sliceBound (.int k3 m'.toInt) c .slice3Acap).run P w = .ok m'.toInt.toNat w:=by
     simp [Instr.sliceBound,asIntOf,show 0≤m'.toInt∧m'.toInt≤(c:Int) by omega]
    have e2:(Instr.sliceBound (.int k2 h'.toInt) m'.toInt.toNat .slice3B).run P w = .ok h'.toInt.toNat w:=by
     simp only [Instr.sliceBound,asIntOf,pure_bind]
     rw [if_pos (by omega)];rfl
    have e3:(Instr.sliceBound (.int k1 l'.toInt) h'.toInt.toNat .slice3C).run P w = .ok l'.toInt.toNat w:=by
     simp only [Instr.sliceBound,asIntOf,pure_bind]
     rw [if_pos (by omega)];rfl
    refine ⟨.slice (if m'.toInt.toNat=l'.toInt.toNat then ad else ad.map (·.add (l'.toInt.toNat * E.kinds.length))) (h'.toInt.toNat - l'.toInt.toNat) (m'.toInt.toNat - l'.toInt.toNat),?_⟩
    simp only [Instr.sliceAt,Instr.slice,Instr.sliceBounds,jy,run_underlying hu,jq,e1,e2,e3,if_true,Option.isSome_some,ay9 hE,jJ]
   exact OpOk.pure h (by simp only [execOp,ho,Option.map_some];exact aje hr) hfact hhp (by rw [hval];exact .unk _)
  split at hf
  ·rename_i t' c
   simp only [jb] at hf;subst hf
   rcases ayz hx.c_inv with ⟨ad,cc,hv,he⟩ | ⟨b,off,cap,E',f,hv,hE',_,_,hcp,_⟩
   ·rw [he] at hp;exact key _ _ _ hv (by omega) hp rfl rfl trivial
   ·exact key _ _ _ hv hcp hp rfl rfl trivial
  ·rename_i id ks off len
   split at hf
   ·rename_i hlv
    split at hf
    ·simp only [jb] at hf;subst hf
     obtain ⟨t',es,hb,hle',⟨E',hE',hks⟩,hbd,hv⟩:=azd h hlv hx
     rcases hv with ⟨hv,rfl,_⟩ | ⟨rfl,_,ad,c,hv⟩ | ⟨b,cap,c,hg,hv,hc0,hlc⟩
     ·exact key _ _ _ hv (by omega) hp rfl rfl trivial
     ·exact key _ _ _ hv (by omega) hp rfl rfl trivial
     ·exact key _ _ _ hv hlc hp rfl rfl trivial
    ·cases hf
   ·cases hf
  ·cases hf
 ·cases hf
theorem fk1 {o:Oper} {r:Out} {v:Operand→A} (h:RelL P w0 N σ s tms w) (hop:opX P o s.hp v=some r) (hv:∀ x,x∈o.op.operands→ARel P w (Al w0 w σ s.hp) σ (ρ x) (v x)) (hp:r.pre):OpOk P w0 N s tms o ρ w r:=by
 cases hoo:o.op with
 | alloc t=>simp only [opX,hoo] at hop;exact ez1 h hop hoo
 | box t x=>simp only [opX,hoo] at hop;exact fwr h hop hoo (hv x (by rw [hoo];simp [je]))
 | load t x=>simp only [opX,hoo] at hop;exact ey4 h hop hoo hp (hv x (by rw [hoo];simp [je]))
 | store t x y=>simp only [opX,hoo] at hop;exact ezg h hop hoo hp (hv x (by rw [hoo];simp [je])) (hv y (by rw [hoo];simp [je]))
 | slice t x lo hi mx =>
  cases lo <;> cases hi <;> cases mx <;> first | (simp [opX,hoo] at hop;done) | skip
  rename_i l hh m
  simp only [opX,hoo] at hop
  exact ewq h hop hoo hp (hv x (by rw [hoo];simp [je])) (hv l (by rw [hoo];simp [je])) (hv hh (by rw [hoo];simp [je])) (hv m (by rw [hoo];simp [je]))
 | makeFunc fn first caps =>
  simp only [opX,hoo] at hop
  split at hop
  ·rename_i f hfst
   simp only [jb] at hop;subst hop
   have e1:=ajb hfst
   subst e1
   refine OpOk.pure (v:=.func (.func f) #[] (caps.map ρ)) h ?_ trivial rfl ?_
   ·simp only [execOp,hoo]
    exact aje (x:=Instr.makeFunc (.func f) (#[].map ρ) (caps.map ρ)) (by simp [Instr.makeFunc])
   ·have e2:caps.map ρ=(caps.toList.map ρ).toArray:=by rw [← Array.toList_map]
    rw [e2]
    refine .fnv f _ _ (by simp) (fun i hi=>?_)
    have hi':i < caps.toList.length:=by simpa using hi
    rw [cyp _ _ _ hi']
    have e:(caps.toList.map ρ).getD i undef=ρ caps.toList[i]:=by simp [ja,show i < caps.size by simpa using hi']
    rw [e]
    exact hv _ (by rw [hoo];simp only [je];exact Array.mem_append.2 (.inr (Array.mem_toList_iff.1 (List.getElem_mem hi'))))
  ·cases hop
 | makeSlice t l c=>simp only [opX,hoo] at hop;exact eyg h hop hoo hp (hv l (by rw [hoo];simp [je])) (hv c (by rw [hoo];simp [je]))
 | call c =>
  obtain ⟨callee,args,argTypes⟩:=c
  cases callee with
  | builtin b =>
   cases b with
   | clear =>
    simp only [opX,hoo] at hop
    split at hop
    ·rename_i x t hax hat
     have e1:=ajb hax
     have e2:=ajb hat
     subst e1 e2
     obtain ⟨w',hr,hR,hval,hf⟩:=ek4 (o:=o) (x:=x) h hop hp (hv x (by rw [hoo];simp [je,Call.operands])) o.type
     refine .inl ⟨.tuple #[],w',?_,hf,σ,hR,by rw [hval];exact .tup [] [] rfl (fun i hi=>by simp at hi)⟩
     simp only [execOp,hoo]
     exact aje (x:=Builtin.clear_ #[t] o.type (#[x].map ρ)) (by simpa using hr)
    ·cases hop
   | _=>simp [opX,hoo] at hop
  | _=>simp [opX,hoo] at hop
 | _=>simp [opX,hoo] at hop
end Go.AE
