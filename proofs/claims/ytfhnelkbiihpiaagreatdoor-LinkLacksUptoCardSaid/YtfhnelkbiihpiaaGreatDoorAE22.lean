/- Text. -/
import Derived.Test.YtfhnelkbiihpiaaGreatDoorAE18
set_option linter.unusedVariables false
open _root_.Array renaming getD_eq_getD_getElem?→je,length_toList→jI,range→Jh
open _root_.Bool renaming and_eq_true→jd
open _root_.Int renaming mul_le_mul_of_nonneg_left→Jg
open _root_.List renaming replicate→jw,getElem?_append_left→jr,getElem?_append_right→jt,getD_eq_getElem?_getD→jb,getElem?_map→j1,length_replicate→jT,getElem_of_mem→Jf,size_toArray→jK,length_append→jh,length_drop→jN
open _root_.Nat renaming zero_add→jM,add_mul→jo,mul_le_mul_right→jk,add_zero→jV
open Go.Op renaming operands→jc
open _root_.Option.some renaming injEq→ja
open Go.Result renaming andThen_ok→jl
open Go.Sem renaming run_bind→jn,run_pure→jy
namespace Go.AE
open Go.RowKit (Below)
variable {P:Program} {w0:Base} {w:World} {N:Nat} {σ:Nat→RefI} {s:S} {tms:Array Value} {ρ:Operand→Value} {al:Nat→Prop} {Γ:List Fn}
def cjc {α:Type} (n:Nat) (x:α):List α:=jw n x
theorem cjx {α:Type} (n:Nat) (x:α):(cjc n x).length=n:=by simp [cjc]
def dze (P:Program) (d:Option Nat) (t:TypeId) (hp:Nat→Blk):Option Out :=
 match d,arrI P t with
 | some d,some (n,e,E)=>if aqh (hp (key d 0)) then some ⟨True,True,.elt (key d 0) E.kinds.length E.kinds 0 0,upd hp (key d 0) (.row e (cjc n (ajg E))),false⟩ else none
 | _,_=>none
def boxX (P:Program) (d:Option Nat) (t:TypeId) (hp:Nat→Blk) (x:A):Option Out :=
 match d,arrI P t,x with
 | some d,some (_,e,E),.c (.arr t') c=>if aqh (hp (key d 0)) && t' == t then some ⟨True,True,.elt (key d 0) E.kinds.length E.kinds 0 0,upd hp (key d 0) (.row e c.toSl),false⟩ else none
 | _,_,_=>none
def ew8 (P:Program) (t:TypeId) (hp:Nat→Blk) (x:A):Option Out :=
 match cwa P t hp x with
 | some q=>some ⟨q.1,True,q.2,hp,true⟩
 | none=>none
def dz4 (P:Program) (t:TypeId) (hp:Nat→Blk) (x y:A):Option Out :=
 match arrI P t,x,y with
 | some (n,e,E),.elt id _ _ 0 0,.c (.arr t') c=>match hp id with
  | .row t1 es=>if t1 == e && (t' == t && azd E.kinds) then some ⟨es.length=n,True,.unk,upd hp id (.row t1 c.toSl),false⟩ else none
  | _=>none
 | _,_,_=>none
def ewh (P:Program) (d:Option Nat) (t:TypeId) (hp:Nat→Blk) (l c:A):Option Out :=
 match d,slE P t,l,c with
 | some d,some (e,E),.c (.int _) l,.c (.int _) c=>if aqh (hp (key d 0)) then
   some ⟨0≤l.toInt∧l.toInt≤c.toInt∧c.toInt * E.bytes≤140737488355328,True,.own (key d 0) E.kinds 0 l.toInt.toNat,upd hp (key d 0) (.row e (cjc l.toInt.toNat (ajg E))),false⟩
  else none
 | _,_,_,_=>none
def dwj (P:Program) (t:TypeId) (hp:Nat→Blk) (x:A):Option Out :=
 match slE P t,x with
 | some (e,E),.own id ks off len=>match hp id with
  | .row t' es=>if t' == e && azd E.kinds then some ⟨off+len≤es.length,True,.tup [],upd hp id (.row t' (bz7 es off (cjc len (ajg E)))),false⟩ else none
  | _=>none
 | _,_=>none
def ckq (P:Program) (t:TypeId) (hp:Nat→Blk) (x:A) (l h m:A):Option Out :=
 match slE P t,l,h,m with
 | some (e,E),.c (.int _) l,.c (.int _) h,.c (.int _) m=>match x with
  | .c (.slice _) c=>some ⟨0≤l.toInt∧l.toInt≤h.toInt∧h.toInt≤m.toInt∧m.toInt≤(c.toSl.length:Int),True,.unk,hp,true⟩
  | .own id ks off len=>if live hp id then (if ks=E.kinds then some ⟨0≤l.toInt∧l.toInt≤h.toInt∧h.toInt≤m.toInt∧m.toInt≤(len:Int),True,.unk,hp,true⟩ else none) else none
  | _=>none
 | _,_,_,_=>none
def opX (P:Program) (o:Oper) (hp:Nat→Blk) (v:Operand→A):Option Out :=
 match o.op with
 | .alloc t=>dze P o.dst t hp
 | .box t x=>boxX P o.dst t hp (v x)
 | .load t x=>ew8 P t hp (v x)
 | .store t x y=>dz4 P t hp (v x) (v y)
 | .makeSlice t l c=>ewh P o.dst t hp (v l) (v c)
 | .slice t x (some l) (some h) (some m)=>ckq P t hp (v x) (v l) (v h) (v m)
 | .makeFunc fn first caps=>match fn,first.toList with
  | .func f,[]=>some ⟨True,True,.fnv f (caps.toList.map v),hp,true⟩
  | .func f,x :: xs=>match caps.toList with
   | []=>some ⟨True,True,.fnb f ((x :: xs).map fun _=>.unk),hp,true⟩
   | _=>none
  | _,_=>none
 | .call c=>match c.callee with
  | .builtin .clear=>match c.args.toList,c.argTypes.toList with
   | [x],[t]=>dwj P t hp (v x)
   | _,_=>none
  | _=>none
 | _=>none
theorem RepC.arr_inv {t:TypeId} {v:Value} {x:C} (h:RepC P w al (.arr t) v x):∃ n e E,∃ vs:List Value,arrI P t=some (n,e,E)∧v = .agg vs.toArray∧x.toSl.length=n∧vs.length=n * E.kinds.length∧(∀ i,i < n→(eg x.toSl i).length=E.kinds.length) ∧
  ∀ i,i < n→∀ j,j < E.kinds.length→RepC P w al (E.kinds.getD j .other) (vs.getD (i * E.kinds.length+j) undef) (cg (eg x.toSl i) j):=by
 cases h with
 | arr _ _ vs n e E hA hn hl hel hrep=>exact ⟨n,e,E,vs,hA,rfl,hn,hl,hel,hrep⟩
theorem ewx {ks:List Kd}:∀ (n:Nat) {vs:List Value},akp (jw n ks).flatten vs=true→vs.length=n * ks.length∧∀ i,i < n→∀ j,j < ks.length→RepC P w al (ks.getD j .other) (vs.getD (i * ks.length+j) undef) (cg (ks.map by7) j):=by
 intro n vs h
 obtain ⟨h1,h2⟩:=azr (P:=P) (w:=w) (al:=al) h
 have hl:(jw n ks).flatten.length=n * ks.length:=by simp
 refine ⟨by rw [h1,hl],fun i hi j hj=>?_⟩
 have hlt:=bqe hi hj
 have:=h2 (i * ks.length+j) (by rw [hl];exact hlt)
 have hk:∀ (m i:Nat),i < m→(jw m ks).flatten[i * ks.length+j]? = ks[j]? := by
  intro m
  induction m with
  | zero=>intro i hi;omega
  | succ m ih =>
   intro i hi
   rw [List.replicate_succ,List.flatten_cons]
   cases i with
   | zero=>rw [Nat.zero_mul,jM,jr hj]
   | succ i =>
    rw [jt (by rw [jo];omega)]
    have e:(i+1) * ks.length+j - ks.length=i * ks.length+j:=by rw [jo];omega
    rw [e];exact ih i (by omega)
 have e1:(jw n ks).flatten.getD (i * ks.length+j) .other=ks.getD j .other:=by
  rw [jb,hk n i hi,← jb]
 have e2:cg ((jw n ks).flatten.map by7) (i * ks.length+j)=cg (ks.map by7) j:=by
  unfold cg
  rw [jb,j1,hk n i hi,jb,j1]
 rw [e1,e2] at this
 exact this
theorem RepC.heap {w':World} {al':Nat→Prop} {k:Kd} {v:Value} {x:C} (h:RepC P w al k v x) (hheap:∀ b,al b→w'.heap[b]? = w.heap[b]?) (hal:∀ b,al b→al' b):RepC P w' al' k v x:=h.mono hheap hal
theorem dq3 {id:Nat} {e:TypeId} {E:TyI} {es:List (List C)} {cells:Array Value} {tg:TypeId} {cap:Nat} (h:RelL P w0 N σ s tms w) (hd:aqh (s.hp id)=true) (hE:tyI P e=some E) (hby:(es.length:Int) * E.bytes≤140737488355328)
  (hle:es.length≤cap) (hm:cap≤maxLen) (hsz:cells.size=cap * E.kinds.length) (hel:∀ i,i < es.length→(eg es i).length=E.kinds.length)
  (hr:∀ i,i < es.length→∀ j,j < E.kinds.length→RepC P w (Al w0 w σ s.hp) (E.kinds.getD j .other) (cells.getD (i * E.kinds.length+j) undef) (cg (eg es i) j)) :
  RelL P w0 N (upd σ id (.row w.heap.size cap e E.kinds es.length)) ⟨s.tm,upd s.hp id (.row e es)⟩ tms (w.alloc (.cells cells tg (0,0))):=by
 refine h.alloc (ajw hd) (.cells cells tg (0,0)) (.row w.heap.size cap e E.kinds es.length) _ (by simp [aj0];try (intro c hc;exact hc.symm)) (fun hal hheap hss=>?_)
 exact ⟨E,hE,hby,.inr ⟨w.heap.size,cap,cells,tg,by simp [upd],.inl h.below.size,heap_alloc_new w _,hle,hm,hsz,hel,fun i hi j hj=>(hr i hi j hj).mono hheap hal⟩⟩
theorem cwf {n b:Nat} (hb:0 < b) (h:(n:Int) * b≤140737488355328):n≤maxLen:=by
 have:(n:Int) * 1≤n * b:=Jg (by omega) (by omega)
 simp only [maxLen];omega
theorem cyy {o:Oper} {t:TypeId} {r:Out} (h:RelL P w0 N σ s tms w) (hf:dze P o.dst t s.hp=some r) (ho:o.op = .alloc t):OpOk P w0 N s tms o ρ w r:=by
 unfold dze cjc at hf
 split at hf
 ·rename_i d n e E hdst hA
  split at hf
  ·rename_i hd
   simp only [ja] at hf;subst hf
   obtain ⟨i,z,hi,hu,hE,hsize,hpos,hby,hz,hfit⟩:=bw6 hA
   obtain ⟨S⟩:=ajk hE
   have hby':(n:Int) * E.bytes≤140737488355328:=by rw [← Int.natCast_mul];omega
   obtain ⟨h1,h2⟩:=ewx (P:=P) (w:=w) (al:=Al w0 w σ s.hp) n hfit
   have hR:=dq3 (tg:=t) (cells:=z) (es:=jw n (ajg E)) (cap:=n) h hd hE (by simpa using hby') (by simp) (cwf S.pos hby') (by simpa using h1) (fun i hi=>by
     simp only [jT] at hi
     simp [eg,jb,hi,ajg]) (fun i hi j hj=>by
     simp only [jT] at hi
     have e1:eg (jw n (ajg E)) i=E.kinds.map by7:=by simp [eg,jb,hi,ajg]
     rw [e1]
     have:=h2 i hi j hj
     simpa [je,jb] using this)
   refine .inl ⟨.pointer (some ⟨w.heap.size,0,none⟩),w.alloc (.cells z t (0,0)),?_,trivial,_,hR,?_⟩
   ·have:(Instr.alloc t true (.tuple #[])).run P w = .ok (.pointer (some ⟨w.heap.size,0,none⟩)) (w.alloc (.cells z t (0,0))):=by
     simp only [Instr.alloc,zeroValue,jn,run_typeInfo w hi,jl,hz,jy,newVar,newRow,newObj]
     rfl
    simp only [execOp,ho]
    exact run_value this
   ·have:=ARel.elt (F:=fun _=>False) (P:=P) (w:=w.alloc (.cells z t (0,0))) (al:=Al w0 (w.alloc (.cells z t (0,0))) (upd σ (key d 0) (.row w.heap.size n e E.kinds (jw n (ajg E)).length)) (upd s.hp (key d 0) (.row e (jw n (ajg E)))))
     (σ:=upd σ (key d 0) (.row w.heap.size n e E.kinds (jw n (ajg E)).length)) (key d 0) E.kinds E.kinds 0 0 w.heap.size n (jw n (ajg E)).length e (by simp [upd]) (by simpa using hpos) (by simp)
    simpa using this
  ·cases hf
 ·cases hf
theorem dke {o:Oper} {t:TypeId} {x:Operand} {a:A} {r:Out} (h:RelL P w0 N σ s tms w) (hf:boxX P o.dst t s.hp a=some r) (ho:o.op = .box t x) (hx:ARel P w (Al w0 w σ s.hp) σ (ρ x) a):OpOk P w0 N s tms o ρ w r:=by
 unfold boxX at hf
 split at hf
 ·rename_i d n e E t' c hdst hA
  split at hf
  ·rename_i hd
   simp only [jd,beq_iff_eq] at hd
   obtain ⟨hd,rfl⟩:=hd
   simp only [ja] at hf;subst hf
   obtain ⟨i,z,hi,hu,hE,hsize,hpos,hby,hz,hfit⟩:=bw6 hA
   obtain ⟨S⟩:=ajk hE
   obtain ⟨n',e',E',vs,hA',hv,hn,hl,hel,hrep⟩:=hx.c_inv.arr_inv
   rw [hA] at hA'
   simp only [ja,Prod.mk.injEq] at hA'
   obtain ⟨rfl,rfl,rfl⟩:=hA'
   have hby':(n:Int) * E.bytes≤140737488355328:=by rw [← Int.natCast_mul];omega
   have hR:=dq3 (tg:=t') (cells:=vs.toArray) (es:=c.toSl) (cap:=n) h hd hE (by rw [hn];exact hby') (by omega) (cwf S.pos hby') (by simpa using hl) (fun i hi=>hel i (by omega)) (fun i hi j hj=>by
     have:=hrep i (by omega) j hj
     simpa [je,jb] using this)
   refine .inl ⟨.pointer (some ⟨w.heap.size,0,none⟩),w.alloc (.cells vs.toArray t' (0,0)),?_,trivial,_,hR,?_⟩
   ·have:(Instr.box t' (ρ x)).run P w = .ok (.pointer (some ⟨w.heap.size,0,none⟩)) (w.alloc (.cells vs.toArray t' (0,0))):=by
     rw [hv]
     simp only [Instr.box,newVar,newRow,newObj,jn,jy]
     rfl
    simp only [execOp,ho]
    exact run_value this
   ·have:=ARel.elt (F:=fun _=>False) (P:=P) (w:=w.alloc (.cells vs.toArray t' (0,0))) (al:=Al w0 (w.alloc (.cells vs.toArray t' (0,0))) (upd σ (key d 0) (.row w.heap.size n e E.kinds c.toSl.length)) (upd s.hp (key d 0) (.row e c.toSl)))
     (σ:=upd σ (key d 0) (.row w.heap.size n e E.kinds c.toSl.length)) (key d 0) E.kinds E.kinds 0 0 w.heap.size n c.toSl.length e (by simp [upd]) (by omega) (by simp)
    simpa using this
  ·cases hf
 ·cases hf
theorem dqf {o:Oper} {t:TypeId} {x:Operand} {a:A} {r:Out} (h:RelL P w0 N σ s tms w) (hf:ew8 P t s.hp a=some r) (ho:o.op = .load t x) (hp:r.pre) (hx:ARel P w (Al w0 w σ s.hp) σ (ρ x) a):OpOk P w0 N s tms o ρ w r:=by
 unfold ew8 at hf
 split at hf
 ·rename_i q hl
  simp only [ja] at hf;subst hf
  obtain ⟨_,u,_,hr,hu⟩:=bkt (p:=q.1) (z:=q.2) h hl hp hx
  exact OpOk.pure h (by simp only [execOp,ho];exact run_value hr) trivial rfl hu
 ·cases hf
theorem cy2 {o:Oper} {t:TypeId} {x y:Operand} {a b0:A} {r:Out} (h:RelL P w0 N σ s tms w) (hf:dz4 P t s.hp a b0=some r) (ho:o.op = .store t x y) (hp:r.pre) (hx:ARel P w (Al w0 w σ s.hp) σ (ρ x) a) (hy:ARel P w (Al w0 w σ s.hp) σ (ρ y) b0):OpOk P w0 N s tms o ρ w r:=by
 unfold dz4 at hf
 split at hf
 ·rename_i n e E id sz ks t' c hA
  split at hf
  ·rename_i t1 es hb
   split at hf
   ·rename_i hc
    simp only [jd,beq_iff_eq] at hc
    obtain ⟨rfl,rfl,hpl⟩:=hc
    simp only [ja] at hf;subst hf
    have hn':es.length=n:=hp
    obtain ⟨i,z,hi,hu,hE,hsize,hpos,hby,hz,hfit⟩:=bw6 hA
    obtain ⟨E',b,cap,cur,tg,hE',hby',hv,hg,hwr,hh,hsz,hec,hcm,hel,hcell⟩:=dkm h (.inl hb) hx
    rw [hE] at hE';simp only [ja] at hE';subst hE'
    obtain ⟨n',e',E',vs,hA',hvy,hn,hl,hel',hrep⟩:=hy.c_inv.arr_inv
    rw [hA] at hA'
    simp only [ja,Prod.mk.injEq] at hA'
    obtain ⟨rfl,rfl,rfl⟩:=hA'
    have hone:∀ u∈vs,u.oneCell'=true:=by
     intro u hu'
     obtain ⟨k,hk0,rfl⟩:=Jf hu'
     obtain ⟨h1,h2,h3⟩:=cqt (k:=k) (n:=n) (sz:=E.kinds.length) (by omega)
     have:=hrep _ h1 _ h2
     rw [h3] at this
     have e:vs.getD k undef=vs[k]:=by simp [jb,hk0]
     rw [e] at this
     exact this.one (awq hpl _ h2).1 (awq hpl _ h2).2
    have hfit2:vs.length≤cur.size:=by rw [hl,hsz];exact jk _ (by omega)
    have hst:=run_storeCells_at P b 0 tg vs 0 cur w hh (by omega) hone
    simp only [jV,jM,List.take_zero,List.nil_append] at hst
    have hr:(Instr.storeAt t' (ρ x) (ρ y)).run P w = .ok () (w.setRow b (vs ++ cur.toList.drop vs.length).toArray):=by
     rw [hv,hvy]
     simp only [Instr.storeAt,Instr.sureAddr,pure_bind,storeVar,jn,sizeOf,run_typeInfo w hi,jl,jy]
     rw [if_neg (by simp [Value.cells,hsize,hl])]
     exact hst
    refine .inr (.inl ⟨_,by simp only [execOp,ho];exact run_skip hr,rfl,trivial,σ,?_⟩)
    refine h.write (b:=b) (by simp [hg,aj0]) (by simp [hb,ake]) _ (by simp) (by simp) (by simp) (by simp) (fun c hc=>setRow_other w b c _ hc) (fun hal hheap=>?_)
    refine ⟨E,hE,by rw [hn,← hn'];exact hby',.inr ⟨b,cap,_,tg,by rw [hg,hn,hn'],hwr,setRow_heap w b cur _ _ _ hh,by omega,hcm,?_,fun i hi=>hel' i (by omega),fun i hi j hj=>?_⟩⟩
    ·simp only [jK,jh,jN,jI];omega
    ·have hlt:i * E.kinds.length+j < vs.length:=by rw [hl];exact bqe (by omega) hj
     have e1:(vs ++ cur.toList.drop vs.length).toArray.getD (i * E.kinds.length+j) undef=vs.getD (i * E.kinds.length+j) undef:=by
      simp [je,jb,jr hlt]
     rw [e1]
     exact (hrep i (by omega) j hj).mono hheap hal
   ·cases hf
  ·cases hf
 ·cases hf
theorem dwf {o:Oper} {t:TypeId} {l c:Operand} {a b0:A} {r:Out} (h:RelL P w0 N σ s tms w) (hf:ewh P o.dst t s.hp a b0=some r) (ho:o.op = .makeSlice t l c) (hp:r.pre) (hx:ARel P w (Al w0 w σ s.hp) σ (ρ l) a) (hy:ARel P w (Al w0 w σ s.hp) σ (ρ c) b0):OpOk P w0 N s tms o ρ w r:=by
 unfold ewh cjc at hf
 split at hf
 ·rename_i d e E k1 x k2 y hdst hs
  split at hf
  ·rename_i hd
   simp only [ja] at hf;subst hf
   obtain ⟨h0,h1,h2⟩:=hp
   obtain ⟨hu,hE⟩:=aqa hs
   obtain ⟨S⟩:=ajk hE
   obtain ⟨hxe,_⟩:=hx.int_inv
   obtain ⟨hye,_⟩:=hy.int_inv
   have hbpos:=S.pos
   have hc0:0≤y.toInt:=by omega
   have hy1:y.toInt * 1≤y.toInt * E.bytes:=Jg (by omega) hc0
   have hz:=dwq (P:=P) (w:=w) (al:=Al w0 w σ s.hp) hE S y.toInt.toNat
   have hrun:=run_make (P:=P) w t e S.i S.z hu S.info S.zero k1 k2 x.toInt y.toInt h0 h1 (by rw [S.bytes,Int.mul_comm];omega) (by omega)
   have hcast:((y.toInt.toNat:Nat):Int)=y.toInt:=by omega
   have hcells:madeCells S.z.cells (y.toInt.toNat * S.i.size)=(Jh (y.toInt.toNat * E.kinds.length)).map (S.z.cells[· % S.z.cells.size]!):=by rw [S.size];rfl
   rw [hcells] at hrun
   have hR:=dq3 (tg:=e) (cells:=(Jh (y.toInt.toNat * E.kinds.length)).map (S.z.cells[· % S.z.cells.size]!)) (es:=jw x.toInt.toNat (ajg E)) (cap:=y.toInt.toNat) h hd hE (by
     rw [jT]
     have:((x.toInt.toNat:Nat):Int) * E.bytes≤y.toInt * E.bytes:=Int.mul_le_mul_of_nonneg_right (by omega) (by omega)
     omega) (by rw [jT];omega) (cwf S.pos (by rw [hcast];exact h2)) hz.1 (fun i hi=>by
     simp only [jT] at hi
     simp [eg,jb,hi,ajg]) (fun i hi j hj=>by
     simp only [jT] at hi
     have:=hz.2.2 i (by rw [jT];omega) j hj
     have e1:eg (jw x.toInt.toNat (ajg E)) i=ajg E:=by simp [eg,jb,hi]
     have hi2:i < y.toInt.toNat:=by omega
     have e2:eg (jw y.toInt.toNat (ajg E)) i=ajg E:=by simp [eg,jb,hi2]
     rw [e1];rw [e2] at this;exact this)
   refine .inl ⟨.slice (some ⟨w.heap.size,0,none⟩) x.toInt.toNat y.toInt.toNat,_,?_,trivial,_,hR,?_⟩
   ·simp only [execOp,ho,hxe,hye]
    exact run_value hrun
   ·have:=ARel.own0 (F:=fun _=>False) (P:=P) (w:=w.alloc (.cells ((Jh (y.toInt.toNat * E.kinds.length)).map (S.z.cells[· % S.z.cells.size]!)) e (0,0)))
     (al:=Al w0 (w.alloc (.cells ((Jh (y.toInt.toNat * E.kinds.length)).map (S.z.cells[· % S.z.cells.size]!)) e (0,0))) (upd σ (key d 0) (.row w.heap.size y.toInt.toNat e E.kinds (jw x.toInt.toNat (ajg E)).length)) (upd s.hp (key d 0) (.row e (jw x.toInt.toNat (ajg E)))))
     (σ:=upd σ (key d 0) (.row w.heap.size y.toInt.toNat e E.kinds (jw x.toInt.toNat (ajg E)).length)) (key d 0) E.kinds x.toInt.toNat w.heap.size y.toInt.toNat (jw x.toInt.toNat (ajg E)).length e (by simp [upd]) (by simp)
    exact this
  ·cases hf
 ·cases hf
theorem cwg {z:Array Value} {n sz i j:Nat} (hz:z.size=sz) (hi:i < n) (hj:j < sz):(Builtin.zeroCells z n).getD (i * sz+j) undef=z.getD j undef:=by
 have hlt:=bqe hi hj
 have hm:(i * sz+j) % sz=j:=by rw [Nat.mul_comm,Nat.mul_add_mod,Nat.mod_eq_of_lt hj]
 have hsz:(Builtin.zeroCells z n).size=n * sz:=by rw [az4,hz]
 have e:(Builtin.zeroCells z n)[i * sz+j]? = some z[j]! := by
  unfold Builtin.zeroCells
  simp [hz,hlt,hm]
 have hj':j < z.size:=by omega
 simp [je,e,hj']
theorem ek0 {α:Type} {d:α} (a b c:List α) {k:Nat} (h:k < a.length):(a ++ b ++ c).getD k d=a.getD k d:=by
 rw [jb,jr (by rw [jh];omega),jr h,← jb]
theorem eko {α:Type} {d:α} (a b c:List α) {k:Nat} (h1:a.length≤k) (h2:k < a.length+b.length):(a ++ b ++ c).getD k d=b.getD (k - a.length) d:=by
 rw [jb,jr (by rw [jh];omega),jt h1,← jb]
theorem ezx {α:Type} {d:α} (a b c:List α) {k:Nat} (h1:a.length+b.length≤k):(a ++ b ++ c).getD k d=c.getD (k - (a.length+b.length)) d:=by
 rw [jb,jt (by rw [jh];omega),jh,← jb]
theorem djg {o:Oper} {t:TypeId} {x:Operand} {a:A} {r:Out} (h:RelL P w0 N σ s tms w) (hf:dwj P t s.hp a=some r) (hp:r.pre) (hx:ARel P w (Al w0 w σ s.hp) σ (ρ x) a) (ty:TypeId) :
  ∃ w',(Builtin.clear_ #[t] ty #[ρ x]).run P w = .ok (.tuple #[]) w'∧RelL P w0 N σ ⟨s.tm,r.hp⟩ tms w'∧r.val = .tup []∧r.fact:=by
 unfold dwj cjc at hf
 split at hf
 ·rename_i e E id ks off len hs
  split at hf
  ·rename_i t' es hb
   split at hf
   ·rename_i hc
    simp only [jd,beq_iff_eq] at hc
    obtain ⟨rfl,hpl⟩:=hc
    have hle:off+len≤es.length:=by
     simp only [ja] at hf;subst hf;exact hp
    rw [bkj (by rw [jT];exact hle),jT] at hf
    simp only [ja] at hf;subst hf
    obtain ⟨hu,hE⟩:=aqa hs
    obtain ⟨S⟩:=ajk hE
    have hlv:live s.hp id=true:=by unfold live;simp [hb]
    have hB0:aq2 P w w0.wr (Al w0 w σ s.hp) (σ id) t' es:=by have:=h.blks id;rw [hb] at this;exact this
    obtain ⟨t2,es2,hb',_,⟨E',hE',hks⟩,hbd,hv⟩:=azs h hlv hx
    have heq:t2=t'∧es2=es:=by rcases hb' with hb' | hb' <;> rw [hb] at hb' <;> simp at hb';exact ⟨hb'.1.symm,hb'.2.symm⟩
    obtain ⟨rfl,rfl⟩:=heq
    rw [hE] at hE';simp only [ja] at hE';subst hE';subst hks
    have hself:upd s.hp id (.row t2 es2)=s.hp:=by
     funext k;simp only [upd];split
     ·rename_i e;rw [e,hb]
     ·rfl
    have zero:len=0→RelL P w0 N σ ⟨s.tm,upd s.hp id (.row t2 (es2.take off ++ jw len (ajg E) ++ es2.drop (off+len)))⟩ tms w:=by
     rintro rfl
     simp only [List.replicate_zero,List.append_nil,jV,List.take_append_drop]
     rw [hself];exact h
    have hlen':(es2.take off ++ jw len (ajg E) ++ es2.drop (off+len)).length=es2.length:=by simp;omega
    rcases hv with ⟨hv,h0,_⟩ | ⟨h0,_,a0,c,hv⟩ | ⟨b,cap,c,hg,hv,hc0,hlc⟩
    ·refine ⟨w,?_,zero h0,rfl,trivial⟩
     rw [hv];simp [Builtin.clear_,run_underlying hu]
    ·refine ⟨w,?_,zero h0,rfl,trivial⟩
     rw [hv];cases a0 <;> simp [Builtin.clear_,run_underlying hu]
    ·by_cases h0:len=0
     ·refine ⟨w,?_,zero h0,rfl,trivial⟩
      rw [hv,h0];simp [Builtin.clear_,run_underlying hu]
     ·obtain ⟨_,_,_,hBb,cur,tg,hh,hsz,hec,hcm,_,hel,hcell⟩:=awe hB0 hg
      have hcl:cur.toList.length=cur.size:=jI
      obtain ⟨z1,z2⟩:=azr (P:=P) (w:=w) (al:=Al w0 w σ s.hp) S.zfits
      have hz:S.z.cells.size=E.kinds.length:=by simpa using z1
      have hks:=az2 hE
      obtain ⟨vs,hvs⟩:∃ vs:List Value,vs=(Builtin.zeroCells S.z.cells len).toList:=⟨_,rfl⟩
      have hvl:vs.length=len * E.kinds.length:=by rw [hvs,jI,az4,hz]
      have hvg:∀ i,i < len→∀ j,j < E.kinds.length→RepC P w (Al w0 w σ s.hp) (E.kinds.getD j .other) (vs.getD (i * E.kinds.length+j) undef) (cg (ajg E) j):=by
       intro i hi j hj
       have e1:vs.getD (i * E.kinds.length+j) undef=S.z.cells.getD j undef:=by
        rw [← cwg hz hi hj,hvs]
        simp [je,jb]
       rw [e1]
       have:=z2 j hj
       simpa [je,jb,ajg] using this
      have hone:∀ u∈vs,u.oneCell'=true:=by
       intro u hu'
       obtain ⟨k,hk0,rfl⟩:=Jf hu'
       obtain ⟨h1,h2,h3⟩:=cqt (k:=k) (n:=len) (sz:=E.kinds.length) (by omega)
       have:=hvg _ h1 _ h2
       rw [h3] at this
       have e:vs.getD k undef=vs[k]:=by simp [jb,hk0]
       rw [e] at this
       exact this.one (awq hpl _ h2).1 (awq hpl _ h2).2
      have hle2:off * E.kinds.length+vs.length≤es2.length * E.kinds.length:=by rw [hvl,← jo];exact jk _ hle
      have hle3:es2.length * E.kinds.length≤cur.size:=by rw [hsz];exact jk _ hec
      have hst:=run_storeCells_at P b (off * E.kinds.length) tg vs 0 cur w hh (by omega) hone
      simp only [jV] at hst
      have hr:(Builtin.clear_ #[t] ty #[ρ x]).run P w = .ok (.tuple #[]) (w.setRow b (cur.toList.take (off * E.kinds.length) ++ vs ++ cur.toList.drop (off * E.kinds.length+vs.length)).toArray):=by
       rw [hv]
       have hlen0:∃ m,len=m+1:=⟨len - 1,by omega⟩
       obtain ⟨m,hm⟩:=hlen0
       subst hm
       simp only [Builtin.clear_,List.getElem?_toArray,List.getElem?_cons_zero,jn,run_underlying hu,jl,zeroValue,run_typeInfo w S.info,S.zero,jy]
       rw [← hvs,hst]
       rfl
      refine ⟨_,hr,?_,rfl,trivial⟩
      refine h.write (b:=b) (by simp [hg,aj0]) (by simp [hb,ake]) _ (by simp) (by simp) (by simp) (by simp) (fun c hc=>setRow_other w b c _ hc) (fun hal hheap=>?_)
      obtain ⟨E2,hE2,hby,_⟩:=hB0
      rw [hE] at hE2;simp only [ja] at hE2;subst hE2
      have htk:(cur.toList.take (off * E.kinds.length)).length=off * E.kinds.length:=by rw [List.length_take];omega
      refine ⟨E,hE,by rw [hlen'];exact hby,.inr ⟨b,cap,_,tg,by rw [hg,hlen'],hBb,setRow_heap w b cur _ _ _ hh,by rw [hlen'];exact hec,hcm,?_,fun i hi=>?_,fun i hi j hj=>?_⟩⟩
      ·simp only [jK,jh,htk,jN,hcl];omega
      ·rw [hlen'] at hi
       by_cases h1:i < off
       ·rw [ak1 (by simp;omega),ak1 (by simp;omega),bw5 h1];exact hel i hi
       ·by_cases h2:i < off+len
        ·rw [ak1 (by simp;omega),bjf (by simp;omega)]
         have h3:i - (es2.take off).length < len:=by simp;omega
         have e1:eg (jw len (ajg E)) (i - (es2.take off).length)=ajg E:=by
          simp only [eg,jb,List.getElem?_replicate,h3,if_true,Option.getD_some]
         rw [e1];simp [ajg]
        ·rw [bjf (by simp;omega),bkx]
         exact hel _ (by simp;omega)
      ·rw [hlen'] at hi
       have hk:=bqe hi hj
       have e0:∀ k,(cur.toList.take (off * E.kinds.length) ++ vs ++ cur.toList.drop (off * E.kinds.length+vs.length)).toArray.getD k undef=(cur.toList.take (off * E.kinds.length) ++ vs ++ cur.toList.drop (off * E.kinds.length+vs.length)).getD k undef:=by
        intro k;simp [je,jb]
       rw [e0]
       by_cases h1:i < off
       ·rw [ak1 (by simp;omega),ak1 (by simp;omega),bw5 h1]
        have hlt:=bqe h1 hj
        rw [ek0 _ _ _ (by rw [htk];exact hlt),aju _ _ _ _ hlt]
        have:=((hcell i hi j hj).2.2).mono hheap hal
        simpa [je,jb] using this
       ·by_cases h2:i < off+len
        ·have hto:(es2.take off).length=off:=by simp;omega
         rw [ak1 (by simp;omega),bjf (by omega),hto]
         have h3:i - off < len:=by omega
         have e1:eg (jw len (ajg E)) (i - off)=ajg E:=by simp [eg,jb,h3]
         rw [e1]
         have hge:off * E.kinds.length≤i * E.kinds.length+j:=by
          have:=jk E.kinds.length (show off≤i by omega);omega
         have hlt2:=bqe h2 hj
         rw [jo] at hlt2
         rw [eko _ _ _ (by rw [htk];exact hge) (by rw [htk,hvl];exact hlt2),htk]
         have e2:i * E.kinds.length+j - off * E.kinds.length=(i - off) * E.kinds.length+j:=by
          have:=jk E.kinds.length (show off≤i by omega)
          rw [Nat.sub_mul];omega
         rw [e2]
         exact (hvg (i - off) h3 j hj).mono hheap hal
        ·have hto:(es2.take off ++ jw len (ajg E)).length=off+len:=by simp;omega
         rw [bjf (by omega),hto,bkx]
         have e3:off+len+(i - (off+len))=i:=by omega
         rw [e3]
         have hge:(off+len) * E.kinds.length≤i * E.kinds.length+j:=by
          have:=jk E.kinds.length (show off+len≤i by omega);omega
         rw [jo,← hvl] at hge
         rw [ezx _ _ _ (by rw [htk];exact hge),htk,akx]
         have e4:off * E.kinds.length+vs.length+(i * E.kinds.length+j - (off * E.kinds.length+vs.length))=i * E.kinds.length+j:=by omega
         rw [e4]
         have:=((hcell i hi j hj).2.2).mono hheap hal
         simpa [je,jb] using this
   ·cases hf
  ·cases hf
 ·cases hf
theorem ckv {o:Oper} {t:TypeId} {x l hh m:Operand} {a al' ah am:A} {r:Out} (h:RelL P w0 N σ s tms w) (hf:ckq P t s.hp a al' ah am=some r) (ho:o.op = .slice t x (some l) (some hh) (some m)) (hp:r.pre)
  (hx:ARel P w (Al w0 w σ s.hp) σ (ρ x) a) (hl:ARel P w (Al w0 w σ s.hp) σ (ρ l) al') (hh':ARel P w (Al w0 w σ s.hp) σ (ρ hh) ah) (hm:ARel P w (Al w0 w σ s.hp) σ (ρ m) am):OpOk P w0 N s tms o ρ w r:=by
 unfold ckq at hf
 split at hf
 ·rename_i e E k1 l' k2 h' k3 m' hs
  obtain ⟨hu,hE⟩:=aqa hs
  obtain ⟨hle,_⟩:=hl.int_inv
  obtain ⟨hhe,_⟩:=hh'.int_inv
  obtain ⟨hme,_⟩:=hm.int_inv
  have key:∀ (ad:Option Addr) (n c:Nat),ρ x = .slice ad n c→n≤c→(0≤l'.toInt∧l'.toInt≤h'.toInt∧h'.toInt≤m'.toInt∧m'.toInt≤(n:Int))→r.val = .unk→r.hp=s.hp→r.fact→OpOk P w0 N s tms o ρ w r:=by
   rintro ad n c hv hnc ⟨h1,h2,h3,h4⟩ hval hhp hfact
   obtain ⟨u,hr⟩:∃ u,(Instr.sliceAt t (ρ x) (some (ρ l)) (some (ρ hh)) (some (ρ m))).run P w = .ok u w:=by
    rw [hv,hle,hhe,hme]
    have e1:(Instr.sliceBound (.int k3 m'.toInt) c .slice3Acap).run P w = .ok m'.toInt.toNat w:=by
     simp [Instr.sliceBound,asIntOf,show 0≤m'.toInt∧m'.toInt≤(c:Int) by omega]
    have e2:(Instr.sliceBound (.int k2 h'.toInt) m'.toInt.toNat .slice3B).run P w = .ok h'.toInt.toNat w:=by
     simp only [Instr.sliceBound,asIntOf,pure_bind]
     rw [if_pos (by omega)];rfl
    have e3:(Instr.sliceBound (.int k1 l'.toInt) h'.toInt.toNat .slice3C).run P w = .ok l'.toInt.toNat w:=by
     simp only [Instr.sliceBound,asIntOf,pure_bind]
     rw [if_pos (by omega)];rfl
    refine ⟨.slice (if m'.toInt.toNat=l'.toInt.toNat then ad else ad.map (·.add (l'.toInt.toNat * E.kinds.length))) (h'.toInt.toNat - l'.toInt.toNat) (m'.toInt.toNat - l'.toInt.toNat),?_⟩
    simp only [Instr.sliceAt,Instr.slice,Instr.sliceBounds,jn,run_underlying hu,jl,e1,e2,e3,if_true,Option.isSome_some,akn hE,jy]
   exact OpOk.pure h (by simp only [execOp,ho,Option.map_some];exact run_value hr) hfact hhp (by rw [hval];exact .unk _)
  split at hf
  ·rename_i t' c
   simp only [ja] at hf;subst hf
   rcases ay4 hx.c_inv with ⟨ad,cc,hv,he⟩ | ⟨b,off,cap,E',f,hv,hE',_,_,hcp,_⟩
   ·rw [he] at hp;exact key _ _ _ hv (by omega) hp rfl rfl trivial
   ·exact key _ _ _ hv hcp hp rfl rfl trivial
  ·rename_i id ks off len
   split at hf
   ·rename_i hlv
    split at hf
    ·simp only [ja] at hf;subst hf
     obtain ⟨t',es,hb,hle',⟨E',hE',hks⟩,hbd,hv⟩:=azs h hlv hx
     rcases hv with ⟨hv,rfl,_⟩ | ⟨rfl,_,ad,c,hv⟩ | ⟨b,cap,c,hg,hv,hc0,hlc⟩
     ·exact key _ _ _ hv (by omega) hp rfl rfl trivial
     ·exact key _ _ _ hv (by omega) hp rfl rfl trivial
     ·exact key _ _ _ hv hlc hp rfl rfl trivial
    ·cases hf
   ·cases hf
  ·cases hf
 ·cases hf
theorem ej2 {o:Oper} {r:Out} {v:Operand→A} (h:RelL P w0 N σ s tms w) (hop:opX P o s.hp v=some r) (hv:∀ x,x∈o.op.operands→ARel P w (Al w0 w σ s.hp) σ (ρ x) (v x)) (hp:r.pre):OpOk P w0 N s tms o ρ w r:=by
 cases hoo:o.op with
 | alloc t=>simp only [opX,hoo] at hop;exact cyy h hop hoo
 | box t x=>simp only [opX,hoo] at hop;exact dke h hop hoo (hv x (by rw [hoo];simp [jc]))
 | load t x=>simp only [opX,hoo] at hop;exact dqf h hop hoo hp (hv x (by rw [hoo];simp [jc]))
 | store t x y=>simp only [opX,hoo] at hop;exact cy2 h hop hoo hp (hv x (by rw [hoo];simp [jc])) (hv y (by rw [hoo];simp [jc]))
 | slice t x lo hi mx =>
  cases lo <;> cases hi <;> cases mx <;> first | (simp [opX,hoo] at hop;done) | skip
  rename_i l hh m
  simp only [opX,hoo] at hop
  exact ckv h hop hoo hp (hv x (by rw [hoo];simp [jc])) (hv l (by rw [hoo];simp [jc])) (hv hh (by rw [hoo];simp [jc])) (hv m (by rw [hoo];simp [jc]))
 | makeFunc fn first caps =>
  simp only [opX,hoo] at hop
  split at hop
  ·rename_i f hfst
   simp only [ja] at hop;subst hop
   have e1:=aj7 hfst
   subst e1
   refine OpOk.pure (v:=.func (.func f) #[] (caps.map ρ)) h ?_ trivial rfl ?_
   ·simp only [execOp,hoo]
    exact run_value (x:=Instr.makeFunc (.func f) (#[].map ρ) (caps.map ρ)) (by simp [Instr.makeFunc])
   ·have e2:caps.map ρ=(caps.toList.map ρ).toArray:=by rw [← Array.toList_map]
    rw [e2]
    refine .fnv f _ _ (by simp) (fun i hi=>?_)
    have hi':i < caps.toList.length:=by simpa using hi
    rw [bkm _ _ _ hi']
    have e:(caps.toList.map ρ).getD i undef=ρ caps.toList[i]:=by simp [jb,show i < caps.size by simpa using hi']
    rw [e]
    exact hv _ (by rw [hoo];simp only [jc];exact Array.mem_append.2 (.inr (Array.mem_toList_iff.1 (List.getElem_mem hi'))))
  ·rename_i f x xs hfst
   split at hop
   ·rename_i hcap
    simp only [ja] at hop;subst hop
    have e0:=aj7 hcap
    subst e0
    refine OpOk.pure (v:=.func (.func f) (first.map ρ) #[]) h ?_ trivial rfl ?_
    ·simp only [execOp,hoo]
     exact run_value (x:=Instr.makeFunc (.func f) (first.map ρ) (#[].map ρ)) (by simp [Instr.makeFunc])
    ·have e2:first.map ρ=((x :: xs).map ρ).toArray:=by rw [← hfst,← Array.toList_map]
     rw [e2]
     refine .fnb f _ _ (by simp) (fun i hi=>?_)
     have e:(List.map (fun _=>A.unk) (x :: xs)).getD i .unk = .unk:=by
      rw [jb,j1]
      cases (x :: xs)[i]? <;> rfl
     rw [e]
     exact .unk _
   ·cases hop
  ·cases hop
 | makeSlice t l c=>simp only [opX,hoo] at hop;exact dwf h hop hoo hp (hv l (by rw [hoo];simp [jc])) (hv c (by rw [hoo];simp [jc]))
 | call c =>
  obtain ⟨callee,args,argTypes⟩:=c
  cases callee with
  | builtin b =>
   cases b with
   | clear =>
    simp only [opX,hoo] at hop
    split at hop
    ·rename_i x t hax hat
     have e1:=aj7 hax
     have e2:=aj7 hat
     subst e1 e2
     obtain ⟨w',hr,hR,hval,hf⟩:=djg (o:=o) (x:=x) h hop hp (hv x (by rw [hoo];simp [jc,Call.operands])) o.type
     refine .inl ⟨.tuple #[],w',?_,hf,σ,hR,by rw [hval];exact .tup [] [] rfl (fun i hi=>by simp at hi)⟩
     simp only [execOp,hoo]
     exact run_value (x:=Builtin.clear_ #[t] o.type (#[x].map ρ)) (by simpa using hr)
    ·cases hop
   | _=>simp [opX,hoo] at hop
  | _=>simp [opX,hoo] at hop
 | _=>simp [opX,hoo] at hop
end Go.AE
