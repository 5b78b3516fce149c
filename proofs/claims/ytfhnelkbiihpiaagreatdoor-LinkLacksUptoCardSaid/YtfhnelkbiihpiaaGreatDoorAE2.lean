/- Text. -/
import Derived.Test.YtfhnelkbiihpiaaGreatDoorAE1
import Derived.Maps.RangeRun
set_option linter.unusedVariables false
open _root_.Array renaming getElem?_eq_some_iff→jg
open _root_.Nat renaming le_refl→jq,le_trans→j3,lt_of_lt_of_le→jG
namespace Go.AE
open Go.RowKit (Below)
def InR (k:IntKind) (n:Int):Prop:=k.min≤n∧n≤k.max
def bz3 (w:World) (a:Addr):Option Value:=if w.frozen? a=true then none else w.cell? a
theorem awl {w:World} {a:Addr} {v:Value} (h:bz3 w a=some v):w.cell? a=some v:=by
 unfold bz3 at h
 split at h
 ·cases h
 ·exact h
theorem ew7 {w:World} {a:Addr} {v:Value} (h:bz3 w a=some v):w.frozen? a=false:=by
 unfold bz3 at h
 split at h
 ·cases h
 ·rename_i hf;simpa using hf
theorem cjn {w:World} {a:Addr} {v:Value} (h:w.cell? a=some v) (hf:w.frozen? a=false):bz3 w a=some v:=by
 unfold bz3;rw [hf];exact h
theorem bz8 {w w':World} {a:Addr} (h:w'.heap[a.block]? = w.heap[a.block]?):bz3 w' a=bz3 w a:=by
 have e1:w'.frozen? a=w.frozen? a:=by unfold World.frozen?;rw [h]
 have e2:w'.cell? a=w.cell? a:=World.cell?_of_block h
 unfold bz3;rw [e1,e2]
theorem ekn {w:World} {a:Addr} {cur:Array Value} {t:TypeId} (h:w.heap[a.block]? = some (.cells cur t (0,0))):w.frozen? a=false:=by
 unfold World.frozen?;rw [h];simp
inductive RepC (P:Program) (w:World) (Al:Nat→Prop):Kd→Value→C→Prop
 | bool (x:C):RepC P w Al .bool (.bool x.toBool) x
 | int (k:IntKind) (x:C) (h:InR k x.toInt):RepC P w Al (.int k) (.int k x.toInt) x
 | str (x:C) (h:x.toStr.length≤9223372036854775807):RepC P w Al .str (.string ⟨x.toStr.toArray⟩) x
 | empty (t:TypeId) (x:C) (a:Option Addr) (cap:Nat) (h:x.toSl=[]) (hz:x = .z→a=none∧cap=0):RepC P w Al (.slice t) (.slice a 0 cap) x
 | slice (t:TypeId) (x:C) (b off cap:Nat) (hz:x≠.z) (E:TyI) (hE:tyI P t=some E) (hal:Al b) (hlen:x.toSl.length≤140737488355328) (hcap:x.toSl.length≤cap) (hel:∀ i,i < x.toSl.length→(eg x.toSl i).length=E.kinds.length)
   (f:Nat→Nat→Value)
   (hcell:∀ i,i < x.toSl.length→∀ j,j < E.kinds.length→bz3 w ⟨b,off+(i * E.kinds.length+j),none⟩=some (f i j))
   (hrep:∀ i,i < x.toSl.length→∀ j,j < E.kinds.length→RepC P w Al (E.kinds.getD j .other) (f i j) (cg (eg x.toSl i) j)) :
   RepC P w Al (.slice t) (.slice (some ⟨b,off,none⟩) x.toSl.length cap) x
 | arr (t:TypeId) (x:C) (vs:List Value) (n:Nat) (e:TypeId) (E:TyI) (hA:arrI P t=some (n,e,E)) (hn:x.toSl.length=n) (hl:vs.length=n * E.kinds.length) (hel:∀ i,i < n→(eg x.toSl i).length=E.kinds.length)
   (hrep:∀ i,i < n→∀ j,j < E.kinds.length→RepC P w Al (E.kinds.getD j .other) (vs.getD (i * E.kinds.length+j) undef) (cg (eg x.toSl i) j)):RepC P w Al (.arr t) (.agg vs.toArray) x
 | ptr (t:TypeId) (v:Value) (x:C):RepC P w Al (.ptr t) v x
 | other (v:Value) (x:C):RepC P w Al .other v x
theorem RepC.mono {P:Program} {w w':World} {Al Al':Nat→Prop} {k:Kd} {v:Value} {x:C} (h:RepC P w Al k v x)
  (hw:∀ b,Al b→w'.heap[b]? = w.heap[b]?) (ha:∀ b,Al b→Al' b):RepC P w' Al' k v x:=by
 induction h with
 | bool x=>exact .bool x
 | int k x h=>exact .int k x h
 | str x h=>exact .str x h
 | empty t x a cap h hz=>exact .empty t x a cap h hz
 | slice t x b off cap hz E hE hal hlen hcap hel f hcell hrep ih =>
  refine .slice t x b off cap hz E hE (ha b hal) hlen hcap hel f (fun i hi j hj=>?_) ih
  rw [← hcell i hi j hj]
  exact bz8 (w:=w) (a:=⟨b,_,none⟩) (hw b hal)
 | arr t x vs n e E hA hn hl hel hrep ih=>exact .arr t x vs n e E hA hn hl hel ih
 | ptr t v x=>exact .ptr t v x
 | other v x=>exact .other v x
theorem RepC.nrm {P:Program} {w:World} {Al:Nat→Prop} {k:Kd} {v:Value} {x:C} (h:RepC P w Al k v x):RepC P w Al k v (nrm k x):=by
 cases h with
 | bool x=>exact .bool (.bool x.toBool)
 | int k x h=>exact .int k (.int x.toInt) h
 | str x h=>exact .str (.str x.toStr) h
 | empty t x a cap h hz=>exact .empty t (.slice x.toSl) a cap h nofun
 | slice t x b off cap _ E hE hal hlen hcap hel f hcell hrep=>exact .slice t (.slice x.toSl) b off cap nofun E hE hal hlen hcap hel f hcell hrep
 | arr t x vs n e E hA hn hl hel hrep=>exact .arr t (.slice x.toSl) vs n e E hA hn hl hel hrep
 | ptr t v x=>exact .ptr t v _
 | other v x=>exact .other v _
inductive RefI where
 | dead
 | gone
 | box (b:Nat)
 | rown (t:TypeId) (ks:List Kd)
 | row (b cap:Nat) (t:TypeId) (ks:List Kd) (n:Nat) (F:Nat→Prop:=fun _=>False)
 | mp (b:Nat)
 | it (r b:Nat)
 | reg (W:World) (Q:Nat→Prop)
def aj0:RefI→Nat→Prop
 | .box b,c=>b=c
 | .row b _ _ _ _ F,c=>b=c∨F c
 | .mp b,c=>b=c
 | .it r b,c=>r=c∨b=c
 | .reg _ Q,c=>Q c
 | _,_=>False
def bqw:RefI→Prop
 | .rown _ _=>True
 | .row _ _ _ _ _ _=>True
 | .mp _=>True
 | .reg _ _=>True
 | _=>False
def ake:Blk→Prop
 | .frz _ _=>True
 | _=>False
structure Base where
 world:World
 old:Nat→Prop
 mu:Nat→Prop
 sg:Nat→RefI
 mkd:Nat→Option Obj
 ms:Nat
def noMk:Nat→Option Obj:=fun _=>none
def Base.n (w0:Base):Nat:=w0.world.heap.size
def Base.wr (w0:Base) (b:Nat):Prop:=w0.n≤b∨w0.mu b
structure az1 (B:Nat) (mu:Nat→Prop) (w w':World):Prop where
 os:w'.os=w.os
 tape:w'.tape=w.tape
 output:w'.output=w.output
 size:w.heap.size≤w'.heap.size
 block:∀ k,k < B→¬ mu k→w'.heap[k]? = w.heap[k]?
theorem az1.refl (B:Nat) (mu:Nat→Prop) (w:World):az1 B mu w w:=⟨rfl,rfl,rfl,jq _,fun _ _ _=>rfl⟩
theorem az1.trans {B:Nat} {mu:Nat→Prop} {a b c:World} (h:az1 B mu a b) (k:az1 B mu b c):az1 B mu a c :=
 ⟨k.os.trans h.os,k.tape.trans h.tape,k.output.trans h.output,j3 h.size k.size,fun i hi hn=>(k.block i hi hn).trans (h.block i hi hn)⟩
theorem az1.of {B:Nat} {mu:Nat→Prop} {a b:World} (h:Below B a b):az1 B mu a b:=⟨h.os,h.tape,h.output,h.size,fun k hk _=>h.block k hk⟩
theorem az1.below {B:Nat} {a b:World} (h:az1 B (fun _=>False) a b):Below B a b:=⟨h.os,h.tape,h.output,h.size,fun k hk=>h.block k hk (fun e=>e)⟩
theorem az1.then {B:Nat} {mu:Nat→Prop} {a b c:World} (h:az1 B mu a b) (k:Below B b c):az1 B mu a c:=h.trans (.of k)
def Al (w0:Base) (w:World) (σ:Nat→RefI) (hp:Nat→Blk) (b:Nat):Prop:=b < w.heap.size∧(∀ id,aj0 (σ id) b→ake (hp id))∧(w0.wr b∨w0.old b)
inductive ARel (P:Program) (w:World) (al:Nat→Prop) (σ:Nat→RefI):Value→A→Prop
 | unk (v:Value):ARel P w al σ v .unk
 | c (k:Kd) (v:Value) (x:C) (h:RepC P w al k v x):ARel P w al σ v (.c k x)
 | nilsl:ARel P w al σ (.slice none 0 0) .nilsl
 | agg (vs:List Value) (xs:List A) (hl:vs.length=xs.length) (h:∀ i,i < xs.length→ARel P w al σ (vs.getD i undef) (xs.getD i .unk)):ARel P w al σ (.agg vs.toArray) (.agg xs)
 | tup (vs:List Value) (xs:List A) (hl:vs.length=xs.length) (h:∀ i,i < xs.length→ARel P w al σ (vs.getD i undef) (xs.getD i .unk)):ARel P w al σ (.tuple vs.toArray) (.tup xs)
 | ownGone (v:Value) (id:Nat) (ks:List Kd) (off len:Nat) (h:σ id = .gone):ARel P w al σ v (.own id ks off len)
 | eltGone (v:Value) (id sz:Nat) (ks:List Kd) (i off:Nat) (h:σ id = .gone):ARel P w al σ v (.elt id sz ks i off)
 | ownNil (id:Nat) (ks:List Kd) (off:Nat) (t:TypeId) (h:σ id = .rown t ks) (ho:off=0):ARel P w al σ (.slice none 0 0) (.own id ks off 0)
 | own0 (id:Nat) (ks:List Kd) (len b cap n:Nat) (t:TypeId) {F:Nat→Prop} (h:σ id = .row b cap t ks n F) (hl:len≤n):ARel P w al σ (.slice (some ⟨b,0,none⟩) len cap) (.own id ks 0 len)
 | ownOff (id:Nat) (ks:List Kd) (off len b cap n cap':Nat) (t:TypeId) {F:Nat→Prop} (h:σ id = .row b cap t ks n F) (ho:off≠0) (hl:off+len≤n) (hc:len≤cap'):ARel P w al σ (.slice (some ⟨b,off * ks.length,none⟩) len cap') (.own id ks off len)
 | ownOff0 (a:Option Addr) (id:Nat) (ks:List Kd) (off b cap n cap':Nat) (t:TypeId) {F:Nat→Prop} (h:σ id = .row b cap t ks n F) (ho:off≠0) (hl:off≤n):ARel P w al σ (.slice a 0 cap') (.own id ks off 0)
 | box (id off b:Nat) (h:σ id = .box b):ARel P w al σ (.pointer (some ⟨b,off,none⟩)) (.box id off)
 | elt (id:Nat) (ks0 ks:List Kd) (i off b cap n:Nat) (t:TypeId) {F:Nat→Prop} (h:σ id = .row b cap t ks0 n F) (hi:i < n) (hk:ks=ks0.drop off):ARel P w al σ (.pointer (some ⟨b,i * ks0.length+off,none⟩)) (.elt id ks0.length ks i off)
 | pp (ks:List Kd) (cells:List C) (off b o:Nat) (hal:al b) (f:Nat→Value)
   (hcell:∀ j,j < ks.length→bz3 w ⟨b,o+j,none⟩=some (f j))
   (hrep:∀ j,j < ks.length→RepC P w al (ks.getD j .other) (f j) (cg cells (off+j))):ARel P w al σ (.pointer (some ⟨b,o,none⟩)) (.pp ks cells off)
 | fnv (f:Nat) (caps:List A) (vs:List Value) (hl:vs.length=caps.length) (h:∀ i,i < caps.length→ARel P w al σ (vs.getD i undef) (caps.getD i .unk)):ARel P w al σ (.func (.func f) #[] vs.toArray) (.fnv f caps)
 | fnb (f:Nat) (caps:List A) (vs:List Value) (hl:vs.length=caps.length) (h:∀ i,i < caps.length→ARel P w al σ (vs.getD i undef) (caps.getD i .unk)):ARel P w al σ (.func (.func f) vs.toArray #[]) (.fnb f caps)
 | mref (id b:Nat) (h:σ id = .mp b):ARel P w al σ (.map (some b)) (.mref id)
 | mrefGone (v:Value) (id:Nat) (h:σ id = .gone):ARel P w al σ v (.mref id)
 | itr (id r b:Nat) (h:σ id = .it r b):ARel P w al σ (.pointer (some ⟨r,0,none⟩)) (.mref id)
 | whenT (v:Value) (a:A) (h:ARel P w al σ v a):ARel P w al σ v (.when true a)
 | whenF (a:A):ARel P w al σ undef (.when false a)
 | rg (v:Value) (id:Nat) (k:Kd) (x:C) (W:World) (Q:Nat→Prop) (h:σ id = .reg W Q) (hr:RepC P W Q k v x):ARel P w al σ v (.rg id k x)
 | rgGone (v:Value) (id:Nat) (k:Kd) (x:C) (h:σ id = .gone):ARel P w al σ v (.rg id k x)
 | rp (id:Nat) (ks:List Kd) (cells:List C) (off b o:Nat) (W:World) (Q:Nat→Prop) (h:σ id = .reg W Q) (hal:Q b) (f:Nat→Value)
   (hcell:∀ j,j < ks.length→bz3 W ⟨b,o+j,none⟩=some (f j))
   (hrep:∀ j,j < ks.length→RepC P W Q (ks.getD j .other) (f j) (cg cells (off+j))):ARel P w al σ (.pointer (some ⟨b,o,none⟩)) (.rp id ks cells off)
 | rpGone (v:Value) (id:Nat) (ks:List Kd) (cells:List C) (off:Nat) (h:σ id = .gone):ARel P w al σ v (.rp id ks cells off)
 | bsl (id len b cap:Nat) (h:σ id = .box b):ARel P w al σ (.slice (some ⟨b,0,none⟩) len cap) (.bsl id len)
theorem ARel.mono {P:Program} {w w':World} {al al':Nat→Prop} {σ σ':Nat→RefI} {v:Value} {a:A} (h:ARel P w al σ v a)
  (hw:∀ b,al b→w'.heap[b]? = w.heap[b]?) (ha:∀ b,al b→al' b) (hs:∀ id,σ id≠.dead→σ' id=σ id∨(σ' id = .gone∧bqw (σ id))):ARel P w' al' σ' v a:=by
 induction h with
 | unk v=>exact .unk v
 | c k v x h=>exact .c k v x (h.mono hw ha)
 | nilsl=>exact .nilsl
 | agg vs xs hl h ih=>exact .agg vs xs hl ih
 | tup vs xs hl h ih=>exact .tup vs xs hl ih
 | ownGone v id ks off len h=>exact .ownGone v id ks off len (by rcases hs id (by simp [h]) with e | e <;> simp [e,h])
 | eltGone v id sz ks i off h=>exact .eltGone v id sz ks i off (by rcases hs id (by simp [h]) with e | e <;> simp [e,h])
 | ownNil id ks off t h ho =>
  rcases hs id (by simp [h]) with e | e
  ·exact .ownNil id ks off t (e.trans h) ho
  ·exact .ownGone _ id ks off 0 e.1
 | own0 id ks len b cap n t h hl =>
  rcases hs id (by simp [h]) with e | e
  ·exact .own0 id ks len b cap n t (e.trans h) hl
  ·exact .ownGone _ id ks 0 len e.1
 | ownOff id ks off len b cap n cap' t h ho hl hc =>
  rcases hs id (by simp [h]) with e | e
  ·exact .ownOff id ks off len b cap n cap' t (e.trans h) ho hl hc
  ·exact .ownGone _ id ks off len e.1
 | ownOff0 a id ks off b cap n cap' t h ho hl =>
  rcases hs id (by simp [h]) with e | e
  ·exact .ownOff0 a id ks off b cap n cap' t (e.trans h) ho hl
  ·exact .ownGone _ id ks off 0 e.1
 | box id off b h =>
  rcases hs id (by simp [h]) with e | e
  ·exact .box id off b (e.trans h)
  ·rw [h] at e;exact e.2.elim
 | elt id ks0 ks i off b cap n t h hi hk =>
  rcases hs id (by simp [h]) with e | e
  ·exact .elt id ks0 ks i off b cap n t (e.trans h) hi hk
  ·exact .eltGone _ id _ ks i off e.1
 | pp ks cells off b o hal f hcell hrep =>
  refine .pp ks cells off b o (ha b hal) f (fun j hj=>?_) (fun j hj=>(hrep j hj).mono hw ha)
  rw [← hcell j hj]
  exact bz8 (w:=w) (a:=⟨b,_,none⟩) (hw b hal)
 | fnv f caps vs hl h ih=>exact .fnv f caps vs hl ih
 | fnb f caps vs hl h ih=>exact .fnb f caps vs hl ih
 | mref id b h =>
  rcases hs id (by simp [h]) with e | e
  ·exact .mref id b (e.trans h)
  ·exact .mrefGone _ id e.1
 | mrefGone v id h=>exact .mrefGone v id (by rcases hs id (by simp [h]) with e | e <;> simp [e,h])
 | itr id r b h =>
  rcases hs id (by simp [h]) with e | e
  ·exact .itr id r b (e.trans h)
  ·rw [h] at e;exact e.2.elim
 | whenT v a h ih=>exact .whenT v a ih
 | whenF a=>exact .whenF a
 | rg v id k x W Q h hr =>
  rcases hs id (by simp [h]) with e | e
  ·exact .rg v id k x W Q (e.trans h) hr
  ·exact .rgGone v id k x e.1
 | rgGone v id k x h=>exact .rgGone v id k x (by rcases hs id (by simp [h]) with e | e <;> simp [e,h])
 | rp id ks cells off b o W Q h hal f hcell hrep =>
  rcases hs id (by simp [h]) with e | e
  ·exact .rp id ks cells off b o W Q (e.trans h) hal f hcell hrep
  ·exact .rpGone _ id ks cells off e.1
 | rpGone v id ks cells off h=>exact .rpGone v id ks cells off (by rcases hs id (by simp [h]) with e | e <;> simp [e,h])
 | bsl id len b cap h =>
  rcases hs id (by simp [h]) with e | e
  ·exact .bsl id len b cap (e.trans h)
  ·rw [h] at e;exact e.2.elim
def ArgRel (P:Program) (w:World) (al:Nat→Prop) (p:Bool×List Kd) (v:Value) (c:List C):Prop :=
 match p.1 with
 | true=>∃ us:List Value,v = .agg us.toArray∧us.length=p.2.length∧c.length=p.2.length∧∀ j,j < p.2.length→RepC P w al (p.2.getD j .other) (us.getD j undef) (cg c j)
 | false=>p.2.length=1∧c.length=1∧RepC P w al (p.2.getD 0 .other) v (cg c 0)
theorem ArgRel.mono {P:Program} {w w':World} {al al':Nat→Prop} {p:Bool×List Kd} {v:Value} {c:List C} (h:ArgRel P w al p v c)
  (hw:∀ b,al b→w'.heap[b]? = w.heap[b]?) (ha:∀ b,al b→al' b):ArgRel P w' al' p v c:=by
 unfold ArgRel at *
 split
 ·rename_i e
  rw [e] at h
  obtain ⟨us,h1,h2,h3,h4⟩:=h
  exact ⟨us,h1,h2,h3,fun j hj=>(h4 j hj).mono hw ha⟩
 ·rename_i e
  rw [e] at h
  exact ⟨h.1,h.2.1,h.2.2.mono hw ha⟩
def MRel (P:Program) (w:World) (al:Nat→Prop) (kk:Kd) (vp:Bool×List Kd):List MapEntry→List (C×List C)→Prop
 | [],[]=>True
 | e :: es,x :: m=>RepC P w al kk e.key x.1∧ArgRel P w al vp e.val x.2∧MRel P w al kk vp es m
 | _,_=>False
theorem MRel.mono {P:Program} {w w':World} {al al':Nat→Prop} {kk:Kd} {vp:Bool×List Kd} (hw:∀ b,al b→w'.heap[b]? = w.heap[b]?) (ha:∀ b,al b→al' b) :
  ∀ {es:List MapEntry} {m:List (C×List C)},MRel P w al kk vp es m→MRel P w' al' kk vp es m
 | [],[],_=>trivial
 | [],_ :: _,h=>h.elim
 | _ :: _,[],h=>h.elim
 | _ :: _,_ :: _,h=>⟨h.1.mono hw ha,h.2.1.mono hw ha,h.2.2.mono hw ha⟩
structure aq2 (P:Program) (w:World) (B:Nat→Prop) (al:Nat→Prop) (r:RefI) (t:TypeId) (es:List (List C)):Prop where
 ty:∃ E,tyI P t=some E∧(es.length:Int) * E.bytes≤140737488355328 ∧
  ((r = .rown t E.kinds∧es=[]) ∨
   ∃ b cap cur tg,r = .row b cap t E.kinds es.length∧B b∧w.heap[b]? = some (.cells cur tg (0,0))∧es.length≤cap∧cap≤maxLen∧cur.size=cap * E.kinds.length ∧
    (∀ i,i < es.length→(eg es i).length=E.kinds.length) ∧
    (∀ i,i < es.length→∀ j,j < E.kinds.length→RepC P w al (E.kinds.getD j .other) (cur.getD (i * E.kinds.length+j) undef) (cg (eg es i) j)))
structure cqx (P:Program) (w:World) (B:Nat→Prop) (al:Nat→Prop) (σ:Nat→RefI) (r:RefI) (t:TypeId) (es:List (List C)) (i j:Nat) (a:A):Prop where
 ty:∃ E,tyI P t=some E∧(es.length:Int) * E.bytes≤140737488355328 ∧
  ((r = .rown t E.kinds∧es=[]) ∨
   ∃ b cap cur tg,r = .row b cap t E.kinds es.length∧B b∧w.heap[b]? = some (.cells cur tg (0,0))∧es.length≤cap∧cap≤maxLen∧cur.size=cap * E.kinds.length ∧
    (∀ i,i < es.length→(eg es i).length=E.kinds.length) ∧
    (∀ i',i' < es.length→∀ j',j' < E.kinds.length→¬ (i'=i∧j'=j)→RepC P w al (E.kinds.getD j' .other) (cur.getD (i' * E.kinds.length+j') undef) (cg (eg es i') j')) ∧
    (i < es.length→j < E.kinds.length∧ARel P w al σ (cur.getD (i * E.kinds.length+j) undef) a))
def cjl (es:Array MapEntry) (clock:Nat):Prop:=(∀ x∈es.toList,x.born < clock)∧(es.toList.map (·.born)).Nodup
def dq7 (P:Program) (w:World) (al:Nat→Prop) (kk:Kd) (vp:Bool×List Kd) (es:Array MapEntry) (seen:Array Nat) (cc:Prop):Option (C×List C)→Prop
 | none=>True
 | some x=>cc∧∃ e∈es.toList,seen.back? = some e.born∧RepC P w al kk e.key x.1∧ArgRel P w al vp e.val x.2
theorem dq7.mono {P:Program} {w w':World} {al al':Nat→Prop} {kk:Kd} {vp:Bool×List Kd} {es:Array MapEntry} {seen:Array Nat} {cc:Prop} {cur:Option (C×List C)} (h:dq7 P w al kk vp es seen cc cur)
  (hw:∀ b,al b→w'.heap[b]? = w.heap[b]?) (ha:∀ b,al b→al' b):dq7 P w' al' kk vp es seen cc cur:=by
 cases cur with
 | none=>trivial
 | some x =>
  obtain ⟨hc,e,h1,h2,h3,h4⟩:=h
  exact ⟨hc,e,h1,h2,h3.mono hw ha,h4.mono hw ha⟩
def SimV (u v:Value):Prop:=u=v∨(∃ b b',u = .bool b∧v = .bool b')∨(∃ k n n',u = .int k n∧v = .int k n'∧InR k n)∨(∃ s s',u = .string s∧v = .string s'∧s.data.size≤9223372036854775807)
def eyu (w W:World) (b:Nat):Prop:=∃ vs' vs t z,w.heap[b]? = some (.cells vs' t z)∧W.heap[b]? = some (.cells vs t z)∧vs'.size=vs.size∧∀ i,SimV (vs'.getD i undef) (vs.getD i undef)
def BRel (P:Program) (w:World) (B:Nat→Prop) (al:Nat→Prop) (σ:Nat→RefI) (id:Nat):Blk→Prop
 | .dead=>σ id = .dead
 | .gone=>σ id = .gone
 | .box cells=>∃ b vs t,σ id = .box b∧B b∧w.heap[b]? = some (.cells vs t (0,0))∧vs.size=cells.length∧∀ j,j < cells.length→ARel P w al σ (vs.getD j undef) (cells.getD j .unk)
 | .row t es=>aq2 P w B al (σ id) t es
 | .frz t es=>aq2 P w B al (σ id) t es
 | .mp kk vp m=>∃ b es clock,σ id = .mp b∧B b∧w.heap[b]? = some (.map es clock)∧cjl es clock∧MRel P w al kk vp es.toList m
 | .rl t es i j a=>cqx P w B al σ (σ id) t es i j a
 | .it kk vp cur left=>∃ r b es clock since seen c0,σ id = .it r b∧B r∧B b∧w.heap[r]? = some (.mapIter (some b) since seen c0)∧w.heap[b]? = some (.map es clock)∧(cjl es clock∧(∀ x∈es.toList,x.born < since)∧since≤c0∧since≤clock) ∧
   (∃ L,L.Perm (leftOf es seen).toList∧MRel P w al kk vp L left)∧dq7 P w al kk vp es seen (c0=clock) cur
 | .reg=>∃ W Q,σ id = .reg W Q∧∀ b,Q b→B b∧∃ vs t z,w.heap[b]? = some (.cells vs t z)∧W.heap[b]? = some (.cells vs t z)
 | .wob=>∃ W Q,σ id = .reg W Q∧∀ b,Q b→B b∧eyu w W b
theorem aq2.mono {P:Program} {w w':World} {B:Nat→Prop} {al al':Nat→Prop} {r:RefI} {t:TypeId} {es:List (List C)} (h:aq2 P w B al r t es)
  (hw:∀ b,al b→w'.heap[b]? = w.heap[b]?) (ha:∀ b,al b→al' b) (hb:∀ b,aj0 r b→w'.heap[b]? = w.heap[b]?):aq2 P w' B al' r t es:=by
 obtain ⟨E,hE,hby,h⟩:=h
 refine ⟨E,hE,hby,h.imp id ?_⟩
 rintro ⟨b,cap,cur,tg,hr,hB,hh,h1,h2,h3,h4,h5⟩
 exact ⟨b,cap,cur,tg,hr,hB,by rw [hb b (by simp [hr,aj0])];exact hh,h1,h2,h3,h4,fun i hi j hj=>(h5 i hi j hj).mono hw ha⟩
theorem cqx.mono {P:Program} {w w':World} {B:Nat→Prop} {al al':Nat→Prop} {σ σ':Nat→RefI} {r:RefI} {t:TypeId} {es:List (List C)} {i j:Nat} {a:A} (h:cqx P w B al σ r t es i j a)
  (hw:∀ b,al b→w'.heap[b]? = w.heap[b]?) (ha:∀ b,al b→al' b) (hs:∀ id,σ id≠.dead→σ' id=σ id∨(σ' id = .gone∧bqw (σ id))) (hb:∀ b,aj0 r b→w'.heap[b]? = w.heap[b]?):cqx P w' B al' σ' r t es i j a:=by
 obtain ⟨E,hE,hby,h⟩:=h
 refine ⟨E,hE,hby,h.imp id ?_⟩
 rintro ⟨b,cap,cur,tg,hr,hB,hh,h1,h2,h3,h4,h5,h6⟩
 exact ⟨b,cap,cur,tg,hr,hB,by rw [hb b (by simp [hr,aj0])];exact hh,h1,h2,h3,h4,fun i hi j hj hn=>(h5 i hi j hj hn).mono hw ha,fun hi=>⟨(h6 hi).1,(h6 hi).2.mono hw ha hs⟩⟩
theorem BRel.mono {P:Program} {w w':World} {B:Nat→Prop} {al al':Nat→Prop} {σ σ':Nat→RefI} {id:Nat} {k:Blk} (h:BRel P w B al σ id k)
  (hw:∀ b,al b→w'.heap[b]? = w.heap[b]?) (ha:∀ b,al b→al' b) (hs:∀ id,σ id≠.dead→σ' id=σ id∨(σ' id = .gone∧bqw (σ id)))
  (hid:σ' id=σ id) (hb:∀ b,aj0 (σ id) b→w'.heap[b]? = w.heap[b]?):BRel P w' B al' σ' id k:=by
 cases k with
 | dead=>exact hid.trans h
 | gone=>exact hid.trans h
 | box cells =>
  obtain ⟨b,vs,t,hr,hB,hh,hl,hc⟩:=h
  exact ⟨b,vs,t,hid.trans hr,hB,by rw [hb b (by simp [hr,aj0])];exact hh,hl,fun j hj=>(hc j hj).mono hw ha hs⟩
 | row t es=>simp only [BRel] at h ⊢;rw [hid];exact h.mono hw ha hb
 | frz t es=>simp only [BRel] at h ⊢;rw [hid];exact h.mono hw ha hb
 | mp kk vp m =>
  obtain ⟨b,es,clock,hr,hB,hh,hk,hm⟩:=h
  exact ⟨b,es,clock,hid.trans hr,hB,by rw [hb b (by simp [hr,aj0])];exact hh,hk,hm.mono hw ha⟩
 | rl t es i j a=>simp only [BRel] at h ⊢;rw [hid];exact h.mono hw ha hs hb
 | it kk vp cur left =>
  obtain ⟨r,b,es,clock,since,seen,c0,hr,hB,hB2,hh,hh2,hk,⟨L,hL,hm⟩,hc⟩:=h
  exact ⟨r,b,es,clock,since,seen,c0,hid.trans hr,hB,hB2,by rw [hb r (by simp [hr,aj0])];exact hh,by rw [hb b (by simp [hr,aj0])];exact hh2,hk,⟨L,hL,hm.mono hw ha⟩,hc.mono hw ha⟩
 | reg =>
  obtain ⟨W,Q,hr,hq⟩:=h
  refine ⟨W,Q,hid.trans hr,fun b hb'=>?_⟩
  obtain ⟨h1,vs,t,z,h2,h3⟩:=hq b hb'
  exact ⟨h1,vs,t,z,by rw [hb b (by simp [hr,aj0,hb'])];exact h2,h3⟩
 | wob =>
  obtain ⟨W,Q,hr,hq⟩:=h
  refine ⟨W,Q,hid.trans hr,fun b hb'=>?_⟩
  obtain ⟨h1,vs',vs,t,z,h2,h3⟩:=hq b hb'
  exact ⟨h1,vs',vs,t,z,by rw [hb b (by simp [hr,aj0,hb'])];exact h2,h3⟩
structure RelL (P:Program) (w0:Base) (N:Nat) (σ:Nat→RefI) (s:S) (tm:Array Value) (w:World):Prop where
 below:az1 w0.n w0.mu w0.world w
 size:tm.size=N
 tms:∀ k,ARel P w (Al w0 w σ s.hp) σ (tm.getD k undef) (s.tm k)
 blks:∀ id,BRel P w w0.wr (Al w0 w σ s.hp) σ id (s.hp id)
 inj:∀ id id' b,aj0 (σ id) b→aj0 (σ id') b→id=id'
 keep:∀ id,w0.sg id≠.dead→σ id=w0.sg id∨(σ id = .gone∧bqw (w0.sg id))
 marks:w0.ms≤w.heap.size∧∀ k o,w0.mkd k=some o→Al w0 w σ s.hp k∧w.heap[k]? = some o
def Rel (P:Program) (w0:Base) (N:Nat) (s:S) (tm:Array Value) (w:World):Prop:=∃ σ,RelL P w0 N σ s tm w
theorem getD_set {tm:Array Value} {d k:Nat} {v u:Value} (hd:d < tm.size):(tm.setIfInBounds d v).getD k u=if k=d then v else tm.getD k u:=by
 by_cases h:k=d
 ·subst h;simp [Array.getD,hd]
 ·simp only [h,if_false,Array.getD_eq_getD_getElem?]
  rw [Array.getElem?_setIfInBounds_ne (by omega)]
theorem RelL.put {P:Program} {w0:Base} {N:Nat} {σ:Nat→RefI} {s:S} {tm:Array Value} {w:World} (h:RelL P w0 N σ s tm w) {d:Nat} (hd:d < N) {v:Value} {a:A}
  (ha:ARel P w (Al w0 w σ s.hp) σ v a):RelL P w0 N σ ⟨upd s.tm d a,s.hp⟩ (tm.setIfInBounds d v) w :=
 ⟨h.below,by simpa using h.size,fun k=>by
  rw [getD_set (by rw [h.size];exact hd)]
  show ARel P w (Al w0 w σ s.hp) σ _ (if k=d then a else s.tm k)
  split
  ·exact ha
  ·exact h.tms k,h.blks,h.inj,h.keep,h.marks⟩
theorem aj3 {P:Program} {w:World} {B:Nat→Prop} {al:Nat→Prop} {σ:Nat→RefI} {id:Nat} {k:Blk} (h:BRel P w B al σ id k) {b:Nat} (hb:aj0 (σ id) b) :
  b < w.heap.size∧B b:=by
 cases k with
 | dead=>simp only [BRel] at h;simp [h,aj0] at hb
 | gone=>simp only [BRel] at h;simp [h,aj0] at hb
 | box cells =>
  obtain ⟨b',vs,t,hr,hB,hh,hl,hc⟩:=h
  simp [hr,aj0] at hb;subst hb
  exact ⟨(jg.1 hh).1,hB⟩
 | row t es =>
  obtain ⟨E,hE,hby,h⟩:=h
  rcases h with ⟨hr,_⟩ | ⟨b',cap,cur,tg,hr,hB,hh,_⟩
  ·simp [hr,aj0] at hb
  ·simp [hr,aj0] at hb;subst hb;exact ⟨(jg.1 hh).1,hB⟩
 | frz t es =>
  obtain ⟨E,hE,hby,h⟩:=h
  rcases h with ⟨hr,_⟩ | ⟨b',cap,cur,tg,hr,hB,hh,_⟩
  ·simp [hr,aj0] at hb
  ·simp [hr,aj0] at hb;subst hb;exact ⟨(jg.1 hh).1,hB⟩
 | mp kk vp m =>
  obtain ⟨b',es,clock,hr,hB,hh,hm⟩:=h
  simp [hr,aj0] at hb;subst hb
  exact ⟨(jg.1 hh).1,hB⟩
 | rl t es i j a =>
  obtain ⟨E,hE,hby,h⟩:=h
  rcases h with ⟨hr,_⟩ | ⟨b',cap,cur,tg,hr,hB,hh,_⟩
  ·simp [hr,aj0] at hb
  ·simp [hr,aj0] at hb;subst hb;exact ⟨(jg.1 hh).1,hB⟩
 | it kk vp cur left =>
  obtain ⟨r,b',es,clock,since,seen,c0,hr,hB,hB2,hh,hh2,_⟩:=h
  simp only [hr,aj0] at hb
  rcases hb with rfl | rfl
  ·exact ⟨(jg.1 hh).1,hB⟩
  ·exact ⟨(jg.1 hh2).1,hB2⟩
 | reg =>
  obtain ⟨W,Q,hr,hq⟩:=h
  simp only [hr,aj0] at hb
  obtain ⟨h1,vs,t,z,h2,h3⟩:=hq b hb
  exact ⟨(jg.1 h2).1,h1⟩
 | wob =>
  obtain ⟨W,Q,hr,hq⟩:=h
  simp only [hr,aj0] at hb
  obtain ⟨h1,vs',vs,t,z,h2,h3⟩:=hq b hb
  exact ⟨(jg.1 h2).1,h1⟩
theorem RelL.world {P:Program} {w0:Base} {N:Nat} {σ:Nat→RefI} {s:S} {tm:Array Value} {w w':World} (h:RelL P w0 N σ s tm w) (hb:Below w.heap.size w w'):RelL P w0 N σ s tm w':=by
 have hal:∀ b,Al w0 w σ s.hp b→Al w0 w' σ s.hp b:=fun b hb'=>⟨jG hb'.1 hb.size,hb'.2⟩
 have hw:∀ b,Al w0 w σ s.hp b→w'.heap[b]? = w.heap[b]? := fun b hb'=>hb.block b hb'.1
 refine ⟨h.below.then (hb.mono h.below.size),h.size,fun k=>(h.tms k).mono hw hal (fun _ _=>.inl rfl),fun id=>?_,h.inj,h.keep,⟨j3 h.marks.1 hb.size,fun k o hk=>⟨hal k (h.marks.2 k o hk).1,(hw k (h.marks.2 k o hk).1).trans (h.marks.2 k o hk).2⟩⟩⟩
 exact (h.blks id).mono hw hal (fun _ _=>.inl rfl) rfl (fun b hb'=>hb.block b (aj3 (h.blks id) hb').1)
theorem RelL.change {P:Program} {w0:Base} {N:Nat} {σ σ':Nat→RefI} {s:S} {hp':Nat→Blk} {tm:Array Value} {w w':World} (h:RelL P w0 N σ s tm w)
  (hbelow:az1 w0.n w0.mu w0.world w') (hsz:w.heap.size≤w'.heap.size)
  (hal:∀ b,Al w0 w σ s.hp b→Al w0 w' σ' hp' b)
  (hheap:∀ b,Al w0 w σ s.hp b→w'.heap[b]? = w.heap[b]?)
  (hs:∀ id,σ id≠.dead→σ' id=σ id∨(σ' id = .gone∧bqw (σ id)))
  (hblk:∀ id,(σ' id=σ id∧hp' id=s.hp id∧(∀ b,aj0 (σ id) b→w'.heap[b]? = w.heap[b]?))∨BRel P w' w0.wr (Al w0 w' σ' hp') σ' id (hp' id))
  (hinj:∀ id id' b,aj0 (σ' id) b→aj0 (σ' id') b→id=id'):RelL P w0 N σ' ⟨s.tm,hp'⟩ tm w':=by
 refine ⟨hbelow,h.size,fun k=>(h.tms k).mono hheap hal hs,fun id=>?_,hinj,fun id hid=>?_,⟨j3 h.marks.1 hsz,fun k o hk=>⟨hal k (h.marks.2 k o hk).1,(hheap k (h.marks.2 k o hk).1).trans (h.marks.2 k o hk).2⟩⟩⟩
 rotate_left
 ·rcases h.keep id hid with e | ⟨e1,e2⟩
  ·by_cases hd:σ id = .dead
   ·exact absurd (e.symm.trans hd) hid
   ·rcases hs id hd with e' | ⟨e',e2⟩
    ·exact .inl (e'.trans e)
    ·exact .inr ⟨e',by rw [← e];exact e2⟩
  ·rcases hs id (by rw [e1];simp) with e' | ⟨e',e3⟩
   ·exact .inr ⟨e'.trans e1,e2⟩
   ·exact .inr ⟨e',e2⟩
 rcases hblk id with ⟨h1,h2,h3⟩ | h1
 ·show BRel P w' _ _ σ' id (hp' id)
  rw [h2]
  exact (h.blks id).mono hheap hal hs h1 h3
 ·exact h1
theorem bj1 {P:Program} {w:World} {B:Nat→Prop} {al:Nat→Prop} {σ:Nat→RefI} {id:Nat} {k:Blk} (h:BRel P w B al σ id k) (hk:k = .dead):σ id = .dead:=by
 subst hk;exact h
theorem RelL.alloc {P:Program} {w0:Base} {N:Nat} {σ:Nat→RefI} {s:S} {tm:Array Value} {w:World} (h:RelL P w0 N σ s tm w) {id:Nat} (hd:s.hp id = .dead)
  (o:Obj) (r:RefI) (k:Blk) (hr:∀ c,aj0 r c→c=w.heap.size)
  (hnew:(∀ b,Al w0 w σ s.hp b→Al w0 (w.alloc o) (upd σ id r) (upd s.hp id k) b)→(∀ b,Al w0 w σ s.hp b→(w.alloc o).heap[b]? = w.heap[b]?)→(∀ i,σ i≠.dead→upd σ id r i=σ i∨(upd σ id r i = .gone∧bqw (σ i))) →
   BRel P (w.alloc o) w0.wr (Al w0 (w.alloc o) (upd σ id r) (upd s.hp id k)) (upd σ id r) id k):RelL P w0 N (upd σ id r) ⟨s.tm,upd s.hp id k⟩ tm (w.alloc o):=by
 have hσ:=bj1 (h.blks id) hd
 have hsz:w.heap.size≤(w.alloc o).heap.size:=by simp
 have hal:∀ b,Al w0 w σ s.hp b→Al w0 (w.alloc o) (upd σ id r) (upd s.hp id k) b:=by
  intro b hb
  refine ⟨jG hb.1 hsz,fun i hi=>?_,hb.2.2⟩
  simp only [upd] at hi ⊢
  by_cases e:i=id
  ·simp only [e,if_true] at hi
   have:=hr _ hi;have:=hb.1;omega
  ·simp only [e,if_false] at hi ⊢;exact hb.2.1 i hi
 have hheap:∀ b,Al w0 w σ s.hp b→(w.alloc o).heap[b]? = w.heap[b]? := fun b hb=>Below.heap_alloc w o b hb.1
 have hs:∀ i,σ i≠.dead→upd σ id r i=σ i∨(upd σ id r i = .gone∧bqw (σ i)):=by
  intro i hi
  refine .inl ?_
  simp only [upd]
  split
  ·rename_i e;subst e;exact absurd hσ hi
  ·rfl
 refine h.change (h.below.then ((Below.refl _ _).alloc h.below.size o)) hsz hal hheap hs (fun i=>?_) ?_
 ·by_cases e:i=id
  ·subst e
   refine .inr ?_
   have:=hnew hal hheap hs
   simpa [upd] using this
  ·refine .inl ⟨by simp [upd,e],by simp [upd,e],fun b hb=>Below.heap_alloc w o b (aj3 (h.blks i) hb).1⟩
 ·intro i j b hi hj
  simp only [upd] at hi hj
  by_cases e:i=id <;> by_cases e':j=id
  ·rw [e,e']
  ·simp only [e,if_true] at hi
   simp only [e',if_false] at hj
   have hi:=hr _ hi;subst hi
   have:=(aj3 (h.blks j) hj).1;omega
  ·simp only [e',if_true] at hj
   simp only [e,if_false] at hi
   have hj:=hr _ hj;subst hj
   have:=(aj3 (h.blks i) hi).1;omega
  ·simp only [e,if_false] at hi
   simp only [e',if_false] at hj
   exact h.inj i j b hi hj
theorem RelL.write {P:Program} {w0:Base} {N:Nat} {σ:Nat→RefI} {s:S} {tm:Array Value} {w w':World} (h:RelL P w0 N σ s tm w) {id b:Nat} (hb:aj0 (σ id) b) (hnf:¬ ake (s.hp id))
  (k:Blk) (hsz:w'.heap.size=w.heap.size) (hos:w'.os=w.os) (htape:w'.tape=w.tape) (hout:w'.output=w.output) (hkeep:∀ c,c≠b→w'.heap[c]? = w.heap[c]?)
  (hnew:(∀ c,Al w0 w σ s.hp c→Al w0 w' σ (upd s.hp id k) c)→(∀ c,Al w0 w σ s.hp c→w'.heap[c]? = w.heap[c]?)→BRel P w' w0.wr (Al w0 w' σ (upd s.hp id k)) σ id k) :
  RelL P w0 N σ ⟨s.tm,upd s.hp id k⟩ tm w':=by
 have hne:∀ c,Al w0 w σ s.hp c→c≠b:=fun c hc e=>hnf (hc.2.1 id (e ▸ hb))
 have hal:∀ c,Al w0 w σ s.hp c→Al w0 w' σ (upd s.hp id k) c:=by
  intro c hc
  refine ⟨by rw [hsz];exact hc.1,fun i hi=>?_,hc.2.2⟩
  have hi':=hc.2.1 i hi
  simp only [upd]
  by_cases e:i=id
  ·subst e;exact absurd hi' hnf
  ·simp only [e,if_false];exact hi'
 have hheap:∀ c,Al w0 w σ s.hp c→w'.heap[c]? = w.heap[c]? := fun c hc=>hkeep c (hne c hc)
 have hB:=(aj3 (h.blks id) hb).2
 refine h.change (h.below.trans ⟨hos,htape,hout,by rw [hsz];exact jq _,fun c hc hn=>hkeep c (by
  rcases hB with hB | hB
  ·omega
  ·intro e;exact hn (e ▸ hB))⟩) (by rw [hsz];exact jq _) hal hheap (fun _ _=>.inl rfl) (fun i=>?_) h.inj
 by_cases e:i=id
 ·subst e
  refine .inr ?_
  simpa [upd] using hnew hal hheap
 ·refine .inl ⟨rfl,by simp [upd,e],fun c hc=>hkeep c (fun e'=>e (h.inj i id b (by rw [← e'];exact hc) hb))⟩
theorem RelL.freeze {P:Program} {w0:Base} {N:Nat} {σ:Nat→RefI} {s:S} {tm:Array Value} {w:World} (h:RelL P w0 N σ s tm w) (id:Nat) :
  RelL P w0 N σ ⟨s.tm,freeze1 s.hp id⟩ tm w:=by
 unfold freeze1
 split
 ·rename_i t es he
  have hal:∀ c,Al w0 w σ s.hp c→Al w0 w σ (upd s.hp id (.frz t es)) c:=by
   intro c hc
   refine ⟨hc.1,fun i hi=>?_,hc.2.2⟩
   simp only [upd]
   by_cases e:i=id
   ·simp [e,ake]
   ·simp only [e,if_false];exact hc.2.1 i hi
  refine h.change h.below (jq _) hal (fun _ _=>rfl) (fun _ _=>.inl rfl) (fun i=>?_) h.inj
  by_cases e:i=id
  ·subst e
   refine .inr ?_
   have:=h.blks i
   rw [he] at this
   simp only [upd,if_true]
   exact aq2.mono this (fun _ _=>rfl) hal (fun _ _=>rfl)
  ·exact .inl ⟨rfl,by simp [upd,e],fun _ _=>rfl⟩
 ·exact h
end Go.AE
