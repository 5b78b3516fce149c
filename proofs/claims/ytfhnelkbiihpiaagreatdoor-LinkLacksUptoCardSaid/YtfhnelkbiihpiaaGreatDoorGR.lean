/- Text. -/
import Derived.WalkKit
import Derived.MapKept
import Derived.Test.YtfhnelkbiihpiaaGreatDoorT
import Derived.RegionTactic
import Derived.ChangeAlike
import Derived.Deep.QuietTactic
import Derived.BigQuiet
import Derived.StillTailTactics
import Derived.Test.YtfhnelkbiihpiaaGreatDoorProg
set_option linter.unusedSimpArgs false
set_option linter.unusedVariables false
open _root_.Array renaming getElem?_eq_some_iff→jg
open Go.Result renaming andThen→jJ
open Go.Proofs.Tryz renaming prog→ji
namespace Go.Graph
open Go.RowKit (Below)
section
variable {K:Type} [DecidableEq K]
def lk (L:List (K×Value)) (k:K):Option Value:=(L.find? fun p=>decide (p.1=k)).map (·.2)
theorem eyk (k:K):lk [] k=none:=rfl
theorem by2 (p:K×Value) (L:List (K×Value)) (k:K):lk (p :: L) k=if p.1=k then some p.2 else lk L k:=by
 unfold lk
 by_cases h:p.1=k <;> simp [h]
theorem dqs (L:List (K×Value)) (k:K) (v:Value) (k':K) (h:lk L k=none):lk (L ++ [(k,v)]) k'=if k=k' then some v else lk L k':=by
 induction L with
 | nil=>simp [by2,eyk]
 | cons p L ih =>
  rw [by2] at h
  by_cases hp:p.1=k
  ·simp [hp] at h
  ·rw [if_neg hp] at h
   rw [List.cons_append,by2,by2,ih h]
   by_cases h1:p.1=k'
   ·have:¬ k=k':=fun e=>hp (h1.trans e.symm)
    simp [h1,this]
   ·simp [h1]
structure KeyT (P:Program) (kt:TypeId) (enc:K→Value):Prop where
 check:∀ k e (w:World),(Instr.checkKey e 10000 kt (enc k)).run P w = .ok () w
 find:∀ k (es:List MapEntry) (L:List (K×Value)) (w:World),es.map (fun e=>(e.key,e.val))=L.map (fun p=>(enc p.1,p.2)) →
  (lk L k=none→(Instr.findKey kt (enc k) es).run P w = .ok none w)∧(∀ v,lk L k=some v→∃ i,(Instr.findKey kt (enc k) es).run P w = .ok (some (i,v)) w)
def encS (s:List UInt8):Value:=.string ⟨s.toArray⟩
theorem cw9 (k:List UInt8):∀ (es:List MapEntry) (L:List (List UInt8×Value)) (i:Nat),es.map (fun e=>(e.key,e.val))=L.map (fun p=>(encS p.1,p.2)) →
  (lk L k=none→Instr.findNow .string (encS k) es i=some none)∧(∀ v,lk L k=some v→∃ j,Instr.findNow .string (encS k) es i=some (some (j,v)))
 | [],[],_,_=>⟨fun _=>rfl,fun _ h=>nomatch h⟩
 | [],_ :: _,_,h=>by simp at h
 | _ :: _,[],_,h=>by simp at h
 | e :: es,p :: L,i,h=>by
  simp only [List.map_cons,List.cons.injEq,Prod.mk.injEq] at h
  obtain ⟨⟨h1,h2⟩,h3⟩:=h
  have ih:=cw9 k es L (i+1) h3
  have hs:Instr.sameNow .string (encS k) e.key=some (decide (p.1=k)):=by
   rw [h1]
   show some ((ByteArray.mk k.toArray) == (ByteArray.mk p.1.toArray))=_
   congr 1
   by_cases hp:p.1=k
   ·subst hp;simp [MapKept.bytes_beq]
   ·simp only [hp,decide_false]
    rw [Bool.eq_false_iff]
    intro hh
    have:=(MapKept.bytes_beq _ _).1 hh
    simp at this
    exact hp this.symm
  rw [by2]
  by_cases hp:p.1=k
  ·simp only [hp,if_true]
   refine ⟨nofun,fun v hv=>⟨i,?_⟩⟩
   cases hv
   simp [Instr.findNow,hs,hp,h2]
  ·simp only [hp,if_false]
   have e1:Instr.findNow .string (encS k) (e :: es) i=Instr.findNow .string (encS k) es (i+1):=by simp [Instr.findNow,hs,hp]
   rw [e1];exact ih
theorem keyS {P:Program} {kt:TypeId} (h:P.underlying kt=some .string):KeyT P kt encS where
 check:=fun k e w=>MapKept.run_checkKey h (show MapKept.IsKey .string (encS k) from trivial) e 9999
 find:=fun k es L w he=>⟨fun hl=>MapKept.run_findKey h ((cw9 k es L 0 he).1 hl),fun v hv=>by
  obtain ⟨j,hj⟩:=(cw9 k es L 0 he).2 v hv
  exact ⟨j,MapKept.run_findKey h hj⟩⟩
def encP (p:Int×Int):Value:=.agg #[.int .i64 p.1,.int .i64 p.2]
end
section
variable {K:Type}
def MapK (enc:K→Value) (w:World) (b:Nat) (L:List (K×Value)):Prop :=
 ∃ es clock,w.heap[b]? = some (.map es clock)∧es.toList.map (fun e=>(e.key,e.val))=L.map (fun p=>(enc p.1,p.2))
theorem MapK.keep {enc:K→Value} {w w':World} {b:Nat} {L:List (K×Value)} (h:MapK enc w b L) (hw:w'.heap[b]? = w.heap[b]?):MapK enc w' b L:=by
 obtain ⟨es,clock,h1,h2⟩:=h
 exact ⟨es,clock,hw.trans h1,h2⟩
theorem MapK.lt {enc:K→Value} {w:World} {b:Nat} {L:List (K×Value)} (h:MapK enc w b L):b < w.heap.size:=by
 obtain ⟨es,clock,h1,h2⟩:=h
 exact (jg.1 h1).1
theorem MapK.made (enc:K→Value) (w:World):MapK enc (w.alloc (.map #[] 0)) w.heap.size []:=⟨#[],0,heap_alloc_new w _,rfl⟩
end
section
variable {K:Type} [DecidableEq K] {P:Program} {mt kt et:TypeId} {enc:K→Value}
theorem MapK.look_run (T:KeyT P kt enc) (hm:P.underlying mt=some (.map kt et)) {z:Value} (hz:∀ w:World,(zeroValue et).run P w = .ok z w) {w:World} {b:Nat} {L:List (K×Value)} (h:MapK enc w b L) (k:K) :
  (Instr.lookup mt (.map (some b)) (enc k) false).run P w = .ok ((lk L k).getD z) w:=by
 obtain ⟨es,clock,h1,h2⟩:=h
 obtain ⟨f1,f2⟩:=T.find k es.toList L w h2
 cases hl:lk L k with
 | none =>
  simp [Instr.lookup,run_underlying hm,MapKept.run_getObj_map h1,T.check,f1 hl,jJ,hz]
 | some v =>
  obtain ⟨i,hi⟩:=f2 v hl
  simp [Instr.lookup,run_underlying hm,MapKept.run_getObj_map h1,T.check,hi,jJ]
theorem MapK.look_ok_run (T:KeyT P kt enc) (hm:P.underlying mt=some (.map kt et)) {z:Value} (hz:∀ w:World,(zeroValue et).run P w = .ok z w) {w:World} {b:Nat} {L:List (K×Value)} (h:MapK enc w b L) (k:K) :
  (Instr.lookup mt (.map (some b)) (enc k) true).run P w = .ok (.tuple #[(lk L k).getD z,.bool (lk L k).isSome]) w:=by
 obtain ⟨es,clock,h1,h2⟩:=h
 obtain ⟨f1,f2⟩:=T.find k es.toList L w h2
 cases hl:lk L k with
 | none =>
  simp [Instr.lookup,run_underlying hm,MapKept.run_getObj_map h1,T.check,f1 hl,jJ,hz]
 | some v =>
  obtain ⟨i,hi⟩:=f2 v hl
  simp [Instr.lookup,run_underlying hm,MapKept.run_getObj_map h1,T.check,hi,jJ]
theorem MapK.put_run (T:KeyT P kt enc) (hm:P.underlying mt=some (.map kt et)) {w:World} {b:Nat} {L:List (K×Value)} (h:MapK enc w b L) (k:K) (v:Value) (hn:lk L k=none) :
  ∃ o,(Instr.mapUpdate mt (.map (some b)) (enc k) v).run P w = .ok () { w with heap:=w.heap.setIfInBounds b o }∧(∀ W:World,W.heap[b]? = some o→MapK enc W b (L ++ [(k,v)])):=by
 obtain ⟨es,clock,h1,h2⟩:=h
 obtain ⟨f1,f2⟩:=T.find k es.toList L w h2
 refine ⟨.map (es.push { key:=enc k,val:=v,born:=clock }) (clock+1),?_,fun W hW=>⟨_,_,hW,?_⟩⟩
 ·simp [Instr.mapUpdate,run_underlying hm,MapKept.run_getObj_map h1,T.check,f1 hn,jJ,MapKept.run_setObj_map _ h1]
 ·simp [h2]
end
end Go.Graph
/-
 ch. 32: the editor's graph in memory: sections, entries, maps of them.
-/
set_option maxRecDepth 100000
namespace Go.Proofs.YtfhnelkbiihpiaaGreatDoor
open Go.RowKit (Below)
open Go.Graph
structure Sc where
 m:Int
 x:TEsd
 addr:Int
 seg:Int
 ins:Bool
 es:List Nat
 deriving DecidableEq,Inhabited
structure En where
 x:TEsd
 s:Nat
 deriving DecidableEq,Inhabited
def ptr (b:Nat):Value:=.pointer (some ⟨b,0,none⟩)
def optP (b:Option Nat):Value:=.pointer (b.map fun b=>⟨b,0,none⟩)
def ayc (k:Sc) (v:Value):Array Value:=#[encS k.x.Name,.int .i64 k.x.Kind,.int .i64 k.x.ID,.int .i64 k.x.Addr,.int .i64 k.x.Len,.int .i64 k.addr,.int .i64 k.seg,.bool k.ins,v]
def bjp (e:En) (sb:Nat→Nat):Array Value:=#[encS e.x.Name,.int .i64 e.x.Kind,.int .i64 e.x.ID,.int .i64 e.x.Addr,.int .i64 e.x.Len,ptr (sb e.s)]
def aq4 (S:List Sc) (name:List UInt8):Option Nat:=S.findIdx? fun k=>decide (k.x.Name=name∧name≠[])
def atIx (S:List Sc) (p:Int×Int):Option Nat:=S.findIdx? fun k=>decide ((k.m,k.x.ID)=p)
def ayd (E:List En) (name:List UInt8):Option Nat:=E.findIdx? fun e=>decide (e.x.Name=name)
structure Gr (w:World) (n0:Nat) (S:List Sc) (E:List En) (sb eb:Nat→Nat) (vs:Nat→Value):Prop where
 sec:∀ k (h:k < S.length),n0≤sb k∧w.heap[sb k]? = some (.cells (ayc S[k] (vs k)) 129 (0,0))
 row:∀ k (h:k < S.length),w.ownsRow n0 140 1 (vs k) S[k].es.length (S[k].es.map fun j=>ptr (eb j))
 ent:∀ j (h:j < E.length),n0≤eb j∧w.heap[eb j]? = some (.cells (bjp E[j] sb) 143 (0,0))
 es:∀ j (h:j < E.length),E[j].s < S.length
 se:∀ k (h:k < S.length),∀ j∈S[k].es,j < E.length
 injS:∀ k k',k < S.length→k' < S.length→sb k=sb k'→k=k'
 injE:∀ k k',k < E.length→k' < E.length→eb k=eb k'→k=k'
 injR:∀ k k' b,k < S.length→k' < S.length→(vs k).ownBlock=some b→(vs k').ownBlock=some b→k=k'
structure Ed where
 mods:Value
 secs:Value
 B1:Nat
 B2:Nat
 B3:Nat
 dbl:Bool
 segs:Value
 cont:Value
 start:List UInt8
def az6 (d:Ed):Array Value:=#[d.mods,d.secs,.map (some d.B1),.map (some d.B2),.map (some d.B3),.bool d.dbl,d.segs,d.cont,encS d.start]
structure EdAt (w:World) (n0 D:Nat) (d:Ed) (S:List Sc) (E:List En) (sb eb:Nat→Nat):Prop where
 box:w.heap[D]? = some (.cells (az6 d) 81 (0,0))
 at_:∃ L,MapK encP w d.B1 L∧∀ p,lk L p=(atIx S p).map (fun k=>ptr (sb k))
 named:∃ L,MapK encS w d.B2 L∧∀ p,lk L p=(aq4 S p).map (fun k=>ptr (sb k))
 ents:∃ L,MapK encS w d.B3 L∧∀ p,lk L p=(ayd E p).map (fun k=>ptr (eb k))
 lo:n0≤D∧n0≤d.B1∧n0≤d.B2∧n0≤d.B3
def bqn (S:List Sc) (E:List En) (name:List UInt8):Option (Nat×Int) :=
 match aq4 S name with
 | some k=>some (k,0)
 | none=>match ayd E name with
  | some j=>some ((E.getD j default).s,RowKit.wrap64 ((E.getD j default).x.Addr - (S.getD (E.getD j default).s default).x.Addr))
  | none=>none
def dki (w:World) (a:Option Addr) (xs:List TEsd):Prop:=0 < xs.length→∃ b off,a=some ⟨b,off,none⟩∧b < w.heap.size∧∀ i (h:i < xs.length),
 w.cell? ⟨b,off+i * 5,none⟩=some (encS xs[i].Name)∧w.cell? ⟨b,off+i * 5+1,none⟩=some (.int .i64 xs[i].Kind)∧w.cell? ⟨b,off+i * 5+2,none⟩=some (.int .i64 xs[i].ID) ∧
 w.cell? ⟨b,off+i * 5+3,none⟩=some (.int .i64 xs[i].Addr)∧w.cell? ⟨b,off+i * 5+4,none⟩=some (.int .i64 xs[i].Len)
def ejc (w:World) (a:Option Addr) (l:List aj1):Prop:=0 < l.length→∃ b off,a=some ⟨b,off,none⟩∧b < w.heap.size∧∀ m (h:m < l.length),∃ ea ec ta tc ra rc,
 w.cell? ⟨b,off+m * 4,none⟩=some (.slice ea l[m].Esds.length ec)∧w.cell? ⟨b,off+m * 4+1,none⟩=some (.slice ta l[m].Txts.length tc)∧w.cell? ⟨b,off+m * 4+2,none⟩=some (.slice ra l[m].Rlds.length rc) ∧
 w.cell? ⟨b,off+m * 4+3,none⟩=some (encS l[m].Entry)∧dki w ea l[m].Esds
theorem dki.below {w W:World} {a:Option Addr} {xs:List TEsd} (h:dki w a xs) (hW:Below w.heap.size w W):dki W a xs:=fun hl=>by
 obtain ⟨b,off,e,hb,hc⟩:=h hl
 refine ⟨b,off,e,Nat.lt_of_lt_of_le hb hW.size,fun j hj=>?_⟩
 obtain ⟨c0,c1,c2,c3,c4⟩:=hc j hj
 exact ⟨(hW.cell (p:=⟨b,off+j * 5,none⟩) hb).trans c0,(hW.cell (p:=⟨b,off+j * 5+1,none⟩) hb).trans c1,(hW.cell (p:=⟨b,off+j * 5+2,none⟩) hb).trans c2,(hW.cell (p:=⟨b,off+j * 5+3,none⟩) hb).trans c3,(hW.cell (p:=⟨b,off+j * 5+4,none⟩) hb).trans c4⟩
def aqv (m:Int) (S:List Sc) (x:TEsd):List Sc:=if x.Kind=1∧(x.Name=[]∨aq4 S x.Name=none) then S ++ [⟨m,x,0,0,false,[]⟩] else S
def az8 (m:Nat) (S:List Sc):List aj1→List Sc
 | []=>S
 | o :: l=>az8 (m+1) (o.Esds.foldl (aqv m) S) l
def azj (l:List aj1):List Sc:=az8 0 [] l
theorem bww {α:Type} {p:α→Bool} {l:List α} {i:Nat} (h:l.findIdx? p=some i):i < l.length:=by
 rw [List.findIdx?_eq_some_iff_getElem] at h
 exact h.1
theorem ej9 {P:Program} {t:TypeId} {z:Value} {n b:Nat} (h:(P.info? t).map (fun i=>(i.zero,i.size,i.bytes))=some (some z,n,b)) (w:World):(zeroValue t).run P w = .ok z w:=by
 obtain ⟨i,hi,hz,_,_⟩:=info_parts h
 simp [zeroValue,typeInfo,hi,hz,jJ]
theorem bky (w:World):(zeroValue 124).run ji w = .ok (.pointer none) w:=ej9 (show (ji.info? 124).map (fun i=>(i.zero,i.size,i.bytes))=some (some (.pointer none),1,8) by kernel_rfl) w
theorem by4 (w:World):(zeroValue 140).run ji w = .ok (.pointer none) w:=ej9 (show (ji.info? 140).map (fun i=>(i.zero,i.size,i.bytes))=some (some (.pointer none),1,8) by kernel_rfl) w
theorem cell_of {w:World} {b i:Nat} {cs:Array Value} {t:TypeId} {v:Value} (h:w.heap[b]? = some (.cells cs t (0,0))) (hi:cs[i]? = some v):w.cell? ⟨b,i,none⟩=some v:=by
 simp [World.cell?,h,hi]
theorem ay7 {W W':World} {B:Nat} {e:TypeId} {size n:Nat} {v:Value} {cs:List Value} (h:W.ownsRow B e size v n cs) (hk:∀ b,v.ownBlock=some b→W'.heap[b]? = W.heap[b]?):W'.ownsRow B e size v n cs:=by
 refine ⟨h.1,?_⟩
 rcases h.2 with q | ⟨g,cap,cur,q1,q2,q3,q4⟩
 ·exact .inl q
 ·exact .inr ⟨g,cap,cur,q1,q2,(hk g (by rw [q1];rfl)).trans q3,q4⟩
theorem az0 {W:World} {B:Nat} {e:TypeId} {size n:Nat} {v:Value} {cs:List Value} (h:W.ownsRow B e size v n cs) {b:Nat} (hb:v.ownBlock=some b):∃ c,W.heap[b]? = some (.cells c e (0,0)):=by
 rcases h.2 with q | ⟨g,cap,cur,q1,q2,q3,q4⟩
 ·rw [q.1] at hb;cases hb
 ·rw [q1] at hb
  have:g=b:=by simpa [Value.ownBlock] using hb
  subst this
  exact ⟨cur,q3⟩
theorem bz4 {w:World} {b:Nat} {c c':Array Value} {t t':TypeId} {fr fr':Nat×Nat} (h:w.heap[b]? = some (.cells c t fr)) (h':w.heap[b]? = some (.cells c' t' fr')):t=t':=by
 rw [h] at h';injection h' with h';injection h'
theorem aza {W:World} {B:Nat} {e:TypeId} {size n:Nat} {v:Value} {cs:List Value} (h:W.ownsRow B e size v n cs):∃ p q,v = .slice p n q:=by
 rcases h.2 with q | ⟨g,cap,cur,q1,q2,q3,q4⟩
 ·exact ⟨none,0,by rw [q.1,q.2]⟩
 ·exact ⟨_,_,q1⟩
theorem bye {w:World} {b i:Nat} {cs:Array Value} {t:TypeId} (h:w.heap[b]? = some (.cells cs t (0,0))):w.frozen? ⟨b,i,none⟩=false:=by
 unfold World.frozen?;simp [h]
def isGr (w:World) (b:Nat):Prop:=∃ c t,w.heap[b]? = some (.cells c t (0,0))∧(t=129∨t=143∨t=140)
theorem Gr.keep {w W:World} {n0:Nat} {S:List Sc} {E:List En} {sb eb:Nat→Nat} {vs:Nat→Value} (h:Gr w n0 S E sb eb vs) (hk:∀ b,n0≤b→b < w.heap.size→isGr w b→W.heap[b]? = w.heap[b]?):Gr W n0 S E sb eb vs where
 sec:=fun k hk'=>⟨(h.sec k hk').1,(hk _ (h.sec k hk').1 (jg.1 (h.sec k hk').2).1 ⟨_,_,(h.sec k hk').2,.inl rfl⟩).trans (h.sec k hk').2⟩
 row:=fun k hk'=>ay7 (h.row k hk') fun b hb=>by
  obtain ⟨c,hc⟩:=az0 (h.row k hk') hb
  exact hk b ((h.row k hk').lt b hb).1 ((h.row k hk').lt b hb).2 ⟨_,_,hc,.inr (.inr rfl)⟩
 ent:=fun j hj=>⟨(h.ent j hj).1,(hk _ (h.ent j hj).1 (jg.1 (h.ent j hj).2).1 ⟨_,_,(h.ent j hj).2,.inr (.inl rfl)⟩).trans (h.ent j hj).2⟩
 es:=h.es
 se:=h.se
 injS:=h.injS
 injE:=h.injE
 injR:=h.injR
theorem EdAt.keep {w W:World} {n0 D:Nat} {d:Ed} {S:List Sc} {E:List En} {sb eb:Nat→Nat} (h:EdAt w n0 D d S E sb eb) (hk:∀ b,b=D∨b=d.B1∨b=d.B2∨b=d.B3→W.heap[b]? = w.heap[b]?):EdAt W n0 D d S E sb eb where
 box:=(hk _ (.inl rfl)).trans h.box
 at_:=let ⟨L,h1,h2⟩:=h.at_;⟨L,h1.keep (hk _ (.inr (.inl rfl))),h2⟩
 named:=let ⟨L,h1,h2⟩:=h.named;⟨L,h1.keep (hk _ (.inr (.inr (.inl rfl)))),h2⟩
 ents:=let ⟨L,h1,h2⟩:=h.ents;⟨L,h1.keep (hk _ (.inr (.inr (.inr rfl)))),h2⟩
 lo:=h.lo
theorem EdAt.lt {w:World} {n0 D:Nat} {d:Ed} {S:List Sc} {E:List En} {sb eb:Nat→Nat} (h:EdAt w n0 D d S E sb eb) {b:Nat} (hb:b=D∨b=d.B1∨b=d.B2∨b=d.B3):b < w.heap.size:=by
 rcases hb with rfl | rfl | rfl | rfl
 ·exact (jg.1 h.box).1
 ·exact h.at_.choose_spec.1.lt
 ·exact h.named.choose_spec.1.lt
 ·exact h.ents.choose_spec.1.lt
theorem bk0 {w:World} {b:Nat} {cs:Array Value} {t:TypeId} {fr:Nat×Nat} (h:w.heap[b]? = some (.cells cs t fr)) (i:Nat) (v:Value):(w.setCell ⟨b,i,none⟩ v).heap[b]? = some (.cells (cs.setIfInBounds i v) t fr):=by
 simp [World.setCell,Array.getElem?_modify,h]
theorem bqi {K:Type} [DecidableEq K] {enc:K→Value} {w:World} {n0 b:Nat} {e:TypeId} {size n:Nat} {v:Value} {cs:List Value} {L:List (K×Value)} (ho:w.ownsRow n0 e size v n cs) (h:MapK enc w b L):some b≠v.ownBlock:=fun e1=>by
 obtain ⟨c,hc⟩:=az0 ho e1.symm
 obtain ⟨es,cl,h1,_⟩:=h
 rw [hc] at h1;cases h1
theorem ayw {P:Program} {id:Nat} {Q:Exit→Act→World→Prop} {a:Act} {w:World} {l:List Oper} (n:Nat) (hm:P.follows .mixedOrders=true) (hB:Region.lexTailB .any l.toArray n=true)
  (h:∀ wd,w.drew=wd→wpStill P l.toArray wd (fun a'=>wpList P l.toArray Q (l.drop n) a' wd) (l.take n) a):(Code.region id l.toArray true).wp P Q a w :=
 wp_region_still_tail n hm hB (h w.drew rfl)
theorem f131:ji.underlying 131=some (.struct (ji.fieldsOf 131)):=by kernel_rfl
theorem s131:ji.stoodInHeld 131=false:=by kernel_rfl
theorem fj0 : ji.fieldsOf 131 = #[{ name := "module", type := 3, offset := 0, embedded := false, tag := "", pkgPath := "jobshop/link", byteOffset := 0 }, { name := "id", type := 3, offset := 1, embedded := false, tag := "", pkgPath := "jobshop/link", byteOffset := 8 }] := by
 simp [Program.fieldsOf,Tryz.underlying131]
theorem ezl (p q:Int×Int) (w:World):(Op.equal 131 (encP p) (encP q)).run ji w = .ok (decide (q=p)) w:=by
 unfold Op.equal Op.maxDepth encP
 rw [run_equalIn_struct w 9999 131 _ _ f131 s131,fj0]
 simp [Op.eqFields,part,isAgg,run_underlying Tryz.underlying3,jJ,run_equalIn_int w 9998 3 .i64 .i64 _ _ Tryz.underlying3]
 obtain ⟨a,b⟩:=p
 obtain ⟨c,d⟩:=q
 by_cases h1:a=c <;> by_cases h2:b=d <;> simp [h1,h2]
 ·exact fun h=>h2 h.symm
 ·exact fun h=>absurd h.symm h1
 ·exact fun h=>absurd h.symm h1
theorem ekv (a:Int) (e:Bool) (n:Nat) (w:World):(Instr.checkKey e (n+1) 3 (.int .i64 a)).run ji w = .ok () w:=MapKept.run_checkKey Tryz.underlying3 (show MapKept.IsKey (.int .i64) (.int .i64 a) from rfl) e n
theorem ekt (p:Int×Int) (e:Bool) (w:World):(Instr.checkKey e 10000 131 (encP p)).run ji w = .ok () w:=by
 unfold encP Instr.checkKey
 simp [run_underlying Tryz.underlying131,jJ,part,isAgg,run_underlying Tryz.underlying3,ekv _ _ 9998]
theorem cy8 (p:Int×Int) (w:World):∀ (es:List MapEntry) (L:List ((Int×Int)×Value)) (i:Nat),es.map (fun e=>(e.key,e.val))=L.map (fun p=>(encP p.1,p.2)) →
  (lk L p=none→(Instr.findAsking 131 (encP p) es i).run ji w = .ok none w)∧(∀ v,lk L p=some v→∃ j,(Instr.findAsking 131 (encP p) es i).run ji w = .ok (some (j,v)) w)
 | [],[],_,_=>⟨fun _=>by simp [Instr.findAsking],fun _ h=>nomatch h⟩
 | [],_ :: _,_,h=>by simp at h
 | _ :: _,[],_,h=>by simp at h
 | e :: es,q :: L,i,h=>by
  simp only [List.map_cons,List.cons.injEq,Prod.mk.injEq] at h
  obtain ⟨⟨h1,h2⟩,h3⟩:=h
  have ih:=cy8 p w es L (i+1) h3
  rw [by2]
  by_cases hp:q.1=p
  ·simp only [hp,if_true]
   refine ⟨nofun,fun v hv=>⟨i,?_⟩⟩
   cases hv
   simp [Instr.findAsking,h1,ezl,hp,h2,jJ]
  ·simp only [hp,if_false]
   have e1:(Instr.findAsking 131 (encP p) (e :: es) i).run ji w=(Instr.findAsking 131 (encP p) es (i+1)).run ji w:=by simp [Instr.findAsking,h1,ezl,hp,jJ]
   rw [e1];exact ih
theorem keyP:KeyT ji 131 encP where
 check:=fun k e w=>ekt k e w
 find:=fun k es L w he=>by
  have hf:(Instr.findKey 131 (encP k) es).run ji w=(Instr.findAsking 131 (encP k) es).run ji w∨(es=[]∧(Instr.findKey 131 (encP k) es).run ji w = .ok none w):=by
   cases es with
   | nil=>exact .inr ⟨rfl,by simp [Instr.findKey,run_underlying Tryz.underlying131,jJ,Instr.findNow]⟩
   | cons e es =>
    left
    simp [Instr.findKey,run_underlying Tryz.underlying131,jJ,Instr.findNow,Instr.sameNow]
  rcases hf with hf | ⟨rfl,hf⟩
  ·rw [hf];exact cy8 k w es L 0 he
  ·have:L=[]:=by simpa using he.symm
   subst this
   exact ⟨fun _=>hf,fun v h=>nomatch h⟩
end Go.Proofs.YtfhnelkbiihpiaaGreatDoor
