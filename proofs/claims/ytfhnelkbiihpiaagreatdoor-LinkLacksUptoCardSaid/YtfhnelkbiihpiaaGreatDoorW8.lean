/- Text. -/
import Derived.Test.YtfhnelkbiihpiaaGreatDoorW6
import Derived.Test.YtfhnelkbiihpiaaGreatDoorL80
import Derived.Shelf.Sort.Plain
import Derived.Shelf.Slices.In.SortNone
import Derived.Shelf.Slices.CompactS
import Derived.Test.YtfhnelkbiihpiaaGreatDoorF
import Derived.Test.YtfhnelkbiihpiaaGreatDoorW3
set_option linter.unusedSimpArgs false
set_option linter.unusedVariables false
set_option maxRecDepth 100000
open _root_.List renaming getElem!_eq_getElem?_getD→Jr,getElem?_eq_getElem→Jj,length_map→jL,replicate→jw,length_cons→jA,length_nil→jO
open _root_.Nat renaming zero_add→jM,le_trans→j3
open Go.Proofs.Tryz renaming prog→ji
namespace Go.Proofs.YtfhnelkbiihpiaaGreatDoor
open Go.Graph
def srtL (ss:List (List UInt8)):List (List UInt8):=ss.mergeSort fun x y=>decide (x≤y)
theorem cwt {W:World} {g:Nat} {ss:List (List UInt8)} (h:∀ i (h:i < ss.length),W.cell? ⟨g,i,none⟩=some (encS ss[i])∧W.frozen? ⟨g,i,none⟩=false):Sort.Holds encStr W g 0 ss.toArray:=fun j hj=>by
 have hj':j < ss.length:=by simpa using hj
 have:=h j hj'
 rw [jM]
 refine ⟨this.1.trans ?_,this.2⟩
 simp only [List.getElem!_toArray,Jr,Jj hj',Option.getD_some]
 try rfl
theorem djv {W:World} {g:Nat} {ss:List (List UInt8)} (hg:g < W.heap.size) (h:Sort.Holds encStr W g 0 ss.toArray):byx W g ss:=⟨hg,fun i hi=>by
 have:=h i (by simpa using hi)
 rw [jM] at this
 refine ⟨this.1.trans ?_,this.2⟩
 simp only [List.getElem!_toArray,Jr,Jj hi,Option.getD_some]
 try rfl⟩
theorem holds_grow {α:Type} [Inhabited α] {enc:α→Value} {w:World} {b off:Nat} {d:Array α} (h:Sort.Holds enc w b off d) (hb:b < w.heap.size) (os:Array Obj):Sort.Holds enc (Sort.grow w os) b off d:=fun j hj=>by
 have hk:(Sort.grow w os).heap[b]? = w.heap[b]? := by show (w.heap ++ os)[b]? = _;rw [Array.getElem?_append_left hb]
 obtain ⟨h1,h2⟩:=h j hj
 exact ⟨(World.cell?_of_block (w:=w) (a:=⟨b,off+j,none⟩) hk).trans h1,(World.frozen?_of_block (w:=w) (a:=⟨b,off+j,none⟩) hk).trans h2⟩
theorem byv {α:Type} [Inhabited α] (enc:α→Value) (w:World) {n0 b:Nat} (n off:Nat) (d:Array α) (os:Array Obj) (hb:n0≤b) (hs:b < w.heap.size):RowKit.Below n0 w (Sort.grow (Sort.putRow enc (Sort.ahead w n) b off d) os) :=
 ⟨rfl,rfl,rfl,by simp [Sort.grow,Sort.putRow,Sort.mapBlock,Sort.ahead],fun k hk=>by
  show ((w.heap.modify b _) ++ os)[k]? = _
  rw [Array.getElem?_append_left (by simp;omega),Array.getElem?_modify,if_neg (by omega)]⟩
theorem eyg:eze srtL:=by
 refine ⟨fun ss=>by simp [srtL],fun p cap W=>Any.slices_Sort_string_none eky p cap W,fun g cap ss W hH hl=>?_⟩
 have h0:=cwt hH.2
 refine (Any.slices_Sort_string eky g 0 cap ss W h0 hH.1 hl).mono ?_
 rintro e W' ⟨rfl,n,os,rfl⟩
 refine ⟨rfl,?_,fun n0 hn=>byv _ _ _ _ _ _ hn hH.1⟩
 have hlen:(srtL ss).toArray.size=ss.toArray.size:=by simp [srtL]
 have h1:=Sort.holds_putRow encStr (Sort.ahead W n) g 0 ss.toArray (srtL ss).toArray (Sort.holds_ahead encStr W n g 0 _ h0) hlen
 have hsz:g < (Sort.putRow encStr (Sort.ahead W n) g 0 (srtL ss).toArray).heap.size:=by simpa [Sort.putRow,Sort.mapBlock,Sort.ahead] using hH.1
 exact djv (by simp [Sort.grow,Sort.putRow,Sort.mapBlock,Sort.ahead];have:=hH.1;omega) (holds_grow h1 hsz os)
theorem cwv (zs:List (List UInt8)):(Lib.compact zs).length≤zs.length:=by
 unfold Lib.compact Lib.compactUpTo
 rw [jL]
 exact j3 (List.length_filter_le _ _) (by simp)
theorem dqx {zs:List (List UInt8)} {s:List UInt8} (h:s∈Lib.compact zs):s∈zs:=by
 unfold Lib.compact Lib.compactUpTo at h
 obtain ⟨i,hi,rfl⟩:=List.mem_map.1 h
 have hi:=List.mem_range.1 (List.mem_filter.1 hi).1
 simp [Jr,hi]
theorem eyh:ezd Lib.compact:=by
 refine ⟨by decide,fun p cap W=>Any.slices_Compact_string_empty eyc p cap W,fun g cap ss W hH hl hc=>?_⟩
 have h0:=cwt hH.2
 refine (Any.slices_Compact_string eyc g 0 cap ss W h0 (by omega) hc).mono ?_
 rintro e W' ⟨rfl,n,rfl⟩
 have hle:=cwv ss
 refine ⟨rfl,hle,?_,fun n0 hn=>?_⟩
 ·have hlen:(Lib.compact ss ++ jw (ss.length - (Lib.compact ss).length) []).toArray.size=ss.toArray.size:=by simp;omega
  have h1:=Sort.holds_putRow encStr (Sort.ahead W n) g 0 ss.toArray _ (Sort.holds_ahead encStr W n g 0 _ h0) hlen
  refine ⟨by simpa [Sort.putRow,Sort.mapBlock,Sort.ahead] using hH.1,fun i hi=>?_⟩
  have h2:=(djv (by simpa [Sort.putRow,Sort.mapBlock,Sort.ahead] using hH.1) h1).2 i (by simp;omega)
  rw [List.getElem_append_left hi] at h2
  exact h2
 ·have:=byv encStr W n 0 (Lib.compact ss ++ jw (ss.length - (Lib.compact ss).length) []).toArray #[] hn hH.1
  rwa [Sort.grow_empty] at this
end Go.Proofs.YtfhnelkbiihpiaaGreatDoor
/-
 ch. 32: link.Unresolved: its contract.
-/
namespace Go.Proofs.YtfhnelkbiihpiaaGreatDoor
open Go.Graph Go.AE
open Go.RowKit (Below)
attribute [local go_sem] Oper.semAt_some
theorem eqy {w:World} {al:Nat→Prop} (hal:∀ b,al b→b < w.heap.size) {v:Value} {xs:List TEsd} (h:RepC ji w al (.slice 51) v (.slice (xs.map aqx))):∃ a cap,v = .slice a xs.length cap∧dki w a xs:=by
 generalize hx:(C.slice (xs.map aqx))=x at h
 cases h with
 | empty _ _ a c h hz =>
  subst hx
  have:xs=[]:=by simpa using h
  subst this
  exact ⟨_,_,rfl,fun h=>absurd h (by simp)⟩
 | slice _ _ B off cap hz E hE ha hlen hcap hel f hcell hrep =>
  subst hx
  rw [ty51] at hE
  simp only [Option.some.injEq] at hE
  subst hE
  simp only [C.toSl_slice,jL,jA,jO,jM,Nat.reduceAdd] at hcell hrep hlen hcap
  refine ⟨_,cap,by simp,fun _=>⟨B,off,rfl,hal B ha,fun i hi=>?_⟩⟩
  have hcg:eg (xs.map aqx) i=aqx xs[i]:=by rw [aqm _ _ _ hi,ckl hi]
  have kI:∀ j n,j < 5→cg (aqx xs[i]) j = .int n→([Kd.str,.int .i64,.int .i64,.int .i64,.int .i64]:List Kd).getD j .other = .int .i64→w.cell? ⟨B,off+(i * 5+j),none⟩=some (.int .i64 n):=fun j n hj hx hk=>by
   have c1:=awl (hcell i hi j hj)
   have r1:=hrep i hi j hj
   rw [hcg,hx,hk] at r1
   generalize f i j=u at c1 r1
   cases r1;exact c1
  refine ⟨?_,kI 1 _ (by omega) rfl rfl,kI 2 _ (by omega) rfl rfl,kI 3 _ (by omega) rfl rfl,kI 4 _ (by omega) rfl rfl⟩
  have c1:=awl (hcell i hi 0 (by omega))
  have r1:=hrep i hi 0 (by omega)
  rw [hcg] at r1
  have r1:RepC ji w al .str (f i 0) (.str xs[i].Name):=r1
  generalize f i 0=u at c1 r1
  cases r1;exact c1
theorem dko {w:World} {al:Nat→Prop} {t:TypeId} {v:Value} {es:List (List C)} (h:RepC ji w al (.slice t) v (.slice es)):∃ a cap,v = .slice a es.length cap:=by
 generalize hx:(C.slice es)=x at h
 cases h with
 | empty _ _ a c h hz =>
  subst hx
  have:es=[]:=by simpa using h
  subst this
  exact ⟨_,_,rfl⟩
 | slice _ _ B off cap hz E hE ha hlen hcap hel f hcell hrep=>subst hx;exact ⟨_,_,rfl⟩
theorem ewv {w:World} {al:Nat→Prop} (hal:∀ b,al b→b < w.heap.size) {v:Value} {l:List aj1} (h:RepC ji w al (.slice 49) v (.slice (l.map aj2))):∃ a cap,v = .slice a l.length cap∧ejc w a l:=by
 generalize hx:(C.slice (l.map aj2))=x at h
 cases h with
 | empty _ _ a c h hz =>
  subst hx
  have:l=[]:=by simpa using h
  subst this
  exact ⟨_,_,rfl,fun h=>absurd h (by simp)⟩
 | slice _ _ B off cap hz E hE ha hlen hcap hel f hcell hrep =>
  subst hx
  rw [ty49] at hE
  simp only [Option.some.injEq] at hE
  subst hE
  simp only [C.toSl_slice,jL,jA,jO,jM,Nat.reduceAdd] at hcell hrep hlen hcap
  refine ⟨_,cap,by simp,fun _=>⟨B,off,rfl,hal B ha,fun i hi=>?_⟩⟩
  have hcg:eg (l.map aj2) i=aj2 l[i]:=by rw [aqm _ _ _ hi,ckl hi]
  have c0:=awl (hcell i hi 0 (by omega))
  have c1:=awl (hcell i hi 1 (by omega))
  have c2:=awl (hcell i hi 2 (by omega))
  have c3:=awl (hcell i hi 3 (by omega))
  have r0:=hrep i hi 0 (by omega)
  have r1:=hrep i hi 1 (by omega)
  have r2:=hrep i hi 2 (by omega)
  have r3:=hrep i hi 3 (by omega)
  rw [hcg] at r0 r1 r2 r3
  have r0:RepC ji w al (.slice 51) (f i 0) (.slice (l[i].Esds.map aqx)):=r0
  have r1:RepC ji w al (.slice 102) (f i 1) (.slice (l[i].Txts.map azf)):=r1
  have r2:RepC ji w al (.slice 109) (f i 2) (.slice (l[i].Rlds.map azt)):=r2
  have r3:RepC ji w al .str (f i 3) (.str l[i].Entry):=r3
  obtain ⟨ea,ec,q0,hE⟩:=eqy hal r0
  obtain ⟨ta,tc,q1⟩:=dko r1
  obtain ⟨ra,rc,q2⟩:=dko r2
  rw [jL] at q1 q2
  rw [q0] at c0
  rw [q1] at c1
  rw [q2] at c2
  refine ⟨ea,ec,ta,tc,ra,rc,c0,c1,c2,?_,hE⟩
  generalize f i 3=u at c3 r3
  cases r3;exact c3
set_option maxHeartbeats 1000000 in
theorem cwn (l:List aj1) (a:Option Addr) (cap:Nat) (w:World) (hO:ejc w a l) (hn:l.length≤1000000) (hm:∀ o∈l,o.Esds.length≤1000000) :
  Calls ji 20 #[.slice a l.length cap] w fun e w'=>∃ a' cap',e = .returned (.slice a' (Lib.compact (srtL (ay5 (ajq l).1 (ajq l).2.1 l))).length cap')∧Below w.heap.size w w'∧(Lib.compact (srtL (ay5 (ajq l).1 (ajq l).2.1 l))).length≤cap' ∧
   (0 < (Lib.compact (srtL (ay5 (ajq l).1 (ajq l).2.1 l))).length→∃ g,a'=some ⟨g,0,none⟩∧w.heap.size≤g∧byx w' g (Lib.compact (srtL (ay5 (ajq l).1 (ajq l).2.1 l)))):=by
 have e43:=Tryz.call43
 have e44:=Tryz.call44
 go_enter Tryz.func20,Tryz.ntmps20
 go_wp2_with (go_at_call 43;refine (ewe l a cap w hO hn hm).mono ?_)
 rintro e w1 ⟨v,sb,eb,vs,rfl,hJ⟩
 have hO1:ejc w1 a l:=fun hl=>by
  obtain ⟨b,off,e,hb,hc⟩:=hO hl
  refine ⟨b,off,e,Nat.lt_of_lt_of_le hb hJ.below.size,fun m hm=>?_⟩
  obtain ⟨ea,ec,ta,tc,ra,rc,c0,c1,c2,c3,hE⟩:=hc m hm
  exact ⟨ea,ec,ta,tc,ra,rc,(hJ.below.cell (p:=⟨b,off+m * 4,none⟩) hb).trans c0,(hJ.below.cell (p:=⟨b,off+m * 4+1,none⟩) hb).trans c1,(hJ.below.cell (p:=⟨b,off+m * 4+2,none⟩) hb).trans c2,(hJ.below.cell (p:=⟨b,off+m * 4+3,none⟩) hb).trans c3,hE.below hJ.below⟩
 have hB1:=hJ.below
 have hu:=cwi eyg eyh w1 w.heap.size (w.heap.size+3) _ _ _ sb eb vs l a cap hJ.gr hJ.ed rfl hO1 hn hm
 go_wp2_with (go_at_call 44;refine hu.mono ?_)
 rintro e w2 ⟨a',cap',rfl,hB2,hc,hH⟩
 go_wp2
 go_ret
 exact ⟨a',cap',rfl,hB1.trans (hB2.mono hB1.size),hc,fun h=>by
  obtain ⟨g,h1,h2,h3⟩:=hH h
  exact ⟨g,h1,j3 hB1.size h2,h3⟩⟩
end Go.Proofs.YtfhnelkbiihpiaaGreatDoor
