/- Text. -/
import Derived.Test.YtfhnelkbiihpiaaGreatDoorGR
import Derived.Maps.AppendAt
set_option linter.unusedSimpArgs false
set_option linter.unusedVariables false
set_option maxRecDepth 100000
open _root_.Array renaming getElem?_eq_some_iff→jg
open _root_.List renaming getD_eq_getElem?_getD→jb,range→Je,foldl_cons→jR,length_cons→jA,length_append→jh,length_singleton→jQ,map_congr_left→jz,getElem_append_left→Ji,length_eq_zero_iff→Jy,mem_append→jf
open _root_.Nat renaming le_refl→jq,add_mul→jo
open _root_.Option renaming map_some→ju,getD_some→jB,map_none→j4,getD_none→jY
namespace Go.Proofs.YtfhnelkbiihpiaaGreatDoor
open Go.RowKit (Below)
open Go.Graph
attribute [local go_sem] Oper.semAt_some
set_option maxHeartbeats 2000000 in
theorem ez0 (w:World) (n0 D:Nat) (d:Ed) (S:List Sc) (E:List En) (sb eb:Nat→Nat) (vs:Nat→Value) (name:List UInt8) (hG:Gr w n0 S E sb eb vs) (hD:EdAt w n0 D d S E sb eb) :
  Calls Tryz.prog 56 #[ptr D,encS name] w fun e w'=>e = .returned (.tuple #[optP ((bqn S E name).map fun p=>sb p.1),.int .i64 (((bqn S E name).map (·.2)).getD 0)])∧∃ q,w'=w.drewN q:=by
 have c3:w.cell? ⟨D,3,none⟩=some (.map (some d.B2)):=cell_of hD.box rfl
 have c4:w.cell? ⟨D,4,none⟩=some (.map (some d.B3)):=cell_of hD.box rfl
 obtain ⟨L2,hL2,hl2⟩:=hD.named
 obtain ⟨L3,hL3,hl3⟩:=hD.ents
 have r2:=hL2.look_run (keyS Tryz.underlying9) Tryz.underlying77 bky name
 have r3:=hL3.look_run (keyS Tryz.underlying9) Tryz.underlying78 by4 name
 rw [hl2] at r2
 rw [hl3] at r3
 unfold ptr
 cases h2:aq4 S name with
 | some k =>
  have hf:bqn S E name=some (k,0):=by simp [bqn,h2]
  rw [hf]
  rw [h2] at r2
  simp only [ju,jB] at r2
  unfold ptr at r2
  go_enter Tryz.func56,Tryz.ntmps56
  go_wp2
  go_ret2
  exact ⟨rfl,0,rfl⟩
 | none =>
  rw [h2] at r2
  simp only [j4,jY] at r2
  cases h3:ayd E name with
  | none =>
   have hf:bqn S E name=none:=by simp [bqn,h2,h3]
   rw [hf]
   rw [h3] at r3
   simp only [j4,jY] at r3
   go_enter Tryz.func56,Tryz.ntmps56
   go_wp2
   go_ret2
   exact ⟨rfl,0,rfl⟩
  | some j =>
   rw [h3] at r3
   simp only [ju,jB] at r3
   unfold ptr at r3
   have hj:j < E.length:=bww h3
   obtain ⟨_,he⟩:=hG.ent j hj
   have hs:=hG.es j hj
   obtain ⟨_,hk⟩:=hG.sec _ hs
   have q3:w.cell? ⟨eb j,3,none⟩=some (.int .i64 E[j].x.Addr):=cell_of he rfl
   have q5:w.cell? ⟨eb j,5,none⟩=some (.pointer (some ⟨sb E[j].s,0,none⟩)):=cell_of he rfl
   have q8:w.cell? ⟨sb E[j].s,3,none⟩=some (.int .i64 S[E[j].s].x.Addr):=cell_of hk rfl
   have hf:bqn S E name=some (E[j].s,RowKit.wrap64 (E[j].x.Addr - S[E[j].s].x.Addr)):=by simp [bqn,h2,h3,jb,hj,hs]
   rw [hf]
   go_enter Tryz.func56,Tryz.ntmps56
   go_wp2
   go_quiet (fail)
   all_goals go_wp2
   all_goals go_ret2
   all_goals exact ⟨rfl,_,rfl⟩
end Go.Proofs.YtfhnelkbiihpiaaGreatDoor
/-
 ch. 32: link.open.
-/
namespace Go.Proofs.YtfhnelkbiihpiaaGreatDoor
open Go.RowKit
open Go.Graph
attribute [local go_sem] Oper.semAt_some
abbrev nilS:Value:=.slice none 0 0
structure J1 (w wr:World) (mods:Value) (S:List Sc) (v:Value) (sb:Nat→Nat):Prop where
 own:wr.ownsRow w.heap.size 124 1 v S.length ((Je S.length).map fun k=>ptr (sb k))
 gr:Gr wr w.heap.size S [] sb (fun _=>0) (fun _=>nilS)
 ed:EdAt wr w.heap.size (w.heap.size+3) ⟨mods,v,w.heap.size,w.heap.size+1,w.heap.size+2,false,nilS,nilS,[]⟩ S [] sb (fun _=>0)
 below:Below w.heap.size w wr
theorem J1.keep {w wr W:World} {mods v:Value} {S:List Sc} {sb:Nat→Nat} (h:J1 w wr mods S v sb) (hW:Below wr.heap.size wr W):J1 w W mods S v sb where
 own:=ay7 h.own fun b hb=>hW.block b (h.own.lt b hb).2
 gr:=h.gr.keep fun b _ hb _=>hW.block b hb
 ed:=h.ed.keep fun b hb=>hW.block b (h.ed.lt hb)
 below:=h.below.trans (hW.mono h.below.size)
theorem J1.start (w:World) (mods:Value):J1 w ((((w.alloc (.map #[] 0)).alloc (.map #[] 0)).alloc (.map #[] 0)).alloc (.cells (az6 ⟨mods,nilS,w.heap.size,w.heap.size+1,w.heap.size+2,false,nilS,nilS,[]⟩) 81)) mods [] nilS (fun _=>0):=by
 have hb:Below w.heap.size w ((((w.alloc (.map #[] 0)).alloc (.map #[] 0)).alloc (.map #[] 0)).alloc (.cells (az6 ⟨mods,nilS,w.heap.size,w.heap.size+1,w.heap.size+2,false,nilS,nilS,[]⟩) 81)) :=
  ((((Below.refl _ w).alloc (jq _) _).alloc (by simp) _).alloc (by simp;omega) _).alloc (by simp;omega) _
 have h1:MapK encP (w.alloc (.map #[] 0)) w.heap.size []:=MapK.made encP w
 have h2:MapK encS ((w.alloc (.map #[] 0)).alloc (.map #[] 0)) (w.heap.size+1) []:=by have:=MapK.made encS (w.alloc (.map #[] 0));simpa using this
 have h3:MapK encS (((w.alloc (.map #[] 0)).alloc (.map #[] 0)).alloc (.map #[] 0)) (w.heap.size+2) []:=by have:=MapK.made encS ((w.alloc (.map #[] 0)).alloc (.map #[] 0));simpa using this
 have al:∀ (W:World) (o:Obj) (b:Nat),b < W.heap.size→(W.alloc o).heap[b]? = W.heap[b]? := fun W o b h=>Below.heap_alloc W o b h
 refine ⟨⟨rfl,.inl ⟨rfl,rfl⟩⟩,⟨fun k h=>by simp at h,fun k h=>by simp at h,fun k h=>by simp at h,fun k h=>by simp at h,fun k h=>by simp at h,fun k k' h=>by simp at h,fun k k' h=>by simp at h,fun k k' b h=>by simp at h⟩,⟨?_,⟨[],?_,fun p=>rfl⟩,⟨[],?_,fun p=>rfl⟩,⟨[],?_,fun p=>rfl⟩,?_⟩,hb⟩
 ·have:=heap_alloc_new (((w.alloc (.map #[] 0)).alloc (.map #[] 0)).alloc (.map #[] 0)) (.cells (az6 ⟨mods,nilS,w.heap.size,w.heap.size+1,w.heap.size+2,false,nilS,nilS,[]⟩) 81)
  simpa using this
 ·exact ((h1.keep (al _ _ _ (by simp))).keep (al _ _ _ (by simp;omega))).keep (al _ _ _ (by simp;omega))
 ·exact (h2.keep (al _ _ _ (by simp))).keep (al _ _ _ (by simp))
 ·exact h3.keep (al _ _ _ (by simp))
 ·exact ⟨by simp,by simp,by simp,by simp⟩
theorem cwq (m:Int) (S:List Sc) (x:TEsd):(aqv m S x).length≤S.length+1:=by
 unfold aqv;split <;> simp
theorem ayv (m:Int):∀ (xs:List TEsd) (S:List Sc),(xs.foldl (aqv m) S).length≤S.length+xs.length
 | [],S=>by simp
 | x :: xs,S=>by
  have h1:=ayv m xs (aqv m S x)
  have h2:=cwq m S x
  simp only [jR,jA];omega
theorem byk (M:Nat):∀ (l:List aj1) (m:Nat) (S:List Sc),(∀ o∈l,o.Esds.length≤M)→(az8 m S l).length≤S.length+l.length * M
 | [],m,S,_=>by simp [az8]
 | o :: l,m,S,h=>by
  have h1:=byk M l (m+1) (o.Esds.foldl (aqv m) S) (fun x hx=>h x (by simp [hx]))
  have h2:=ayv m o.Esds S
  have h3:=h o (by simp)
  simp only [az8,jA,jo];omega
theorem bzy (o:aj1):∀ (l:List aj1) (m:Nat) (S:List Sc),az8 m S (l ++ [o])=o.Esds.foldl (aqv ((m+l.length:Nat):Int)) (az8 m S l)
 | [],m,S=>by simp [az8]
 | y :: l,m,S=>by
  have:=bzy o l (m+1) (y.Esds.foldl (aqv m) S)
  simp only [List.cons_append,az8,this,jA]
  congr 2;omega
theorem cyx (S:List Sc) (c:Sc) (p:Int×Int):atIx (S ++ [c]) p=(atIx S p).or (if (c.m,c.x.ID)=p then some S.length else none):=by
 unfold atIx
 rw [List.findIdx?_append]
 cases h:S.findIdx? (fun k=>decide ((k.m,k.x.ID)=p)) with
 | some k=>simp
 | none=>by_cases hp:(c.m,c.x.ID)=p <;> simp [List.findIdx?_cons,hp]
theorem byp (S:List Sc) (c:Sc) (p:List UInt8):aq4 (S ++ [c]) p=(aq4 S p).or (if c.x.Name=p∧p≠[] then some S.length else none):=by
 unfold aq4
 rw [List.findIdx?_append]
 cases h:S.findIdx? (fun k=>decide (k.x.Name=p∧p≠[])) with
 | some k=>simp
 | none=>by_cases hp:c.x.Name=p∧p≠[] <;> simp [List.findIdx?_cons,hp]
def sbP (sb:Nat→Nat) (n s:Nat) (k:Nat):Nat:=if k < n then sb k else s
theorem ck1 {S:List Sc} {sb:Nat→Nat} {s:Nat} {o:Option Nat} (h:∀ k,o=some k→k < S.length):o.map (fun k=>ptr (sbP sb S.length s k))=o.map (fun k=>ptr (sb k)):=by
 cases o with
 | none=>rfl
 | some k=>simp [sbP,h k rfl]
theorem byd {S:List Sc} {p:Int×Int} {k:Nat} (h:atIx S p=some k):k < S.length:=bww h
theorem cwx {S:List Sc} {p:List UInt8} {k:Nat} (h:aq4 S p=some k):k < S.length:=bww h
theorem dky {S:List Sc} {sb:Nat→Nat} {c:Sc} {L:List ((Int×Int)×Value)} (s:Nat) (hl:∀ p,lk L p=(atIx S p).map fun k=>ptr (sb k)) {t:Nat} (h:atIx S (c.m,c.x.ID)=some t) :
  ∀ p,lk L p=(atIx (S ++ [c]) p).map fun k=>ptr (sbP sb S.length s k):=fun p=>by
 rw [hl,cyx]
 by_cases hp:(c.m,c.x.ID)=p
 ·subst hp
  rw [h]
  simp [sbP,byd h]
 ·rw [if_neg hp,Option.or_none]
  exact (ck1 fun k hk=>byd hk).symm
theorem ezg {S:List Sc} {sb:Nat→Nat} {c:Sc} {L:List ((Int×Int)×Value)} (s:Nat) (hl:∀ p,lk L p=(atIx S p).map fun k=>ptr (sb k)) (h:atIx S (c.m,c.x.ID)=none) :
  ∀ p,lk (L ++ [((c.m,c.x.ID),ptr s)]) p=(atIx (S ++ [c]) p).map fun k=>ptr (sbP sb S.length s k):=fun p=>by
 rw [dqs _ _ _ _ (by rw [hl,h];rfl),cyx]
 by_cases hp:(c.m,c.x.ID)=p
 ·subst hp
  rw [h]
  simp [sbP]
 ·rw [if_neg hp,if_neg hp,Option.or_none,hl]
  exact (ck1 fun k hk=>byd hk).symm
theorem dyw {S:List Sc} {sb:Nat→Nat} {c:Sc} {L:List (List UInt8×Value)} (s:Nat) (hl:∀ p,lk L p=(aq4 S p).map fun k=>ptr (sb k)) (h:c.x.Name=[]) :
  ∀ p,lk L p=(aq4 (S ++ [c]) p).map fun k=>ptr (sbP sb S.length s k):=fun p=>by
 rw [hl,byp,if_neg (by rw [h];rintro ⟨rfl,h2⟩;exact h2 rfl),Option.or_none]
 exact (ck1 fun k hk=>cwx hk).symm
theorem ezk {S:List Sc} {sb:Nat→Nat} {c:Sc} {L:List (List UInt8×Value)} (s:Nat) (hl:∀ p,lk L p=(aq4 S p).map fun k=>ptr (sb k)) (h:c.x.Name≠[]) (hn:aq4 S c.x.Name=none) :
  ∀ p,lk (L ++ [(c.x.Name,ptr s)]) p=(aq4 (S ++ [c]) p).map fun k=>ptr (sbP sb S.length s k):=fun p=>by
 rw [dqs _ _ _ _ (by rw [hl,hn];rfl),byp]
 by_cases hp:c.x.Name=p
 ·subst hp
  rw [hn]
  simp [sbP,h]
 ·rw [if_neg hp,if_neg (fun h=>hp h.1),Option.or_none,hl]
  exact (ck1 fun k hk=>cwx hk).symm
theorem J1.added {w w1 W:World} {mods v v':Value} {S:List Sc} {sb:Nat→Nat} (hJ:J1 w w1 mods S v sb) {m:Int} {x:TEsd} {s:Nat} (hs:w1.heap.size≤s)
  (hsec:W.heap[s]? = some (.cells (ayc ⟨m,x,0,0,false,[]⟩ nilS) 129 (0,0)))
  (hrow:W.ownsRow w.heap.size 124 1 v' (S.length+1) ((Je S.length).map (fun k=>ptr (sb k)) ++ [ptr s]))
  (hD:W.heap[w.heap.size+3]? = some (.cells (az6 ⟨mods,v',w.heap.size,w.heap.size+1,w.heap.size+2,false,nilS,nilS,[]⟩) 81 (0,0)))
  (hat:∃ L,MapK encP W w.heap.size L∧∀ p,lk L p=(atIx (S ++ [⟨m,x,0,0,false,[]⟩]) p).map (fun k=>ptr (sbP sb S.length s k)))
  (hnm:∃ L,MapK encS W (w.heap.size+1) L∧∀ p,lk L p=(aq4 (S ++ [⟨m,x,0,0,false,[]⟩]) p).map (fun k=>ptr (sbP sb S.length s k)))
  (hk:∀ b,b < w1.heap.size→b≠w.heap.size+3→b≠w.heap.size→b≠w.heap.size+1→some b≠v.ownBlock→W.heap[b]? = w1.heap[b]?)
  (hB:Below w.heap.size w W):J1 w W mods (S ++ [⟨m,x,0,0,false,[]⟩]) v' (sbP sb S.length s):=by
 have key:∀ (b:Nat) (c:Array Value) (t:TypeId),w1.heap[b]? = some (Obj.cells c t (0,0))→t≠81→t≠124→W.heap[b]? = w1.heap[b]? := by
  intro b c t hb h1 h2
  refine hk b (jg.1 hb).1 ?_ ?_ ?_ ?_
  ·rintro rfl;have:=hJ.ed.box;rw [hb] at this;cases this;exact h1 rfl
  ·rintro rfl
   obtain ⟨L,⟨es,cl,e,_⟩,_⟩:=hJ.ed.at_
   have e:w1.heap[w.heap.size]? = some (.map es cl):=e
   rw [hb] at e;cases e
  ·rintro rfl
   obtain ⟨L,⟨es,cl,e,_⟩,_⟩:=hJ.ed.named
   have e:w1.heap[w.heap.size+1]? = some (.map es cl):=e
   rw [hb] at e;cases e
  ·intro e
   obtain ⟨c',hc'⟩:=az0 hJ.own e.symm
   rw [hb] at hc';cases hc';exact h2 rfl
 have hlt:∀ k,k < S.length→sb k < w1.heap.size:=fun k h=>(jg.1 (hJ.gr.sec k h).2).1
 have hw1:=hJ.below.size
 refine ⟨?_,⟨?_,?_,fun j h=>by simp at h,fun j h=>by simp at h,?_,?_,fun k k' h=>by simp at h,fun k k' b _ _ h=>by simp [Value.ownBlock] at h⟩,⟨hD,hat,hnm,?_,?_⟩,hB⟩
 ·have e:(Je (S ++ [(⟨m,x,0,0,false,[]⟩:Sc)]).length).map (fun k=>ptr (sbP sb S.length s k))=(Je S.length).map (fun k=>ptr (sb k)) ++ [ptr s]:=by
   rw [jh,jQ,List.range_succ,List.map_append,List.map_singleton]
   congr 1
   ·refine jz fun k hk=>?_
    have:=List.mem_range.1 hk
    simp [sbP,this]
   ·simp [sbP]
  rw [e,jh,jQ];exact hrow
 ·intro k h
  rw [jh,jQ] at h
  by_cases hks:k < S.length
  ·have:=hJ.gr.sec k hks
   simp only [sbP,hks,if_true,Ji]
   exact ⟨this.1,(key _ _ _ this.2 (by decide) (by decide)).trans this.2⟩
  ·obtain rfl:k=S.length:=by omega
   simp only [sbP,Nat.lt_irrefl,if_false,List.getElem_append_right (jq _),Nat.sub_self,List.getElem_cons_zero]
   exact ⟨by omega,hsec⟩
 ·intro k h
  have e:(S ++ [(⟨m,x,0,0,false,[]⟩:Sc)])[k].es=[]:=by
   rw [jh,jQ] at h
   by_cases hks:k < S.length
   ·rw [Ji hks]
    have:=(hJ.gr.row k hks).2
    rcases this with q | ⟨g,cap,cur,q1,_⟩
    ·exact Jy.1 q.2
    ·cases q1
   ·obtain rfl:k=S.length:=by omega
    simp
  rw [e];exact ⟨rfl,.inl ⟨rfl,rfl⟩⟩
 ·intro k h j hj
  have e:(S ++ [(⟨m,x,0,0,false,[]⟩:Sc)])[k].es=[]:=by
   rw [jh,jQ] at h
   by_cases hks:k < S.length
   ·rw [Ji hks]
    have:=(hJ.gr.row k hks).2
    rcases this with q | ⟨g,cap,cur,q1,_⟩
    ·exact Jy.1 q.2
    ·cases q1
   ·obtain rfl:k=S.length:=by omega
    simp
  rw [e] at hj;cases hj
 ·intro k k' h h' e
  rw [jh,jQ] at h h'
  by_cases hks:k < S.length <;> by_cases hks':k' < S.length <;> simp only [sbP,hks,hks',if_true,if_false] at e
  ·exact hJ.gr.injS k k' hks hks' e
  ·have:=hlt k hks;omega
  ·have:=hlt k' hks';omega
  ·omega
 ·obtain ⟨L,h1,h2⟩:=hJ.ed.ents
  refine ⟨L,h1.keep (hk _ h1.lt (by simp) (by simp) (by simp) ?_),h2⟩
  intro e
  obtain ⟨c',hc'⟩:=az0 hJ.own e.symm
  obtain ⟨es,cl,e2,_⟩:=h1
  have e2:w1.heap[w.heap.size+2]? = some (.map es cl):=e2
  rw [hc'] at e2;cases e2
 ·exact ⟨by simp,by simp,by simp,by simp⟩
theorem J1.fin {w w1 w2 W:World} {mods v v':Value} {S:List Sc} {sb:Nat→Nat} (hJ:J1 w w1 mods S v sb) {m:Int} {x:TEsd}
  (hsec:w2.heap[w1.heap.size]? = some (.cells (ayc ⟨m,x,0,0,false,[]⟩ nilS) 129 (0,0)))
  (hrow:w2.ownsRow w.heap.size 124 1 v' (S.length+1) ((Je S.length).map (fun k=>ptr (sb k)) ++ [ptr w1.heap.size]))
  (hk2:∀ b,b < w1.heap.size→some b≠v.ownBlock→w2.heap[b]? = w1.heap[b]?)
  (hD:W.heap[w.heap.size+3]? = some (.cells (az6 ⟨mods,v',w.heap.size,w.heap.size+1,w.heap.size+2,false,nilS,nilS,[]⟩) 81 (0,0)))
  (hat:∃ L,MapK encP W w.heap.size L∧∀ p,lk L p=(atIx (S ++ [⟨m,x,0,0,false,[]⟩]) p).map (fun k=>ptr (sbP sb S.length w1.heap.size k)))
  (hnm:∃ L,MapK encS W (w.heap.size+1) L∧∀ p,lk L p=(aq4 (S ++ [⟨m,x,0,0,false,[]⟩]) p).map (fun k=>ptr (sbP sb S.length w1.heap.size k)))
  (hkW:∀ b,b < w2.heap.size→b≠w.heap.size+3→b≠w.heap.size→b≠w.heap.size+1→W.heap[b]? = w2.heap[b]?)
  (hB:Below w.heap.size w W):J1 w W mods (S ++ [⟨m,x,0,0,false,[]⟩]) v' (sbP sb S.length w1.heap.size):=by
 have hlt2:w1.heap.size < w2.heap.size:=(jg.1 hsec).1
 obtain ⟨L1,hL1,_⟩:=hJ.ed.at_
 obtain ⟨L2,hL2,_⟩:=hJ.ed.named
 have hL1:MapK encP w1 w.heap.size L1:=hL1
 have hL2:MapK encS w1 (w.heap.size+1) L2:=hL2
 have hDb:w1.heap[w.heap.size+3]? = some _:=hJ.ed.box
 have hDl:=(jg.1 hDb).1
 have h1:=hL1.lt
 have h2:=hL2.lt
 refine hJ.added (jq _) ?_ ?_ hD hat hnm (fun b hb n1 n2 n3 n4=>(hkW b (by omega) n1 n2 n3).trans (hk2 b hb n4)) hB
 ·exact (hkW _ hlt2 (by omega) (by omega) (by omega)).trans hsec
 ·refine ay7 hrow fun b hb=>?_
  obtain ⟨c',hc'⟩:=az0 hrow hb
  refine hkW b (hrow.lt b hb).2 ?_ ?_ ?_
  ·rintro rfl
   rw [hk2 _ hDl (fun e=>by obtain ⟨c2,h⟩:=az0 hJ.own e.symm;rw [hDb] at h;cases h),hDb] at hc'
   cases hc'
  ·rintro rfl
   obtain ⟨es,cl,e,_⟩:=hL1.keep (hk2 _ h1 (bqi hJ.own hL1))
   rw [hc'] at e;cases e
  ·rintro rfl
   obtain ⟨es,cl,e,_⟩:=hL2.keep (hk2 _ h2 (bqi hJ.own hL2))
   rw [hc'] at e;cases e
theorem putW {K:Type} [DecidableEq K] {enc:K→Value} {w w':World} {b:Nat} {L:List (K×Value)} {o:Obj} (h:MapK enc w b L) (hw:w'={ w with heap:=w.heap.setIfInBounds b o }) :
  w'.heap[b]? = some o∧(∀ k,k≠b→w'.heap[k]? = w.heap[k]?)∧w'.heap.size=w.heap.size∧∀ n0,n0≤b→Below n0 w w':=by
 obtain ⟨es,cl,e,_⟩:=h
 subst hw
 have:=MapKept.heap_set (o':=o) e
 exact ⟨this.1,this.2,by simp,fun n0 hn=>⟨rfl,rfl,rfl,by simp,fun k hk=>this.2 k (by omega)⟩⟩
end Go.Proofs.YtfhnelkbiihpiaaGreatDoor
/-
 ch. 32: what link.open's second loop keeps.
-/
namespace Go.Proofs.YtfhnelkbiihpiaaGreatDoor
open Go.RowKit
open Go.Graph
def czc (c:Sc) (es:List Nat):Sc:=⟨c.m,c.x,c.addr,c.seg,c.ins,es⟩
def ay9 (S:List Sc) (k j:Nat):List Sc:=S.set k (czc (S.getD k default) ((S.getD k default).es ++ [j]))
def aq6 (m:Int) (st:List Sc×List En×Bool) (x:TEsd):List Sc×List En×Bool :=
 match atIx st.1 (m,x.ID) with
 | some k=>if x.Kind=2 then (ay9 st.1 k st.2.1.length,st.2.1 ++ [⟨x,k⟩],st.2.2 || (aq4 st.1 x.Name).isSome || (ayd st.2.1 x.Name).isSome) else st
 | none=>st
def aqe (m:Nat) (st:List Sc×List En×Bool):List aj1→List Sc×List En×Bool
 | []=>st
 | o :: l=>aqe (m+1) (o.Esds.foldl (aq6 m) st) l
def ajq (l:List aj1):List Sc×List En×Bool:=aqe 0 (azj l,[],false) l
theorem bk7 (o:aj1):∀ (l:List aj1) (m:Nat) (st:List Sc×List En×Bool),aqe m st (l ++ [o])=o.Esds.foldl (aq6 ((m+l.length:Nat):Int)) (aqe m st l)
 | [],m,st=>by simp [aqe]
 | y :: l,m,st=>by
  have:=bk7 o l (m+1) (y.Esds.foldl (aq6 m) st)
  simp only [List.cons_append,aqe,this,jA]
  congr 2;omega
theorem aq0 (S:List Sc) (k j:Nat):(ay9 S k j).length=S.length:=by simp [ay9]
theorem bjx {S:List Sc} {k j i:Nat} (h:i < (ay9 S k j).length) (h':i < S.length):(ay9 S k j)[i]=if i=k then czc S[i] (S[i].es ++ [j]) else S[i]:=by
 simp only [ay9,List.getElem_set]
 by_cases e:k=i
 ·subst e
  simp [jb,h']
 ·have:¬ i=k:=fun x=>e x.symm
  simp [e,this]
theorem by6 {α:Type} (f:Sc→α) (hf:∀ c es,f (czc c es)=f c) (S:List Sc) (k j:Nat):(ay9 S k j).map f=S.map f:=by
 apply List.ext_getElem
 ·simp [aq0]
 ·intro i h1 h2
  simp only [List.length_map] at h1 h2
  rw [List.getElem_map,List.getElem_map,bjx h1 h2]
  split
  ·exact hf _ _
  ·rfl
theorem ejt (S:List Sc) (k j:Nat) (p:Int×Int):atIx (ay9 S k j) p=atIx S p:=by
 have h:∀ T:List Sc,atIx T p=(T.map fun c=>(c.m,c.x.ID)).findIdx? fun q=>decide (q=p):=fun T=>by rw [List.findIdx?_map];rfl
 rw [h,h,by6 _ (fun c es=>rfl)]
theorem dji (S:List Sc) (k j:Nat) (p:List UInt8):aq4 (ay9 S k j) p=aq4 S p:=by
 have h:∀ T:List Sc,aq4 T p=(T.map fun c=>c.x.Name).findIdx? fun q=>decide (q=p∧p≠[]):=fun T=>by rw [List.findIdx?_map];rfl
 rw [h,h,by6 _ (fun c es=>rfl)]
def EsOk (st:List Sc×List En×Bool):Prop:=∀ c∈st.1,c.es.length≤st.2.1.length
theorem ejj (m:Int) (st:List Sc×List En×Bool) (x:TEsd) (h:EsOk st):EsOk (aq6 m st x)∧(aq6 m st x).2.1.length≤st.2.1.length+1:=by
 unfold aq6
 split
 ·rename_i k hk
  have hkl:=byd hk
  split
  ·refine ⟨fun c hc=>?_,by simp⟩
   have hc:c∈ay9 st.1 k st.2.1.length:=hc
   obtain ⟨i,hi,rfl⟩:=List.getElem_of_mem hc
   have hi':i < st.1.length:=by rw [aq0] at hi;exact hi
   rw [bjx hi hi']
   have:=h st.1[i] (List.getElem_mem hi')
   split <;> simp [czc] <;> omega
  ·exact ⟨h,by omega⟩
 ·exact ⟨h,by omega⟩
theorem byg (m:Int):∀ (xs:List TEsd) (st:List Sc×List En×Bool),EsOk st→EsOk (xs.foldl (aq6 m) st)∧(xs.foldl (aq6 m) st).2.1.length≤st.2.1.length+xs.length
 | [],st,h=>⟨h,by simp⟩
 | x :: xs,st,h=>by
  obtain ⟨h1,h2⟩:=ejj m st x h
  obtain ⟨h3,h4⟩:=byg m xs _ h1
  exact ⟨h3,by simp only [jR,jA];omega⟩
theorem cqp (M:Nat):∀ (l:List aj1) (m:Nat) (st:List Sc×List En×Bool),(∀ o∈l,o.Esds.length≤M)→EsOk st→EsOk (aqe m st l)∧(aqe m st l).2.1.length≤st.2.1.length+l.length * M
 | [],m,st,_,h=>⟨h,by simp [aqe]⟩
 | o :: l,m,st,hM,h=>by
  obtain ⟨h1,h2⟩:=byg m o.Esds st h
  obtain ⟨h3,h4⟩:=cqp M l (m+1) _ (fun x hx=>hM x (by simp [hx])) h1
  have h5:=hM o (by simp)
  exact ⟨h3,by simp only [aqe,jA,jo];omega⟩
theorem dyb (m:Int) (S:List Sc) (x:TEsd) (h:∀ c∈S,c.es=[]):∀ c∈aqv m S x,c.es=[]:=by
 unfold aqv
 split
 ·intro c hc
  rcases jf.1 hc with hc | hc
  ·exact h c hc
  ·simp at hc;subst hc;rfl
 ·exact h
theorem czr (m:Int):∀ (xs:List TEsd) (S:List Sc),(∀ c∈S,c.es=[])→∀ c∈xs.foldl (aqv m) S,c.es=[]
 | [],S,h=>h
 | x :: xs,S,h=>czr m xs _ (dyb m S x h)
theorem cqu:∀ (l:List aj1) (m:Nat) (S:List Sc),(∀ c∈S,c.es=[])→∀ c∈az8 m S l,c.es=[]
 | [],m,S,h=>h
 | o :: l,m,S,h=>cqu l (m+1) _ (czr m o.Esds S h)
theorem dqn {l:List aj1} (hn:l.length≤1000000) (hm:∀ o∈l,o.Esds.length≤1000000) {m k:Nat} {xs:List TEsd} (hx:xs.length≤1000000) {S:List Sc} {E:List En} {d:Bool}
  (h:(xs.take k).foldl (aq6 m) (aqe 0 (azj l,[],false) (l.take m))=(S,E,d)):E.length≤2000000000000∧∀ c∈S,c.es.length≤E.length:=by
 have h0:EsOk (azj l,[],false):=fun c hc=>by
  have:=cqu l 0 [] (by simp) c hc
  simp [this]
 obtain ⟨h1,h2⟩:=cqp 1000000 (l.take m) 0 _ (fun o ho=>hm o (List.mem_of_mem_take ho)) h0
 obtain ⟨h3,h4⟩:=byg m (xs.take k) _ h1
 rw [h] at h3 h4
 refine ⟨?_,h3⟩
 simp only [List.length_take,List.length_nil] at h2 h4
 have h5:min m l.length * 1000000≤1000000 * 1000000:=Nat.mul_le_mul_right _ (by omega)
 omega
theorem cz4 (E:List En) (e:En) (p:List UInt8):ayd (E ++ [e]) p=(ayd E p).or (if e.x.Name=p then some E.length else none):=by
 unfold ayd
 rw [List.findIdx?_append]
 cases h:E.findIdx? (fun k=>decide (k.x.Name=p)) with
 | some k=>simp
 | none=>by_cases hp:e.x.Name=p <;> simp [List.findIdx?_cons,hp]
theorem ck3 {E:List En} {p:List UInt8} {k:Nat} (h:ayd E p=some k):k < E.length:=bww h
theorem dws {E:List En} {sb:Nat→Nat} {s:Nat} {o:Option Nat} (h:∀ k,o=some k→k < E.length):o.map (fun k=>ptr (sbP sb E.length s k))=o.map (fun k=>ptr (sb k)):=by
 cases o with
 | none=>rfl
 | some k=>simp [sbP,h k rfl]
theorem ejx {E:List En} {eb:Nat→Nat} {e:En} {L:List (List UInt8×Value)} (s:Nat) (hl:∀ p,lk L p=(ayd E p).map fun k=>ptr (eb k)) {t:Nat} (h:ayd E e.x.Name=some t) :
  ∀ p,lk L p=(ayd (E ++ [e]) p).map fun k=>ptr (sbP eb E.length s k):=fun p=>by
 rw [hl,cz4]
 by_cases hp:e.x.Name=p
 ·subst hp
  rw [h]
  simp [sbP,ck3 h]
 ·rw [if_neg hp,Option.or_none]
  exact (dws fun k hk=>ck3 hk).symm
theorem ez9 {E:List En} {eb:Nat→Nat} {e:En} {L:List (List UInt8×Value)} (s:Nat) (hl:∀ p,lk L p=(ayd E p).map fun k=>ptr (eb k)) (h:ayd E e.x.Name=none) :
  ∀ p,lk (L ++ [(e.x.Name,ptr s)]) p=(ayd (E ++ [e]) p).map fun k=>ptr (sbP eb E.length s k):=fun p=>by
 rw [dqs _ _ _ _ (by rw [hl,h];rfl),cz4]
 by_cases hp:e.x.Name=p
 ·subst hp
  rw [h]
  simp [sbP]
 ·rw [if_neg hp,if_neg hp,Option.or_none,hl]
  exact (dws fun k hk=>ck3 hk).symm
structure J2 (w wr:World) (mods v:Value) (sb:Nat→Nat) (S:List Sc) (E:List En) (dbl:Bool) (eb:Nat→Nat) (vs:Nat→Value):Prop where
 own:wr.ownsRow w.heap.size 124 1 v S.length ((Je S.length).map fun k=>ptr (sb k))
 gr:Gr wr w.heap.size S E sb eb vs
 ed:EdAt wr w.heap.size (w.heap.size+3) ⟨mods,v,w.heap.size,w.heap.size+1,w.heap.size+2,dbl,nilS,nilS,[]⟩ S E sb eb
 below:Below w.heap.size w wr
theorem J2.keep {w wr W:World} {mods v:Value} {sb:Nat→Nat} {S:List Sc} {E:List En} {dbl:Bool} {eb:Nat→Nat} {vs:Nat→Value} (h:J2 w wr mods v sb S E dbl eb vs) (hW:Below wr.heap.size wr W):J2 w W mods v sb S E dbl eb vs where
 own:=ay7 h.own fun b hb=>hW.block b (h.own.lt b hb).2
 gr:=h.gr.keep fun b _ hb _=>hW.block b hb
 ed:=h.ed.keep fun b hb=>hW.block b (h.ed.lt hb)
 below:=h.below.trans (hW.mono h.below.size)
theorem J1.two {w wr:World} {mods v:Value} {S:List Sc} {sb:Nat→Nat} (h:J1 w wr mods S v sb):J2 w wr mods v sb S [] false (fun _=>0) (fun _=>nilS):=⟨h.own,h.gr,h.ed,h.below⟩
theorem J2.added {w w1 W:World} {mods v v':Value} {sb:Nat→Nat} {S:List Sc} {E:List En} {dbl d':Bool} {eb:Nat→Nat} {vs:Nat→Value} (hJ:J2 w w1 mods v sb S E dbl eb vs) {k:Nat} (hk:k < S.length) {x:TEsd} {t:Nat} (ht:w1.heap.size≤t)
  (hent:W.heap[t]? = some (.cells (bjp ⟨x,k⟩ sb) 143 (0,0)))
  (hsec:W.heap[sb k]? = some (.cells (ayc S[k] v') 129 (0,0)))
  (hrow:W.ownsRow w.heap.size 140 1 v' (S[k].es.length+1) ((S[k].es.map fun j=>ptr (eb j)) ++ [ptr t]))
  (hvb:v'.ownBlock=(vs k).ownBlock∨∃ g,v'.ownBlock=some g∧w1.heap.size≤g)
  (hD:W.heap[w.heap.size+3]? = some (.cells (az6 ⟨mods,v,w.heap.size,w.heap.size+1,w.heap.size+2,d',nilS,nilS,[]⟩) 81 (0,0)))
  (hents:∃ L,MapK encS W (w.heap.size+2) L∧∀ p,lk L p=(ayd (E ++ [⟨x,k⟩]) p).map (fun k=>ptr (sbP eb E.length t k)))
  (hkW:∀ b,b < w1.heap.size→b≠w.heap.size+3→b≠w.heap.size+2→b≠sb k→some b≠(vs k).ownBlock→W.heap[b]? = w1.heap[b]?)
  (hB:Below w.heap.size w W):J2 w W mods v sb (ay9 S k E.length) (E ++ [⟨x,k⟩]) d' (sbP eb E.length t) (fun i=>if i=k then v' else vs i):=by
 have hDb:w1.heap[w.heap.size+3]? = some _:=hJ.ed.box
 have hlt:∀ i,i < S.length→sb i < w1.heap.size:=fun i h=>(jg.1 (hJ.gr.sec i h).2).1
 have helt:∀ i,i < E.length→eb i < w1.heap.size:=fun i h=>(jg.1 (hJ.gr.ent i h).2).1
 obtain ⟨L3,hL3,_⟩:=hJ.ed.ents
 have hL3:MapK encS w1 (w.heap.size+2) L3:=hL3
 -- a block of cells that is none of those that were written
 have key:∀ (b:Nat) (c:Array Value) (t':TypeId),w1.heap[b]? = some (Obj.cells c t' (0,0))→t'≠81→b≠sb k→some b≠(vs k).ownBlock→W.heap[b]? = w1.heap[b]? := by
  intro b c t' hb h1 h2 h3
  refine hkW b (jg.1 hb).1 ?_ ?_ h2 h3
  ·rintro rfl;rw [hb] at hDb;cases hDb;exact h1 rfl
  ·rintro rfl
   obtain ⟨es,cl,e,_⟩:=hL3
   rw [hb] at e;cases e
 have tyk:∀ i,i < S.length→∀ (b:Nat) (c:Array Value) (t':TypeId),w1.heap[b]? = some (Obj.cells c t' (0,0))→t'≠140→some b≠(vs i).ownBlock:=fun i hi b c t' hb ht' e=>by
  obtain ⟨c',hc'⟩:=az0 (hJ.gr.row i hi) e.symm
  rw [hb] at hc';cases hc';exact ht' rfl
 have sk:∀ (b:Nat) (c:Array Value) (t':TypeId),w1.heap[b]? = some (Obj.cells c t' (0,0))→t'≠129→b≠sb k:=fun b c t' hb ht' e=>by
  subst e;rw [(hJ.gr.sec k hk).2] at hb;cases hb;exact ht' rfl
 have hw1:=hJ.below.size
 refine ⟨?_,⟨?_,?_,?_,?_,?_,?_,?_,?_⟩,⟨hD,?_,?_,hents,?_⟩,hB⟩
 ·rw [aq0]
  refine ay7 hJ.own fun b hb=>?_
  obtain ⟨c,hc⟩:=az0 hJ.own hb
  exact key b c 124 hc (by decide) (sk b c 124 hc (by decide)) (tyk k hk b c 124 hc (by decide))
 ·intro i hi
  rw [aq0] at hi
  refine ⟨(hJ.gr.sec i hi).1,?_⟩
  rw [bjx (by rw [aq0];exact hi) hi]
  by_cases e:i=k
  ·subst e
   simp only [if_true];exact hsec
  ·simp only [e,if_false]
   have h2:=(hJ.gr.sec i hi).2
   exact (key _ _ _ h2 (by decide) (fun e'=>e (hJ.gr.injS i k hi hk e')) (tyk k hk _ _ _ h2 (by decide))).trans h2
 ·intro i hi
  rw [aq0] at hi
  rw [bjx (by rw [aq0];exact hi) hi]
  have hmap:∀ (es:List Nat),(∀ j∈es,j < E.length)→es.map (fun j=>ptr (sbP eb E.length t j))=es.map (fun j=>ptr (eb j)):=fun es h=>jz fun j hj=>by simp [sbP,h j hj]
  by_cases e:i=k
  ·subst e
   simp only [if_true,czc,jh,jQ,List.map_append,List.map_singleton]
   rw [hmap _ (hJ.gr.se i hk)]
   have:sbP eb E.length t E.length=t:=by simp [sbP]
   rw [this];exact hrow
  ·simp only [e,if_false]
   rw [hmap _ (hJ.gr.se i hi)]
   refine ay7 (hJ.gr.row i hi) fun b hb=>?_
   obtain ⟨c,hc⟩:=az0 (hJ.gr.row i hi) hb
   exact key b c 140 hc (by decide) (sk b c 140 hc (by decide)) (fun e'=>e (hJ.gr.injR i k b hi hk hb e'.symm))
 ·intro j hj
  rw [jh,jQ] at hj
  by_cases hjE:j < E.length
  ·have h2:=hJ.gr.ent j hjE
   simp only [sbP,hjE,if_true,Ji]
   exact ⟨h2.1,(key _ _ _ h2.2 (by decide) (sk _ _ _ h2.2 (by decide)) (tyk k hk _ _ _ h2.2 (by decide))).trans h2.2⟩
  ·obtain rfl:j=E.length:=by omega
   simp only [sbP,Nat.lt_irrefl,if_false,List.getElem_append_right (jq _),Nat.sub_self,List.getElem_cons_zero]
   exact ⟨by omega,hent⟩
 ·intro j hj
  rw [jh,jQ] at hj
  rw [aq0]
  by_cases hjE:j < E.length
  ·rw [Ji hjE];exact hJ.gr.es j hjE
  ·obtain rfl:j=E.length:=by omega
   simpa using hk
 ·intro i hi j hj
  rw [aq0] at hi
  rw [bjx (by rw [aq0];exact hi) hi] at hj
  rw [jh,jQ]
  by_cases e:i=k
  ·simp only [e,if_true,czc,jf,List.mem_singleton] at hj
   rcases hj with hj | rfl
   ·have:=hJ.gr.se k hk j hj;omega
   ·omega
  ·simp only [e,if_false] at hj
   have:=hJ.gr.se i hi j hj;omega
 ·intro i i' hi hi' e
  rw [aq0] at hi hi'
  exact hJ.gr.injS i i' hi hi' e
 ·intro i i' hi hi' e
  rw [jh,jQ] at hi hi'
  by_cases h1:i < E.length <;> by_cases h2:i' < E.length <;> simp only [sbP,h1,h2,if_true,if_false] at e
  ·exact hJ.gr.injE i i' h1 h2 e
  ·have:=helt i h1;omega
  ·have:=helt i' h2;omega
  ·omega
 ·intro i i' b hi hi' e e'
  rw [aq0] at hi hi'
  have far:∀ i,i < S.length→(vs i).ownBlock=some b→b < w1.heap.size:=fun i hi e=>((hJ.gr.row i hi).lt b e).2
  by_cases h1:i=k <;> by_cases h2:i'=k <;> simp only [h1,h2,if_true,if_false] at e e'
  ·rw [h1,h2]
  ·rcases hvb with hv | ⟨g,hv,hg⟩
   ·rw [h1];exact hJ.gr.injR k i' b hk hi' (hv.symm.trans e) e'
   ·rw [hv] at e;cases e;have:=far i' hi' e';omega
  ·rcases hvb with hv | ⟨g,hv,hg⟩
   ·rw [h2];exact hJ.gr.injR i k b hi hk e (hv.symm.trans e')
   ·rw [hv] at e';cases e';have:=far i hi e;omega
  ·exact hJ.gr.injR i i' b hi hi' e e'
 ·obtain ⟨L,h1,h2⟩:=hJ.ed.at_
  have h1:MapK encP w1 w.heap.size L:=h1
  refine ⟨L,h1.keep (hkW _ h1.lt (by simp) (by simp) ?_ (bqi (hJ.gr.row k hk) h1)),fun p=>by rw [ejt];exact h2 p⟩
  intro e
  obtain ⟨es,cl,e1,_⟩:=h1
  rw [e,(hJ.gr.sec k hk).2] at e1;cases e1
 ·obtain ⟨L,h1,h2⟩:=hJ.ed.named
  have h1:MapK encS w1 (w.heap.size+1) L:=h1
  refine ⟨L,h1.keep (hkW _ h1.lt (by simp) (by simp) ?_ (bqi (hJ.gr.row k hk) h1)),fun p=>by rw [dji];exact h2 p⟩
  intro e
  obtain ⟨es,cl,e1,_⟩:=h1
  rw [e,(hJ.gr.sec k hk).2] at e1;cases e1
 ·exact ⟨by simp,by simp,by simp,by simp⟩
end Go.Proofs.YtfhnelkbiihpiaaGreatDoor
