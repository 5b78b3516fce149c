/- Text. -/
import Derived.Test.YtfhnelkbiihpiaaGreatDoorW4
set_option linter.unusedVariables false
set_option linter.unusedSimpArgs false
set_option maxRecDepth 100000
open _root_.List renaming foldl_cons→jR,length_cons→jA,length_nil→jO,take_succ_eq_append_getElem→jH,length_eq_zero_iff→Jy
open _root_.Nat renaming zero_le→Jo,mul_le_mul_right→jk
open _root_.Option renaming map_none→j4,getD_none→jY,map_some→ju,getD_some→jB
open Go.Proofs.Tryz renaming prog→ji
namespace Go.Proofs.YtfhnelkbiihpiaaGreatDoor
open Go.RowKit
open Go.Graph
attribute [local go_sem] Oper.semAt_some
def aw4 (S:List Sc) (E:List En) (outs:List (List UInt8)) (x:TEsd):List (List UInt8):=if x.Kind=3∧bqn S E x.Name=none then outs ++ [x.Name] else outs
def ay5 (S:List Sc) (E:List En) (l:List aj1):List (List UInt8):=l.foldl (fun outs o=>o.Esds.foldl (aw4 S E) outs) []
theorem bq0 (S:List Sc) (E:List En):∀ (xs:List TEsd) (o:List (List UInt8)),(xs.foldl (aw4 S E) o).length≤o.length+xs.length
 | [],o=>by simp
 | x :: xs,o=>by
  have h1:=bq0 S E xs (aw4 S E o x)
  have h2:(aw4 S E o x).length≤o.length+1:=by unfold aw4;split <;> simp
  simp only [jR,jA];omega
theorem bkg (S:List Sc) (E:List En) (M:Nat):∀ (l:List aj1) (o:List (List UInt8)),(∀ x∈l,x.Esds.length≤M)→(l.foldl (fun outs o=>o.Esds.foldl (aw4 S E) outs) o).length≤o.length+l.length * M
 | [],o,_=>by simp
 | x :: l,o,h=>by
  have h1:=bkg S E M l (x.Esds.foldl (aw4 S E) o) (fun y hy=>h y (by simp [hy]))
  have h2:=bq0 S E x.Esds o
  have h3:=h x (by simp)
  simp only [jR,jA,Nat.add_mul];omega
theorem Gr.below {w W:World} {n0:Nat} {S:List Sc} {E:List En} {sb eb:Nat→Nat} {vs:Nat→Value} (h:Gr w n0 S E sb eb vs) (hW:Below w.heap.size w W):Gr W n0 S E sb eb vs:=h.keep fun b _ hb _=>hW.block b hb
theorem EdAt.below {w W:World} {n0 D:Nat} {d:Ed} {S:List Sc} {E:List En} {sb eb:Nat→Nat} (h:EdAt w n0 D d S E sb eb) (hW:Below w.heap.size w W):EdAt W n0 D d S E sb eb:=h.keep fun b hb=>hW.block b (h.lt hb)
def byx (W:World) (g:Nat) (ss:List (List UInt8)):Prop:=g < W.heap.size∧∀ i (h:i < ss.length),W.cell? ⟨g,i,none⟩=some (encS ss[i])∧W.frozen? ⟨g,i,none⟩=false
def eze (srt:List (List UInt8)→List (List UInt8)):Prop :=
 (∀ ss,(srt ss).length=ss.length)∧(∀ p cap W,Calls ji 79 #[.slice p 0 cap] W fun e W'=>e = .returned (.tuple #[])∧W'=W) ∧
 ∀ g cap ss W,byx W g ss→ss.length < 4611686018427387904→Calls ji 79 #[.slice (some ⟨g,0,none⟩) ss.length cap] W fun e W'=>e = .returned (.tuple #[])∧byx W' g (srt ss)∧∀ n0,n0≤g→Below n0 W W'
def ezd (cmp:List (List UInt8)→List (List UInt8)):Prop :=
 (cmp []=[])∧(∀ p cap W,Calls ji 80 #[.slice p 0 cap] W fun e W'=>e = .returned (.slice p 0 cap)∧W'=W) ∧
 ∀ g cap ss W,byx W g ss→ss.length < 4611686018427387904→ss.length≤cap→Calls ji 80 #[.slice (some ⟨g,0,none⟩) ss.length cap] W fun e W'=>e = .returned (.slice (some ⟨g,0,none⟩) (cmp ss).length cap)∧(cmp ss).length≤ss.length∧byx W' g (cmp ss)∧∀ n0,n0≤g→Below n0 W W'
set_option maxHeartbeats 4000000 in
theorem cwi {srt cmp:List (List UInt8)→List (List UInt8)} (hS:eze srt) (hC:ezd cmp) (w:World) (n0 D:Nat) (d:Ed) (S:List Sc) (E:List En) (sb eb:Nat→Nat) (vs:Nat→Value) (l:List aj1) (a:Option Addr) (cap:Nat) (hG:Gr w n0 S E sb eb vs) (hD:EdAt w n0 D d S E sb eb) (hmods:d.mods = .slice a l.length cap)
  (hO:ejc w a l) (hn:l.length≤1000000) (hm:∀ o∈l,o.Esds.length≤1000000) :
  Calls ji 44 #[ptr D] w fun e w'=>∃ a' cap',e = .returned (.slice a' (cmp (srt (ay5 S E l))).length cap')∧Below w.heap.size w w'∧(cmp (srt (ay5 S E l))).length≤cap'∧(0 < (cmp (srt (ay5 S E l))).length→∃ g,a'=some ⟨g,0,none⟩∧w.heap.size≤g∧byx w' g (cmp (srt (ay5 S E l)))):=by
 obtain ⟨i9,hi9,hz9,hs9,hb9⟩:=info_parts (show (ji.info? 9).map (fun i=>(i.zero,i.size,i.bytes))=some (some (.string ⟨#[]⟩),1,16) by kernel_rfl)
 have e56:=Tryz.call56
 have c0:w.cell? ⟨D,0,none⟩=some (.slice a l.length cap):=by rw [← hmods];exact cell_of hD.box rfl
 unfold ptr
 generalize hL:ay5 S E l=res
 go_enter Tryz.func44,Tryz.ntmps44
 go_wp2
 go_loopw [3,15] (fun v i wr=>∃ m:Nat,m≤l.length∧i = .int .i64 m∧Below w.heap.size w wr∧wr.ownsRow w.heap.size 9 1 v (ay5 S E (l.take m)).length ((ay5 S E (l.take m)).map encS)) (fun _ i _=>l.length - (intOf i).toNat)
 case atStart=>exact ⟨0,Jo _,rfl,Below.refl _ _,rfl,.inl ⟨rfl,rfl⟩⟩
 case round =>
  obtain ⟨m,hml,rfl,hB,hown⟩:=hrel
  by_cases hlt:m < l.length
  ·obtain ⟨b,off,rfl,hbw,hcl⟩:=hO (by omega)
   obtain ⟨ea,ec,ta,tc,ra,rc,k0,k1,k2,k3,hE⟩:=hcl m hlt
   have d0:=(hB.cell (p:=⟨b,off+m * 4,none⟩) hbw).trans k0
   have d1:=(hB.cell (p:=⟨b,off+m * 4+1,none⟩) hbw).trans k1
   have d2:=(hB.cell (p:=⟨b,off+m * 4+2,none⟩) hbw).trans k2
   have d3:=(hB.cell (p:=⟨b,off+m * 4+3,none⟩) hbw).trans k3
   have hmo:=hm l[m] (List.getElem_mem hlt)
   unfold encS at d3
   go_wp2
   go_loopw [3,22] (fun v i wr=>∃ k:Nat,k≤l[m].Esds.length∧i = .int .i64 k∧Below w.heap.size w wr∧wr.ownsRow w.heap.size 9 1 v ((l[m].Esds.take k).foldl (aw4 S E) (ay5 S E (l.take m))).length (((l[m].Esds.take k).foldl (aw4 S E) (ay5 S E (l.take m))).map encS)) (fun _ i _=>l[m].Esds.length - (intOf i).toNat)
   case atStart=>exact ⟨0,Jo _,rfl,hB.alloc hB.size _,hown.alloc _⟩
   case round =>
    clear hB hown d0 d1 d2 d3
    obtain ⟨k,hk,rfl,hB,hown⟩:=hrel
    obtain ⟨outs,hou⟩:∃ outs,outs=(l[m].Esds.take k).foldl (aw4 S E) (ay5 S E (l.take m)):=⟨_,rfl⟩
    rw [← hou] at hown
    have hol:outs.length≤2000000000000:=by
     have h1:=bq0 S E (l[m].Esds.take k) (ay5 S E (l.take m))
     have h2:=bkg S E 1000000 (l.take m) [] (fun o ho=>hm o (List.mem_of_mem_take ho))
     rw [hou]
     unfold ay5 at h1 ⊢
     simp only [List.length_take,jO] at h1 h2 ⊢
     have h3:min m l.length * 1000000≤1000000 * 1000000:=jk _ (by omega)
     omega
    by_cases hkl:k < l[m].Esds.length
    ·obtain ⟨xb,xo,rfl,hxb,hxc⟩:=hE (by omega)
     obtain ⟨e0,e1,e2,e3,e4⟩:=hxc k hkl
     have f0:=(hB.cell (p:=⟨xb,xo+k * 5,none⟩) hxb).trans e0
     have f1:=(hB.cell (p:=⟨xb,xo+k * 5+1,none⟩) hxb).trans e1
     have f2:=(hB.cell (p:=⟨xb,xo+k * 5+2,none⟩) hxb).trans e2
     have f3:=(hB.cell (p:=⟨xb,xo+k * 5+3,none⟩) hxb).trans e3
     have f4:=(hB.cell (p:=⟨xb,xo+k * 5+4,none⟩) hxb).trans e4
     have hstep:(l[m].Esds.take (k+1)).foldl (aw4 S E) (ay5 S E (l.take m))=aw4 S E outs l[m].Esds[k]:=by rw [jH hkl,List.foldl_append,← hou];rfl
     clear e0 e1 e2 e3 e4 hxc hou
     obtain ⟨x,hx⟩:∃ x,x=l[m].Esds[k]:=⟨_,rfl⟩
     rw [← hx] at f0 f1 f2 f3 f4 hstep
     clear hx
     unfold encS at f0
     have hfind:=fun (o:Obj)=>ez0 (wr.alloc o) n0 D d S E sb eb vs x.Name (hG.below (hB.alloc hB.size o)) (hD.below (hB.alloc hB.size o))
     unfold ptr encS at hfind
     go_wp2_with (go_at_call 56;refine (hfind _).mono ?_)
     rintro e w1 ⟨rfl,q0,hw1⟩
     have hx1:w1.heap[wr.heap.size]? = some (.cells #[.string ⟨x.Name.toArray⟩,.int .i64 x.Kind,.int .i64 x.ID,.int .i64 x.Addr,.int .i64 x.Len] 51 (0,0)):=by rw [hw1];exact heap_alloc_new wr _
     have hs1:wr.heap.size < w1.heap.size:=by rw [hw1];simp
     have hb1:Below wr.heap.size wr w1:=by rw [hw1];exact ⟨rfl,rfl,rfl,by simp,fun b hb=>Below.heap_alloc _ _ b hb⟩
     clear hw1 hfind
     replace hown:=ay7 hown (W':=w1) fun b hb=>hb1.block b (hown.lt b hb).2
     replace hB:Below w.heap.size w w1:=hB.trans (hb1.mono hB.size)
     have x1:w1.cell? ⟨wr.heap.size,1,none⟩=some (.int .i64 x.Kind):=cell_of hx1 rfl
     clear hb1
     by_cases hk3:x.Kind=3
     ·have hk3':(x.Kind == 3)=true:=by simp [hk3]
      rw [hk3] at x1
      cases hF:bqn S E x.Name with
      | none =>
       simp only [j4,jY,optP]
       obtain ⟨p,q,rfl⟩:=aza hown
       have hXl:wr.heap.size < w1.heap.size:=by omega
       have x0:w1.cell? ⟨wr.heap.size,0,none⟩=some (.string ⟨x.Name.toArray⟩):=cell_of hx1 rfl
       obtain ⟨cs,hcs⟩:∃ cs,cs=outs.map encS:=⟨_,rfl⟩
       rw [← hcs] at hown
       have hBw:=hB.size
       go_wp2_with (at_builtin;refine wpList_append_own _ rfl _ _ 23 rfl w.heap.size 9 i9 (.string ⟨#[]⟩) 1 16 Tryz.underlying23 hi9 hz9 hs9 hb9 rfl (by decide) _ outs.length cs rfl ?hown ⟨w1.heap.size,0,none⟩ 1 1 [.string ⟨x.Name.toArray⟩] rfl rfl ?c1 ?c2 ?c3 ?c4 ?c5 ?_)
       case hown=>exact hown.alloc _
       case c1 =>
        intro j u hj
        match j,hj with
        | 0,hj=>simp at hj;subst hj;simp [Addr.add]
       case c2 =>
        intro u hu
        simp only [List.mem_cons,List.not_mem_nil,or_false] at hu
        subst hu;rfl
       case c3=>unfold maxLen;omega
       case c4=>omega
       case c5=>simp;omega
       intro v' w2 hown2 hgr _
       have hB2:Below w.heap.size w w2:=Below.grown (hB.alloc hBw _) hgr (by simp;omega) (fun k hk=>(hown.lt k hk).1)
       clear hgr
       go_wp2
       refine ⟨⟨k+1,hkl,by go_num,hB2,?_⟩,by simp [intOf];omega⟩
       have hadd:aw4 S E outs x=outs ++ [x.Name]:=by unfold aw4;rw [if_pos ⟨hk3,hF⟩]
       rw [hstep,hadd,List.length_append,List.map_append]
       exact hown2
      | some r =>
       simp only [ju,jB,optP]
       go_wp2
       refine ⟨⟨k+1,hkl,by go_num,hB,?_⟩,by simp [intOf];omega⟩
       have hadd:aw4 S E outs x=outs:=by unfold aw4;rw [if_neg (by simp [hk3,hF])]
       rw [hstep,hadd];exact hown
     ·have hk3':(x.Kind == 3)=false:=by simp [hk3]
      cases hF:bqn S E x.Name with
      | none =>
       simp only [j4,jY,optP]
       go_wp2
       refine ⟨⟨k+1,hkl,by go_num,hB,?_⟩,by simp [intOf];omega⟩
       have hadd:aw4 S E outs x=outs:=by unfold aw4;rw [if_neg (by simp [hk3,hF])]
       rw [hstep,hadd];exact hown
      | some r =>
       simp only [ju,jB,optP]
       go_wp2
       refine ⟨⟨k+1,hkl,by go_num,hB,?_⟩,by simp [intOf];omega⟩
       have hadd:aw4 S E outs x=outs:=by unfold aw4;rw [if_neg (by simp [hk3,hF])]
       rw [hstep,hadd];exact hown
    ·obtain rfl:k=l[m].Esds.length:=by omega
     rw [List.take_length] at hou
     have hS':ay5 S E (l.take (m+1))=outs:=by rw [hou,jH hlt];unfold ay5;rw [List.foldl_append];rfl
     clear hou
     go_wp2
     exact ⟨⟨m+1,hlt,by go_num,hB,by rw [hS'];exact hown⟩,by simp [intOf];omega⟩
  ·obtain rfl:m=l.length:=by omega
   rw [List.take_length] at hown
   rw [hL] at hown
   have hol:res.length≤2000000000000:=by
    have h2:=bkg S E 1000000 l [] hm
    rw [← hL]
    unfold ay5
    simp only [jO] at h2 ⊢
    have h3:l.length * 1000000≤1000000 * 1000000:=jk _ hn
    omega
   clear hL
   have e79:=Tryz.call79
   have e80:=Tryz.call80
   by_cases h0:res.length=0
   ·obtain rfl:=Jy.1 h0
    obtain ⟨p,q,rfl⟩:=aza hown
    go_wp2_with (go_at_call 79;refine (hS.2.1 _ _ _).mono ?_)
    rintro e w1 ⟨rfl,rfl⟩
    go_wp2_with (go_at_call 80;refine (hC.2.1 _ _ _).mono ?_)
    rintro e w2 ⟨rfl,rfl⟩
    go_wp2
    go_ret
    rw [Jy.1 (hS.1 []),hC.1]
    exact ⟨_,_,rfl,hB,Jo _,fun h=>absurd h (by simp)⟩
   ·obtain ⟨g,q,hv,hg,hgl,hH,hq⟩:∃ g q,u3 = .slice (some ⟨g,0,none⟩) res.length q∧w.heap.size≤g∧g < wr.heap.size∧byx wr g res∧res.length≤q:=by
     rcases hown.2 with ⟨z1,z2⟩ | ⟨g,cap',cur,z1,z2,z3,z4,z5,z6,z7⟩
     ·exact absurd z2 h0
     ·subst z1
      have hgl:=(Array.getElem?_eq_some_iff.1 z3).1
      refine ⟨g,cap',rfl,z2,hgl,⟨hgl,fun i hi=>⟨?_,bye z3⟩⟩,z4⟩
      rw [hown.cellAt i (by omega)]
      simp [hi]
    subst hv
    have hl1:=hS.1 res
    go_wp2_with (go_at_call 79;refine (hS.2.2 g q res wr hH (by omega)).mono ?_)
    rintro e w1 ⟨rfl,hH1,hB1⟩
    have hcall:=hC.2.2 g q (srt res) w1 hH1 (by omega) (by omega)
    rw [hl1] at hcall
    go_wp2_with (go_at_call 80;refine hcall.mono ?_)
    rintro e w2 ⟨rfl,hle,hH2,hB2⟩
    go_wp2
    go_ret
    exact ⟨_,_,rfl,(hB.trans (hB1 _ hg)).trans (hB2 _ hg),by omega,fun _=>⟨g,rfl,hg,hH2⟩⟩
end Go.Proofs.YtfhnelkbiihpiaaGreatDoor
