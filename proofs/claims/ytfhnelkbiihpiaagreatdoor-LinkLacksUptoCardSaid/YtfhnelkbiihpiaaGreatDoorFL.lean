/- Text. -/
import Derived.Test.YtfhnelkbiihpiaaGreatDoorW8
set_option linter.unusedSimpArgs false
set_option linter.unusedVariables false
set_option maxRecDepth 100000
open _root_.List renaming length_map→jL
open Go.Proofs.Tryz renaming prog→ji
namespace Go.Proofs.YtfhnelkbiihpiaaGreatDoor
open Go.Graph Go.AE
def bq6 (l:List aj1):List (List UInt8):=Lib.compact (srtL (ay5 (ajq l).1 (ajq l).2.1 l))
def awi (n:Nat) (l:List aj1):Option (List (List UInt8)) :=
 gd (l.length≤1000000∧∀ o∈l,o.Esds.length≤1000000∧∀ x∈o.Esds,x.Name.length≤1000000000) <|
 some (bq6 l)
def ak0 (n:Nat):Go.AE.Fn:=mkFn (A:=(List aj1)) (R:=(List (List UInt8))) 20 [(false,[.slice 49])] true (fun xs=>((cg (xs.getD 0 []) 0).toSl.map awa)) (fun a=>[[.slice (List.map aj2 a)]]) (fun a=>awi n a) (fun r=>[.c (.slice 9) (.slice (List.map aq8 r))]) (fun r=>[])
theorem czi (S:List Sc) (E:List En) {s:List UInt8}:∀ (xs:List TEsd) (o:List (List UInt8)),s∈xs.foldl (aw4 S E) o→s∈o∨∃ x∈xs,x.Name=s
 | [],o,h=>.inl h
 | x :: xs,o,h=>by
  rcases czi S E xs _ h with h | ⟨y,hy,e⟩
  ·unfold aw4 at h
   split at h
   ·rcases List.mem_append.1 h with h | h
    ·exact .inl h
    ·simp at h;exact .inr ⟨x,by simp,h.symm⟩
   ·exact .inl h
  ·exact .inr ⟨y,by simp [hy],e⟩
theorem cy3 (S:List Sc) (E:List En) {s:List UInt8}:∀ (l:List aj1) (o:List (List UInt8)),s∈l.foldl (fun outs o=>o.Esds.foldl (aw4 S E) outs) o→s∈o∨∃ y∈l,∃ x∈y.Esds,x.Name=s
 | [],o,h=>.inl h
 | y :: l,o,h=>by
  rcases cy3 S E l _ h with h | ⟨z,hz,x,hx,e⟩
  ·rcases czi S E y.Esds o h with h | ⟨x,hx,e⟩
   ·exact .inl h
   ·exact .inr ⟨y,by simp,x,hx,e⟩
  ·exact .inr ⟨z,by simp [hz],x,hx,e⟩
theorem eqa {l:List aj1} {s:List UInt8} (h:s∈bq6 l):∃ y∈l,∃ x∈y.Esds,x.Name=s:=by
 have h:=dqx h
 unfold srtL at h
 rw [List.mem_mergeSort] at h
 rcases cy3 _ _ l [] h with h | h
 ·cases h
 ·exact h
theorem cw3 (l:List aj1):(bq6 l).length≤(ay5 (ajq l).1 (ajq l).2.1 l).length:=by
 refine Nat.le_trans (cwv _) (Nat.le_of_eq ?_)
 simp [srtL]
theorem cj9 (n:Nat):aj9 ji (ak0 n):=by
 refine ⟨fun args w=>Tryz.call20 args w,fun h=>(by cases h),?_⟩
 intro w al vs cs hal hvl hcl harg hpre
 have hvl:vs.length=1:=hvl
 have hcl:cs.length=1:=hcl
 match vs,hvl with
 | [v],_ =>
  match cs,hcl with
  | [c],_ =>
   obtain ⟨hc,hs⟩:=hpre
   obtain ⟨l,hl⟩:∃ l,l=((cg c 0).toSl.map awa):=⟨_,rfl⟩
   have hc:[c]=[[C.slice (List.map aj2 l)]]:=by rw [hl];exact hc
   have hs:(awi n l).isSome=true:=by rw [hl];exact hs
   obtain ⟨r,hr⟩:=Option.isSome_iff_exists.1 hs
   obtain ⟨⟨hn,hb⟩,hr'⟩:=aqu hr
   obtain rfl:=Option.some.inj hr'
   have ha:=harg 0 (by show 0 < 1;omega)
   have hc1:c=[C.slice (List.map aj2 l)]:=by simpa using hc
   have ha:RepC ji w al (.slice 49) v (.slice (List.map aj2 l)):=by
    have h2:=ha.2.2
    rw [hc1] at h2
    exact h2
   obtain ⟨a,cap,rfl,hO⟩:=ewv hal ha
   have hsem:(ak0 n).sem [c]=⟨[c]=[[C.slice (List.map aj2 l)]]∧(awi n l).isSome=true,[.c (.slice 9) (.slice (List.map aq8 (bq6 l)))],[]⟩:=by
    have e0:(cg (([c]:List (List C)).getD 0 []) 0).toSl.map awa=l:=hl.symm
    simp only [ak0,mkFn,e0,hr,Option.getD_some]
   rw [hsem]
   refine (cwn l a cap w hO hn (fun o ho=>(hb o ho).1)).mono ?_
   rintro e w' ⟨a',cap',rfl,hB,hcap,hH⟩
   refine ⟨_,rfl,hB,by simp,fun _=>.dead,fun j=>rfl,fun i j b h=>by simp [aj0] at h,?_⟩
   refine ARel.c _ _ _ ?_
   have hle:(bq6 l).length≤1000000000000:=by
    refine Nat.le_trans (cw3 l) ?_
    have h2:=bkg (ajq l).1 (ajq l).2.1 1000000 l [] (fun o ho=>(hb o ho).1)
    unfold ay5
    simp only [List.length_nil] at h2
    have h3:l.length * 1000000≤1000000 * 1000000:=Nat.mul_le_mul_right _ hn
    omega
   by_cases h0:(bq6 l).length=0
   ·have h1:=List.length_eq_zero_iff.1 h0
    have h2:Lib.compact (srtL (ay5 (ajq l).1 (ajq l).2.1 l))=[]:=h1
    rw [h2,h1]
    exact RepC.empty 9 (.slice []) a' cap' rfl nofun
   ·obtain ⟨g,rfl,hg,hHS⟩:=hH (by show 0 < (bq6 l).length;omega)
    have key:=RepC.slice (P:=ji) (w:=w') (Al:=Al (cwj w al) w' (fun _=>.dead) (aja [])) 9 (.slice (List.map aq8 (bq6 l))) g 0 cap' nofun _ ty9 ⟨hHS.1,fun id h=>by simp [aj0] at h,.inl (.inl hg)⟩
     (by simp only [C.toSl_slice,jL];omega) (by rw [C.toSl_slice,jL];exact hcap) (fun i hi=>by
      rw [C.toSl_slice,aqm _ _ _ (by simpa using hi)];rfl) (fun i j=>Graph.encS (gt (bq6 l) i))
     (fun i hi j hj=>by
      have hj:j < 1:=hj
      obtain rfl:j=0:=by omega
      have hi:i < (bq6 l).length:=by simpa using hi
      have:=hHS.2 i hi
      rw [ckl hi]
      show bz3 w' ⟨g,0+(i * 1+0),none⟩=some (Graph.encS _)
      rw [Nat.zero_add,Nat.add_zero,Nat.mul_one]
      exact cjn this.1 this.2)
     (fun i hi j hj=>by
      have hj:j < 1:=hj
      obtain rfl:j=0:=by omega
      have hi:i < (bq6 l).length:=by simpa using hi
      have e1:cg (eg (C.slice (List.map aq8 (bq6 l))).toSl i) 0=C.str (gt (bq6 l) i):=by rw [C.toSl_slice,aqm _ _ _ hi];rfl
      rw [e1]
      refine RepC.str (C.str (gt (bq6 l) i)) ?_
      rw [ckl hi]
      obtain ⟨y,hy,x,hx,e⟩:=eqa (List.getElem_mem hi)
      have:=(hb y hy).2 x hx
      show (bq6 l)[i].length≤_
      rw [← e];omega)
    simp only [C.toSl_slice,jL] at key
    exact key
end Go.Proofs.YtfhnelkbiihpiaaGreatDoor
/-
 The functions that call one whose contract is written by hand.
-/
set_option maxHeartbeats 8000000
namespace Go.Proofs.YtfhnelkbiihpiaaGreatDoor
open Go.AE
def akq (n:Nat) (l:List aj1):Option Bool :=
 (awi n l).bind fun r1 =>
 (awz n l).bind fun r2 =>
 (azi n r1 r2).bind fun r3 =>
 gd ((r3=true→(ez4 n).isSome=true)) <|
 some (if r3=true then ((ez4 n).getD default) else false)
def cj6 (n:Nat):Go.AE.Fn:=mkFn (A:=(List aj1)) (R:=Bool) 7 [(false,[.slice 49])] false (fun xs=>((cg (xs.getD 0 []) 0).toSl.map awa)) (fun a=>[[.slice (List.map aj2 a)]]) (fun a=>akq n a) (fun r=>[.c .bool (.bool r)]) (fun r=>[])
theorem cjb (n:Nat):aj9 ji (cj6 n):=by
 have hΓ:=g1 (cj9 n) (g1 (bkv n) (g1 (cji n) (g1 (ey2 n) (@g0 (aj9 ji)))))
 refine bwr (Tryz.f7.body.getD .skip) h00 Tryz.func7 rfl Tryz.call7 (by decide) (by intro _ r;exact ⟨rfl,by simp⟩) ?_
 rintro l r H
 try dsimp only at H
 unfold akq at H
 simp only [Tryz.f7,Option.getD]
 refine rA ?_
 obtain ⟨r1,hr1,H⟩:=bind_some H
 obtain ⟨r2,hr2,H⟩:=bind_some H
 obtain ⟨r3,hr3,H⟩:=bind_some H
 obtain ⟨hg3,H⟩:=aqu H
 have q:=aI @ak0.eq_1 (aI @bju.eq_1 (aI @bqk.eq_1 (aI @cy9.eq_1 (aI hr1 (aI hr2 hr3)))))
 refine rAq ?_
 refine Sm.ret ?_
 refine lf ?_
 obtain rfl:=Option.some.inj H
 exact rt []
end Go.Proofs.YtfhnelkbiihpiaaGreatDoor
