/- Text. -/
import Derived.Test.YtijnkhcfondehaaGreatDoorT
import Derived.Test.YtijnkhcfondehaaGreatDoorKT
import Derived.Test.YtijnkhcfondehaaGreatDoorAE53
set_option linter.unusedSimpArgs false
set_option linter.unusedVariables false
set_option maxHeartbeats 8000000
set_option maxRecDepth 100000
open _root_.List renaming length_map→jG,getD_eq_getElem?_getD→ja,getD_cons_zero→jY,length_cons→jq,length_nil→jS
open _root_.Nat renaming zero_le→JR
open Go.Proofs.Tryz renaming prog→jd
namespace Go.Proofs.YtijnkhcfondehaaGreatDoor
open Go.AE
def ewm (r:TRec):Int:=ekl r.Key.length r.Data.length
def bz8 (n:Nat) (l:List TRec):Option Int:=some (sumC (l.map ewm))
def bzn (n:Nat):Go.AE.Fn:=mkFn (A:=List TRec) (R:=Int) 186 [(false,[.slice 87])] false (fun xs=>((cg (xs.getD 0 []) 0).toSl.map byz)) (fun a=>[[.slice (List.map aq1 a)]]) (fun a=>bz8 n a) (fun r=>[.c (.int .i64) (.int r)]) (fun r=>[])
theorem gz1 {P:Program} {w:World} {al:Nat→Prop} {t:TypeId} {v:Value} {xs:List (List C)} (h:RepC P w al (.slice t) v (.slice xs)):∃ a cap,v = .slice a xs.length cap:=by
 cases h with
 | empty t x a cap h hz =>
  have e:xs=[]:=by simpa [C.toSl] using h
  subst e;exact ⟨a,cap,rfl⟩
 | slice t x b off cap hz E hE hb hlen hcap hel f hcell hrep=>exact ⟨some ⟨b,off,none⟩,cap,by simp [C.toSl]⟩
theorem gy1 {w:World} {al:Nat→Prop} {v:Value} {l:List TRec} (hal:∀ b,al b→b < w.heap.size) (h:RepC jd w al (.slice 87) v (.slice (List.map aq1 l))) :
  ∃ a cap,v = .slice a l.length cap∧l.length≤cap∧l.length≤140737488355328∧hjd w a w.heap.size (l.map ewm)∧∀ b off,a=some ⟨b,off,none⟩→0 < (l.map ewm).length→b < w.heap.size:=by
 cases h with
 | empty t x a cap h hz =>
  have e:l=[]:=by simpa [C.toSl] using h
  subst e;exact ⟨a,cap,rfl,JR _,JR _,fun h=>by simp at h,fun b off _ h=>by simp at h⟩
 | slice t x b off cap hz E hE hb hlen hcap hel f hcell hrep =>
  rw [ty87] at hE;cases hE
  have hl:(C.slice (List.map aq1 l)).toSl.length=l.length:=by simp [C.toSl]
  have hbw:=hal b hb;refine ⟨some ⟨b,off,none⟩,cap,by rw [hl],by rw [hl] at hcap;exact hcap,by rw [hl] at hlen;exact hlen,fun _=>⟨b,off,rfl,by omega,fun j hj=>?_⟩,fun b' off' e1 _=>?_⟩
  ·rw [jG] at hj;have hj':j < (C.slice (List.map aq1 l)).toSl.length:=by rw [hl];exact hj
   have h0:=akk (hcell j hj' 0 (by simp));have h1:=akk (hcell j hj' 1 (by simp));have h2:=akk (hcell j hj' 2 (by simp));have h3:=akk (hcell j hj' 3 (by simp));have r0:=hrep j hj' 0 (by simp);have r1:=hrep j hj' 1 (by simp);have r2:=hrep j hj' 2 (by simp);have r3:=hrep j hj' 3 (by simp)
   have e1:eg (C.slice (List.map aq1 l)).toSl j=aq1 (gt l j):=by
    simp [C.toSl,eg,gt,ja,hj]
   rw [e1] at r0 r1 r2 r3;simp only [aq1,cg_zero,cg_succ,jY,List.getD_cons_succ] at r0 r1 r2 r3;simp only [jq,jS] at h0 h1 h2 h3;obtain ⟨ka,kc,q1⟩:=gz1 r1;obtain ⟨da,dc,q2⟩:=gz1 r2;rw [q1] at h1;rw [q2] at h2;have hg:l[j]=gt l j:=by simp [gt,ja,hj]
   refine ⟨(gt l j).R,ka,(gt l j).Key.length,kc,da,(gt l j).Data.length,dc,(gt l j).Bad,?_,?_,?_,?_,?_⟩
   ·rw [show off+j * 4=off+(j * (0+1+1+1+1)+0) by omega,h0];generalize f j 0=q at r0;cases r0;rfl
   ·rw [show off+j * 4+1=off+(j * (0+1+1+1+1)+1) by omega,h1,jG]
   ·rw [show off+j * 4+2=off+(j * (0+1+1+1+1)+2) by omega,h2,jG]
   ·rw [show off+j * 4+3=off+(j * (0+1+1+1+1)+3) by omega,h3];generalize f j 3=q at r3;cases r3;rfl
   ·simp [ja,hj,ewm,hg]
  ·injection e1 with e3
   injection e3 with e4
   rw [← e4];exact hbw
theorem eki (x:Int):InR .i64 (Go.RowKit.wrap64 x):=by
 have e1:IntKind.max .i64=9223372036854775807:=by decide
 have e2:IntKind.min .i64 = -9223372036854775808:=by decide
 unfold InR;rw [e1,e2];unfold Go.RowKit.wrap64;omega
theorem dkz:∀ (l:List Int) (s:Int),InR .i64 s→InR .i64 (l.foldl (fun s x=>Go.RowKit.wrap64 (s+x)) s)
 | [],s,h=>h
 | x :: l,s,h=>dkz l _ (eki _)
theorem fyf (l:List Int):InR .i64 (sumC l):=dkz l 0 (by unfold InR;decide)
theorem fq7 (n:Nat):aj1 jd (bzn n):=by
 refine aj1.of (fun args w=>Tryz.call186 args w) (fun _ cs=>⟨rfl,by simp [bzn,mkFn]⟩) ?_;intro w al vs cs hal hvl hcl harg hpre;obtain ⟨hc,hs⟩:=hpre;obtain ⟨l,hd⟩:∃ a:List TRec,a=((cg (cs.getD 0 []) 0).toSl.map byz):=⟨_,rfl⟩
 have hc':cs=[[.slice (List.map aq1 l)]]:=by
  have:cs=[[.slice (List.map aq1 ((cg (cs.getD 0 []) 0).toSl.map byz))]]:=hc
  rw [this,← hd]
 subst hc'
 have hs':(bz8 n l).isSome=true:=by
  have h:(bz8 n (List.map byz (List.map aq1 l))).isSome=true:=hs
  rwa [ewi] at h
 obtain ⟨r,hr⟩:=Option.isSome_iff_exists.1 hs'
 have hres:((bzn n).sem [[.slice (List.map aq1 l)]]).res=[.c (.int .i64) (.int r)]:=by
  show ([.c (.int .i64) (.int ((bz8 n (List.map byz (List.map aq1 l))).getD default))]:List A)=_;rw [ewi,hr];rfl
 have hrows:((bzn n).sem [[.slice (List.map aq1 l)]]).rows=[]:=rfl
 match vs,hvl with
 | [v0],_ =>
  have a0:=harg 0 (show 0 < 1 by decide);obtain ⟨_,_,a0⟩:=a0;have a0':RepC jd w al (.slice 87) v0 (.slice (List.map aq1 l)):=a0;obtain ⟨a,cap,rfl,hcap,hbig,hC,hlow⟩:=gy1 hal a0';unfold bz8 at hr;obtain rfl:=Option.some.inj hr;have hI:=hwj 3 (Nat.le_refl _) a (l.map ewm) cap (by rw [jG];exact hcap) (by rw [jG];exact hbig) w hC hlow;rw [jG] at hI;refine Calls.mono (callsIn_wide.1 hI) ?_;rintro e w' ⟨hval,hbel⟩;refine ⟨_,hval,?_⟩;refine ⟨hbel,by rw [hrows];simp,fun _=>.dead,fun j=>rfl,fun i j b h=>by simp [aj3] at h,?_⟩;rw [hres];exact .c _ _ _ (.int .i64 (.int _) (fyf _))
end Go.Proofs.YtijnkhcfondehaaGreatDoor
/-
 ch. 2: ebcdic.Trim: its contract, out of the walk.
-/
namespace Go.Proofs.YtijnkhcfondehaaGreatDoor
open Go.AE
def bqm (n:Nat) (l:List Int):Option (List UInt8):=some (byp l)
def bjo (n:Nat):Go.AE.Fn:=mkFn (A:=List Int) (R:=List UInt8) 100 [(false,[.slice 5])] false (fun xs=>((cg (xs.getD 0 []) 0).toSl.map bzg)) (fun a=>[[.slice (List.map aq7 a)]]) (fun a=>bqm n a) (fun r=>[.c .str (.str r)]) (fun r=>[])
theorem hkm {w:World} {al:Nat→Prop} {v:Value} {l:List Int} (hal:∀ b,al b→b < w.heap.size) (h:RepC jd w al (.slice 5) v (.slice (List.map aq7 l))) :
  ∃ a cap,v = .slice a l.length cap∧l.length≤cap∧l.length≤140737488355328∧Byts w a l:=by
 cases h with
 | empty t x a cap h hz =>
  have e:l=[]:=by simpa [C.toSl] using h
  subst e;exact ⟨a,cap,rfl,JR _,JR _,fun h=>by simp at h⟩
 | slice t x b off cap hz E hE hb hlen hcap hel f hcell hrep =>
  rw [ty5] at hE;cases hE
  have hl:(C.slice (List.map aq7 l)).toSl.length=l.length:=by simp [C.toSl]
  have hbw:=hal b hb;refine ⟨some ⟨b,off,none⟩,cap,by rw [hl],by rw [hl] at hcap;exact hcap,by rw [hl] at hlen;exact hlen,fun _=>⟨b,off,rfl,hbw,fun j hj=>?_⟩⟩;have hj':j < (C.slice (List.map aq7 l)).toSl.length:=by rw [hl];exact hj
  have h0:=akk (hcell j hj' 0 (by simp));have r0:=hrep j hj' 0 (by simp)
  have e1:eg (C.slice (List.map aq7 l)).toSl j=aq7 (gt l j):=by
   simp [C.toSl,eg,gt,ja,hj]
  rw [e1] at r0;simp only [aq7,cg_zero,jY] at r0;simp only [jq,jS] at h0;rw [show off+j=off+(j * (0+1)+0) by omega,h0];have hg:l.getD j 0=gt l j:=by simp [gt,ja,hj]
  rw [hg];generalize f j 0=q at r0;cases r0;rfl
theorem gjs (l:List Int):(byp l).length≤l.length:=by
 have:=eqz l l.length
 simp only [byp,decM,jG,List.length_take];omega
theorem dqv (n:Nat):aj1 jd (bjo n):=by
 refine aj1.of (fun args w=>Tryz.call100 args w) (fun _ cs=>⟨rfl,by simp [bjo,mkFn]⟩) ?_;intro w al vs cs hal hvl hcl harg hpre;obtain ⟨hc,hs⟩:=hpre;obtain ⟨l,hd⟩:∃ a:List Int,a=((cg (cs.getD 0 []) 0).toSl.map bzg):=⟨_,rfl⟩
 have hc':cs=[[.slice (List.map aq7 l)]]:=by
  have:cs=[[.slice (List.map aq7 ((cg (cs.getD 0 []) 0).toSl.map bzg))]]:=hc
  rw [this,← hd]
 subst hc'
 have hres:((bjo n).sem [[.slice (List.map aq7 l)]]).res=[.c .str (.str (byp l))]:=by
  show ([.c .str (.str ((bqm n (List.map bzg (List.map aq7 l))).getD default))]:List A)=_;rw [fqw];rfl
 have hrows:((bjo n).sem [[.slice (List.map aq7 l)]]).rows=[]:=rfl
 match vs,hvl with
 | [v0],_ =>
  have a0:=harg 0 (show 0 < 1 by decide);obtain ⟨_,_,a0⟩:=a0;have a0':RepC jd w al (.slice 5) v0 (.slice (List.map aq7 l)):=a0;obtain ⟨a,cap,rfl,hcap,hbig,hB⟩:=hkm hal a0';refine Calls.mono (gyo l a cap w hbig hcap hB) ?_;rintro e w' ⟨hval,hbel⟩;refine ⟨_,hval,?_⟩;refine ⟨hbel,by rw [hrows];simp,fun _=>.dead,fun j=>rfl,fun i j b h=>by simp [aj3] at h,?_⟩;rw [hres];exact .c _ _ _ (.str (.str (byp l)) (by have:=gjs l;simp only [C.toStr_str];omega))
end Go.Proofs.YtijnkhcfondehaaGreatDoor
