/- Text. -/
import Derived.Test.YtijnkhcfondehaaGreatDoorT
import Derived.Test.YtijnkhcfondehaaGreatDoorKT
import Derived.Test.YtijnkhcfondehaaGreatDoorAE53
set_option linter.unusedSimpArgs false
set_option linter.unusedVariables false
set_option maxHeartbeats 8000000
set_option maxRecDepth 100000
open _root_.List renaming length_map→jH,getD_eq_getElem?_getD→jb,getD_cons_zero→j1,length_cons→jx,length_nil→jP
open _root_.Nat renaming zero_le→Js
open Go.Proofs.Tryz renaming prog→jd
namespace Go.Proofs.YtijnkhcfondehaaGreatDoor
open Go.AE
def fjc (r:TRec):Int:=fw9 r.Key.length r.Data.length
def bk0 (n:Nat) (l:List TRec):Option Int:=some (sumC (l.map fjc))
def bkd (n:Nat):Go.AE.Fn:=mkFn (A:=List TRec) (R:=Int) 186 [(false,[.slice 87])] false (fun xs=>((cg (xs.getD 0 []) 0).toSl.map bqx)) (fun a=>[[.slice (List.map ajr a)]]) (fun a=>bk0 n a) (fun r=>[.c (.int .i64) (.int r)]) (fun r=>[])
theorem hjy {P:Program} {w:World} {al:Nat→Prop} {t:TypeId} {v:Value} {xs:List (List C)} (h:RepC P w al (.slice t) v (.slice xs)):∃ a cap,v = .slice a xs.length cap:=by
 cases h with
 | empty t x a cap h hz =>
  have e:xs=[]:=by simpa [C.toSl] using h
  subst e;exact ⟨a,cap,rfl⟩
 | slice t x b off cap hz E hE hb hlen hcap hel f hcell hrep=>exact ⟨some ⟨b,off,none⟩,cap,by simp [C.toSl]⟩
theorem hz9 {w:World} {al:Nat→Prop} {v:Value} {l:List TRec} (hal:∀ b,al b→b < w.heap.size) (h:RepC jd w al (.slice 87) v (.slice (List.map ajr l))) :
  ∃ a cap,v = .slice a l.length cap∧l.length≤cap∧l.length≤140737488355328∧hy3 w a w.heap.size (l.map fjc)∧∀ b off,a=some ⟨b,off,none⟩→0 < (l.map fjc).length→b < w.heap.size:=by
 cases h with
 | empty t x a cap h hz =>
  have e:l=[]:=by simpa [C.toSl] using h
  subst e;exact ⟨a,cap,rfl,Js _,Js _,fun h=>by simp at h,fun b off _ h=>by simp at h⟩
 | slice t x b off cap hz E hE hb hlen hcap hel f hcell hrep =>
  rw [ty87] at hE;cases hE
  have hl:(C.slice (List.map ajr l)).toSl.length=l.length:=by simp [C.toSl]
  have hbw:=hal b hb;refine ⟨some ⟨b,off,none⟩,cap,by rw [hl],by rw [hl] at hcap;exact hcap,by rw [hl] at hlen;exact hlen,fun _=>⟨b,off,rfl,by omega,fun j hj=>?_⟩,fun b' off' e1 _=>?_⟩
  ·rw [jH] at hj;have hj':j < (C.slice (List.map ajr l)).toSl.length:=by rw [hl];exact hj
   have h0:=awq (hcell j hj' 0 (by simp));have h1:=awq (hcell j hj' 1 (by simp));have h2:=awq (hcell j hj' 2 (by simp));have h3:=awq (hcell j hj' 3 (by simp));have r0:=hrep j hj' 0 (by simp);have r1:=hrep j hj' 1 (by simp);have r2:=hrep j hj' 2 (by simp);have r3:=hrep j hj' 3 (by simp)
   have e1:eg (C.slice (List.map ajr l)).toSl j=ajr (gt l j):=by
    simp [C.toSl,eg,gt,jb,hj]
   rw [e1] at r0 r1 r2 r3;simp only [ajr,cg_zero,cg_succ,j1,List.getD_cons_succ] at r0 r1 r2 r3;simp only [jx,jP] at h0 h1 h2 h3;obtain ⟨ka,kc,q1⟩:=hjy r1;obtain ⟨da,dc,q2⟩:=hjy r2;rw [q1] at h1;rw [q2] at h2;have hg:l[j]=gt l j:=by simp [gt,jb,hj]
   refine ⟨(gt l j).R,ka,(gt l j).Key.length,kc,da,(gt l j).Data.length,dc,(gt l j).Bad,?_,?_,?_,?_,?_⟩
   ·rw [show off+j * 4=off+(j * (0+1+1+1+1)+0) by omega,h0];generalize f j 0=q at r0;cases r0;rfl
   ·rw [show off+j * 4+1=off+(j * (0+1+1+1+1)+1) by omega,h1,jH]
   ·rw [show off+j * 4+2=off+(j * (0+1+1+1+1)+2) by omega,h2,jH]
   ·rw [show off+j * 4+3=off+(j * (0+1+1+1+1)+3) by omega,h3];generalize f j 3=q at r3;cases r3;rfl
   ·simp [jb,hj,fjc,hg]
  ·injection e1 with e3
   injection e3 with e4
   rw [← e4];exact hbw
theorem fw5 (x:Int):InR .i64 (Go.RowKit.wrap64 x):=by
 have e1:IntKind.max .i64=9223372036854775807:=by decide
 have e2:IntKind.min .i64 = -9223372036854775808:=by decide
 unfold InR;rw [e1,e2];unfold Go.RowKit.wrap64;omega
theorem ewm:∀ (l:List Int) (s:Int),InR .i64 s→InR .i64 (l.foldl (fun s x=>Go.RowKit.wrap64 (s+x)) s)
 | [],s,h=>h
 | x :: l,s,h=>ewm l _ (fw5 _)
theorem gz2 (l:List Int):InR .i64 (sumC l):=ewm l 0 (by unfold InR;decide)
theorem fkj (n:Nat):aj1 jd (bkd n):=by
 refine aj1.of (fun args w=>Tryz.call186 args w) (fun _ cs=>⟨rfl,by simp [bkd,mkFn]⟩) ?_;intro w al vs cs hal hvl hcl harg hpre;obtain ⟨hc,hs⟩:=hpre;obtain ⟨l,hd⟩:∃ a:List TRec,a=((cg (cs.getD 0 []) 0).toSl.map bqx):=⟨_,rfl⟩
 have hc':cs=[[.slice (List.map ajr l)]]:=by
  have:cs=[[.slice (List.map ajr ((cg (cs.getD 0 []) 0).toSl.map bqx))]]:=hc
  rw [this,← hd]
 subst hc'
 have hs':(bk0 n l).isSome=true:=by
  have h:(bk0 n (List.map bqx (List.map ajr l))).isSome=true:=hs
  rwa [fj6] at h
 obtain ⟨r,hr⟩:=Option.isSome_iff_exists.1 hs'
 have hres:((bkd n).sem [[.slice (List.map ajr l)]]).res=[.c (.int .i64) (.int r)]:=by
  show ([.c (.int .i64) (.int ((bk0 n (List.map bqx (List.map ajr l))).getD default))]:List A)=_;rw [fj6,hr];rfl
 have hrows:((bkd n).sem [[.slice (List.map ajr l)]]).rows=[]:=rfl
 match vs,hvl with
 | [v0],_ =>
  have a0:=harg 0 (show 0 < 1 by decide);obtain ⟨_,_,a0⟩:=a0;have a0':RepC jd w al (.slice 87) v0 (.slice (List.map ajr l)):=a0;obtain ⟨a,cap,rfl,hcap,hbig,hC,hlow⟩:=hz9 hal a0';unfold bk0 at hr;obtain rfl:=Option.some.inj hr;have hI:=iqa 3 (Nat.le_refl _) a (l.map fjc) cap (by rw [jH];exact hcap) (by rw [jH];exact hbig) w hC hlow;rw [jH] at hI;refine Calls.mono (callsIn_wide.1 hI) ?_;rintro e w' ⟨hval,hbel⟩;refine ⟨_,hval,?_⟩;refine ⟨hbel,by rw [hrows];simp,fun _=>.dead,fun j=>rfl,fun i j b h=>by simp [aj4] at h,?_⟩;rw [hres];exact .c _ _ _ (.int .i64 (.int _) (gz2 _))
end Go.Proofs.YtijnkhcfondehaaGreatDoor
/-
 ch. 2: ebcdic.Trim: its contract, out of the walk.
-/
namespace Go.Proofs.YtijnkhcfondehaaGreatDoor
open Go.AE
def bw0 (n:Nat) (l:List Int):Option (List UInt8):=some (czj l)
def bjl (n:Nat):Go.AE.Fn:=mkFn (A:=List Int) (R:=List UInt8) 100 [(false,[.slice 5])] false (fun xs=>((cg (xs.getD 0 []) 0).toSl.map akn)) (fun a=>[[.slice (List.map ajj a)]]) (fun a=>bw0 n a) (fun r=>[.c .str (.str r)]) (fun r=>[])
theorem iwm {w:World} {al:Nat→Prop} {v:Value} {l:List Int} (hal:∀ b,al b→b < w.heap.size) (h:RepC jd w al (.slice 5) v (.slice (List.map ajj l))) :
  ∃ a cap,v = .slice a l.length cap∧l.length≤cap∧l.length≤140737488355328∧Byts w a l:=by
 cases h with
 | empty t x a cap h hz =>
  have e:l=[]:=by simpa [C.toSl] using h
  subst e;exact ⟨a,cap,rfl,Js _,Js _,fun h=>by simp at h⟩
 | slice t x b off cap hz E hE hb hlen hcap hel f hcell hrep =>
  rw [ty5] at hE;cases hE
  have hl:(C.slice (List.map ajj l)).toSl.length=l.length:=by simp [C.toSl]
  have hbw:=hal b hb;refine ⟨some ⟨b,off,none⟩,cap,by rw [hl],by rw [hl] at hcap;exact hcap,by rw [hl] at hlen;exact hlen,fun _=>⟨b,off,rfl,hbw,fun j hj=>?_⟩⟩;have hj':j < (C.slice (List.map ajj l)).toSl.length:=by rw [hl];exact hj
  have h0:=awq (hcell j hj' 0 (by simp));have r0:=hrep j hj' 0 (by simp)
  have e1:eg (C.slice (List.map ajj l)).toSl j=ajj (gt l j):=by
   simp [C.toSl,eg,gt,jb,hj]
  rw [e1] at r0;simp only [ajj,cg_zero,j1] at r0;simp only [jx,jP] at h0;rw [show off+j=off+(j * (0+1)+0) by omega,h0];have hg:l.getD j 0=gt l j:=by simp [gt,jb,hj]
  rw [hg];generalize f j 0=q at r0;cases r0;rfl
theorem gke (l:List Int):(czj l).length≤l.length:=by
 have:=eji l l.length
 simp only [czj,decM,jH,List.length_take];omega
theorem dyc (n:Nat):aj1 jd (bjl n):=by
 refine aj1.of (fun args w=>Tryz.call100 args w) (fun _ cs=>⟨rfl,by simp [bjl,mkFn]⟩) ?_;intro w al vs cs hal hvl hcl harg hpre;obtain ⟨hc,hs⟩:=hpre;obtain ⟨l,hd⟩:∃ a:List Int,a=((cg (cs.getD 0 []) 0).toSl.map akn):=⟨_,rfl⟩
 have hc':cs=[[.slice (List.map ajj l)]]:=by
  have:cs=[[.slice (List.map ajj ((cg (cs.getD 0 []) 0).toSl.map akn))]]:=hc
  rw [this,← hd]
 subst hc'
 have hres:((bjl n).sem [[.slice (List.map ajj l)]]).res=[.c .str (.str (czj l))]:=by
  show ([.c .str (.str ((bw0 n (List.map akn (List.map ajj l))).getD default))]:List A)=_;rw [fyj];rfl
 have hrows:((bjl n).sem [[.slice (List.map ajj l)]]).rows=[]:=rfl
 match vs,hvl with
 | [v0],_ =>
  have a0:=harg 0 (show 0 < 1 by decide);obtain ⟨_,_,a0⟩:=a0;have a0':RepC jd w al (.slice 5) v0 (.slice (List.map ajj l)):=a0;obtain ⟨a,cap,rfl,hcap,hbig,hB⟩:=iwm hal a0';refine Calls.mono (hk9 l a cap w hbig hcap hB) ?_;rintro e w' ⟨hval,hbel⟩;refine ⟨_,hval,?_⟩;refine ⟨hbel,by rw [hrows];simp,fun _=>.dead,fun j=>rfl,fun i j b h=>by simp [aj4] at h,?_⟩;rw [hres];exact .c _ _ _ (.str (.str (czj l)) (by have:=gke l;simp only [C.toStr_str];omega))
end Go.Proofs.YtijnkhcfondehaaGreatDoor
