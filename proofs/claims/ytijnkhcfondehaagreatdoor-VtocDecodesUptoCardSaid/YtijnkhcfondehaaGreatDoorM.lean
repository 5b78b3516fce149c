/- Text. -/
import Derived.Test.YtijnkhcfondehaaGreatDoorAE53
import Derived.Test.YtijnkhcfondehaaGreatDoorF
import Derived.Test.YtijnkhcfondehaaGreatDoorKT
set_option maxHeartbeats 8000000
set_option linter.unusedVariables false
set_option linter.unusedSimpArgs false
set_option maxRecDepth 100000
open Go.IntKind renaming wrap→ja,bits→jj
open _root_.List renaming getD_eq_getElem?_getD→jb,mem_cons_of_mem→J4,cons_append→Jh,length_append→ji,length_cons→jx,length_nil→jP
open _root_.Nat renaming le_of_ble_eq_true→jZ
open _root_.Option renaming getD→jr
open Go.AE.Sm renaming cut→jU,block→js,loopB→jO,seqK→jn,skip→jp,exit→jT,ret→jv
open Go.Proofs.Tryz renaming prog→jd
namespace Go.Proofs.YtijnkhcfondehaaGreatDoor
open Go.AE
theorem izg {n:Int} (h1:-9223372036854775808≤n) (h2:n < 9223372036854775808):ja .i64 n=n:=by
 simp only [ja]
 have:IntKind.i64.bits=64:=rfl
 rw [this];simp [IntKind.signed];omega
theorem gkj {α:Type} [Inhabited α] (l:List α) (i:Nat) (x:α) (h:i < l.length):gt (l.set i x) i=x:=by
 simp [gt,jb,h]
theorem hqg {α:Type} [Inhabited α] (l:List α) (i j:Nat) (x:α) (h:i≠j):gt (l.set i x) j=gt l j:=by
 simp [gt,jb,List.getElem?_set_ne h]
abbrev ija (v:aja) (k:Nat) (l:List aj8):S:=stB [(1,.box 9000 0),(2,.box 9001 0),(3,.own 9002 kD 0 l.length)] [(9000,.box (cV v)),(9001,.box [.c .str (.str []),.c (.int .i64) (.int 0),.c (.int .i64) (.int 0),.c (.int .i64) (.int 0),.nilsl]),(9002,.rl 41 (List.map aj6 l) k 9 (.own 9003 [.int .i64,.int .i64] 0 (gt l k).Extents.length)),(9003,.row 80 (List.map aj2 (gt l k).Extents))]
abbrev ezv (v:aja) (k:Nat) (v16:Int) (l_1:List aj8) (v17:Int):S:=stB [(1,.box 9006 0),(2,.box 9007 0),(3,.own 9008 kD 0 l_1.length),(15,.c (.slice 41) (.slice (List.map aj6 v.Sets))),(16,.c (.int .i64) (.int v16)),(17,.c (.int .i64) (.int v17))] [(9006,.box (cV v)),(9007,.box [.c .str (.str []),.c (.int .i64) (.int 0),.c (.int .i64) (.int 0),.c (.int .i64) (.int 0),.nilsl]),(9008,.rl 41 (List.map aj6 l_1) k 9 (.own 9009 [.int .i64,.int .i64] 0 (gt l_1 k).Extents.length)),(9009,.row 80 (List.map aj2 (gt l_1 k).Extents))]
def copL (v:aja) (k:Nat) (v16:Int) (x:List aj8×Int):S:=if x.2≤(k:Int) then aza v v16 x.1 x.2 else ezv v k v16 x.1 x.2
theorem ik4 (n:Nat) (v:aja) (k:Nat) (hk:k < v.Sets.length) (r:aja) (H:azv n v=some r):akx jd 57 [.dat (true,[.str,.int .i64,.int .i64,.int .i64,.slice 41]) [.str v.Serial,.int v.Cyls,.int v.Heads,.int v.Size,.slice (List.map aj6 v.Sets)]] []
  [.agg [.c .str (.str r.Serial),.c (.int .i64) (.int r.Cyls),.c (.int .i64) (.int r.Heads),.c (.int .i64) (.int r.Size),.own 0 kD 0 r.Sets.length]]
  [.rl 41 (List.map aj6 r.Sets) k 9 (.own 1 [.int .i64,.int .i64] 0 (gt r.Sets k).Extents.length),.row 80 (List.map aj2 (gt r.Sets k).Extents)]:=by
 have hΓ:=g1 (akl n) (@g0 (aj1 jd));refine gqf (Tryz.f57.body.getD .skip) h00 Tryz.func57 rfl Tryz.call57 (jZ rfl) (jZ rfl) ?_;unfold azv at H;simp only [Tryz.f57,jr];refine rA ?_;refine sX fun K2 hK2=>?_;obtain ⟨hg3,H⟩:=aj3 H
 iterate 7 refine oX ?_
 refine oY ?_;refine oX ?_;refine hK2 _ ?_;refine jU (fun (x:(List aj8))=>ija v k x) (fun x=>aw7 n v x=some r) ?_ ?_
 ·refine rA ?_;refine js ?_;obtain ⟨y7,hy7,Ho7⟩:=bind_some H;refine jO _ (fun x=>copL v k (v.Sets.length:Int) x) hy7 ?_ ?_
  ·show Weak _ _ _ (copL v k (v.Sets.length:Int) (_,0));rw [copL,if_pos (by show (0:Int)≤(k:Int);omega)];exact wb [some 16,some 32,some 208]
  rintro ⟨l_1,v17⟩ z7 H
  try dsimp only at H
  unfold ayo at H;have hlen:(v.Sets.length:Int)≤2147483648:=by omega
  by_cases hik:v17≤(k:Int)
  ·refine Sm.st (if_pos hik) ?_;refine Sm.st (aza.eq_1 ..) ?_;refine rA ?_;refine jn fun K9 hK9=>?_;refine cnd H (fun h10 H=>?_) (fun h10 H=>?_)
   ·refine jp (hK9 _ (jn fun K11 hK11=>js ?_));obtain ⟨hg16,H⟩:=aj3 H;refine rA ?_;obtain ⟨r1,hr1,H⟩:=bind_some H;have q:=aI @aqw.eq_1 hr1;refine rAq ?_;obtain ⟨⟨hg14,hg15⟩,H⟩:=aj3 H;have hw:ja .i64 (v17+1)=v17+1:=izg (by omega) (by omega);by_cases he:v17.toNat=k
    ·refine eX ?_
     iterate 4 refine oX ?_
     have q:=hg15;refine oE (ejx h00) ?_ (by intro K hK;simp only [z,seval,fz5,opRL,dki,fji,hg15];(repeat first | refine gcI ?_ | intro (_:_≤_));exact hK);refine ez6 ?_;refine hK11 _ ?_;refine eA ?_;refine lf ?_;refine nx H ?_;show Weak _ _ _ (copL v k (v.Sets.length:Int) (_,ja .i64 (v17+1)));rw [copL,if_neg (by show ¬ (ja .i64 (v17+1)≤(k:Int));rw [hw];omega)];subst he;show Weak _ _ _ (ezv v v17.toNat (v.Sets.length:Int) _ _);rw [ezv,gkj _ _ _ hg15];exact wb [some 9006,some 9007,some 9008,some 384]
    ·refine eA ?_;refine hK11 _ ?_;refine eA ?_;refine lf ?_;refine nx H ?_;show Weak _ _ _ (copL v k (v.Sets.length:Int) (_,ja .i64 (v17+1)));rw [copL,if_pos (by show ja .i64 (v17+1)≤(k:Int);rw [hw];omega)];exact wb [some 9006,some 9007,some 9008]
   exfalso
   have:¬ (v17 < (v.Sets.length:Int)):=by simpa using h10
   omega
  ·refine Sm.st (if_neg hik) ?_;refine Sm.st (ezv.eq_1 ..) ?_;refine rA ?_;refine jn fun K9 hK9=>?_;refine cnd H (fun h10 H=>?_) (fun h10 H=>?_)
   ·refine jp (hK9 _ (jn fun K11 hK11=>js ?_));obtain ⟨hg16,H⟩:=aj3 H;refine rA ?_;obtain ⟨r1,hr1,H⟩:=bind_some H;have q:=aI @aqw.eq_1 hr1;refine rAq ?_;obtain ⟨⟨hg14,hg15⟩,H⟩:=aj3 H;have hw:ja .i64 (v17+1)=v17+1:=izg (by omega) (by omega);have he:¬ v17.toNat=k:=by omega
    have hs:0≤v17∧v17 < (l_1.length:Int):=hg14;refine eX ?_
    iterate 3 refine oX ?_
    refine oE awz ?_;have q:=aI hg15 he;refine oE (ejx h00) ?_ (by intro K hK;simp only [z,seval,fz5,opRL,dki,fji,q];(repeat first | refine gcI ?_ | intro (_:_≤_));exact hK);refine ez6 ?_;refine hK11 _ ?_;refine eA ?_;refine lf ?_;refine nx H ?_;show Weak _ _ _ (copL v k (v.Sets.length:Int) (_,ja .i64 (v17+1)));rw [copL,if_neg (by show ¬ (ja .i64 (v17+1)≤(k:Int));rw [hw];omega)];show Weak _ _ _ (ezv v k (v.Sets.length:Int) _ _);rw [ezv,hqg _ _ _ _ he];exact wb [some 9006,some 9007,some 9008,some 9009]
   refine jT (lf ?_);refine lx H fun hyy=>?_;subst hyy;have H:=Ho7
   try dsimp only at H
   refine lf ?_;exact ⟨_,H,wb [some 9006,some 9007,some 9008,some 9009]⟩
 rintro l H
 try dsimp only at H
 unfold aw7 at H;refine Sm.st (ija.eq_1 ..) ?_;refine sX fun K3 hK3=>?_
 iterate 2 refine oX ?_
 refine oE fz3 ?_ (by intro K hK;simp only [z,seval,gjt,fjl,djy,oneL,fzl,dwc];(repeat first | refine gcI ?_ | intro (_:_≤_));exact hK);refine hK3 _ ?_;refine sX fun K4 hK4=>?_;refine oX ?_;refine oE fz3 ?_ (by intro K hK;simp only [z,seval,gjt,fjl,djy,oneL,fzl,dwc];(repeat first | refine gcI ?_ | intro (_:_≤_));exact hK);refine hK4 _ (jv (lf ?_));obtain rfl:=sI H;refine RetL.mk (.inr rfl) [some 9002,some 9003] rfl ?_;simp only [z,seval,ezm,blkL,fku,bqt,byr,fzl]
def exF (l:List aj0) (j:Nat):Int×Int:=((gt l j).At,(gt l j).Len)
def okL (l:List aj0):Prop:=l.length≤512∧(∀ j,j < l.length→0≤(exF l j).1∧(exF l j).1≤512∧0≤(exF l j).2∧(exF l j).2≤512)∧(upT (exF l) l.length).length≤512
instance (l:List aj0):Decidable (okL l):=by unfold okL;infer_instance
def cwi (track:Int):List (Nat×Int)→Int×Bool
 | []=>(0,false)
 | p :: ps=>if p.2=track then ((p.1:Int),true) else cwi track ps
def ay7 (n:Nat) (l:List aj0) (track:Int):Option (Int×Bool) :=
 (aq9 n l).bind fun r=>if r=true then gd (okL l) (some (cwi track (upT (exF l) l.length))) else some (0,false)
def bqh (n:Nat):Go.AE.Fn:=mkFn (A:=List aj0×Int) (R:=Int×Bool) 59 [(false,[.slice 80]),(false,[.int .i64])] false (fun xs=>(((cg (xs.getD 0 []) 0).toSl.map ajl),(cg (xs.getD 1 []) 0).toInt)) (fun a=>[[.slice (List.map aj2 a.1)],[.int a.2]]) (fun a=>ay7 n a.1 a.2) (fun r=>[.c (.int .i64) (.int r.1),.c .bool (.bool r.2)]) (fun r=>[])
theorem ewf {track:Int}:∀ {ps:List (Nat×Int)},(∀ p∈ps,p.2≠track)→cwi track ps=(0,false)
 | [],_=>rfl
 | p :: ps,h=>by
  simp only [cwi,h p List.mem_cons_self,if_false];exact ewf fun q hq=>h q (J4 _ hq)
theorem eqy {track:Int}:∀ {ini:List (Nat×Int)} {last:Nat×Int} {ps:List (Nat×Int)},ini ++ [last] <+: ps→(∀ p∈ini,p.2≠track)→last.2=track→cwi track ps=((last.1:Int),true)
 | [],last,[],h,_,_=>by simp at h
 | [],last,p :: ps,h,_,e=>by
  obtain ⟨t,ht⟩:=h;simp only [List.nil_append,Jh,List.cons.injEq] at ht;obtain ⟨rfl,_⟩:=ht;simp [cwi,e]
 | q :: ini,last,[],h,_,_=>by simp at h
 | q :: ini,last,p :: ps,h,hi,e=>by
  rw [Jh,List.cons_prefix_cons] at h;obtain ⟨rfl,h2⟩:=h;simp only [cwi,hi q List.mem_cons_self,if_false];exact eqy h2 (fun p hp=>hi p (J4 _ hp)) e
theorem ij6 (f:Nat→Int×Int):∀ k,∀ p∈upT f k,p.1 < (upT f k).length
 | 0,p,h=>by simp [upT] at h
 | k+1,p,h=>by
  simp only [upT,List.mem_append,List.mem_map,List.mem_range] at h;simp only [upT,ji,List.length_map,List.length_range];rcases h with h | ⟨j,hj,rfl⟩
  ·have:=ij6 f k p h;omega
  ·dsimp only;omega
theorem dyi {track:Int} {N:Nat}:∀ {ps:List (Nat×Int)},(∀ p∈ps,p.1 < N)→0≤(cwi track ps).1∧(cwi track ps).1≤(N:Int)
 | [],_=>by simp [cwi]
 | p :: ps,h=>by
  simp only [cwi]
  split
  ·have:=h p List.mem_cons_self;dsimp only;omega
  ·exact dyi fun q hq=>h q (J4 _ hq)
theorem iq7 {w:World} {al:Nat→Prop} {v:Value} {l:List aj0} (hal:∀ b,al b→b < w.heap.size) (h:RepC jd w al (.slice 80) v (.slice (List.map aj2 l))) :
  Exts w v l.length (exF l)∧∀ b,(∃ a cap,v = .slice a l.length cap∧∃ off,a=some ⟨b,off,none⟩)→0 < l.length→b < w.heap.size:=by
 cases h with
 | empty t x a cap h hz =>
  have e:l=[]:=by simpa [C.toSl] using h
  subst e;exact ⟨⟨a,cap,rfl,fun h=>by simp at h⟩,fun b _ h=>by simp at h⟩
 | slice t x b off cap hz E hE hb hlen hcap hel f hcell hrep =>
  rw [ty80] at hE;cases hE
  have hl:(C.slice (List.map aj2 l)).toSl.length=l.length:=by simp [C.toSl]
  refine ⟨⟨_,cap,by rw [hl],fun _=>⟨b,off,rfl,fun j hj=>?_⟩⟩,fun b' ⟨a,cap',e1,off',e2⟩ _=>?_⟩
  ·have hj':j < (C.slice (List.map aj2 l)).toSl.length:=by rw [hl];exact hj
   have h0:=awq (hcell j hj' 0 (by simp));have h1:=awq (hcell j hj' 1 (by simp));have r0:=hrep j hj' 0 (by simp);have r1:=hrep j hj' 1 (by simp)
   have e1:eg (C.slice (List.map aj2 l)).toSl j=aj2 (gt l j):=by
    simp [C.toSl,eg,gt,jb,hj]
   rw [e1] at r0 r1;simp only [aj2,cg_zero,cg_succ,List.getD_cons_zero,List.getD_cons_succ] at r0 r1;simp only [jx,jP] at h0 h1;refine ⟨?_,?_⟩
   ·rw [show off+j * 2=off+(j * (0+1+1)+0) by omega,h0];generalize f j 0=q at r0;cases r0;rfl
   ·rw [show off+j * 2+1=off+(j * (0+1+1)+1) by omega,h1];generalize f j 1=q at r1;cases r1;rfl
  ·injection e1 with q1 q2 q3
   rw [← q1] at e2;injection e2 with e3
   injection e3 with e4
   rw [← e4];exact hal _ hb
theorem fjh (n:Nat):aj1 jd (bqh n):=by
 refine aj1.of (fun args w=>Tryz.call59 args w) (fun _ cs=>⟨rfl,by simp [bqh,mkFn]⟩) ?_;intro w al vs cs hal hvl hcl harg hpre;obtain ⟨hc,hs⟩:=hpre;obtain ⟨⟨l,track⟩,hd⟩:∃ a:List aj0×Int,a=(((cg (cs.getD 0 []) 0).toSl.map ajl),(cg (cs.getD 1 []) 0).toInt):=⟨_,rfl⟩
 have hc':cs=[[.slice (List.map aj2 l)],[.int track]]:=by
  have:cs=[[.slice (List.map aj2 ((cg (cs.getD 0 []) 0).toSl.map ajl))],[.int (cg (cs.getD 1 []) 0).toInt]]:=hc
  rw [this,← (Prod.mk.inj hd).1,← (Prod.mk.inj hd).2]
 subst hc'
 have hs':(ay7 n l track).isSome=true:=by
  have h:(ay7 n (List.map ajl (List.map aj2 l)) track).isSome=true:=hs
  rwa [bw8] at h
 obtain ⟨r,hr⟩:=Option.isSome_iff_exists.1 hs'
 have hres:((bqh n).sem [[.slice (List.map aj2 l)],[.int track]]).res=[.c (.int .i64) (.int r.1),.c .bool (.bool r.2)]:=by
  show ([.c (.int .i64) (.int ((ay7 n (List.map ajl (List.map aj2 l)) track).getD default).1),.c .bool (.bool ((ay7 n (List.map ajl (List.map aj2 l)) track).getD default).2)]:List A)=_;rw [bw8,hr];rfl
 have hrows:((bqh n).sem [[.slice (List.map aj2 l)],[.int track]]).rows=[]:=rfl
 match vs,hvl with
 | [v0,v1],_ =>
  have a0:=harg 0 (show 0 < 2 by decide);have a1:=harg 1 (show 1 < 2 by decide);obtain ⟨_,_,a0⟩:=a0;obtain ⟨_,_,a1⟩:=a1;have a0':RepC jd w al (.slice 80) v0 (.slice (List.map aj2 l)):=a0;have a1':RepC jd w al (.int .i64) v1 (.int track):=a1;cases a1'
  obtain ⟨hE,hlow⟩:=iq7 hal a0';unfold ay7 at hr;obtain ⟨valid,hv,hr⟩:=bind_some hr
  have hV:∀ W,Go.RowKit.Below w.heap.size w W→Calls jd 69 #[v0] W fun e W'=>e = .returned (.bool valid)∧Go.RowKit.Below W.heap.size W W':=by
   intro W hW
   have h:=(ayi n).calls W al [v0] [[.slice (List.map aj2 l)]] (fun b hb=>Nat.lt_of_lt_of_le (hal b hb) hW.size) rfl rfl (fun i hi=>by
    match i,hi with
    | 0,_=>exact ⟨rfl,rfl,a0'.mono (fun b hb=>hW.block b (hal b hb)) (fun _ h=>h)⟩) (by
    refine ⟨?_,?_⟩
    ·show ([[.slice (List.map aj2 l)]]:List (List C))=[[.slice (List.map aj2 (List.map ajl (List.map aj2 l)))]];rw [bw8]
    ·show (aq9 n (List.map ajl (List.map aj2 l))).isSome=true
     rw [bw8,hv];rfl)
   refine Calls.mono h ?_;rintro e W' ⟨v,rfl,hbel,_,σr,_,_,hvr⟩;have hvr':ARel jd W' (Al (ewz W al) W' σr (ajk ((ak5 n).sem [[.slice (List.map aj2 l)]]).rows)) σr v (.c .bool (.bool ((aq9 n (List.map ajl (List.map aj2 l))).getD default))):=hvr;rw [bw8,hv] at hvr';cases hvr' with
   | c k v x hx=>cases hx;exact ⟨rfl,hbel⟩
  have hok:valid=true→okL l:=fun h=>by
   rw [h] at hr;simp only [if_true] at hr;exact (aj3 hr).1
  have hI:=hzo 3 (Nat.le_refl _) v0 l.length (exF l) track valid w hE hlow hV hok;refine Calls.mono (callsIn_wide.1 hI) ?_;rintro e w' ⟨hp,hbel⟩
  have hval:e = .returned (.tuple #[.int .i64 r.1,.bool r.2]):=by
   rcases hp with ⟨h1,h2⟩ | ⟨h1,h2⟩
   ·rw [h1] at hr;simp only [Bool.false_eq_true,if_false,Option.some.injEq] at hr;rw [h2,← hr]
   ·rw [h1] at hr;simp only [if_true] at hr;have hr2:=Option.some.inj (aj3 hr).2;rcases h2 with ⟨h3,h4⟩ | ⟨ini,last,h3,h4,h5,h6⟩
    ·rw [h3,← hr2,ewf h4]
    ·rw [h6,← hr2,eqy h3 h4 h5]
  have hrng:InR .i64 r.1:=by
   have e1:IntKind.max .i64=9223372036854775807:=by decide
   have e2:IntKind.min .i64 = -9223372036854775808:=by decide
   unfold InR;rw [e1,e2];cases valid with
   | false =>
    simp only [Bool.false_eq_true,if_false,Option.some.injEq] at hr;rw [← hr];omega
   | true =>
    simp only [if_true] at hr;have hr2:=Option.some.inj (aj3 hr).2;have h3:=(hok rfl).2.2
    have:=dyi (track:=track) (ij6 (exF l) l.length)
    rw [hr2] at this;omega
  refine ⟨_,hval,?_⟩;refine ⟨hbel,by rw [hrows];simp,fun _=>.dead,fun j=>rfl,fun i j b h=>by simp [aj4] at h,?_⟩;rw [hres];refine .tup [.int .i64 r.1,.bool r.2] _ rfl (fun i hi=>?_)
  match i,hi with
  | 0,_=>exact .c _ _ _ (.int .i64 (.int r.1) hrng)
  | 1,_=>exact .c _ _ _ (.bool (.bool r.2))
theorem un9M:jd.underlying 9=some .string:=by kernel_rfl
theorem un3M:jd.underlying 3=some (.int .i64):=by kernel_rfl
theorem cj6:tyI jd 154=some ⟨[.ptr 3],false,[],3,8⟩:=by kernel_rfl
theorem ej3:tyI jd 152=some ⟨[.slice 154],false,[],154,24⟩:=by kernel_rfl
theorem ej0:slE jd 152=some (154,⟨[.ptr 3],false,[],3,8⟩):=by kernel_rfl
theorem fjm (d:aj8):akx jd 122 [.ref (.box 0 0)] [.box (cD d)] [.bsl 1 4] [.box (cD d),.box [.box 0 5,.box 0 6,.box 0 8,.box 0 10]]:=by
 have hΓ:=@g0 (aj1 jd);refine bkq (Tryz.f122.body.getD .skip) h00 Tryz.func122 rfl Tryz.call122 (jZ rfl) (jZ rfl) ?_;simp only [Tryz.f122,jr];refine rA ?_;refine sQ [0,1,2,3,4,5,6,7,8,9,10,11,12,13,14,15,16] [(none,[],[]),(none,[1000001,0],[]),(none,[0],[]),(none,[0],[]),(none,[],[]),(none,[1000001,0],[]),(none,[0],[]),(none,[0],[]),(none,[],[]),(none,[1000001,0],[]),(none,[0],[]),(none,[0],[]),(none,[],[]),(none,[1000001,0],[]),(none,[0],[]),(none,[1000001,0],[288]),(none,[],[])] fun K7 hK7=>?_;have q:=aI cj6 (aI ej3 ej0);refine oQ ?_;refine oQV ?_
 iterate 3 refine oQ ?_
 refine oQV ?_
 iterate 3 refine oQ ?_
 refine oQV ?_
 iterate 3 refine oQ ?_
 refine oQV ?_;refine oQ ?_;refine oQVq ?_;refine oQ ?_;refine byo ?_;refine hK7 _ (jv (lf ?_));exact rtM [some 0,some 288]
abbrev dj9 (n_:Int) (d:aj8) (b:List Int):S:=stB [(0,.c (.int .i64) (.int n_)),(3,.box 9004 0),(4,.box 9005 0),(6,.own 9006 [.int .u8] 0 b.length)] [(9004,.box (cD d)),(9005,.box [.c (.int .i64) (.int 0),.nilsl,.nilsl,.c .bool (.bool false)]),(9006,.row 5 (List.map ajj b))]
def bwb (n:Nat) (n_:Int) (d:aj8) (b:List Int):Option TRec :=
 (bqd n d.Name 44).bind fun r5 =>
 gd ((0≤(ja .i64 (45 - ((b.length:Nat):Int)))∧(b.length+(Int.toNat (ja .i64 (45 - ((b.length:Nat):Int)))))≤2147483648)) <|
 some (⟨n_,r5,(b ++ aw0 (Int.toNat (ja .i64 (45 - ((b.length:Nat):Int)))) 0),false⟩:TRec)
abbrev cyp (n_:Int) (d:aj8) (v57:Int) (b_1:List Int) (v58:Int):S:=stB [(0,.c (.int .i64) (.int n_)),(3,.box 9010 0),(4,.box 9011 0),(6,.own 9012 [.int .u8] 0 b_1.length),(56,.c (.slice 80) (.slice (List.map aj2 d.Extents))),(57,.c (.int .i64) (.int v57)),(58,.c (.int .i64) (.int v58))] [(9010,.box (cD d)),(9011,.box [.c (.int .i64) (.int 0),.nilsl,.nilsl,.c .bool (.bool false)]),(9012,.row 5 (List.map ajj b_1))]
def akf (n:Nat) (n_:Int) (d:aj8) (v57:Int) (b_1:List Int) (v58:Int):Option (((List Int)×Int) ⊕ (((List Int)))) :=
 bif (decide (v58 < v57)) then
  gd ((0≤v58∧v58 < (d.Extents.length:Int))) <|
  (ayw n ((gt d.Extents (Int.toNat v58)).At)).bind fun r6 =>
  gd ((b_1.length+r6.length)≤2147483648) <|
  (ayw n ((gt d.Extents (Int.toNat v58)).Len)).bind fun r7 =>
  gd (((b_1.length+r6.length)+r7.length)≤2147483648) <|
  some (.inl (((b_1 ++ r6) ++ r7),(ja .i64 (v58+1))))
 else
  some (.inr b_1)
abbrev dj5 (n_:Int) (d:aj8) (flags_1:Int):S:=stB [(0,.c (.int .i64) (.int n_)),(3,.box 9002 0),(4,.box 9003 0),(5,.c (.int .u8) (.int flags_1))] [(9002,.box (cD d)),(9003,.box [.c (.int .i64) (.int 0),.nilsl,.nilsl,.c .bool (.bool false)])]
def akg (n:Nat) (n_:Int) (d:aj8) (flags_1:Int):Option TRec :=
 (ayw n d.Dcb.Lrecl).bind fun r1 =>
 gd ((4+r1.length)≤2147483648) <|
 (ayw n d.Dcb.Blksize).bind fun r2 =>
 gd (((4+r1.length)+r2.length)≤2147483648) <|
 (ayw n d.Dcb.KeyPos).bind fun r3 =>
 gd ((((4+r1.length)+r2.length)+r3.length)≤2147483648) <|
 (ayw n d.Used).bind fun r4 =>
 gd (((((4+r1.length)+r2.length)+r3.length)+r4.length)≤2147483648) <|
 gd ((((((4+r1.length)+r2.length)+r3.length)+r4.length)+1)≤2147483648) <|
 (ajg (fun (x:(List Int)×Int)=>akf n n_ d (d.Extents.length:Int) x.1 x.2) n (((((([(ja .u8 (d.Dcb.Org)),(ja .u8 (d.Dcb.Format)),flags_1,(ja .u8 (d.Dcb.KeyLen))] ++ r1) ++ r2) ++ r3) ++ r4) ++ [(ja .u8 ((d.Extents.length:Int)))]),0)).bind fun y9 =>
 bwb n n_ d y9
abbrev djh (n_:Int) (d:aj8) (flags:Int):S:=stB [(0,.c (.int .i64) (.int n_)),(3,.box 9000 0),(4,.box 9001 0),(5,.c (.int .u8) (.int flags))] [(9000,.box (cD d)),(9001,.box [.c (.int .i64) (.int 0),.nilsl,.nilsl,.c .bool (.bool false)])]
def ayy (n:Nat) (n_:Int) (d:aj8) (flags:Int):Option TRec :=
 bif d.Dcb.Asa then
  akg n n_ d (ja .u8 (((BitVec.ofInt (jj .u8) flags ||| BitVec.ofInt (jj .u8) 64).toNat:Int)))
 else
  akg n n_ d flags
def bkg (n:Nat) (n_:Int) (d:aj8):Option TRec :=
 bif d.Dcb.Blocked then
  ayy n n_ d (ja .u8 (((BitVec.ofInt (jj .u8) 0 ||| BitVec.ofInt (jj .u8) 128).toNat:Int)))
 else
  ayy n n_ d 0
def recB (b r1 r2 r3 r4:List Int):Nat→List Int
 | 0=>b
 | 1=>b ++ r1
 | 2=>(b ++ r1) ++ r2
 | 3=>((b ++ r1) ++ r2) ++ r3
 | _=>(((b ++ r1) ++ r2) ++ r3) ++ r4
abbrev byn (n_:Int) (d:aj8) (b:List Int):S:=stB [(0,.c (.int .i64) (.int n_)),(3,.box 9020 0),(4,.box 9021 0),(6,.own 9022 [.int .u8] 0 b.length)] [(9020,.box (cD d)),(9021,.box [.c (.int .i64) (.int 0),.nilsl,.nilsl,.c .bool (.bool false)]),(9022,.row 5 (List.map ajj b))]
abbrev ajs (n_:Int) (d:aj8) (b:List Int) (k:Int):S:=stB [(0,.c (.int .i64) (.int n_)),(3,.box 9024 0),(4,.box 9025 0),(6,.own 9026 [.int .u8] 0 b.length),(35,.bsl 9027 4),(36,.c (.int .i64) (.int 4)),(37,.c (.int .i64) (.int k))] [(9024,.box (cD d)),(9025,.box [.c (.int .i64) (.int 0),.nilsl,.nilsl,.c .bool (.bool false)]),(9026,.row 5 (List.map ajj b)),(9027,.box [.box 9024 5,.box 9024 6,.box 9024 8,.box 9024 10])]
def dyp (n:Nat):Go.AE.Fn:=mkFn (A:=Int×aj8) (R:=TRec) 63 [(false,[.int .i64]),(true,kD)] false (fun xs=>((cg (xs.getD 0 []) 0).toInt,(⟨(cg (xs.getD 1 []) 0).toStr,(⟨(cg (xs.getD 1 []) 1).toInt,(cg (xs.getD 1 []) 2).toInt,(cg (xs.getD 1 []) 3).toBool,(cg (xs.getD 1 []) 4).toBool,(cg (xs.getD 1 []) 5).toInt,(cg (xs.getD 1 []) 6).toInt,(cg (xs.getD 1 []) 7).toInt,(cg (xs.getD 1 []) 8).toInt⟩:TDcb),((cg (xs.getD 1 []) 9).toSl.map ajl),(cg (xs.getD 1 []) 10).toInt⟩:aj8))) (fun a=>[[.int a.1],[.str a.2.Name,.int a.2.Dcb.Org,.int a.2.Dcb.Format,.bool a.2.Dcb.Blocked,.bool a.2.Dcb.Asa,.int a.2.Dcb.Lrecl,.int a.2.Dcb.Blksize,.int a.2.Dcb.KeyLen,.int a.2.Dcb.KeyPos,.slice (List.map aj2 a.2.Extents),.int a.2.Used]]) (fun a=>bkg n a.1 a.2) (fun r=>[.agg [.c (.int .i64) (.int r.R),.own 0 [.int .u8] 0 r.Key.length,.own 1 [.int .u8] 0 r.Data.length,.c .bool (.bool r.Bad)]]) (fun r=>[.row 5 (List.map ajj r.Key),.row 5 (List.map ajj r.Data)])
theorem fz7 (n:Nat):aj1 jd (dyp n):=by
 have hΓ:=g1 (ezx n) (g1 (ezg n) (@g0 (aj1 jd)));have qe:=aI @cj3.eq_1 @cjj.eq_1;refine aj5 (Tryz.f63.body.getD .skip) h00 Tryz.func63 rfl Tryz.call63 (by decide) (fun _ r=>⟨rfl,m1 ⟨5,_,_,rfl,ty5,rfl⟩ (m1 ⟨5,_,_,rfl,ty5,rfl⟩ m0)⟩) ?_;rintro ⟨n_,d⟩ r H
 try dsimp only at H
 unfold bkg at H;simp only [Tryz.f63,jr];refine rA ?_;refine rA ?_;refine jU (fun (x:Int)=>djh n_ d x) (fun x=>ayy n n_ d x=some r) ?_ ?_
 ·refine rA ?_;refine cnd H (fun h26 H=>?_) (fun h26 H=>?_)
  ·refine eA ?_;refine lf ?_;exact ⟨_,H,wb [some 48,some 64]⟩
  refine jp (lf ?_);exact ⟨_,H,wb [some 48,some 64]⟩
 rintro flags H
 try dsimp only at H
 unfold ayy at H;refine Sm.st (djh.eq_1 ..) ?_;refine jU (fun (x:Int)=>dj5 n_ d x) (fun x=>akg n n_ d x=some r) ?_ ?_
 ·refine rA ?_;refine cnd H (fun h24 H=>?_) (fun h24 H=>?_)
  ·refine eA ?_;refine lf ?_;exact ⟨_,H,wb [some 9000,some 9001]⟩
  refine jp (lf ?_);exact ⟨_,H,wb [some 9000,some 9001]⟩
 rintro flags_1 H
 try dsimp only at H
 unfold akg at H;refine Sm.st (dj5.eq_1 ..) ?_;refine rA ?_;obtain ⟨r1,hr1,H⟩:=bind_some H;obtain ⟨hg19,H⟩:=aj3 H;obtain ⟨r2,hr2,H⟩:=bind_some H;obtain ⟨hg20,H⟩:=aj3 H;obtain ⟨r3,hr3,H⟩:=bind_some H;obtain ⟨hg21,H⟩:=aj3 H;obtain ⟨r4,hr4,H⟩:=bind_some H;obtain ⟨hg22,H⟩:=aj3 H;refine jU (X:=Unit) (fun _=>byn n_ d (((([(ja .u8 (d.Dcb.Org)),(ja .u8 (d.Dcb.Format)),flags_1,(ja .u8 (d.Dcb.KeyLen))] ++ r1) ++ r2) ++ r3) ++ r4)) (fun _=>True) ?_ ?_
 ·refine sX fun K1 hK1=>?_;refine oM (fjm d) [9002] [560] ?_;refine oE ayu ?_ (by intro K hK;simp only [z,seval,cqo,bsO,cj6,ej3,ej0];(repeat first | refine gcI ?_ | intro (_:_≤_));exact hK);refine oX ?_;refine hK1 _ (js ?_);refine Sm.loop (fun k=>ajs n_ d (recB [(ja .u8 (d.Dcb.Org)),(ja .u8 (d.Dcb.Format)),flags_1,(ja .u8 (d.Dcb.KeyLen))] r1 r2 r3 r4 k) k) (fun k=>k≤4) (fun k=>4 - k) 0 (by omega) (by show Weak _ _ _ (ajs n_ d [(ja .u8 (d.Dcb.Org)),(ja .u8 (d.Dcb.Format)),flags_1,(ja .u8 (d.Dcb.KeyLen))] 0);exact wb [some 9002,some 9003,some 544,some 560]) ?_;intro k hk;have hkk:k=0∨k=1∨k=2∨k=3∨k=4:=by omega
  rcases hkk with rfl | rfl | rfl | rfl | rfl
  ·refine Sm.st (show _=ajs n_ d (recB [(ja .u8 (d.Dcb.Org)),(ja .u8 (d.Dcb.Format)),flags_1,(ja .u8 (d.Dcb.KeyLen))] r1 r2 r3 r4 0) 0 from rfl) ?_;refine Sm.st (ajs.eq_1 ..) ?_;have hn:recB [(ja .u8 (d.Dcb.Org)),(ja .u8 (d.Dcb.Format)),flags_1,(ja .u8 (d.Dcb.KeyLen))] r1 r2 r3 r4 1=recB [(ja .u8 (d.Dcb.Org)),(ja .u8 (d.Dcb.Format)),flags_1,(ja .u8 (d.Dcb.KeyLen))] r1 r2 r3 r4 0 ++ r1:=rfl;obtain ⟨bb,hB⟩:∃ bb,bb=recB [(ja .u8 (d.Dcb.Org)),(ja .u8 (d.Dcb.Format)),flags_1,(ja .u8 (d.Dcb.KeyLen))] r1 r2 r3 r4 0:=⟨_,rfl⟩;have hl:bb.length+r1.length≤2147483648:=by rw [hB];simp only [recB,ji,jx,jP];omega
   rw [← hB] at hn ⊢;clear hB;refine rA ?_;refine jn fun K11 hK11=>?_;refine cndT ?_;refine jp (hK11 _ (jn fun K13 hK13=>js ?_));refine sX fun K14 hK14=>?_;refine oE ayu ?_ (by intro K hK;simp only [z,seval,cqo,bsO,cj6,ej3,ej0];(repeat first | refine gcI ?_ | intro (_:_≤_));exact hK);refine oX ?_ (by intro K hK;simp only [z,seval,cj6];(repeat first | refine gcI ?_ | intro (_:_≤_));exact hK);refine oX ?_;refine hK14 _ ?_;refine eX ?_;have q:=aI qe hr1
   iterate 2 refine oX ?_
   refine oE awz ?_
   iterate 4 refine oXq ?_
   refine ez6 ?_;refine hK13 _ ?_;refine eA ?_;refine lf ?_;have hw:ja .i64 1=1:=by decide
   refine ⟨1,by omega,by omega,?_⟩;show Weak _ _ _ (ajs n_ d (recB [(ja .u8 (d.Dcb.Org)),(ja .u8 (d.Dcb.Format)),flags_1,(ja .u8 (d.Dcb.KeyLen))] r1 r2 r3 r4 1) 1);rw [hn];exact wb [some 9024,some 9025,some 736,some 9027] (hL:=by simp only [wk,z,seval,hw])
  ·refine Sm.st (show _=ajs n_ d (recB [(ja .u8 (d.Dcb.Org)),(ja .u8 (d.Dcb.Format)),flags_1,(ja .u8 (d.Dcb.KeyLen))] r1 r2 r3 r4 1) 1 from rfl) ?_;refine Sm.st (ajs.eq_1 ..) ?_;have hn:recB [(ja .u8 (d.Dcb.Org)),(ja .u8 (d.Dcb.Format)),flags_1,(ja .u8 (d.Dcb.KeyLen))] r1 r2 r3 r4 2=recB [(ja .u8 (d.Dcb.Org)),(ja .u8 (d.Dcb.Format)),flags_1,(ja .u8 (d.Dcb.KeyLen))] r1 r2 r3 r4 1 ++ r2:=rfl;obtain ⟨bb,hB⟩:∃ bb,bb=recB [(ja .u8 (d.Dcb.Org)),(ja .u8 (d.Dcb.Format)),flags_1,(ja .u8 (d.Dcb.KeyLen))] r1 r2 r3 r4 1:=⟨_,rfl⟩;have hl:bb.length+r2.length≤2147483648:=by rw [hB];simp only [recB,ji,jx,jP];omega
   rw [← hB] at hn ⊢;clear hB;refine rA ?_;refine jn fun K11 hK11=>?_;refine cndT ?_;refine jp (hK11 _ (jn fun K13 hK13=>js ?_));refine sX fun K14 hK14=>?_;refine oE ayu ?_ (by intro K hK;simp only [z,seval,cqo,bsO,cj6,ej3,ej0];(repeat first | refine gcI ?_ | intro (_:_≤_));exact hK);refine oX ?_ (by intro K hK;simp only [z,seval,cj6];(repeat first | refine gcI ?_ | intro (_:_≤_));exact hK);refine oX ?_;refine hK14 _ ?_;refine eX ?_;have q:=aI qe hr2
   iterate 2 refine oX ?_
   refine oE awz ?_
   iterate 4 refine oXq ?_
   refine ez6 ?_;refine hK13 _ ?_;refine eA ?_;refine lf ?_;have hw:ja .i64 2=2:=by decide
   refine ⟨2,by omega,by omega,?_⟩;show Weak _ _ _ (ajs n_ d (recB [(ja .u8 (d.Dcb.Org)),(ja .u8 (d.Dcb.Format)),flags_1,(ja .u8 (d.Dcb.KeyLen))] r1 r2 r3 r4 2) 2);rw [hn];exact wb [some 9024,some 9025,some 736,some 9027] (hL:=by simp only [wk,z,seval,hw])
  ·refine Sm.st (show _=ajs n_ d (recB [(ja .u8 (d.Dcb.Org)),(ja .u8 (d.Dcb.Format)),flags_1,(ja .u8 (d.Dcb.KeyLen))] r1 r2 r3 r4 2) 2 from rfl) ?_;refine Sm.st (ajs.eq_1 ..) ?_;have hn:recB [(ja .u8 (d.Dcb.Org)),(ja .u8 (d.Dcb.Format)),flags_1,(ja .u8 (d.Dcb.KeyLen))] r1 r2 r3 r4 3=recB [(ja .u8 (d.Dcb.Org)),(ja .u8 (d.Dcb.Format)),flags_1,(ja .u8 (d.Dcb.KeyLen))] r1 r2 r3 r4 2 ++ r3:=rfl;obtain ⟨bb,hB⟩:∃ bb,bb=recB [(ja .u8 (d.Dcb.Org)),(ja .u8 (d.Dcb.Format)),flags_1,(ja .u8 (d.Dcb.KeyLen))] r1 r2 r3 r4 2:=⟨_,rfl⟩;have hl:bb.length+r3.length≤2147483648:=by rw [hB];simp only [recB,ji,jx,jP];omega
   rw [← hB] at hn ⊢;clear hB;refine rA ?_;refine jn fun K11 hK11=>?_;refine cndT ?_;refine jp (hK11 _ (jn fun K13 hK13=>js ?_));refine sX fun K14 hK14=>?_;refine oE ayu ?_ (by intro K hK;simp only [z,seval,cqo,bsO,cj6,ej3,ej0];(repeat first | refine gcI ?_ | intro (_:_≤_));exact hK);refine oX ?_ (by intro K hK;simp only [z,seval,cj6];(repeat first | refine gcI ?_ | intro (_:_≤_));exact hK);refine oX ?_;refine hK14 _ ?_;refine eX ?_;have q:=aI qe hr3
   iterate 2 refine oX ?_
   refine oE awz ?_
   iterate 4 refine oXq ?_
   refine ez6 ?_;refine hK13 _ ?_;refine eA ?_;refine lf ?_;have hw:ja .i64 3=3:=by decide
   refine ⟨3,by omega,by omega,?_⟩;show Weak _ _ _ (ajs n_ d (recB [(ja .u8 (d.Dcb.Org)),(ja .u8 (d.Dcb.Format)),flags_1,(ja .u8 (d.Dcb.KeyLen))] r1 r2 r3 r4 3) 3);rw [hn];exact wb [some 9024,some 9025,some 736,some 9027] (hL:=by simp only [wk,z,seval,hw])
  ·refine Sm.st (show _=ajs n_ d (recB [(ja .u8 (d.Dcb.Org)),(ja .u8 (d.Dcb.Format)),flags_1,(ja .u8 (d.Dcb.KeyLen))] r1 r2 r3 r4 3) 3 from rfl) ?_;refine Sm.st (ajs.eq_1 ..) ?_;have hn:recB [(ja .u8 (d.Dcb.Org)),(ja .u8 (d.Dcb.Format)),flags_1,(ja .u8 (d.Dcb.KeyLen))] r1 r2 r3 r4 4=recB [(ja .u8 (d.Dcb.Org)),(ja .u8 (d.Dcb.Format)),flags_1,(ja .u8 (d.Dcb.KeyLen))] r1 r2 r3 r4 3 ++ r4:=rfl;obtain ⟨bb,hB⟩:∃ bb,bb=recB [(ja .u8 (d.Dcb.Org)),(ja .u8 (d.Dcb.Format)),flags_1,(ja .u8 (d.Dcb.KeyLen))] r1 r2 r3 r4 3:=⟨_,rfl⟩;have hl:bb.length+r4.length≤2147483648:=by rw [hB];simp only [recB,ji,jx,jP];omega
   rw [← hB] at hn ⊢;clear hB;refine rA ?_;refine jn fun K11 hK11=>?_;refine cndT ?_;refine jp (hK11 _ (jn fun K13 hK13=>js ?_));refine sX fun K14 hK14=>?_;refine oE ayu ?_ (by intro K hK;simp only [z,seval,cqo,bsO,cj6,ej3,ej0];(repeat first | refine gcI ?_ | intro (_:_≤_));exact hK);refine oX ?_ (by intro K hK;simp only [z,seval,cj6];(repeat first | refine gcI ?_ | intro (_:_≤_));exact hK);refine oX ?_;refine hK14 _ ?_;refine eX ?_;have q:=aI qe hr4
   iterate 2 refine oX ?_
   refine oE awz ?_
   iterate 4 refine oXq ?_
   refine ez6 ?_;refine hK13 _ ?_;refine eA ?_;refine lf ?_;have hw:ja .i64 4=4:=by decide
   refine ⟨4,by omega,by omega,?_⟩;show Weak _ _ _ (ajs n_ d (recB [(ja .u8 (d.Dcb.Org)),(ja .u8 (d.Dcb.Format)),flags_1,(ja .u8 (d.Dcb.KeyLen))] r1 r2 r3 r4 4) 4);rw [hn];exact wb [some 9024,some 9025,some 736,some 9027] (hL:=by simp only [wk,z,seval,hw])
  ·refine Sm.st (show _=ajs n_ d (recB [(ja .u8 (d.Dcb.Org)),(ja .u8 (d.Dcb.Format)),flags_1,(ja .u8 (d.Dcb.KeyLen))] r1 r2 r3 r4 4) 4 from rfl) ?_;refine Sm.st (ajs.eq_1 ..) ?_;refine rA ?_;refine jn fun K11 hK11=>?_;refine cndF ?_;refine jT (lf ?_);refine ⟨(),trivial,?_⟩;show Weak _ _ _ (byn n_ d (recB [(ja .u8 (d.Dcb.Org)),(ja .u8 (d.Dcb.Format)),flags_1,(ja .u8 (d.Dcb.KeyLen))] r1 r2 r3 r4 4));obtain ⟨bb,hB⟩:∃ bb,bb=recB [(ja .u8 (d.Dcb.Org)),(ja .u8 (d.Dcb.Format)),flags_1,(ja .u8 (d.Dcb.KeyLen))] r1 r2 r3 r4 4:=⟨_,rfl⟩;rw [← hB];exact wb [some 9024,some 9025,some 9026]
 rintro ⟨⟩ _;refine Sm.st (byn.eq_1 ..) ?_;obtain ⟨bb,hB⟩:∃ bb,bb=(((([(ja .u8 (d.Dcb.Org)),(ja .u8 (d.Dcb.Format)),flags_1,(ja .u8 (d.Dcb.KeyLen))] ++ r1) ++ r2) ++ r3) ++ r4):=⟨_,rfl⟩;have hl:bb.length=4+r1.length+r2.length+r3.length+r4.length:=by rw [hB];simp only [ji,jx,jP]
 rw [← hB] at H ⊢;rw [← hl] at H;obtain ⟨hg18,H⟩:=aj3 H;refine rA ?_;refine jU (fun (x:(List Int))=>dj9 n_ d x) (fun x=>bwb n n_ d x=some r) ?_ ?_
 ·refine rA ?_;refine js ?_;obtain ⟨y9,hy9,Ho9⟩:=bind_some H;refine jO _ (fun x=>cyp n_ d (d.Extents.length:Int) x.1 x.2) hy9 (wb [some 9020,some 9021,some 864]) ?_;rintro ⟨b_1,v58⟩ z9 H
  try dsimp only at H
  unfold akf at H;refine Sm.st (cyp.eq_1 ..) ?_;refine rA ?_;refine jn fun K11 hK11=>?_;refine cnd H (fun h12 H=>?_) (fun h12 H=>?_)
  ·refine jp (hK11 _ (jn fun K13 hK13=>js ?_));obtain ⟨hg17,H⟩:=aj3 H;refine rA ?_;obtain ⟨r6,hr6,H⟩:=bind_some H;obtain ⟨hg15,H⟩:=aj3 H;obtain ⟨r7,hr7,H⟩:=bind_some H;obtain ⟨hg16,H⟩:=aj3 H;refine eQ [0,1,2,3,4,5,6,7,8,9] [(none,[],[]),(none,[160],[]),(none,[160],[]),(none,[],[1055,1054,1053,1052,1051,1050,1049,1048,1047,1046,1045,1044,1043,1042,1041,1040]),(none,[1040,9012],[1056,9012]),(none,[160],[]),(none,[160],[]),(none,[],[1119,1118,1117,1116,1115,1114,1113,1112,1111,1110,1109,1108,1107,1106,1105,1104]),(none,[1056,1104],[1120,1056]),(none,[],[])] ?_;have q:=aI qe (aI hr6 hr7)
   iterate 10 refine oQq ?_
   refine byo ?_;refine hK13 _ ?_;refine eA ?_;refine lf ?_;exact nx H (wb [some 9010,some 9011,some 1120])
  refine jT (lf ?_);refine lx H fun hyy=>?_;subst hyy;have H:=Ho9
  try dsimp only at H
  refine lf ?_;exact ⟨_,H,wb [some 9010,some 9011,some 9012]⟩
 rintro b H
 try dsimp only at H
 unfold bwb at H;refine Sm.st (dj9.eq_1 ..) ?_;refine sX fun K6 hK6=>?_;obtain ⟨r5,hr5,H⟩:=bind_some H;obtain ⟨hg7,H⟩:=aj3 H;have q:=aI qe hr5
 iterate 8 refine oXq ?_
 refine oE (gy0 9) ?_ (by intro K hK;simp only [z,seval,cj3,cjj,hr5,gkq,appZ,un9M,un3M];(repeat first | refine gcI ?_ | intro (_:_≤_));exact hK)
 iterate 2 refine oXq ?_
 refine hK6 _ (jv (lf ?_));obtain rfl:=sI H;exact rto [some 1200,some 1280]
def rowZ (A:List (List TRec)) (x:List TRec) (m:Nat):List (List C):=List.map ajh A ++ ajh x :: aw0 m [.z]
theorem fyh (A:List (List TRec)) (x:List TRec) (m:Nat):(rowZ A x m).length=A.length+1+m:=by simp [rowZ,aw0];omega
theorem izc (m:Nat) (x:List TRec):(aw0 (m+1) [C.z]).set 0 (ajy (eg (aw0 (m+1) [C.z]) 0) 0 [.slice (List.map ajr x)])=rowZ [] x m:=by
 simp [rowZ,aw0,List.replicate_succ,eg,ajy,aqg,ajh]
theorem fkd (A:List (List TRec)) (x:List TRec) (m:Nat):eg (rowZ A x m) A.length=[.slice (List.map ajr x)]:=by
 simp [rowZ,eg,jb,ajh]
theorem fz1 (A:List (List TRec)) (x:List TRec) (m:Nat):eg (rowZ A x (m+1)) (A.length+1)=[.z]:=by
 simp [rowZ,eg,jb,aw0,List.replicate_succ]
theorem hku (A:List (List TRec)) (x y:List TRec) (m:Nat):(rowZ A x m).set A.length (ajy (eg (rowZ A x m) A.length) 0 [.slice (List.map ajr y)])=rowZ A y m:=by
 rw [fkd];simp [rowZ,ajy,aqg,ajh]
theorem hkq (A:List (List TRec)) (x y:List TRec) (m:Nat):(rowZ A x (m+1)).set (A.length+1) (ajy (eg (rowZ A x (m+1)) (A.length+1)) 0 [.slice (List.map ajr y)])=rowZ (A ++ [x]) y m:=by
 rw [fz1];simp [rowZ,ajy,aqg,ajh,aw0,List.replicate_succ]
theorem hw7 (A:List (List TRec)) (x:List TRec) (m:Nat):(rowZ A x m).map (nrmL [.slice 87])=List.map ajh (A ++ [x] ++ aw0 m []):=by
 simp [rowZ,aw0,ajh,nrmL,nrm,C.toSl,Function.comp_def]
abbrev cyd (l:List (List TRec)):S:=stB [(8,.own 9002 [.slice 87] 0 l.length)] [(9002,.row 84 (List.map ajh l))]
def byj (n:Nat) (l:List (List TRec)):Option ((List (List TRec))×Int) :=
 some (l,0)
abbrev ayt (v:aja) (A:List (List TRec)) (x:List TRec) (m:Nat) (v58:Int):S:=stB [(8,.own 9004 [.slice 87] 0 (A.length+1+m)),(56,.c (.slice 41) (.slice (List.map aj6 v.Sets))),(57,.c (.int .i64) (.int (v.Sets.length:Int))),(58,.c (.int .i64) (.int v58))] [(9004,.rl 84 (rowZ A x m) A.length 0 (.own 9005 [.int .i64,.slice 5,.slice 5,.bool] 0 x.length)),(9005,.row 87 (List.map ajr x))]
def az8 (n:Nat) (v:aja) (A:List (List TRec)) (x:List TRec) (m:Nat) (v58:Int):Option ((List (List TRec)×List TRec×Nat×Int) ⊕ (List (List TRec))) :=
 bif (decide (v58 < (v.Sets.length:Int))) then
  gd ((0≤v58∧v58 < (v.Sets.length:Int))) <|
  (bkg n (ja .i64 ((Int.tmod v58 14)+1)) (gt v.Sets (Int.toNat v58))).bind fun r6 =>
  gd (x.length+1≤2147483648∧A.length+1+m≤2147483648) <|
  bif decide (ja .i64 (1+(ja .i64 (Int.tdiv v58 14)))=(A.length:Int)) then
   some (.inl (A,x ++ [r6],m,(ja .i64 (v58+1))))
  else
   gd (ja .i64 (1+(ja .i64 (Int.tdiv v58 14)))=((A.length+1:Nat):Int)∧0 < m) <|
   some (.inl (A ++ [x],[r6],m - 1,(ja .i64 (v58+1))))
 else
  some (.inr (A ++ [x] ++ aw0 m []))
abbrev dj2 (v:aja) (b:List Int):S:=stB [(1,.box 9000 0),(5,.own 9001 [.int .u8] 0 b.length)] [(9000,.box (cV v)),(9001,.row 5 (List.map ajj b))]
def bwc (n:Nat) (v:aja) (b:List Int):Option ((List (List TRec))×Int) :=
 (bqd n [] (ja .i64 (80 - ((b.length:Nat):Int)))).bind fun r4 =>
 gd ((b.length+r4.length)≤2147483648) <|
 gd ((0≤(ja .i64 (v.Size+1))∧(ja .i64 (v.Size+1))≤(ja .i64 (v.Size+1))∧(ja .i64 (v.Size+1))≤2147483648)) <|
 (bqd n [86,79,76,49] 4).bind fun r5 =>
 gd (0 < ((Int.toNat (ja .i64 (v.Size+1))):Int)∧0 < (Int.toNat (ja .i64 (v.Size+1)))) <|
 (ajg (fun (x:List (List TRec)×List TRec×Nat×Int)=>az8 n v x.1 x.2.1 x.2.2.1 x.2.2.2) n ([],[(⟨3,r5,(b ++ r4),false⟩:TRec)],(Int.toNat (ja .i64 (v.Size+1))) - 1,0)).bind fun y15 =>
 byj n y15
abbrev cyk (v:aja) (v28:List Int) (b_1:List Int) (v30:Int):S:=stB [(1,.box 9008 0),(5,.own 9009 [.int .u8] 0 b_1.length),(28,.own 9010 [.int .i64] 0 v28.length),(29,.c (.int .i64) (.int 3)),(30,.c (.int .i64) (.int v30))] [(9008,.box (cV v)),(9009,.row 5 (List.map ajj b_1)),(9010,.row 3 (List.map ajj v28))]
def bj1 (n:Nat) (v:aja) (v28:List Int) (b_1:List Int) (v30:Int):Option (((List Int)×Int) ⊕ (((List Int)))) :=
 bif (decide (v30 < 3)) then
  gd ((0≤v30∧v30 < (v28.length:Int))∧(Int.toNat v30) < v28.length) <|
  (ayw n (gt v28 (Int.toNat v30))).bind fun r7 =>
  gd ((b_1.length+r7.length)≤2147483648) <|
  some (.inl ((b_1 ++ r7),(ja .i64 (v30+1))))
 else
  some (.inr b_1)
def bj8 (n:Nat) (v:aja):Option ((List (List TRec))×Int) :=
 (awf n v).bind fun r1 =>
 bif (r1 != 0) then
  some ([],r1)
 else
  (bqd n [86,79,76,49] 4).bind fun r2 =>
  (bqd n v.Serial 6).bind fun r3 =>
  gd ((r2.length+r3.length)≤2147483648) <|
  (ajg (fun (x:(List Int)×Int)=>bj1 n v [v.Cyls,v.Heads,v.Size] x.1 x.2) n ((r2 ++ r3),0)).bind fun y32 =>
  bwc n v y32
def cza (n:Nat):Go.AE.Fn:=mkFn (A:=aja) (R:=(List (List TRec))×Int) 28 [(true,[.str,.int .i64,.int .i64,.int .i64,.slice 41])] true (fun xs=>(⟨(cg (xs.getD 0 []) 0).toStr,(cg (xs.getD 0 []) 1).toInt,(cg (xs.getD 0 []) 2).toInt,(cg (xs.getD 0 []) 3).toInt,((cg (xs.getD 0 []) 4).toSl.map awo)⟩:aja)) (fun a=>[[.str a.Serial,.int a.Cyls,.int a.Heads,.int a.Size,.slice (List.map aj6 a.Sets)]]) (fun a=>bj8 n a) (fun r=>[.own 0 [.slice 87] 0 r.1.length,.c (.int .i64) (.int r.2)]) (fun r=>[.row 84 (List.map ajh r.1)])
theorem dkt (n:Nat):aj1 jd (cza n):=by
 have hΓ:=g1 (bw1 n) (g1 (ezg n) (g1 (ezx n) (g1 (fz7 n) (@g0 (aj1 jd)))));have qe:=aI @akr.eq_1 (aI @cjj.eq_1 @cj3.eq_1);refine aj5 (Tryz.f28.body.getD .skip) h00 Tryz.func28 rfl Tryz.call28 (by decide) (by intro h;cases h) ?_;rintro v r H
 try dsimp only at H
 unfold bj8 at H;simp only [Tryz.f28,jr];refine rA ?_;refine jn fun K2 hK2=>?_;obtain ⟨r1,hr1,H⟩:=bind_some H;have q:=aI qe hr1;refine rAq ?_;refine rA ?_;refine cnd H (fun h5 H=>?_) (fun h5 H=>?_)
 ·refine rA ?_;refine jv (lf ?_);obtain rfl:=sI H;exact rto [none]
 refine jp (hK2 _ ?_);obtain ⟨r2,hr2,H⟩:=bind_some H;obtain ⟨r3,hr3,H⟩:=bind_some H;obtain ⟨hg8,H⟩:=aj3 H;refine sQ [0,1,2,3,4,5] [(none,[],[287,286,285,284,283,282,281,280,279,278,277,276,275,274,273,272]),(none,[16],[]),(none,[16],[]),(none,[],[335,334,333,332,331,330,329,328,327,326,325,324,323,322,321,320]),(none,[272,320],[336,272]),(none,[],[])] fun K7 hK7=>?_;have q:=aI qe (aI hr2 hr3)
 iterate 6 refine oQq ?_
 refine byo ?_;refine hK7 _ ?_;refine jU (fun (x:(List Int))=>dj2 v x) (fun x=>bwc n v x=some r) ?_ ?_
 ·refine rA ?_;refine js ?_;obtain ⟨y32,hy32,Ho32⟩:=bind_some H;refine jO _ (fun x=>cyk v [v.Cyls,v.Heads,v.Size] x.1 x.2) hy32 (wb [some 16,some 336,some 448]) ?_;rintro ⟨b_1,v30⟩ z32 H
  try dsimp only at H
  unfold bj1 at H;refine Sm.st (cyk.eq_1 ..) ?_;refine rA ?_;refine jn fun K34 hK34=>?_;refine cnd H (fun h35 H=>?_) (fun h35 H=>?_)
  ·refine jp (hK34 _ (jn fun K36 hK36=>js ?_));obtain ⟨⟨hg39,hg40⟩,H⟩:=aj3 H;refine rA ?_;obtain ⟨r7,hr7,H⟩:=bind_some H;obtain ⟨hg38,H⟩:=aj3 H;have q:=aI qe hr7;refine eAq ?_;refine hK36 _ ?_;refine eA ?_;refine lf ?_;exact nx H (wb [some 9008,some 592,some 9010])
  refine jT (lf ?_);refine lx H fun hyy=>?_;subst hyy;have H:=Ho32
  try dsimp only at H
  refine lf ?_;exact ⟨_,H,wb [some 9008,some 9009]⟩
 rintro b H
 try dsimp only at H
 unfold bwc at H;refine Sm.st (dj2.eq_1 ..) ?_;obtain ⟨r4,hr4,H⟩:=bind_some H;obtain ⟨hg30,H⟩:=aj3 H;have q:=aI qe hr4;refine rAq ?_;refine sX fun K10 hK10=>?_;obtain ⟨hg11,H⟩:=aj3 H
 iterate 3 refine oX ?_
 refine oE gkw ?_ (by intro K hK;simp only [z,seval,hqp,hz6];(repeat first | refine gcI ?_ | intro (_:_≤_));exact hK);refine oX ?_;refine hK10 _ ?_;obtain ⟨r5,hr5,H⟩:=bind_some H;obtain ⟨⟨hg28,hg29⟩,H⟩:=aj3 H;obtain ⟨M,hM⟩:∃ M,Int.toNat (ja .i64 (v.Size+1))=M+1:=⟨Int.toNat (ja .i64 (v.Size+1)) - 1,by omega⟩;rw [hM] at H hg28 hg29 ⊢;refine sX fun K12 hK12=>?_;have q:=aI qe hr5
 iterate 6 refine oXq ?_
 refine oE (ejx h00) ?_ (by intro K hK;simp only [z,seval,fz5,opRL,dki,fji,dwn,hg29];(repeat first | refine gcI ?_ | intro (_:_≤_));exact hK);refine hK12 _ ?_;refine jU (fun (x:(List (List TRec)))=>cyd x) (fun x=>byj n x=some r) ?_ ?_
 ·refine rA ?_;refine js ?_;obtain ⟨y15,hy15,Ho15⟩:=bind_some H;refine jO _ (fun x=>ayt v x.1 x.2.1 x.2.2.1 x.2.2.2) hy15 ?_ ?_
  ·show Weak _ _ _ (ayt v [] [(⟨3,r5,(b ++ r4),false⟩:TRec)] M 0);exact wb [some 768,some 848] (hL:=by (simp only [wk,z,seval];omega)) (hH:=by (simp only [wk,z,seval];exact izc M [⟨3,r5,b ++ r4,false⟩]))
  rintro ⟨A,x,m,v58⟩ z15 H
  try dsimp only at H
  unfold az8 at H;refine Sm.st (ayt.eq_1 ..) ?_;refine rA ?_;refine jn fun K17 hK17=>?_;refine cnd H (fun h18 H=>?_) (fun h18 H=>?_)
  ·refine jp (hK17 _ (jn fun K19 hK19=>js ?_));obtain ⟨hg27,H⟩:=aj3 H;refine rA ?_;refine rA ?_;obtain ⟨r6,hr6,H⟩:=bind_some H;obtain ⟨⟨hg22,hg23⟩,H⟩:=aj3 H;have q0:=aI @akr.eq_1 (aI @cjj.eq_1 (aI @cj3.eq_1 (aI @dyp.eq_1 hr6)));refine ak7 H (fun h30 H=>?_) (fun h30 H=>?_)
   ·have hn:ja .i64 (1+(ja .i64 (Int.tdiv v58 14)))=(A.length:Int):=by simpa using h30
    have hA:(0:Int)≤(A.length:Int)∧(A.length:Int) < ((A.length+1+m:Nat):Int):=by omega
    have hA2:A.length < A.length+1+m:=by omega
    have hA3:A.length < (rowZ A x m).length:=by rw [fyh];omega
    have q:=aI hn (aI hA (aI hA2 (aI hA3 (aI (Int.toNat_natCast A.length) q0))));refine eQ [0,1,2,3,4,5,6,7,8,9,10,11,12,13,14] [(none,[],[]),(none,[],[]),(none,[],[]),(none,[],[]),(none,[1000001,9004],[]),(none,[1000001,9004],[]),(none,[],[]),(none,[],[]),(none,[],[]),(none,[160],[]),(none,[],[1231,1230,1229,1228,1227,1226,1225,1224,1223,1222,1221,1220,1219,1218,1217,1216]),(none,[1216,1217],[1232,1216,1217]),(none,[1232,9005],[1248,9005]),(none,[1000001,9004],[]),(none,[1000001,1248,9004],[1248,9004])] ?_
    iterate 4 refine oQ ?_
    iterate 2 refine oQVq ?_
    iterate 7 refine oQq ?_
    iterate 2 refine oQVq ?_
    refine byo ?_;refine hK19 _ ?_;refine eA ?_;refine lf ?_;refine nx H ?_;show Weak _ _ _ (ayt v A (x ++ [r6]) m (ja .i64 (v58+1)));exact wb [some 9004,some 1248] (hH:=by (simp only [wk,z,seval];exact hku A x (x ++ [r6]) m))
   ·obtain ⟨⟨hn,hm⟩,H⟩:=aj3 H;obtain ⟨m',rfl⟩:∃ m',m=m'+1:=⟨m - 1,by omega⟩;refine Sm.weak ((wbf (L:=[(8,.own 9014 [.slice 87] 0 (A.length+1+(m'+1))),(9,.c (.int .i64) (.int v58)),(10,.box 9015 0),(11,.c (.int .i64) (.int ((A.length+1:Nat):Int))),(56,.c (.slice 41) (.slice (List.map aj6 v.Sets))),(57,.c (.int .i64) (.int (v.Sets.length:Int))),(58,.c (.int .i64) (.int v58))]) (bs:=[(9014,.row 84 (rowZ A x (m'+1))),(9015,.box [.c .str (.str (gt v.Sets (Int.toNat v58)).Name),.c (.int .i64) (.int (gt v.Sets (Int.toNat v58)).Dcb.Org),.c (.int .i64) (.int (gt v.Sets (Int.toNat v58)).Dcb.Format),.c .bool (.bool (gt v.Sets (Int.toNat v58)).Dcb.Blocked),.c .bool (.bool (gt v.Sets (Int.toNat v58)).Dcb.Asa),.c (.int .i64) (.int (gt v.Sets (Int.toNat v58)).Dcb.Lrecl),.c (.int .i64) (.int (gt v.Sets (Int.toNat v58)).Dcb.Blksize),.c (.int .i64) (.int (gt v.Sets (Int.toNat v58)).Dcb.KeyLen),.c (.int .i64) (.int (gt v.Sets (Int.toNat v58)).Dcb.KeyPos),.c (.slice 80) (.slice (List.map aj2 (gt v.Sets (Int.toNat v58)).Extents)),.c (.int .i64) (.int (gt v.Sets (Int.toNat v58)).Used)])]) [9005] [some 9004,some 160] (hL:=by (simp only [wk,z,seval,hn])) (hH:=by (simp only [wk,z,seval,cjh,zipH,subB,sub,kdAt,freezeAll,freeze1,fkd]))).trans (gjy (id:=9014) (i:=A.length+1) rfl (fz1 A x m') (by rw [ty84];rfl))) ?_;have hA:(0:Int)≤((A.length+1:Nat):Int)∧((A.length+1:Nat):Int) < ((A.length+1+(m'+1):Nat):Int):=by omega
    have hA2:A.length+1 < A.length+1+(m'+1):=by omega
    have hA3:A.length+1 < (rowZ A x (m'+1)).length:=by rw [fyh];omega
    have q:=aI hA (aI hA2 (aI hA3 (aI (Int.toNat_natCast (A.length+1)) q0)));refine eQ [0,1,2,3,4,5,6,7,8,9,10,11,12,13,14] [(none,[],[]),(none,[],[]),(none,[],[]),(none,[],[]),(none,[1000001,9014],[]),(none,[1000001,9014],[]),(none,[],[]),(none,[],[]),(none,[],[]),(none,[9015],[]),(none,[],[1231,1230,1229,1228,1227,1226,1225,1224,1223,1222,1221,1220,1219,1218,1217,1216]),(none,[1216,1217],[1232,1216,1217]),(none,[1232],[1248]),(none,[1000001,9014],[]),(none,[1000001,1248,9014],[1248,9014])] ?_
    iterate 4 refine oQ ?_
    iterate 2 refine oQVq ?_
    iterate 7 refine oQq ?_
    iterate 2 refine oQVq ?_
    refine byo ?_;refine hK19 _ ?_;refine eA ?_;refine lf ?_;refine nx H ?_;show Weak _ _ _ (ayt v (A ++ [x]) [r6] m' (ja .i64 (v58+1)));exact wb [some 9014,some 1248] (hL:=by (simp only [wk,z,seval];omega)) (hH:=by (simp only [wk,z,seval];exact hkq A x [r6] m'))
  refine jT (lf ?_);refine lx H fun hyy=>?_;subst hyy;have H:=Ho15
  try dsimp only at H
  refine lf ?_;refine ⟨_,H,?_⟩;refine (wbf (L:=[(8,.own 9014 [.slice 87] 0 (A.length+1+m))]) (bs:=[(9014,.row 84 (rowZ A x m))]) [9005] [some 9004] (hH:=by (simp only [wk,z,seval,cjh,zipH,subB,sub,kdAt,freezeAll,freeze1,fkd]))).trans ((hzq (id:=9014) (es:=rowZ A x m) rfl ty84).trans ?_);refine wb [some 9014] (hL:=by (simp only [wk,z,seval])) (hH:=by (simp only [wk,z,seval,hw7]))
 rintro l H
 try dsimp only at H
 unfold byj at H;refine Sm.st (cyd.eq_1 ..) ?_;refine rA ?_;refine jv (lf ?_);obtain rfl:=sI H;exact rto [some 9002]
end Go.Proofs.YtijnkhcfondehaaGreatDoor
