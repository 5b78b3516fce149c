/- Text. -/
import Derived.Test.YtkebegfopnlkhaaW
import Derived.Test.YtkebegfopnlkhaaM
import Derived.Test.YtkebegfopnlkhaaFL
set_option linter.unusedSimpArgs false
set_option linter.unusedVariables false
set_option maxRecDepth 100000
open _root_.Bool renaming false_eq_true→jj,not_eq_true→JS
open _root_.Int renaming toNat_natCast→jD
open Go.IntKind renaming wrap→jc,bits→Jr,signed→Jm
open _root_.List renaming drop_eq_nil_iff→Jl,drop_eq_getElem_cons→jT,drop_drop→Ja,map_cons→jP,length_map→jq,length_cons→jE,getElem_mem→jm,length_append→jg,length_nil→jV,nil_append→JE,map_map→JB,mem_append→jk,mem_singleton→Jt,mem_map→Jk,map_congr_left→j3
open _root_.Nat renaming lt_or_ge→jI,le_refl→jr,le_trans→jU
open _root_.Option renaming bind_some→jo
namespace Go.Proofs.Ytkebegfopnlkhaa
open Go.AE Go.RowKit
def FG {α:Type} (c:α→Int) (room:Int):Nat→List α→Int→Nat→List α→List (Nat×List α)
  | a,cur,left,p,[]=>[(a,cur)]
  | a,cur,left,p,x :: xs=>if c x≤left then FG c room a (cur ++ [x]) (left - c x) (p+1) xs else (a,cur) :: FG c room p [x] (room - c x) (p+1) xs
theorem w64s {n:Int} (h:-4611686018427387904≤n∧n≤4611686018427387904):wrap64 n=n:=by
  unfold wrap64;omega
theorem piece_snoc {α:Type} {XS xs:List α} {x:α} {a p:Nat} (hd:XS.drop p=x :: xs) (ha:a≤p):piece XS (a,p) ++ [x]=piece XS (a,p+1):=by
  have hp:p < XS.length:=by
    rcases jI p XS.length with h | h
    · exact h
    · rw [Jl.2 h] at hd;cases hd
  have hx:XS[p]=x:=by
    have:=jT hp
    rw [hd] at this;exact (List.cons.inj this).1.symm
  unfold piece
  simp only
  rw [show p+1 - a=(p - a)+1 by omega,List.take_add_one,List.getElem?_drop,show a+(p - a)=p by omega,List.getElem?_eq_getElem hp,hx]
  rfl
theorem piece_one {α:Type} {XS xs:List α} {x:α} {p:Nat} (hd:XS.drop p=x :: xs):piece XS (p,p+1)=[x]:=by
  unfold piece
  simp only
  rw [hd,Nat.add_sub_cancel_left];rfl
theorem FG_div {α:Type} (c:α→Int) (room:Int) (XS:List α) (hc:∀ x∈XS,0≤c x∧c x≤100000) (hr:0≤room∧room≤100000) :
    ∀ (xs:List α) (a:Nat) (cur:List α) (left:Int) (p q:Nat),XS.drop p=xs→a < p→cur=piece XS (a,p)→-100000≤left∧left≤100000→xs.length≤q →
      FG c room a cur left p xs=(a,piece XS (a,p+runW false left (xs.map c))) :: (divW room q (p+runW false left (xs.map c)) ((xs.drop (runW false left (xs.map c))).map c)).map fun e=>(e.1,piece XS e)
  | [],a,cur,left,p,q,hd,ha,hcur,hl,hq=>by
    cases q <;> simp [FG,runW,divW,hcur]
  | x :: xs,a,cur,left,p,q,hd,ha,hcur,hl,hq=>by
    have hx:x∈XS:=List.mem_of_mem_drop (by rw [hd];simp)
    have hcx:=hc x hx
    have hd':XS.drop (p+1)=xs:=by rw [← Ja,hd];rfl
    unfold FG
    by_cases h:c x≤left
    · rw [if_pos h]
      have hrw:runW false left ((x :: xs).map c)=runW false (left - c x) (xs.map c)+1:=by
        simp only [jP,runW]
        rw [if_pos (.inr h),w64s (by omega)]
      rw [FG_div c room XS hc hr xs a (cur ++ [x]) (left - c x) (p+1) q hd' (by omega) (by rw [hcur];exact piece_snoc hd (by omega)) (by omega) (by simp at hq;omega),hrw]
      rw [show p+1+runW false (left - c x) (xs.map c)=p+(runW false (left - c x) (xs.map c)+1) by omega,List.drop_succ_cons]
    · rw [if_neg h]
      have hrw:runW false left ((x :: xs).map c)=0:=by
        simp only [jP,runW]
        rw [if_neg (by simp;omega)]
      obtain ⟨q',rfl⟩:∃ q',q=q'+1:=⟨q - 1,by simp at hq;omega⟩
      have hrt:runW true room ((x :: xs).map c)=runW false (room - c x) (xs.map c)+1:=by
        simp only [jP,runW,true_or,if_true]
        rw [w64s (by omega)]
      rw [FG_div c room XS hc hr xs p [x] (room - c x) (p+1) q' hd' (by omega) (piece_one hd).symm (by omega) (by simp at hq;omega),hrw,List.drop_zero,hcur]
      simp only [Nat.add_zero]
      congr 1
      simp only [jP,divW]
      rw [← jP,hrt,jP]
      rw [show p+1+runW false (room - c x) (xs.map c)=p+(runW false (room - c x) (xs.map c)+1) by omega,List.drop_succ_cons,List.map_drop]
theorem FG_all {α:Type} (c:α→Int) (room:Int) (x:α) (xs:List α) (hc:∀ y∈x :: xs,0≤c y∧c y≤100000) (hr:0≤room∧room≤100000) :
    FG c room 0 [x] (room - c x) 1 xs=(divP ((x :: xs).map c) room).map fun e=>(e.1,piece (x :: xs) e):=by
  have hcx:=hc x (by simp)
  have hrt:runW true room ((x :: xs).map c)=runW false (room - c x) (xs.map c)+1:=by
    simp only [jP,runW,true_or,if_true]
    rw [w64s (by omega)]
  rw [FG_div c room (x :: xs) hc hr xs 0 [x] (room - c x) 1 xs.length rfl (by omega) rfl (by omega) (jr _),div_R]
  unfold divR
  rw [jq,jE]
  simp only [jP,divW]
  rw [← jP,hrt,jP,List.drop_succ_cons,List.map_drop]
  simp only [Nat.zero_add,jP]
  rw [show 1+runW false (room - c x) (xs.map c)=runW false (room - c x) (xs.map c)+1 by omega]
theorem kidx (a:Nat) (h:a < 4096):ref39_groups_k (a:Int)=idx (a:Int):=by
  have h1:∀ x:Int,jc .u8 x=x % 256:=fun x=>by simp [jc,Jr,Jm]
  have h2:∀ x:Int,jc .u32 x=x % 4294967296:=fun x=>by simp [jc,Jr,Jm]
  have h3:jc .i64 (Int.tdiv (a:Int) 256)=(a:Int) / 256:=by rw [Int.tdiv_eq_ediv_of_nonneg (by omega),wid (by omega)]
  have h4:Int.tmod (a:Int) 256=(a:Int) % 256:=Int.tmod_eq_emod_of_nonneg (by omega)
  simp only [ref39_groups_k,idx,h1,h2,h3,h4]
  simp only [Int.fdiv_eq_ediv_of_nonneg _ (by decide:(0:Int)≤2 ^ 24),Int.fdiv_eq_ediv_of_nonneg _ (by decide:(0:Int)≤2 ^ 16),Int.fdiv_eq_ediv_of_nonneg _ (by decide:(0:Int)≤2 ^ 8)]
  have e1:(2:Int) ^ 24=16777216:=by decide
  have e2:(2:Int) ^ 16=65536:=by decide
  have e3:(2:Int) ^ 8=256:=by decide
  rw [e1,e2,e3]
  simp only [List.cons.injEq,and_true]
  omega
theorem bytes_eq (n:Nat) (x:TLine) (h:x.Text.length≤132):ref39_bytes n x=some (lb x):=by
  unfold ref39_bytes
  rw [gd_pos _ (by omega)]
  rfl
theorem gdata_one (p:Nat) (x:TLine) (h:p < 4096):ref39_groups_k (p:Int) ++ lb x=gdata p [x]:=by
  rw [kidx p h];simp [gdata]
theorem gdata_snoc (a:Nat) (g:List TLine) (x:TLine):gdata a g ++ lb x=gdata a (g ++ [x]):=by simp [gdata]
theorem szl (x:TLine) (h:x.Text.length≤132):szLine x=2+(x.Text.length:Int):=w64s (by omega)
theorem gt_snoc {α:Type} [Inhabited α] (A:List α) (c:α):gt (A ++ [c]) ((A ++ [c]).length - 1)=c:=by simp [gt,List.getD_eq_getElem?_getD]
theorem set_last {α:Type} (A:List α) (c d:α):(A ++ [c]).set ((A ++ [c]).length - 1) d=A ++ [d]:=by
  rw [show (A ++ [c]).length - 1=A.length by simp,List.set_append_right _ _ (jr _)];simp
theorem groups_step (n:Nat) (l:List TLine) (p:Nat) (x:TLine) (D:List (List Int)) (A B:List Int) (hp:p < l.length) (hl:l.length≤4096) (hx:l[p]=x) (hxs:x.Text.length≤132) (hlb:lb x=B) (hB:B.length=2+x.Text.length) (hA:A.length≤1024) (hD:D.length≤4096) :
    ref39_groups_b n l (D ++ [A]) A (p:Int)=(if A.length+B.length≤1024 then some (.inl (D ++ [A ++ B],A ++ B,((p+1:Nat):Int))) else some (.inl (D ++ [A] ++ [ref39_groups_k (p:Int) ++ B],ref39_groups_k (p:Int) ++ B,((p+1:Nat):Int)))):=by
  have e0:decide ((p:Int) < (l.length:Int))=true:=by simp;omega
  have e1:(0:Int)≤(p:Int)∧(p:Int) < (l.length:Int):=by omega
  simp only [ref39_groups_b,e0,cond_true,gd_pos _ e1,jD]
  rw [gt_lt hp,hx,bytes_eq n x hxs,hlb]
  simp only [jo]
  have e2:(D ++ [A]).length=D.length+1:=by simp
  rw [gd_pos _ (by omega),gd_pos _ (.inr (gt_snoc _ _)),wid (by omega)]
  by_cases h:A.length+B.length≤1024
  · have eb:(decide ((D ++ [A]).length=0) || decide ((A.length:Int)+(B.length:Int) > 1024))=false:=by
      simp only [Bool.or_eq_false_iff,decide_eq_false_iff_not];omega
    rw [if_pos h,eb,cond_false,set_last,show ((p:Int)+1)=((p+1:Nat):Int) by omega]
  · have eb:(decide ((D ++ [A]).length=0) || decide ((A.length:Int)+(B.length:Int) > 1024))=true:=by
      simp only [Bool.or_eq_true,decide_eq_true_eq];omega
    rw [if_neg h,eb,cond_true,show ((p:Int)+1)=((p+1:Nat):Int) by omega]
theorem gd_len (a:Nat) (g:List TLine) (x:TLine) {A:List Int} (h:gdata a g=A) {B:List Int} (hB:lb x=B):gdata a (g ++ [x])=A ++ B:=by rw [← gdata_snoc,h,hB]
theorem k_len (p:Nat):(ref39_groups_k (p:Int)).length=4:=rfl
theorem groups_go (n:Nat) (l:List TLine) (hl:l.length≤4096) (hs:shortL l) :
    ∀ (xs:List TLine) (a:Nat) (g:List TLine) (left:Int) (p:Nat) (D:List (List Int)) (A:List Int) (m:Nat),l.drop p=xs→p≤l.length→D.length < p→gdata a g=A→(A.length:Int)=1024 - left→0≤left→xs.length < m →
      loopF (fun (x:List (List Int)×List Int×Int)=>ref39_groups_b n l x.1 x.2.1 x.2.2) m (D ++ [A],A,(p:Int))=some (D ++ (FG szLine 1020 a g left p xs).map fun e=>gdata e.1 e.2)
  | [],a,g,left,p,D,A,m,hd,hp,hdn,hA,hg,hl0,hm=>by
    obtain ⟨m',rfl⟩:∃ m',m=m'+1:=⟨m - 1,by simp at hm;omega⟩
    have hpl:p=l.length:=by have:=Jl.1 hd;omega
    refine loopF_done ?_
    simp only [ref39_groups_b]
    rw [bif_ite,if_neg (by simp;omega),gd_pos _ (.inr (gt_snoc _ _))]
    simp [FG,hA]
  | x :: xs,a,g,left,p,D,A,m,hd,hp,hdn,hA,hg,hl0,hm=>by
    obtain ⟨m',rfl⟩:∃ m',m=m'+1:=⟨m - 1,by simp at hm;omega⟩
    have hp':p < l.length:=by
      rcases jI p l.length with h | h
      · exact h
      · rw [Jl.2 h] at hd;cases hd
    have hx:l[p]=x:=by
      have:=jT hp'
      rw [hd] at this;exact (List.cons.inj this).1.symm
    have hd':l.drop (p+1)=xs:=by rw [← Ja,hd];rfl
    have hxs:x.Text.length≤132:=hs x (by rw [← hx];exact jm hp')
    obtain ⟨B,hlb⟩:∃ B,lb x=B:=⟨_,rfl⟩
    have hB:B.length=2+x.Text.length:=by rw [← hlb];exact lb_len x
    have hsz:=szl x hxs
    have hstep:=groups_step n l p x D A B hp' hl hx hxs hlb hB (by omega) (by omega)
    rw [FG]
    by_cases h:szLine x≤left
    · rw [if_pos (by omega)] at hstep
      rw [loopF_step hstep,if_pos h]
      exact groups_go n l hl hs xs a (g ++ [x]) (left - szLine x) (p+1) D (A ++ B) m' hd' (by omega) (by omega) (gd_len a g x hA hlb) (by rw [jg];omega) (by omega) (by simp at hm;omega)
    · rw [if_neg (by omega)] at hstep
      rw [loopF_step hstep,if_neg h]
      obtain ⟨k,hk⟩:∃ k,ref39_groups_k (p:Int)=k:=⟨_,rfl⟩
      have hkl:=k_len p
      have hgk:=gdata_one p x (by omega)
      rw [hk] at hkl hgk ⊢
      rw [hlb] at hgk
      have:=groups_go n l hl hs xs p [x] (1020 - szLine x) (p+1) (D ++ [A]) (k ++ B) m' hd' (by omega) (by rw [jg,List.length_singleton];omega) hgk.symm (by rw [jg];omega) (by omega) (by simp at hm;omega)
      rw [this,jP,hA,List.append_assoc];rfl
def gsL (l:List TLine):List (List Int):=(divP (List.map szLine l) 1020).map fun e=>gdata e.1 (piece l e)
theorem groups_eq (n:Nat) (l:List TLine) (hn:4097 < n) (hl:l.length≤4096) (hs:shortL l):ref39_groups n l=some (gsL l):=by
  unfold ref39_groups
  obtain ⟨n',rfl⟩:∃ n',n=n'+1:=⟨n - 1,by omega⟩
  match l,hl,hs with
  | [],_,_=>rfl
  | x :: xs,hl,hs =>
    have hxs:x.Text.length≤132:=hs x (by simp)
    obtain ⟨B,hlb⟩:∃ B,lb x=B:=⟨_,rfl⟩
    have hB:B.length=2+x.Text.length:=by rw [← hlb];exact lb_len x
    have hsz:=szl x hxs
    obtain ⟨k,hk⟩:∃ k,ref39_groups_k ((0:Nat):Int)=k:=⟨_,rfl⟩
    have hkl:=k_len 0
    have hgk:=gdata_one 0 x (by omega)
    rw [hk] at hkl hgk
    rw [hlb] at hgk
    have hstep:ref39_groups_b (n'+1) (x :: xs) [] [] 0=some (.inl ([k ++ B],k ++ B,((1:Nat):Int))):=by
      have e0:decide ((0:Int) < ((x :: xs).length:Int))=true:=by simp
      have e1:(0:Int)≤0∧(0:Int) < ((x :: xs).length:Int):=by simp
      simp only [ref39_groups_b,e0,cond_true,gd_pos _ e1]
      rw [show gt (x :: xs) (Int.toNat 0)=x from rfl,bytes_eq _ x hxs,hlb]
      simp only [jo]
      rw [gd_pos _ (by simp only [jV];omega),gd_pos _ (by simp),wid (by omega)]
      simp only [jV,decide_true,Bool.true_or,cond_true,JE]
      rw [show ((0:Nat):Int)=0 from rfl] at hk
      rw [hk];rfl
    rw [loopF_step hstep]
    have:=groups_go (n'+1) (x :: xs) hl hs xs 0 [x] (1020 - szLine x) 1 [] (k ++ B) n' rfl (by simp) (by simp) hgk.symm (by rw [jg];omega) (by omega) (by simp at hl;omega)
    simp only [JE] at this
    rw [this,FG_all szLine 1020 x xs (fun y hy=>by have:=hs y hy;rw [szl y this];omega) (by omega),JB]
    rfl
end Go.Proofs.Ytkebegfopnlkhaa
/-
  ch. 39: the reference lays the records as the program does.
-/
namespace Go.Proofs.Ytkebegfopnlkhaa
open Go.AE Go.RowKit
def TTg (ys:List (List Int)):List TRec:=numb (ys.map mkRec)
theorem TT_len (ys:List (List Int)):(TTg ys).length=ys.length:=by simp [TTg,numb_len]
theorem TT_get (ys:List (List Int)) (k:Nat) (h:k < (TTg ys).length):(TTg ys)[k]=⟨((k+1:Nat):Int),[],ys[k]'(by rw [TT_len] at h;exact h),false⟩:=by
  simp [TTg,numb,mkRec]
theorem TT_snoc (ys:List (List Int)) (d:List Int):TTg (ys ++ [d])=TTg ys ++ [⟨((ys.length+1:Nat):Int),[],d,false⟩]:=by
  simp [TTg,numb,mkRec,List.mapIdx_append]
def useL (ys:List (List Int)):Int:=(ys.map fun d=>32+(d.length:Int)).sum
theorem useL_snoc (ys:List (List Int)) (d:List Int):useL (ys ++ [d])=useL ys+(32+(d.length:Int)):=by simp [useL]
theorem useL_ge (ys:List (List Int)):32 * (ys.length:Int)≤useL ys:=by
  unfold useL
  induction ys with
  | nil=>simp
  | cons d ys ih=>simp only [jP,List.sum_cons,jE];omega
theorem useL_cons (ys:List (List Int)) (d:List Int):useL (d :: ys)=(32+(d.length:Int))+useL ys:=by simp [useL]
theorem one_eq (n:Nat) (r:TRec) (h1:r.Key.length≤2147483648) (h2:r.Data.length≤2147483648):ref15_One n r=some r:=by
  unfold ref15_One
  rw [gd_pos _ h1,gd_pos _ h2]
theorem copy_eq (n:Nat) (t:List TRec) (hn:t.length < n) (ht:t.length≤4096) (h:∀ r∈t,r.Key.length≤2147483648∧r.Data.length≤2147483648):ref15_Copy n t=some t:=by
  have hh:=loop_list (σ:=List TRec) (body:=fun (x:(List TRec)×Int)=>ref15_Copy_b2 n t x.1 x.2) t (fun k b=>(b,(k:Int))) (fun b x=>.inl (b ++ [x])) (fun b=>b) (fun k b=>b.length=k) (s:=[]) rfl
    (fun k hk b hI=>by
      have h1:decide ((k:Int) < (t.length:Int))=true:=by simp;omega
      have h2:(0:Int)≤(k:Int)∧(k:Int) < (t.length:Int):=by omega
      have h3:=h t[k] (jm hk)
      simp only [ref15_Copy_b2,h1,cond_true,gd_pos _ h2,jD,gt_lt hk]
      rw [one_eq n _ h3.1 h3.2]
      simp only [jo]
      rw [gd_pos _ (by omega),wid (by omega),show ((k:Int)+1)=((k+1:Nat):Int) by omega])
    (fun k hk b hI s' he=>by
      simp only [Sum.inl.injEq] at he
      subst he;simp [hI])
    (fun b _=>by simp [ref15_Copy_b2,bif_ite]) hn
  have e:∀ (g b:List TRec),runL (fun b x=>(.inl (b ++ [x]):List TRec ⊕ List TRec)) (fun b=>b) g b=b ++ g:=by
    intro g
    induction g with
    | nil=>intro b;simp [runL]
    | cons x g ih=>intro b;simp [runL,ih]
  rw [e] at hh
  unfold ref15_Copy
  rw [show ((0:Nat):Int)=0 from rfl] at hh
  rw [hh]
  rfl
theorem cost_eq (n:Nat) (k:Int) (d:List Int) (h:d.length≤100000):ref15_Cost n ⟨k,[],d,false⟩=some (32+(d.length:Int)):=by
  have e:decide (((([]:List Int).length:Nat):Int) > 0)=false:=by decide
  simp only [ref15_Cost,e,cond_false,ref15_Cost_k1]
  rw [wid (by omega)]
theorem used_eq (n:Nat) (ys:List (List Int)) (hn:ys.length < n) (hl:ys.length≤4096) (h:∀ d∈ys,d.length≤100000):ref15_Used n (TTg ys)=some (useL ys):=by
  have hh:=loop_list (σ:=Int) (body:=fun (x:Int×Int)=>ref15_Used_b2 n (TTg ys) x.1 x.2) ys (fun k b=>(b,(k:Int))) (fun b x=>.inl (b+(32+(x.length:Int)))) (fun b=>b) (fun k b=>0≤b∧b≤200000 * (k:Int)) (s:=0) (by omega)
    (fun k hk b hI=>by
      have hk':k < (TTg ys).length:=by rw [TT_len];exact hk
      have h1:decide ((k:Int) < ((TTg ys).length:Int))=true:=by simp;omega
      have h2:(0:Int)≤(k:Int)∧(k:Int) < ((TTg ys).length:Int):=by omega
      have h3:=h ys[k] (jm hk)
      simp only [ref15_Used_b2,h1,cond_true,gd_pos _ h2,jD,gt_lt hk',TT_get]
      rw [cost_eq n _ _ h3]
      simp only [jo]
      generalize ys[k].length=L at h3 ⊢
      rw [wid (n:=b+(32+(L:Int))) (by omega),wid (by omega),show ((k:Int)+1)=((k+1:Nat):Int) by omega])
    (fun k hk b hI s' he=>by
      have h3:=h ys[k] (jm hk)
      simp only [Sum.inl.injEq] at he
      subst he
      generalize ys[k].length=L at h3 ⊢
      omega)
    (fun b _=>by simp [ref15_Used_b2,bif_ite,TT_len]) hn
  have e:∀ (g:List (List Int)) (b:Int),runL (fun b x=>(.inl (b+(32+(x.length:Int))):Int ⊕ Int)) (fun b=>b) g b=b+useL g:=by
    intro g
    induction g with
    | nil=>intro b;simp [runL,useL]
    | cons x g ih=>intro b;simp only [runL,ih,useL_cons];omega
  rw [e] at hh
  unfold ref15_Used
  rw [show ((0:Nat):Int)=0 from rfl] at hh
  rw [hh,Int.zero_add]
  rfl
theorem rvalid_eq (n:Nat) (ys:List (List Int)) (hn:ys.length < n) (hl:ys.length≤255) (h:∀ d∈ys,d.length≤100000):ref15_Valid n (TTg ys)=some (decide (useL ys≤2048)):=by
  have hh:=loop_list (σ:=Unit) (body:=fun (x:Int)=>ref15_Valid_b2 n (TTg ys) x) ys (fun k _=>(k:Int)) (fun b x=>.inl b) (fun b=>.inr ()) (fun k b=>True) (s:=()) trivial
    (fun k hk b hI=>by
      have hk':k < (TTg ys).length:=by rw [TT_len];exact hk
      have hT:(TTg ys).length=ys.length:=TT_len ys
      have h1:decide ((k:Int) < ((TTg ys).length:Int))=true:=by simp;omega
      have h2:(0:Int)≤(k:Int)∧(k:Int) < ((TTg ys).length:Int):=by omega
      have hw:k≠0→jc .i64 ((k:Int) - 1)=((k - 1:Nat):Int):=fun h0=>by rw [wid (by omega)];omega
      have hr:ref15_record n (TTg ys)[k]=some true:=by
        rw [TT_get]
        have a1:decide ((((k+1:Nat):Int)) ≥ 1)=true:=by simp;omega
        have a2:decide ((((k+1:Nat):Int))≤255)=true:=by simp;omega
        simp only [ref15_record,a1,a2,if_true]
        rfl
      simp only [ref15_Valid_b2,h1,cond_true,gd_pos _ h2,jD,gt_lt hk',hr,jo,Bool.not_true,Bool.not_false,Bool.true_and,jj,if_false]
      rw [gd_pos _ ⟨fun _=>h2,fun hz=>by
        have h0:k≠0:=by simp at hz;omega
        rw [hw h0];omega⟩]
      have hc:(if decide ((k:Int) > 0)=true then decide ((TTg ys)[k].R≤(gt (TTg ys) (jc .i64 ((k:Int) - 1)).toNat).R) else false)=false:=by
        by_cases h0:k=0
        · subst h0;simp
        · have hk1:k - 1 < (TTg ys).length:=by omega
          rw [hw h0,jD,gt_lt hk1,TT_get,TT_get]
          simp only [Bool.if_false_right,Bool.and_eq_false_iff,decide_eq_false_iff_not]
          right;omega
      rw [hc,cond_false,wid (by omega),show ((k:Int)+1)=((k+1:Nat):Int) by omega])
    (fun k hk b hI s' he=>trivial)
    (fun b _=>by simp [ref15_Valid_b2,bif_ite,TT_len]) hn
  have e:∀ (g:List (List Int)) (b:Unit),runL (fun b x=>(.inl b:Unit ⊕ (Bool ⊕ Unit))) (fun b=>.inr ()) g b = .inr ():=by
    intro g
    induction g with
    | nil=>intro b;simp [runL]
    | cons x g ih=>intro b;simp only [runL,ih]
  rw [e] at hh
  unfold ref15_Valid
  rw [show ((0:Nat):Int)=0 from rfl] at hh
  rw [hh]
  simp only [jo,ref15_Valid_k1,used_eq n ys hn (by omega) h]
theorem fits_at (n:Nat) (ys:List (List Int)) (d:List Int) (hn:4096 < n) (hl:ys.length≤64) (h:∀ e∈ys,e.length≤100000) (hd:d.length≤100000) :
    ref15_Fits n (TTg ys) ⟨((ys.length+1:Nat):Int),[],d,false⟩=some (decide (useL ys+(32+(d.length:Int))≤2048)):=by
  have hT:(TTg ys).length=ys.length:=TT_len ys
  unfold ref15_Fits
  rw [copy_eq n (TTg ys) (by omega) (by omega) (fun r hr=>by
    obtain ⟨k,hk,rfl⟩:=List.getElem_of_mem hr
    rw [TT_get]
    have:=h _ (jm (by rw [TT_len] at hk;exact hk:k < ys.length))
    exact ⟨by simp,by simp only;omega⟩)]
  simp only [jo]
  rw [gd_pos _ (by omega),← TT_snoc,rvalid_eq n (ys ++ [d]) (by simp;omega) (by simp;omega) (fun e he=>by
    rcases jk.1 he with h1 | h1
    · exact h e h1
    · rw [Jt.1 h1];exact hd),useL_snoc]
  rfl
def dsz (d:List Int):Int:=32+(d.length:Int)
theorem TT_one (d:List Int):TTg [d]=[⟨1,[],d,false⟩]:=by simp [TTg,numb,mkRec]
theorem layout_step (n:Nat) (gs:List (List Int)) (p:Nat) (d:List Int) (D:List (List TRec)) (cur:List (List Int)) (hn:4096 < n) (hp:p < gs.length) (hl:gs.length≤4096) (hx:gs[p]=d) (hd:d.length≤100000) (hc:∀ e∈cur,e.length≤100000) (hu:useL cur≤2048) (hD:D.length≤4096) :
    ref39_Layout_b n gs (D ++ [TTg cur]) (TTg cur) (p:Int)=(if useL cur+(32+(d.length:Int))≤2048 then some (.inl (D ++ [TTg (cur ++ [d])],TTg (cur ++ [d]),((p+1:Nat):Int))) else some (.inl (D ++ [TTg cur] ++ [TTg [d]],TTg [d],((p+1:Nat):Int)))):=by
  have e0:decide ((p:Int) < (gs.length:Int))=true:=by simp;omega
  have e1:(0:Int)≤(p:Int)∧(p:Int) < (gs.length:Int):=by omega
  have hcl:cur.length≤64:=by have:=useL_ge cur;omega
  have hT:(TTg cur).length=cur.length:=TT_len cur
  have hsn:=TT_snoc cur d
  have hf:=fits_at n cur d hn hcl hc hd
  simp only [ref39_Layout_b,e0,cond_true,gd_pos _ e1,jD]
  rw [gt_lt hp,hx,hT]
  obtain ⟨T,hTT⟩:∃ T,TTg cur=T:=⟨_,rfl⟩
  rw [hTT] at hT hsn hf ⊢
  have e2:(D ++ [T]).length=D.length+1:=by simp
  rw [gd_pos _ (by omega),gd_pos _ (.inr (gt_snoc _ _)),wid (n:=(cur.length:Int)+1) (by omega),show ((cur.length:Int)+1)=((cur.length+1:Nat):Int) by omega,hf,← hsn,← TT_one,wid (by omega),show ((p:Int)+1)=((p+1:Nat):Int) by omega]
  have eb:decide ((D ++ [T]).length=0)=false:=by simp
  rw [eb]
  simp only [cond_false,jo]
  by_cases h:useL cur+(32+(d.length:Int))≤2048
  · rw [if_pos h,decide_eq_true h,cond_true,set_last]
  · rw [if_neg h,decide_eq_false h,cond_false]
theorem layout_go (n:Nat) (gs:List (List Int)) (hn:4096 < n) (hl:gs.length≤4096) (hsz:∀ d∈gs,d.length≤2000) :
    ∀ (xs:List (List Int)) (a:Nat) (cur:List (List Int)) (left:Int) (p:Nat) (D:List (List TRec)) (m:Nat),gs.drop p=xs→p≤gs.length→D.length < p→(∀ e∈cur,e.length≤2000)→useL cur=2048 - left→0≤left→xs.length < m →
      loopF (fun (x:List (List TRec)×List TRec×Int)=>ref39_Layout_b n gs x.1 x.2.1 x.2.2) m (D ++ [TTg cur],TTg cur,(p:Int))=some (D ++ (FG dsz 2048 a cur left p xs).map fun e=>TTg e.2)
  | [],a,cur,left,p,D,m,hd,hp,hdn,hc,hu,hl0,hm=>by
    obtain ⟨m',rfl⟩:∃ m',m=m'+1:=⟨m - 1,by simp at hm;omega⟩
    have hpl:p=gs.length:=by have:=Jl.1 hd;omega
    refine loopF_done ?_
    simp only [ref39_Layout_b]
    rw [bif_ite,if_neg (by simp;omega),gd_pos _ (.inr (gt_snoc _ _))]
    simp [FG]
  | d :: xs,a,cur,left,p,D,m,hd,hp,hdn,hc,hu,hl0,hm=>by
    obtain ⟨m',rfl⟩:∃ m',m=m'+1:=⟨m - 1,by simp at hm;omega⟩
    have hp':p < gs.length:=by
      rcases jI p gs.length with h | h
      · exact h
      · rw [Jl.2 h] at hd;cases hd
    have hx:gs[p]=d:=by
      have:=jT hp'
      rw [hd] at this;exact (List.cons.inj this).1.symm
    have hd':gs.drop (p+1)=xs:=by rw [← Ja,hd];rfl
    have hxs:d.length≤2000:=hsz d (by rw [← hx];exact jm hp')
    have hstep:=layout_step n gs p d D cur hn hp' hl hx (by omega) (fun e he=>by have:=hc e he;omega) (by omega) (by omega)
    have hds:dsz d=32+(d.length:Int):=rfl
    rw [FG]
    by_cases h:dsz d≤left
    · rw [if_pos (by omega)] at hstep
      rw [loopF_step hstep,if_pos h]
      exact layout_go n gs hn hl hsz xs a (cur ++ [d]) (left - dsz d) (p+1) D m' hd' (by omega) (by omega) (fun e he=>by
        rcases jk.1 he with h1 | h1
        · exact hc e h1
        · rw [Jt.1 h1];exact hxs) (by rw [useL_snoc];omega) (by omega) (by simp at hm;omega)
    · rw [if_neg (by omega)] at hstep
      rw [loopF_step hstep,if_neg h]
      have:=layout_go n gs hn hl hsz xs p [d] (2048 - dsz d) (p+1) (D ++ [TTg cur]) m' hd' (by omega) (by rw [jg,List.length_singleton];omega) (fun e he=>by rw [Jt.1 he];exact hxs) (by rw [useL_cons];simp only [useL,List.map_nil,List.sum_nil];omega) (by omega) (by simp at hm;omega)
      rw [this,jP,List.append_assoc];rfl
theorem layout_eq (n:Nat) (l:List TLine) (gs:List (List Int)) (hn:4097 < n) (hg:ref39_groups n l=some gs) (hl:gs.length≤4096) (hsz:∀ d∈gs,d.length≤2000) :
    ref39_Layout n l=some ((divP (gs.map dsz) 2048).map fun e=>TTg (piece gs e)):=by
  unfold ref39_Layout
  rw [hg]
  simp only [jo]
  obtain ⟨n',rfl⟩:∃ n',n=n'+1:=⟨n - 1,by omega⟩
  match gs,hl,hsz with
  | [],_,_=>rfl
  | d :: xs,hl,hsz =>
    have hxs:d.length≤2000:=hsz d (by simp)
    have hstep:ref39_Layout_b (n'+1) (d :: xs) [] [] 0=some (.inl ([TTg [d]],TTg [d],((1:Nat):Int))):=by
      have e0:decide ((0:Int) < ((d :: xs).length:Int))=true:=by simp
      have e1:(0:Int)≤0∧(0:Int) < ((d :: xs).length:Int):=by simp
      simp only [ref39_Layout_b,e0,cond_true,gd_pos _ e1]
      rw [gd_pos _ (by simp),gd_pos _ (by simp),wid (by omega),show gt (d :: xs) (Int.toNat 0)=d from rfl,← TT_one]
      simp only [jV,decide_true,cond_true,JE]
      rfl
    rw [loopF_step hstep]
    have hds:dsz d=32+(d.length:Int):=rfl
    have:=layout_go (n'+1) (d :: xs) (by omega) hl hsz xs 0 [d] (2048 - dsz d) 1 [] n' rfl (by simp) (by simp) (fun e he=>by rw [Jt.1 he];exact hxs) (by rw [useL_cons];simp only [useL,List.map_nil,List.sum_nil];omega) (by omega) (by simp at hl;omega)
    simp only [JE] at this
    rw [this,FG_all dsz 2048 d xs (fun y hy=>by have:=hsz y hy;unfold dsz;omega) (by omega),JB]
    rfl
theorem gsL_len (l:List TLine):(gsL l).length=(recsL l).length:=by simp [gsL,recsL]
theorem recsL_gs (l:List TLine):recsL l=(gsL l).map mkRec:=by simp [gsL,recsL]
theorem szRec_mk (d:List Int) (h:d.length≤100000):szRec (mkRec d)=dsz d:=by
  unfold szRec sz49 mkRec dsz
  simp only [jV,if_true]
  exact w64s (by omega)
theorem FG_sz:∀ (xs:List TLine) (a:Nat) (g:List TLine) (left:Int) (p:Nat),shortL xs→((g.flatMap lb).length:Int)=1020 - left→0≤left→∀ e∈FG szLine 1020 a g left p xs,(e.2.flatMap lb).length≤1020
  | [],a,g,left,p,hs,hg,hl,e,he=>by
    simp only [FG,Jt] at he
    subst he
    simp only
    generalize (g.flatMap lb).length=L at hg ⊢
    omega
  | x :: xs,a,g,left,p,hs,hg,hl,e,he=>by
    have hx:x.Text.length≤132:=hs x (by simp)
    have hsz:=szl x hx
    have hs':shortL xs:=fun y hy=>hs y (by simp [hy])
    rw [FG] at he
    by_cases h:szLine x≤left
    · rw [if_pos h] at he
      refine FG_sz xs a (g ++ [x]) (left - szLine x) (p+1) hs' ?_ (by omega) e he
      have e1:(g ++ [x]).flatMap lb=g.flatMap lb ++ lb x:=by simp
      have e2:=lb_len x
      rw [e1,jg]
      generalize (g.flatMap lb).length=L at hg ⊢
      generalize (lb x).length=B at e2 ⊢
      omega
    · rw [if_neg h] at he
      rcases List.mem_cons.1 he with rfl | he
      · simp only
        generalize (g.flatMap lb).length=L at hg ⊢
        omega
      · refine FG_sz xs p [x] (1020 - szLine x) (p+1) hs' ?_ (by omega) e he
        have e1:[x].flatMap lb=lb x:=by simp
        have e2:=lb_len x
        rw [e1]
        generalize (lb x).length=B at e2 ⊢
        omega
theorem gsL_sz (l:List TLine) (hs:shortL l):∀ d∈gsL l,d.length≤2000:=by
  intro d hd
  match l,hs,hd with
  | [],hs,hd=>simp [gsL,divP,divF] at hd
  | x :: xs,hs,hd =>
    have hx:x.Text.length≤132:=hs x (by simp)
    have hsz:=szl x hx
    obtain ⟨e,he,rfl⟩:=Jk.1 hd
    have hf:=FG_all szLine 1020 x xs (fun y hy=>by have:=hs y hy;rw [szl y this];omega) (by omega)
    have hm:(e.1,piece (x :: xs) e)∈FG szLine 1020 0 [x] (1020 - szLine x) 1 xs:=by rw [hf];exact Jk.2 ⟨e,he,rfl⟩
    have h1:=FG_sz xs 0 [x] (1020 - szLine x) 1 (fun y hy=>hs y (by simp [hy])) (by
      have e1:[x].flatMap lb=lb x:=by simp
      have e2:=lb_len x
      rw [e1]
      generalize (lb x).length=B at e2 ⊢
      omega) (by omega) _ hm
    simp only at h1
    unfold gdata
    rw [jg,idx_len]
    generalize ((piece (x :: xs) e).flatMap lb).length=L at h1 ⊢
    omega
theorem tr_eq (gs:List (List Int)) (hsz:∀ d∈gs,d.length≤2000):tracksR (gs.map mkRec)=(divP (gs.map dsz) 2048).map fun e=>TTg (piece gs e):=by
  unfold tracksR
  have e:(gs.map mkRec).map szRec=gs.map dsz:=by
    rw [JB]
    refine j3 fun d hd=>?_
    rw [Function.comp_apply]
    exact szRec_mk d (jU (hsz d hd) (by decide))
  rw [e]
  refine j3 fun e _=>?_
  unfold TTg piece
  rw [List.map_take,List.map_drop]
theorem layout_all (n:Nat) (l:List TLine) (hn:4097 < n) (hl:l.length≤4096) (hs:shortL l):ref39_Layout n l=some (trkL l):=by
  have hsz:=gsL_sz l hs
  have h1:=layout_eq n l (gsL l) hn (groups_eq n l hn hl hs) (jU (Nat.le_of_eq (gsL_len l)) (jU (recsL_len l) hl)) hsz
  have h2:=tr_eq (gsL l) hsz
  rw [← recsL_gs] at h2
  exact h1.trans (congrArg some h2.symm)
end Go.Proofs.Ytkebegfopnlkhaa
/-
  ch. 39: SpoolLays.
-/
namespace Go.Proofs.Ytkebegfopnlkhaa
open Go.AE Go.RowKit
theorem rTracks_eq (n:Nat) (l:List TLine) (hn:N0≤n):ref39_Tracks n l=some (tracksS l):=by
  have hn0:4194304≤n:=hn
  unfold tracksS ref39_Tracks
  by_cases c1:l.length > 4096
  · have:decide ((l.length:Int) > 4096)=true:=by simp;omega
    simp only [this,cond_true,c1,if_true]
  · have:decide ((l.length:Int) > 4096)=false:=by simp;omega
    simp only [this,cond_false,c1,if_false]
    have h4:=loop_any (n:=n) (body:=fun (x:Int)=>ref39_Tracks_b4 n l x) l longT (.inl ([],2)) (.inr ())
      (fun k hk=>by
        have h1:decide ((k:Int) < (l.length:Int))=true:=by simp;omega
        have h2:(0:Int)≤(k:Int)∧(k:Int) < (l.length:Int):=by omega
        simp only [ref39_Tracks_b4,h1,cond_true,gd_pos _ h2,jD,gt_lt hk]
        rw [wid (by omega),show ((k:Int)+1)=((k+1:Nat):Int) by omega]
        show (bif longT l[k] then _ else _)=_
        by_cases hp:longT l[k]=true <;> simp [hp])
      (by simp [ref39_Tracks_b4,bif_ite]) (by omega)
    rw [h4]
    simp only [jo]
    by_cases c2:l.any longT=true
    · simp only [c2,if_true]
    · rw [JS] at c2
      simp only [c2,jj,if_false,ref39_Tracks_k1]
      have h3:=loop_any (n:=n) (body:=fun (x:Int)=>ref39_Tracks_b3 n l x) l badC (.inl ([],1)) (.inr ())
        (fun k hk=>by
          have h1:decide ((k:Int) < (l.length:Int))=true:=by simp;omega
          have h2:(0:Int)≤(k:Int)∧(k:Int) < (l.length:Int):=by omega
          simp only [ref39_Tracks_b3,h1,cond_true,jD,gt_lt hk]
          rw [gd_pos _ ⟨h2,fun _=>h2⟩,wid (by omega),show ((k:Int)+1)=((k+1:Nat):Int) by omega]
          show (bif badC l[k] then _ else _)=_
          by_cases hp:badC l[k]=true <;> simp [hp])
        (by simp [ref39_Tracks_b3,bif_ite]) (by omega)
      rw [h3]
      simp only [jo]
      by_cases c3:l.any badC=true
      · simp only [c3,if_true]
      · rw [JS] at c3
        simp only [c3,jj,if_false,ref39_Tracks_k2]
        rw [layout_all n l (by omega) (by omega) (fun x hx=>by
          have:=List.any_eq_false.1 c2 x hx
          simp [longT] at this
          omega)]
        rfl
theorem divP_len (cs:List Int) (room:Int):(divP cs room).length≤cs.length:=by
  unfold divP;exact divF_len cs room cs.length 0
theorem tracksS_sz (l:List TLine):(tracksS l).1.length≤4096∧∀ x∈(tracksS l).1,x.length≤4096:=by
  unfold tracksS
  split
  · simp
  · rename_i h0
    split
    · simp
    · split
      · simp
      · have hr:=recsL_len l
        have hr':(recsL l).length≤4096:=jU hr (by omega)
        unfold trkL tracksR
        generalize recsL l=rs at hr'
        refine ⟨?_,fun x hx=>?_⟩
        · rw [jq]
          have:=divP_len (rs.map szRec) 2048
          rw [jq] at this
          exact jU this hr'
        · obtain ⟨e,he,rfl⟩:=Jk.1 hx
          rw [numb_len]
          unfold piece
          rw [List.length_take,List.length_drop]
          omega
theorem few_eq (n:Nat) (l:List TLine) (hn:N0≤n):∃ r,law39_Few n l=some r∧r.length≤300:=by
  have hn0:4194304≤n:=hn
  obtain ⟨y,h1,h2⟩:=loopF_inv (body:=fun (x:(List TLine)×Int)=>law39_Few_b2 n l x.1 x.2) (fun x=>0≤x.2∧x.2≤300∧(x.1.length:Int)=x.2) (fun x=>(300 - x.2).toNat) (fun y=>y.length≤300)
    (fun ⟨out,i⟩ ⟨hi1,hi2,hi3⟩=>by
      simp only at hi1 hi2 hi3 ⊢
      unfold law39_Few_b2
      by_cases c:(if (decide (i < (l.length:Int)))=true then (decide (i < 300)) else false)=true
      · have c':i < (l.length:Int)∧i < 300:=by
          simp only [Bool.if_false_right,Bool.and_eq_true,decide_eq_true_eq] at c;exact c
        left
        rw [c,cond_true,gd_pos _ (by omega),gd_pos _ (by split <;> omega),gd_pos _ (by omega),wid (by omega)]
        exact ⟨_,rfl,⟨by simp only;omega,by simp only;omega,by simp only [jg,List.length_singleton];omega⟩,by simp only;omega⟩
      · rw [JS] at c
        right
        rw [c,cond_false]
        exact ⟨_,rfl,by omega⟩) n ([],0) (by simp) (by simp;omega)
  refine ⟨y,?_,h2⟩
  simp only [law39_Few,h1,jo,law39_Few_k1]
end Go.Proofs.Ytkebegfopnlkhaa
