/- Text. -/
import Derived.Test.YtkebegfopnlkhaaAE21
import Derived.Test.YtkebegfopnlkhaaF
set_option linter.unusedSimpArgs false
set_option linter.unusedVariables false
set_option maxRecDepth 100000
set_option linter.unusedSimpArgs false
set_option linter.unusedVariables false
namespace Go.Proofs.Ytkebegfopnlkhaa
open Go.AE
def N0:Nat:=4194304
theorem wid {n:Int} (h:-4611686018427387904≤n∧n≤4611686018427387904):IntKind.wrap .i64 n=n:=w64_id (by omega) (by omega)
theorem bif_ite {α:Type} (b:Bool) (x y:α):(bif b then x else y)=if b=true then x else y:=by cases b <;> rfl
def val (x:TExtent):Bool:=decide (0≤x.At∧1≤x.Len∧x.At < 512∧x.Len≤512 - x.At)
def mark (s:List Int):List Bool:=(List.range 512).map fun (k:Nat)=>decide ((k:Int)∈s)
theorem few:∀ {m:Nat} {s:List Int},s.Nodup→(∀ k∈s,0≤k∧k < (m:Int))→s.length≤m
  | 0,s,hn,hr=>by
    cases s with
    | nil=>simp
    | cons k t=>have:=hr k (by simp);omega
  | m+1,s,hn,hr=>by
    have h:=few (m:=m) (s:=s.erase (m:Int)) (hn.erase _) (fun k hk=>by
      have h1:=(List.Nodup.mem_erase_iff hn).1 hk
      have:=hr k h1.2
      have:=h1.1
      omega)
    rw [List.length_erase] at h
    split at h <;> omega
def addT (out:List TExtent) (k:Int):List TExtent :=
  if 0 < out.length∧(gt out (out.length - 1)).At+(gt out (out.length - 1)).Len=k then out.set (out.length - 1) ⟨(gt out (out.length - 1)).At,(gt out (out.length - 1)).Len+1⟩ else out ++ [⟨k,1⟩]
def nrm (p:List Bool):List TExtent:=(List.range 512).foldl (fun out (k:Nat)=>if gt p k then addT out (k:Int) else out) []
def isL (r:List TExtent) (k:Nat):Prop:=k < r.length∧(∀ j,j < r.length→(gt r j).Len≤(gt r k).Len)∧∀ j,j < k→(gt r j).Len < (gt r k).Len
def cut (r:List TExtent) (k:Nat) (w:Int):List TExtent:=if (gt r k).Len=w then r.eraseIdx k else r.set k ⟨(gt r k).At+w,(gt r k).Len - w⟩
def apart (x y:TExtent):Prop:=x.At+x.Len≤y.At
def mn (a b:Int):Int:=if a < b then a else b
def fr (m:Int):Int→List TExtent→List TExtent
  | a,[]=>if a < m then [⟨a,m - a⟩] else []
  | a,x :: l=>(if a < mn m x.At then [⟨a,mn m x.At - a⟩] else []) ++ fr m (x.At+x.Len) l
inductive Sel:Nat→List TExtent→Int→Prop
  | zero (r:List TExtent):Sel 0 r 0
  | nil (c:Nat):Sel c [] 0
  | step (c:Nat) (r:List TExtent) (k:Nat) (s:Int) (h:isL r k) (hs:Sel c (r.eraseIdx k) s):Sel (c+1) r ((gt r k).Len+s)
end Go.Proofs.Ytkebegfopnlkhaa
/-
  ch. 39: what spool.Tracks computes.
-/
set_option maxRecDepth 100000
namespace Go.Proofs.Ytkebegfopnlkhaa
open Go.AE
def idx (a:Int):List Int:=[IntKind.wrap .u8 (Int.fdiv (IntKind.wrap .u32 a) (2 ^ 24)),IntKind.wrap .u8 (Int.fdiv (IntKind.wrap .u32 a) (2 ^ 16)),IntKind.wrap .u8 (Int.fdiv (IntKind.wrap .u32 a) (2 ^ 8)),IntKind.wrap .u8 (IntKind.wrap .u32 a)]
theorem idx_len (a:Int):(idx a).length=4:=rfl
theorem fits_eq (n:Nat) (b:List Int) (h:b.length=4):word_fits n b 0 4=some true:=by
  simp only [word_fits,h]
  rw [wid (by omega)]
  rfl
theorem put_eq (n:Nat) (a b c d:Int):word_put n (zreps 4 0) 0 [a,b,c,d]=some ([a,b,c,d],true):=by
  have h:=fits_eq n (zreps 4 0) rfl
  have e:(([a,b,c,d]:List Int).length:Int)=4:=rfl
  simp only [word_put,e,h,Option.bind_some]
  rfl
theorem index_eq (n:Nat) (a:Int):spool_index n a=some (idx a):=by
  simp only [spool_index,word_PutFull,put_eq,Option.bind_some]
  rw [gd_pos _ (by decide)]
  rfl
def lb (x:TLine):List Int:=[IntKind.wrap .u8 x.Ctl,IntKind.wrap .u8 (x.Text.length:Int)] ++ fromStr8 x.Text
theorem lb_len (x:TLine):(lb x).length=2+x.Text.length:=by simp [lb,fromStr8_len];omega
def gdata (a:Nat) (g:List TLine):List Int:=idx (a:Int) ++ g.flatMap lb
def shortL (l:List TLine):Prop:=∀ x∈l,x.Text.length≤132
theorem runL_app {α β:Type} (f:α→List β):∀ (g:List α) (b:List β),runL (fun b x=>(.inl (b ++ f x):List β ⊕ List β)) (fun b=>b) g b=b ++ g.flatMap f
  | [],b=>by simp [runL]
  | x :: g,b=>by simp [runL,runL_app f g]
theorem group_loop (n:Nat) (rs:List TRec) (l g:List TLine) (b:List Int) (hn:g.length < n) (hg:shortL g) (hl:g.length≤4096) (hb:b.length≤1024) :
    loopF (fun (x:(List Int)×Int)=>spool_Tracks_b8 n rs l g (g.length:Int) x.1 x.2) n (b,0)=some (b ++ g.flatMap lb):=by
  have h:=loop_list (σ:=List Int) (body:=fun (x:(List Int)×Int)=>spool_Tracks_b8 n rs l g (g.length:Int) x.1 x.2) g (fun k b=>(b,(k:Int))) (fun b x=>.inl (b ++ lb x)) (fun b=>b) (fun k b=>b.length≤1024+134 * k) (s:=b) (by omega)
    (fun k hk b hI=>by
      have h1:decide ((k:Int) < (g.length:Int))=true:=by simp;omega
      have h2:(0:Int)≤(k:Int)∧(k:Int) < (g.length:Int):=by omega
      have h3:=hg g[k] (List.getElem_mem hk)
      simp only [spool_Tracks_b8,h1,bif_ite,if_true,gd_pos _ h2,Int.toNat_natCast,gt_lt hk]
      rw [gd_pos _ (by omega),wid (by omega)]
      simp [lb])
    (fun k hk b hI s' he=>by
      simp only [Sum.inl.injEq] at he
      subst he
      have h3:=hg g[k] (List.getElem_mem hk)
      rw [List.length_append,lb_len];omega)
    (fun b _=>by simp [spool_Tracks_b8,bif_ite]) hn
  rw [runL_app] at h
  exact h
def mkRec (b:List Int):TRec:=⟨0,[],b,false⟩
theorem b6_eq (n:Nat) (rs:List TRec) (l g:List TLine) (a:Nat) (hn:g.length < n) (hg:shortL g) (hl:g.length≤4096) (hr:rs.length≤4096) :
    spool_Tracks_b6 n rs l (a:Int) g=some (rs ++ [mkRec (gdata a g)]):=by
  simp only [spool_Tracks_b6,index_eq,Option.bind_some,group_loop n rs l g (idx a) hn hg hl (by rw [idx_len];omega),spool_Tracks_k7]
  rw [gd_pos _ (by omega)]
  rfl
theorem divF_len (cs:List Int) (room:Int):∀ q fr,(divF cs room q fr).length≤q
  | 0,fr=>by simp [divF]
  | q+1,fr=>by
    unfold divF;split
    · have:=divF_len cs room q (reachP cs fr cs.length fr room)
      simp only [List.length_cons];omega
    · simp
theorem divP_mem {cs:List Int} {room:Int} {e:Nat×Nat} (h:e∈divP cs room):e.1 < e.2∧e.2≤cs.length:=by
  obtain ⟨k,hk,rfl⟩:=List.getElem_of_mem h
  exact divF_mem cs room cs.length 0 k _ (List.getElem?_eq_getElem hk)
def piece {α:Type} (l:List α) (e:Nat×Nat):List α:=List.take (e.2 - e.1) (List.drop e.1 l)
theorem piece_len {α:Type} {l:List α} {e:Nat×Nat} (h:e.2≤l.length):(piece l e).length=e.2 - e.1:=by simp [piece];omega
theorem piece_mem {α:Type} {l:List α} {e:Nat×Nat} {x:α} (h:x∈piece l e):x∈l:=List.mem_of_mem_drop (List.mem_of_mem_take h)
def recsL (l:List TLine):List TRec:=(divP (List.map szLine l) 1020).map fun e=>mkRec (gdata e.1 (piece l e))
theorem first_loop (n:Nat) (l:List TLine) (hn:4096 < n) (hl:l.length≤4096) (hs:shortL l) :
    rangeL (fun (x:(List TRec)) (e:Nat×Nat)=>spool_Tracks_b6 n x l (e.1:Int) (List.take (e.2 - e.1) (List.drop e.1 l))) [] (divP (List.map szLine l) 1020)=some (recsL l):=by
  have hL:(divP (List.map szLine l) 1020).length≤4096:=by
    have:=divF_len (List.map szLine l) 1020 (List.map szLine l).length 0
    rw [List.length_map] at this
    unfold divP;rw [List.length_map];omega
  have key:∀ (L:List (Nat×Nat)) (x:List TRec),(∀ e∈L,e∈divP (List.map szLine l) 1020)→x.length+L.length≤4096 →
      rangeL (fun (x:(List TRec)) (e:Nat×Nat)=>spool_Tracks_b6 n x l (e.1:Int) (List.take (e.2 - e.1) (List.drop e.1 l))) x L=some (x ++ L.map fun e=>mkRec (gdata e.1 (piece l e))):=by
    intro L
    induction L with
    | nil=>intro x _ _;simp [rangeL]
    | cons e L ih =>
      intro x he hx
      obtain ⟨h1,h2⟩:=divP_mem (he e (by simp))
      rw [List.length_map] at h2
      have hp:=piece_len h2
      have h:=b6_eq n x l (piece l e) e.1 (by omega) (fun y hy=>hs y (piece_mem hy)) (by omega) (by omega)
      simp only [List.length_cons] at hx
      simp only [rangeL]
      rw [show List.take (e.2 - e.1) (List.drop e.1 l)=piece l e from rfl,h]
      simp only [Option.bind_some]
      rw [ih _ (fun e' h'=>he e' (by simp [h'])) (by simp;omega)]
      simp
  have:=key _ [] (fun e h=>h) (by simpa using hL)
  simpa [recsL] using this
def numb (t:List TRec):List TRec:=t.mapIdx fun i r=>⟨((i+1:Nat):Int),r.Key,r.Data,r.Bad⟩
theorem numb_len (t:List TRec):(numb t).length=t.length:=by simp [numb]
theorem clone_eq (n:Nat) (s:List TRec) (o m:Nat) (h:s.length≤4096):slices_Clone_f50_M1 n s o m=some (List.take m (List.drop o s)):=by
  simp only [slices_Clone_f50_M1]
  have h2:(List.take m (List.drop o s)).length≤2147483648:=by simp;omega
  generalize List.take m (List.drop o s)=t at h2 ⊢
  cases t with
  | nil=>rfl
  | cons x t=>simp only [uniB,List.isEmpty_cons,Bool.false_eq_true,if_false,cond_false];rw [gd_pos _ h2]
def numAt (s:List TRec) (o k:Nat):List TRec:=s.mapIdx fun i r=>if o≤i∧i < o+k then ⟨((i - o+1:Nat):Int),r.Key,r.Data,r.Bad⟩ else r
theorem numAt_len (s:List TRec) (o k:Nat):(numAt s o k).length=s.length:=by simp [numAt]
theorem numAt_get {s:List TRec} {o k i:Nat} (h:i < (numAt s o k).length):(numAt s o k)[i]=if o≤i∧i < o+k then ⟨((i - o+1:Nat):Int),(s[i]'(by rw [numAt_len] at h;exact h)).Key,(s[i]'(by rw [numAt_len] at h;exact h)).Data,(s[i]'(by rw [numAt_len] at h;exact h)).Bad⟩ else s[i]'(by rw [numAt_len] at h;exact h):=by simp [numAt]
theorem numAt_zero (s:List TRec) (o:Nat):numAt s o 0=s:=by
  apply List.ext_getElem
  · exact numAt_len s o 0
  · intro i h1 h2
    rw [numAt_get,if_neg (by omega)]
theorem numAt_sz (s:List TRec) (o k:Nat):List.map szRec (numAt s o k)=List.map szRec s:=by
  apply List.ext_getElem
  · simp [numAt_len]
  · intro i h1 h2
    rw [List.getElem_map,List.getElem_map,numAt_get]
    split <;> rfl
theorem numAt_drop (s:List TRec) (o k:Nat):List.drop (o+k) (numAt s o k)=List.drop (o+k) s:=by
  apply List.ext_getElem
  · simp [numAt_len]
  · intro i h1 h2
    rw [List.getElem_drop,List.getElem_drop,numAt_get,if_neg (by omega)]
theorem numAt_piece (s:List TRec) (o k:Nat):List.take k (List.drop o (numAt s o k))=numb (List.take k (List.drop o s)):=by
  apply List.ext_getElem
  · simp [numAt_len,numb_len]
  · intro i h1 h2
    have hi:i < k:=by rw [List.length_take] at h1;omega
    rw [List.getElem_take,List.getElem_drop,numAt_get,if_pos (by omega)]
    simp [numb]
theorem numAt_set (s:List TRec) (o k:Nat) (h:o+k < s.length):List.set (numAt s o k) (o+k) ⟨((k+1:Nat):Int),(gt (numAt s o k) (o+k)).Key,(gt (numAt s o k) (o+k)).Data,(gt (numAt s o k) (o+k)).Bad⟩=numAt s o (k+1):=by
  have h':o+k < (numAt s o k).length:=by rw [numAt_len];exact h
  apply List.ext_getElem
  · rw [List.length_set,numAt_len,numAt_len]
  · intro i h1 h2
    rw [List.getElem_set,numAt_get (k:=k+1)]
    by_cases e:o+k=i
    · subst e
      rw [if_pos rfl,if_pos (by omega),gt_lt h',numAt_get,if_neg (by omega)]
      congr 2;omega
    · rw [if_neg e,numAt_get]
      by_cases c:o≤i∧i < o+k
      · rw [if_pos c,if_pos (by omega)]
      · rw [if_neg c,if_neg (by omega)]
theorem num_loop (n:Nat) (out:List (List TRec)) (s:List TRec) (o m:Nat) (h:o+m≤s.length) (hs:s.length≤4096) (hn:4096 < n) :
    loopF (fun (x:(List TRec)×Int)=>spool_Tracks_b5 n out o m ((m:Nat):Int) x.1 x.2) n (s,0)=some (numAt s o m):=by
  have hl:=loop_list (σ:=Unit) (body:=fun (x:(List TRec)×Int)=>spool_Tracks_b5 n out o m ((m:Nat):Int) x.1 x.2) (List.range m) (fun k _=>(numAt s o k,(k:Int)))
    (fun _ _=>.inl ()) (fun _=>numAt s o m) (fun _ _=>True) (s:=()) trivial
    (fun k hk _ _=>by
      rw [List.length_range] at hk
      have h1:decide ((k:Int) < ((m:Nat):Int))=true:=by simp;omega
      have h2:(0≤(k:Int)∧(k:Int) < (m:Int))∧(o+k) < (numAt s o k).length:=by
        rw [numAt_len];omega
      simp only [spool_Tracks_b5,h1,bif_ite,if_true,Int.toNat_natCast]
      rw [gd_pos _ h2,wid (by omega)]
      have:=numAt_set s o k (by omega)
      simp only [Int.natCast_add,Int.cast_ofNat_Int] at this
      rw [this]
      rfl)
    (fun _ _ _ _ _ _=>trivial)
    (fun _ _=>by simp [spool_Tracks_b5,bif_ite]) (n:=n) (by rw [List.length_range];omega)
  rw [numAt_zero] at hl
  rw [show (fun (x:(List TRec)×Int)=>spool_Tracks_b5 n out o m ((m:Nat):Int) x.1 x.2)=(fun (x:(List TRec)×Int)=>spool_Tracks_b5 n out o m ((m:Nat):Int) x.1 x.2) from rfl]
  have e:∀ l:List Nat,runL (fun (_:Unit) (_:Nat)=>(.inl ():Unit ⊕ List TRec)) (fun _=>numAt s o m) l ()=numAt s o m:=by
    intro l
    induction l with
    | nil=>rfl
    | cons a l ih=>simp only [runL,ih]
  rw [e] at hl
  exact hl
def tracksR (rs:List TRec):List (List TRec):=(divP (List.map szRec rs) 2048).map fun e=>numb (piece rs e)
theorem second_loop (n:Nat) (rs:List TRec) (hn:4096 < n) (hl:rs.length≤4096) :
    ∃ y,rangeL (fun (x:(List (List TRec))×(List TRec)) (e:Nat×Nat)=>(spool_Tracks_b3 n x.1 x.2 e.1 (e.2 - e.1)).bind fun x2=>gd (List.map szRec x2.2=(List.map szRec rs)) (some x2)) ([],rs) (divP (List.map szRec rs) 2048)=some y∧y.1=tracksR rs:=by
  have key:∀ (q fr:Nat) (out:List (List TRec)) (s:List TRec),fr≤rs.length→List.map szRec s=List.map szRec rs→List.drop fr s=List.drop fr rs→out.length+q≤4096 →
      ∃ y,rangeL (fun (x:(List (List TRec))×(List TRec)) (e:Nat×Nat)=>(spool_Tracks_b3 n x.1 x.2 e.1 (e.2 - e.1)).bind fun x2=>gd (List.map szRec x2.2=(List.map szRec rs)) (some x2)) (out,s) (divF (List.map szRec rs) 2048 q fr)=some y∧y.1=out ++ (divF (List.map szRec rs) 2048 q fr).map fun e=>numb (piece rs e):=by
    intro q
    induction q with
    | zero=>intro fr out s _ _ _ _;exact ⟨_,rfl,by simp [divF]⟩
    | succ q ih =>
      intro fr out s hfr hsz hdr hq
      have hlen:s.length=rs.length:=by have:=congrArg List.length hsz;simpa using this
      unfold divF
      split
      · rename_i hlt
        have hrl:(List.map szRec rs).length=rs.length:=by simp
        obtain ⟨to,hto⟩:∃ to,reachP (List.map szRec rs) fr (List.map szRec rs).length fr 2048=to:=⟨_,rfl⟩
        have h1:fr≤to:=by rw [← hto];exact reachP_ge _ _ _ _ _
        have h2:to≤rs.length:=by rw [← hto,← hrl];exact reachP_le _ _ _ _ _ (by omega)
        rw [hto]
        have hdp:List.take (to - fr) (List.drop fr s)=List.take (to - fr) (List.drop fr rs):=by rw [hdr]
        have hb3:spool_Tracks_b3 n out s fr (to - fr)=some (out ++ [numb (piece rs (fr,to))],numAt s fr (to - fr)):=by
          simp only [spool_Tracks_b3,num_loop n out s fr (to - fr) (by omega) (by omega) hn,Option.bind_some,spool_Tracks_k4]
          rw [clone_eq n _ _ _ (by rw [numAt_len];omega),Option.bind_some,gd_pos _ (by omega),numAt_piece,hdp]
          rfl
        simp only [rangeL,hb3,Option.bind_some]
        rw [gd_pos _ (by rw [numAt_sz];exact hsz)]
        simp only [Option.bind_some]
        have e1:fr+(to - fr)=to:=by omega
        have hd2:=numAt_drop s fr (to - fr)
        rw [e1] at hd2
        have hd3:List.drop to s=List.drop to rs:=by
          have:List.drop (to - fr) (List.drop fr s)=List.drop (to - fr) (List.drop fr rs):=by rw [hdr]
          rw [List.drop_drop,List.drop_drop,e1] at this
          exact this
        obtain ⟨y,y1,y2⟩:=ih to (out ++ [numb (piece rs (fr,to))]) (numAt s fr (to - fr)) h2 (by rw [numAt_sz];exact hsz) (by rw [hd2,hd3]) (by simp;omega)
        exact ⟨y,y1,by rw [y2];simp⟩
      · exact ⟨_,rfl,by simp⟩
  obtain ⟨y,h1,h2⟩:=key (List.map szRec rs).length 0 [] rs (Nat.zero_le _) rfl rfl (by simpa using hl)
  exact ⟨y,h1,by simpa [tracksR,divP] using h2⟩
theorem find_loop {α:Type} (l:List α) (p:α→Bool) {body:Int→Option (Int ⊕ (Int ⊕ Unit))} (hb:∀ k (hk:k < l.length),body (k:Int)=some (if p l[k] then .inr (.inl (k:Int)) else .inl ((k+1:Nat):Int)))
    (he:body (l.length:Int)=some (.inr (.inr ()))) {n:Nat} (hn:l.length < n):∃ y,loopF body n 0=some y∧((∃ k:Nat,y = .inl (k:Int)∧l.any p=true)∨(y = .inr ()∧l.any p=false)):=by
  have h:=loop_list (σ:=Nat) (body:=body) l (fun k _=>(k:Int)) (fun s a=>if p a then .inr (.inl (s:Int)) else .inl (s+1)) (fun _=>.inr ()) (fun k s=>s=k) (s:=0) rfl
    (fun k hk s hI=>by subst hI;rw [hb s hk];by_cases hp:p l[s]=true <;> simp [hp])
    (fun k hk s hI s' he=>by
      subst hI
      by_cases hp:p l[s]=true
      · simp [hp] at he
      · simp [hp] at he;omega)
    (fun _ _=>he) hn
  refine ⟨_,h,?_⟩
  have e:∀ (l:List α) (s:Nat),(∃ k:Nat,runL (fun (s:Nat) a=>if p a then (.inr (.inl (s:Int)):Nat ⊕ (Int ⊕ Unit)) else .inl (s+1)) (fun _=>.inr ()) l s = .inl (k:Int)∧l.any p=true)∨(runL (fun (s:Nat) a=>if p a then (.inr (.inl (s:Int)):Nat ⊕ (Int ⊕ Unit)) else .inl (s+1)) (fun _=>.inr ()) l s = .inr ()∧l.any p=false):=by
    intro l
    induction l with
    | nil=>intro s;right;simp [runL]
    | cons a l ih =>
      intro s
      by_cases hp:p a=true
      · left;exact ⟨s,by simp [runL,hp],by simp [hp]⟩
      · rw [Bool.not_eq_true] at hp
        simp only [runL,hp,Bool.false_eq_true,if_false,List.any_cons,Bool.false_or]
        exact ih (s+1)
  exact e l 0
def longT (x:TLine):Bool:=decide ((x.Text.length:Int) > 132)
def badC (x:TLine):Bool:=if (decide (x.Ctl < 0))=true then true else (decide (x.Ctl > 255))
theorem contains1 (n:Nat) (l:List TLine) (hn:l.length < n) (hl:l.length≤4096):slices_ContainsFunc_f42_M1 n l=some (l.any longT):=by
  obtain ⟨y,h1,h2⟩:=find_loop l longT (body:=fun (x:Int)=>slices_IndexFunc_f68_M1_b2 n l (l.length:Int) x) (n:=n)
    (fun k hk=>by
      have h1:decide ((k:Int) < (l.length:Int))=true:=by simp;omega
      have h2:(0:Int)≤(k:Int)∧(k:Int) < (l.length:Int):=by omega
      simp only [slices_IndexFunc_f68_M1_b2,h1,bif_ite,if_true,gd_pos _ h2,spool_Tracks_1,Option.bind_some,Int.toNat_natCast,gt_lt hk]
      rw [wid (by omega)]
      show (if longT l[k]=true then _ else _)=_
      by_cases hp:longT l[k]=true <;> simp [hp])
    (by simp [slices_IndexFunc_f68_M1_b2,bif_ite]) hn
  simp only [slices_ContainsFunc_f42_M1,slices_IndexFunc_f68_M1,h1,Option.bind_some]
  rcases h2 with ⟨k,rfl,h⟩ | ⟨rfl,h⟩
  · rw [h];simp
  · rw [h];rfl
theorem contains2 (n:Nat) (l:List TLine) (hn:l.length < n) (hl:l.length≤4096):slices_ContainsFunc_f42_M2 n l=some (l.any badC):=by
  obtain ⟨y,h1,h2⟩:=find_loop l badC (body:=fun (x:Int)=>slices_IndexFunc_f68_M2_b2 n l (l.length:Int) x) (n:=n)
    (fun k hk=>by
      have h1:decide ((k:Int) < (l.length:Int))=true:=by simp;omega
      have h2:(0:Int)≤(k:Int)∧(k:Int) < (l.length:Int):=by omega
      simp only [slices_IndexFunc_f68_M2_b2,h1,bif_ite,if_true,gd_pos _ h2,spool_Tracks_2,Option.bind_some,Int.toNat_natCast,gt_lt hk]
      rw [wid (by omega)]
      show (if badC l[k]=true then _ else _)=_
      by_cases hp:badC l[k]=true <;> simp [hp])
    (by simp [slices_IndexFunc_f68_M2_b2,bif_ite]) hn
  simp only [slices_ContainsFunc_f42_M2,slices_IndexFunc_f68_M2,h1,Option.bind_some]
  rcases h2 with ⟨k,rfl,h⟩ | ⟨rfl,h⟩
  · rw [h];simp
  · rw [h];rfl
def trkL (l:List TLine):List (List TRec):=tracksR (recsL l)
def tracksS (l:List TLine):List (List TRec)×Int :=
  if l.length > 4096 then ([],2) else if l.any longT=true then ([],2) else if l.any badC=true then ([],1) else (trkL l,0)
theorem recsL_len (l:List TLine):(recsL l).length≤l.length:=by
  have:=divF_len (List.map szLine l) 1020 (List.map szLine l).length 0
  rw [recsL,List.length_map]
  unfold divP
  rw [List.length_map] at *
  exact this
theorem Tracks_S (n:Nat) (l:List TLine) (hn:N0≤n):spool_Tracks n l=some (tracksS l):=by
  have hn0:4194304≤n:=hn
  unfold tracksS
  by_cases c1:l.length > 4096
  · have:decide ((l.length:Int) > 4096)=true:=by simp;omega
    simp only [spool_Tracks,this,cond_true,c1,if_true]
  · have:decide ((l.length:Int) > 4096)=false:=by simp;omega
    simp only [spool_Tracks,this,cond_false,c1,if_false,Bool.not_false,contains1 n l (by omega) (by omega),contains2 n l (by omega) (by omega),Option.bind_some]
    rw [gd_pos _ trivial]
    by_cases c2:l.any longT=true
    · simp only [c2,cond_true,if_true]
    · rw [Bool.not_eq_true] at c2
      by_cases c3:l.any badC=true
      · simp only [c2,c3,cond_true,cond_false,if_true,Bool.false_eq_true,if_false]
      · rw [Bool.not_eq_true] at c3
        simp only [c2,c3,cond_false,Bool.false_eq_true,if_false]
        have hs:shortL l:=by
          intro x hx
          have:=List.any_eq_false.1 c2 x hx
          simp [longT] at this
          omega
        rw [first_loop n l (by omega) (by omega) hs]
        simp only [Option.bind_some,spool_Tracks_k1]
        rw [gd_pos _ trivial]
        have hr:=recsL_len l
        obtain ⟨y,y1,y2⟩:=second_loop n (recsL l) (by omega) (by omega)
        rw [y1]
        simp only [Option.bind_some,spool_Tracks_k2,y2]
        rfl
end Go.Proofs.Ytkebegfopnlkhaa
/-
  ch. 39: the chapter's examples.
-/
set_option maxRecDepth 1000000
namespace Go.Proofs.Ytkebegfopnlkhaa
open Go.AE Go.RowKit
def runW:Bool→Int→List Int→Nat
  | _,_,[]=>0
  | first,left,c :: cs=>if first=true∨c≤left then runW false (wrap64 (left - c)) cs+1 else 0
theorem reach_run (cs:List Int) (fr:Nat):∀ (q to:Nat) (left:Int),fr≤to→cs.length≤q+to→reachP cs fr q to left=to+runW (to == fr) left (cs.drop to)
  | 0,to,left,hf,hq=>by
    rw [List.drop_eq_nil_iff.2 (by omega)]
    rfl
  | q+1,to,left,hf,hq=>by
    unfold reachP
    by_cases h:to < cs.length
    · rw [List.drop_eq_getElem_cons h]
      unfold runW
      rw [gtl h]
      have e:(to+1 == fr)=false:=by rw [beq_eq_false_iff_ne];omega
      by_cases c:to=fr∨cs[to]≤left
      · rw [if_pos ⟨h,c⟩,if_pos (c.imp (fun e=>beq_iff_eq.2 e) id),reach_run cs fr q (to+1) _ (by omega) (by omega),e]
        omega
      · rw [if_neg (fun h2=>c h2.2),if_neg (fun h2=>c (h2.imp (fun e=>beq_iff_eq.1 e) id))]
        omega
    · rw [if_neg (fun h2=>h h2.1),List.drop_eq_nil_iff.2 (by omega)]
      rfl
def divW (room:Int):Nat→Nat→List Int→List (Nat×Nat)
  | 0,_,_=>[]
  | _+1,_,[]=>[]
  | q+1,fr,c :: cs=>(fr,fr+runW true room (c :: cs)) :: divW room q (fr+runW true room (c :: cs)) ((c :: cs).drop (runW true room (c :: cs)))
theorem div_W (cs:List Int) (room:Int):∀ (q fr:Nat),divF cs room q fr=divW room q fr (cs.drop fr)
  | 0,fr=>rfl
  | q+1,fr=>by
    unfold divF
    by_cases h:fr < cs.length
    · rw [if_pos h,reach_run cs fr cs.length fr room (Nat.le_refl _) (by omega),beq_self_eq_true,div_W cs room q]
      have e:=List.drop_eq_getElem_cons h
      rw [← List.drop_drop]
      generalize cs.drop fr=d at e ⊢
      rw [e]
      rfl
    · rw [if_neg h,List.drop_eq_nil_iff.2 (by omega)]
      rfl
def divR (cs:List Int) (room:Int):List (Nat×Nat):=divW room cs.length 0 cs
theorem div_R (cs:List Int) (room:Int):divP cs room=divR cs room:=by
  unfold divP divR
  rw [div_W]
  rfl
theorem works_N0:law39_works N0=some true:=by decide +kernel
end Go.Proofs.Ytkebegfopnlkhaa
