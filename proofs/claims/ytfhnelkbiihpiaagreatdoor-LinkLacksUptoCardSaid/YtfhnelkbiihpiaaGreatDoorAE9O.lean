/- Text. -/
import Derived.Test.YtfhnelkbiihpiaaGreatDoorAE8M
set_option linter.unusedSimpArgs false
set_option linter.unusedVariables false
open _root_.Array renaming getD_eq_getD_getElem?→je,length_toList→jI
open _root_.List renaming range→Je,length_append→jh,getElem?_append_left→jr,getElem?_append_right→jt,getD_eq_getElem?_getD→jb,getElem?_take→Jc,getElem?_drop→Jm,eq_nil_of_length_eq_zero→jx,size_toArray→jK,length_take→jm,length_nil→jO,length_drop→jN
open _root_.Nat renaming add_mul→jo,mul_le_mul_right→jk,add_zero→jV,le_refl→jq,zero_mul→Jn,zero_add→jM,min_eq_left→Jz
open _root_.Option.some renaming injEq→ja
namespace Go.AE
open Go.RowKit (Below)
variable {P:Program} {w0:Base} {w:World} {N:Nat} {σ:Nat→RefI} {s:S} {tms:Array Value} {ρ:Operand→Value} {al:Nat→Prop}
structure bjv (P:Program) (w:World) (al:Nat→Prop) (ks:List Kd) (v:Value) (new:List (List C)) where
 a:Option Addr
 c:Nat
 eq:v = .slice a new.length c
 news:List Value
 len:news.length=new.length * ks.length
 el:∀ i,i < new.length→(eg new i).length=ks.length
 rep:∀ i,i < new.length→∀ j,j < ks.length→RepC P w al (ks.getD j .other) (news.getD (i * ks.length+j) undef) (cg (eg new i) j)
 mem:new=[]∨∃ b o,a=some ⟨b,o,none⟩∧b < w.heap.size∧∀ j u,news[j]? = some u→w.cell? ⟨b,o+j,none⟩=some u
def flat (n sz:Nat) (f:Nat→Nat→Value):List Value:=(Je n).flatMap fun i=>(Je sz).map fun j=>f i j
theorem bzl (n sz:Nat) (f:Nat→Nat→Value):(flat n sz f).length=n * sz:=by
 induction n with
 | zero=>simp [flat]
 | succ n ih =>
  simp only [flat,List.range_succ,List.flatMap_append,jh] at ih ⊢
  rw [ih];simp [jo]
theorem czt (sz:Nat) (f:Nat→Nat→Value):∀ (n i j:Nat),i < n→j < sz→(flat n sz f)[i * sz+j]? = some (f i j)
 | 0,i,j,hi,hj=>by omega
 | n+1,i,j,hi,hj=>by
  have hl:=bzl n sz f
  have he:flat (n+1) sz f=flat n sz f ++ (Je sz).map fun j=>f n j:=by simp [flat,List.range_succ]
  rw [he]
  by_cases h:i < n
  ·have:i * sz+j < (flat n sz f).length:=by
    rw [hl]
    calc i * sz+j < i * sz+sz:=by omega
     _=(i+1) * sz:=by rw [jo];omega
     _≤n * sz:=jk _ h
   rw [jr this]
   exact czt sz f n i j h hj
  ·have e:i=n:=by omega
   subst e
   rw [jt (by rw [hl];omega),hl]
   have:i * sz+j - i * sz=j:=by omega
   rw [this,List.getElem?_map,List.getElem?_range hj];rfl
theorem cqt {k n sz:Nat} (h:k < n * sz):k / sz < n∧k % sz < sz∧k / sz * sz+k % sz=k:=by
 have hs:0 < sz:=by
  rcases Nat.eq_zero_or_pos sz with h0 | h0
  ·subst h0;simp at h
  ·exact h0
 exact ⟨(Nat.div_lt_iff_lt_mul hs).2 h,Nat.mod_lt _ hs,by rw [Nat.mul_comm];exact Nat.div_add_mod k sz⟩
theorem djf {ks:List Kd} {b o c:Nat} {new:List (List C)} (f:Nat→Nat→Value) (hb:b < w.heap.size)
  (hel:∀ i,i < new.length→(eg new i).length=ks.length)
  (hcell:∀ i,i < new.length→∀ j,j < ks.length→w.cell? ⟨b,o+(i * ks.length+j),none⟩=some (f i j))
  (hrep:∀ i,i < new.length→∀ j,j < ks.length→RepC P w al (ks.getD j .other) (f i j) (cg (eg new i) j)):Nonempty (bjv P w al ks (.slice (some ⟨b,o,none⟩) new.length c) new):=by
 refine ⟨⟨_,c,rfl,flat new.length ks.length f,bzl _ _ _,hel,fun i hi j hj=>?_,.inr ⟨b,o,rfl,hb,fun k u hk=>?_⟩⟩⟩
 ·have e:(flat new.length ks.length f).getD (i * ks.length+j) undef=f i j:=by rw [jb,czt _ _ _ _ _ hi hj];rfl
  rw [e];exact hrep i hi j hj
 ·have hk':k < (flat new.length ks.length f).length:=by
   rcases Nat.lt_or_ge k (flat new.length ks.length f).length with h | h
   ·exact h
   ·rw [List.getElem?_eq_none h] at hk;cases hk
  rw [bzl] at hk'
  obtain ⟨h1,h2,h3⟩:=cqt hk'
  have hk2:=czt ks.length f new.length _ _ h1 h2
  have hc:=hcell _ h1 _ h2
  rw [h3] at hk2 hc
  rw [hk2] at hk
  rw [hc,hk]
theorem bks {e:TypeId} {E:TyI} {y:A} {vy:Value} {new:List (List C)} (h:RelL P w0 N σ s tms w) (hE:tyI P e=some E) (hs:az7 e s.hp y=some new) (hy:ARel P w (Al w0 w σ s.hp) σ vy y) :
  Nonempty (bjv P w (Al w0 w σ s.hp) E.kinds vy new):=by
 unfold az7 at hs
 split at hs
 ·rename_i e' c
  split at hs
  ·rename_i he;subst he
   simp only [ja] at hs;subst hs
   rcases ay4 hy.c_inv with ⟨a,cc,rfl,he⟩ | ⟨b,off,cap,E',f,rfl,hE',hal,hl,hcp,hel,hcell,hrep⟩
   ·rw [he]
    exact ⟨⟨a,cc,rfl,[],by simp,by simp,by simp,.inl rfl⟩⟩
   ·rw [hE] at hE';simp only [ja] at hE';subst hE'
    exact djf f hal.1 hel (fun i hi j hj=>awl (hcell i hi j hj)) hrep
  ·cases hs
 ·simp only [ja] at hs;subst hs
  cases hy
  exact ⟨⟨none,0,rfl,[],by simp,by simp,by simp,.inl rfl⟩⟩
 ·rename_i id ks off len
  have key:∀ es,(s.hp id = .row e es∨s.hp id = .frz e es)→new=(es.drop off).take len→Nonempty (bjv P w (Al w0 w σ s.hp) E.kinds vy new):=by
   rintro es hb rfl
   have hlv:live s.hp id=true:=by unfold live;rcases hb with hb | hb <;> simp [hb]
   have hB:aq2 P w w0.wr (Al w0 w σ s.hp) (σ id) e es:=by
    have:=h.blks id
    rcases hb with hb | hb <;> rw [hb] at this <;> exact this
   obtain ⟨t',es',hb',hle,⟨E',hE',rfl⟩,hbd,hv⟩:=azs h hlv hy
   have heq:t'=e∧es'=es:=by
    rcases hb with hb | hb <;> rcases hb' with hb' | hb' <;> rw [hb] at hb' <;> simp at hb' <;> exact ⟨hb'.1.symm,hb'.2.symm⟩
   obtain ⟨rfl,rfl⟩:=heq
   rw [hE] at hE';simp only [ja] at hE';subst hE'
   have hlen:((es'.drop off).take len).length=len:=by simp;omega
   have e2:∀ i,i < len→eg ((es'.drop off).take len) i=eg es' (off+i):=fun i hi=>by
    simp only [eg,jb,Jc,Jm,hi,if_true]
   rcases hv with ⟨rfl,rfl,_⟩ | ⟨rfl,_,a,c,rfl⟩ | ⟨b,cap,c,hg,rfl,_,hlc⟩
   ·exact ⟨⟨none,0,by simp,[],by simp,by simp,by simp,.inl (by simp)⟩⟩
   ·exact ⟨⟨a,c,by simp,[],by simp,by simp,by simp,.inl (by simp)⟩⟩
   ·obtain ⟨_,_,_,_,cur,tg,hh,_,_,_,_,hel,hcell⟩:=awe hB hg
    have:=djf (P:=P) (w:=w) (al:=Al w0 w σ s.hp) (ks:=E.kinds) (b:=b) (o:=off * E.kinds.length) (c:=c) (new:=(es'.drop off).take len) (fun i j=>cur.getD ((off+i) * E.kinds.length+j) undef) (Array.getElem?_eq_some_iff.1 hh).1
     (fun i hi=>by rw [hlen] at hi;rw [e2 i hi];exact hel _ (by omega))
     (fun i hi j hj=>by
      rw [hlen] at hi
      rw [← (hcell (off+i) (by omega) j hj).2.1,jo,Nat.add_assoc])
     (fun i hi j hj=>by
      rw [hlen] at hi
      rw [e2 i hi];exact (hcell (off+i) (by omega) j hj).2.2)
    rw [hlen] at this
    exact this
  split at hs
  ·rename_i t es hb
   split at hs
   ·rename_i he;subst he
    simp only [ja] at hs
    exact key es (.inl hb) hs.symm
   ·cases hs
  ·rename_i t es hb
   split at hs
   ·rename_i he;subst he
    simp only [ja] at hs
    exact key es (.inr hb) hs.symm
   ·cases hs
  ·cases hs
 ·cases hs
theorem bjv.one {ks:List Kd} {v:Value} {new:List (List C)} (m:bjv P w al ks v new) (hk:∀ j,j < ks.length→ks.getD j .other≠.other∧(∀ t,ks.getD j .other≠.ptr t)∧∀ t,ks.getD j .other≠.arr t):∀ u∈m.news,u.oneCell'=true:=by
 intro u hu
 obtain ⟨k,hk0,rfl⟩:=List.getElem_of_mem hu
 have hk':=hk0
 rw [m.len] at hk'
 obtain ⟨h1,h2,h3⟩:=cqt hk'
 have:=m.rep _ h1 _ h2
 rw [h3] at this
 have e:m.news.getD k undef=m.news[k]:=by simp [jb,hk0]
 rw [e] at this
 exact this.one (hk _ h2).1 (hk _ h2).2
theorem awm {t e:TypeId} {E:TyI} (hs:slE P t=some (e,E)) (ty:TypeId) (b a:Option Addr) (n cap c:Nat) (hn:n≤cap) :
  (Builtin.append_ #[t,t] ty #[.slice b n cap,.slice a 0 c]).run P w = .ok (.slice b n cap) w:=by
 obtain ⟨hu,hE⟩:=aqa hs
 cases a <;> cases b <;> simp [Builtin.append_,run_underlying hu,akn hE,Builtin.lenOf,hn,Builtin.firstCells,loadCells,loadCellsFrom,storeCells]
theorem awq:∀ {ks:List Kd},azd ks=true→∀ j,j < ks.length→ks.getD j .other≠.other∧(∀ t,ks.getD j .other≠.ptr t)∧∀ t,ks.getD j .other≠.arr t
 | [],_,j,hj=>by simp at hj
 | k :: ks,h,j,hj=>by
  have hk:azd ks=true∧k≠.other∧(∀ t,k≠.ptr t)∧∀ t,k≠.arr t:=by
   cases k <;> simp [azd] at h ⊢ <;> exact h
  cases j with
  | zero=>simpa using hk.2
  | succ j=>simpa using awq hk.1 j (by simpa using hj)
theorem az4 (z:Array Value) (n:Nat):(Builtin.zeroCells z n).size=n * z.size:=size_zeroCells z n
theorem bqj (w:World) (t ty e tg:TypeId) (i:TypeInfo) (ht:P.underlying t=some (.slice e)) (hi:P.info? e=some i)
  (g sLen sCap:Nat) (cur:Array Value) (hg:w.heap[g]? = some (.cells cur tg (0,0)))
  (a:Addr) (m c:Nat) (news:List Value) (hl:news.length=m * i.size) (hnews:∀ j u,news[j]? = some u→w.cell? (a.add j)=some u) (h1:∀ u∈news,u.oneCell'=true)
  (hroom:sLen+m≤sCap) (hfit:sLen * i.size+news.length≤cur.size) :
  (Builtin.append_ #[t,t] ty #[.slice (some ⟨g,0,none⟩) sLen sCap,.slice (some a) m c]).run P w =
   .ok (.slice (some ⟨g,0,none⟩) (sLen+m) sCap) (w.setRow g (cur.toList.take (sLen * i.size) ++ news ++ cur.toList.drop (sLen * i.size+news.length)).toArray):=by
 have hf:=run_firstCells_some (P:=P) w i.size m a m c news hl hnews
 have hst:=run_storeCells_at P g (sLen * i.size) tg news 0 cur w hg (by simpa using hfit) h1
 simp only [jV] at hst
 simp [Builtin.append_,run_underlying ht,sizeOf,typeInfo,hi,Builtin.lenOf,hroom,hf,Addr.add_lit,hst]
theorem aya {w':World} {B:Nat→Prop} {b cap:Nat} {e tg:TypeId} {E:TyI} {cur:Array Value} {es:List (List C)} (cells:List Value) (rest:List Value) (hE:tyI P e=some E) (hby:(es.length:Int) * E.bytes≤140737488355328) (hB:B b)
  (hh:w'.heap[b]? = some (.cells cur tg (0,0))) (hc:cur.toList=cells ++ rest) (hl:cells.length=es.length * E.kinds.length) (hsz:cur.size=cap * E.kinds.length) (hle:es.length≤cap) (hm:cap≤maxLen)
  (hel:∀ i,i < es.length→(eg es i).length=E.kinds.length) (hr:∀ i,i < es.length→∀ j,j < E.kinds.length→RepC P w' al (E.kinds.getD j .other) (cells.getD (i * E.kinds.length+j) undef) (cg (eg es i) j)) :
  aq2 P w' B al (.row b cap e E.kinds es.length) e es:=by
 refine ⟨E,hE,hby,.inr ⟨b,cap,cur,tg,rfl,hB,hh,hle,hm,hsz,hel,fun i hi j hj=>?_⟩⟩
 have hlt:i * E.kinds.length+j < cells.length:=by
  rw [hl]
  calc i * E.kinds.length+j < i * E.kinds.length+E.kinds.length:=by omega
   _=(i+1) * E.kinds.length:=by rw [jo];omega
   _≤es.length * E.kinds.length:=jk _ (by omega)
 have e1:cur.getD (i * E.kinds.length+j) undef=cells.getD (i * E.kinds.length+j) undef:=by
  have:cur.getD (i * E.kinds.length+j) undef=cur.toList.getD (i * E.kinds.length+j) undef:=by simp [je,jb]
  rw [this,hc,jb,jr hlt,← jb]
 rw [e1]
 exact hr i hi j hj
theorem aw8 (w:World) (o:Obj):Below w.heap.size w (w.drew.alloc o):=(Below.refl _ _).drew.alloc (jq _) o
theorem bjv.scalar {al':Nat→Prop} {ks:List Kd} {v:Value} {new:List (List C)} (h:Nonempty (bjv P w al ks v new)) (hk:ks.all aqo=true):Nonempty (bjv P w al' ks v new):=by
 obtain ⟨⟨a,c,eq,news,len,el,rep,mem⟩⟩:=h
 exact ⟨⟨a,c,eq,news,len,el,fun i hi j hj=>(rep i hi j hj).scalar (dwh hk j hj),mem⟩⟩
theorem cwk {hp:Nat→Blk} {e:TypeId} {y:A} {new:List (List C)} (h:az7 e hp y=some new):az7 e (azl hp) y=some new:=by
 cases y with
 | own id ks off len =>
  simp only [az7] at h ⊢
  have e:azl hp id=hp id:=by
   unfold azl
   rw [if_neg]
   intro e
   rw [bzv e] at h;simp at h
  rw [e];exact h
 | c k x=>cases k <;> exact h
 | _=>exact h
theorem dkh {e:TypeId} {E:TyI} {y:A} {vy:Value} {new:List (List C)} (h:RelL P w0 N σ s tms w) (hE:tyI P e=some E) (hs:az7 e s.hp (srcA E.kinds s.hp y)=some new) (hy:ARel P w (Al w0 w σ s.hp) σ vy y) :
  Nonempty (bjv P w (Al w0 w σ s.hp) E.kinds vy new):=by
 unfold srcA at hs
 split at hs
 ·rename_i hk
  exact bjv.scalar (bks (s:=⟨s.tm,azl s.hp⟩) h.melt hE (cwk hs) (cky h hy)) hk
 ·exact bks h hE hs hy
theorem cj7 {t e:TypeId} {E:TyI} {y:A} {vy:Value} {new:List (List C)} {kid:Nat} (h:RelL P w0 N σ s tms w) (hs:slE P t=some (e,E)) (hsrc:Nonempty (bjv P w (Al w0 w σ s.hp) E.kinds vy new)) (hd:aqh (s.hp kid)=true) (hpl:azd E.kinds=true)
  (hby:(new.length:Int) * E.bytes≤140737488355328) (hy:ARel P w (Al w0 w σ s.hp) σ vy y) (ty:TypeId) :
  ∃ v w',(Builtin.append_ #[t,t] ty #[.slice none 0 0,vy]).run P w = .ok v w'∧∃ σ',RelL P w0 N σ' ⟨s.tm,upd s.hp kid (.row e new)⟩ tms w'∧ARel P w' (Al w0 w' σ' (upd s.hp kid (.row e new))) σ' v (.own kid E.kinds 0 new.length):=by
 obtain ⟨hu,hE⟩:=aqa hs
 obtain ⟨S⟩:=ajk hE
 obtain ⟨m⟩:=hsrc
 rcases m.mem with rfl | ⟨b,o,ha,hb,hcell⟩
 ·refine ⟨.slice none 0 0,w,?_,upd σ kid (.rown e E.kinds),h.newNil hE (ajw hd),.ownNil _ _ _ e (by simp [upd]) rfl⟩
  rw [m.eq]
  exact awm hs ty none m.a 0 0 m.c (jq _)
 ·by_cases h0:new.length=0
  ·have:new=[]:=jx h0
   subst this
   refine ⟨.slice none 0 0,w,?_,upd σ kid (.rown e E.kinds),h.newNil hE (ajw hd),.ownNil _ _ _ e (by simp [upd]) rfl⟩
   rw [m.eq]
   exact awm hs ty none m.a 0 0 m.c (jq _)
  ·have hbyn:new.length * E.bytes≤140737488355328:=by omega
   have hnle:new.length≤140737488355328:=by
    have:=S.pos
    have:new.length * 1≤new.length * E.bytes:=Nat.mul_le_mul_left _ (by omega)
    omega
   have hrun:=run_append_nil (P:=P) w t ty e S.i S.z hu S.info S.zero ⟨b,o,none⟩ new.length m.c m.news (by rw [S.size];exact m.len) (fun j v hj=>by rw [Addr.add_lit];exact hcell j v hj) (by omega) (by omega) (by rw [S.bytes];omega)
   have hcap:=grownCap_ge w new.length 0 e
   have hcapm:=grownCap_le_maxLen w new.length 0 e (by simp only [maxLen];omega)
   have hzl:S.z.cells.size=E.kinds.length:=by have:=(azr (P:=P) (w:=w) (al:=fun _=>True) S.zfits).1;simpa using this
   have hw:=h.world (w':=w.drew) ((Below.refl _ _).drew)
   refine ⟨_,_,by rw [m.eq,ha];exact hrun,upd σ kid (.row w.heap.size (grownCap w new.length 0 e) e E.kinds new.length),?_,.own0 (F:=fun _=>False) _ _ _ w.heap.size _ _ e (by simp [upd]) (jq _)⟩
   refine hw.alloc (ajw hd) _ (.row w.heap.size (grownCap w new.length 0 e) e E.kinds new.length) _ (by simp [aj0];try (intro c hc;exact hc.symm)) (fun hal hheap hss=>?_)
   simp only [BRel,upd,if_true]
   refine aya m.news (Builtin.zeroCells S.z.cells (grownCap w new.length 0 e - new.length)).toList hE hby (.inl h.below.size) (heap_alloc_new w.drew _) (by simp) m.len ?_ hcap hcapm m.el (fun i hi j hj=>(m.rep i hi j hj).mono hheap hal)
   rw [Array.size_append,jK,m.len,az4,hzl,← jo]
   congr 1;omega
theorem akb {w':World} {al':Nat→Prop} {sz:Nat} {ks:List Kd} {es new:List (List C)} {olds news:List Value} (hk:ks.length=sz) (hol:olds.length=es.length * sz) (hnl:news.length=new.length * sz)
  (h1:∀ i,i < es.length→∀ j,j < sz→RepC P w' al' (ks.getD j .other) (olds.getD (i * sz+j) undef) (cg (eg es i) j))
  (h2:∀ i,i < new.length→∀ j,j < sz→RepC P w' al' (ks.getD j .other) (news.getD (i * sz+j) undef) (cg (eg new i) j)) :
  ∀ i,i < (es ++ new).length→∀ j,j < sz→RepC P w' al' (ks.getD j .other) ((olds ++ news).getD (i * sz+j) undef) (cg (eg (es ++ new) i) j):=by
 intro i hi j hj
 rw [jh] at hi
 by_cases h:i < es.length
 ·have hlt:i * sz+j < olds.length:=by
   rw [hol]
   calc i * sz+j < i * sz+sz:=by omega
    _=(i+1) * sz:=by rw [jo];omega
    _≤es.length * sz:=jk _ h
  have e1:(olds ++ news).getD (i * sz+j) undef=olds.getD (i * sz+j) undef:=by
   rw [jb,jr hlt,← jb]
  have e2:eg (es ++ new) i=eg es i:=by simp only [eg,jb,jr h]
  rw [e1,e2];exact h1 i h j hj
 ·have hge:olds.length≤i * sz+j:=by
   rw [hol]
   have:es.length * sz≤i * sz:=jk _ (by omega)
   omega
  have e1:(olds ++ news).getD (i * sz+j) undef=news.getD ((i - es.length) * sz+j) undef:=by
   rw [jb,jt hge,← jb,hol]
   congr 1
   rw [Nat.sub_mul]
   have:es.length * sz≤i * sz:=jk _ (by omega)
   omega
  have e2:eg (es ++ new) i=eg new (i - es.length):=by simp only [eg,jb,jt (by omega:es.length≤i)]
  rw [e1,e2];exact h2 _ (by omega) j hj
theorem cje {t e:TypeId} {E:TyI} {y:A} {vx vy:Value} {es new:List (List C)} {id kid len:Nat} {ks:List Kd} (h:RelL P w0 N σ s tms w) (hs:slE P t=some (e,E)) (hsrc:Nonempty (bjv P w (Al w0 w σ s.hp) E.kinds vy new)) (hd:aqh (s.hp kid)=true) (hpl:azd E.kinds=true)
  (hb:s.hp id = .row e es) (hlen:len≤es.length) (hby:((len+new.length:Nat):Int) * E.bytes≤140737488355328) (hx:ARel P w (Al w0 w σ s.hp) σ vx (.own id ks 0 len)) (hy:ARel P w (Al w0 w σ s.hp) σ vy y) (ty:TypeId) :
  ∃ v w',(Builtin.append_ #[t,t] ty #[vx,vy]).run P w = .ok v w'∧∃ σ',RelL P w0 N σ' ⟨s.tm,upd (upd s.hp id .gone) kid (.row e (es.take len ++ new))⟩ tms w' ∧
   ARel P w' (Al w0 w' σ' (upd (upd s.hp id .gone) kid (.row e (es.take len ++ new)))) σ' v (.own kid ks 0 (len+new.length)):=by
 obtain ⟨hu,hE⟩:=aqa hs
 obtain ⟨S⟩:=ajk hE
 obtain ⟨m⟩:=hsrc
 have hone0:=fun hp=>m.one (awq (ks:=E.kinds) hp)
 obtain ⟨a0,c0,rfl,news,mlen,mel,mrep,mmem⟩:=m
 have hlv:live s.hp id=true:=by unfold live;simp [hb]
 obtain ⟨t',es',hb',hle,⟨E',hE',hks⟩,hbd,hv⟩:=azs h hlv hx
 have heq:t'=e∧es'=es:=by
  rcases hb' with hb' | hb' <;> rw [hb] at hb' <;> simp at hb' <;> exact ⟨hb'.1.symm,hb'.2.symm⟩
 obtain ⟨rfl,rfl⟩:=heq
 rw [hE] at hE';simp only [ja] at hE';subst hE';subst hks
 obtain ⟨es0,he0⟩:∃ es0,es0=es'.take len:=⟨_,rfl⟩
 rw [← he0]
 have hl0:len=es0.length:=by rw [he0,jm];omega
 have heg:∀ i,i < len→eg es0 i=eg es' i:=by
  intro i hi
  rw [he0]
  simp only [eg,jb,Jc,hi,if_true]
 have hnl:es'=[]→es0=[]:=by intro h2;rw [he0,h2];simp
 clear he0
 subst hl0
 have hbyn:(es0.length+new.length) * E.bytes≤140737488355328:=by omega
 have hnle:es0.length+new.length≤140737488355328:=by
  have:=S.pos
  have:(es0.length+new.length) * 1≤(es0.length+new.length) * E.bytes:=Nat.mul_le_mul_left _ (by omega)
  omega
 have hbyl:((es0 ++ new).length:Int) * E.bytes≤140737488355328:=by rw [jh];exact hby
 have hzl:S.z.cells.size=E.kinds.length:=by have:=(azr (P:=P) (w:=w) (al:=fun _=>True) S.zfits).1;simpa using this
 have hσd:=ajw hd
 have hne:id≠kid:=by intro e;rw [e,hσd] at hb;cases hb
 have hB0:aq2 P w w0.wr (Al w0 w σ s.hp) (σ id) t' es':=by have:=h.blks id;rw [hb] at this;exact this
 have hone:=hone0 hpl
 -- nothing new
 have zero:new=[]→(∃ a c,vx = .slice a es0.length c∧es0.length≤c)→((vx = .slice none 0 0∧σ id = .rown t' E.kinds∧es'=[])∨∃ b c,vx = .slice (some ⟨b,0,none⟩) es0.length c∧σ id = .row b c t' E.kinds es'.length) →
   ∃ v w',(Builtin.append_ #[t,t] ty #[vx,.slice a0 new.length c0]).run P w = .ok v w'∧∃ σ',RelL P w0 N σ' ⟨s.tm,upd (upd s.hp id .gone) kid (.row t' (es0 ++ new))⟩ tms w' ∧
   ARel P w' (Al w0 w' σ' (upd (upd s.hp id .gone) kid (.row t' (es0 ++ new)))) σ' v (.own kid E.kinds 0 (es0.length+new.length)):=by
  rintro rfl ⟨a,c,hvx,hac⟩ hform
  rw [List.append_nil]
  simp only [jO,jV]
  rcases hform with ⟨hf,h1,h2⟩ | ⟨b,cc,hf,hr⟩
  ·have he:=hnl h2
   have hrel:=h.replace (id:=id) (key:=kid) (es':=es0) (r':=σ id) hb hσd h.below (jq _) (fun _ _ _=>rfl) (fun c hc=>.inl hc) (fun hal hheap=>by
    rw [he] at hal ⊢
    rw [h2] at hB0
    exact hB0.mono hheap hal (fun _ _=>rfl))
   refine ⟨vx,w,?_,_,hrel,?_⟩
   ·rw [hvx];exact awm hs ty a a0 _ c c0 hac
   ·rw [hf,he]
    exact .ownNil _ _ _ t' (by simp [upd,h1]) rfl
  ·have hrel:=h.replace (id:=id) (key:=kid) (es':=es0) (r':=.row b cc t' E.kinds es0.length) hb hσd h.below (jq _) (fun _ _ _=>rfl) (fun c hc=>.inl (by rw [hr];exact hc)) (fun hal hheap=>by
    obtain ⟨E2,hE2,hby2,hr2⟩:=hB0
    rw [hE] at hE2;simp only [ja] at hE2;subst hE2
    rcases hr2 with ⟨hr2,_⟩ | ⟨b2,cap2,cur2,tg2,hr2,hB2,hh2,k1,k2,k3,k4,k5⟩
    ·rw [hr] at hr2;cases hr2
    ·rw [hr] at hr2
     simp only [RefI.row.injEq] at hr2
     obtain ⟨rfl,rfl,_⟩:=hr2
     refine ⟨E,hE,?_,.inr ⟨b,cc,cur2,tg2,rfl,hB2,hh2,by omega,k2,k3,fun i hi=>?_,fun i hi j hj=>?_⟩⟩
     ·have:=Int.mul_le_mul_of_nonneg_right (show (es0.length:Int)≤(es'.length:Int) by omega) (show (0:Int)≤E.bytes by omega)
      omega
     ·rw [heg i (by omega)];exact k4 i (by omega)
     ·rw [heg i (by omega)];exact (k5 i (by omega) j hj).mono hheap hal)
   refine ⟨vx,w,?_,_,hrel,?_⟩
   ·rw [hvx];exact awm hs ty a a0 _ c c0 hac
   ·rw [hf]
    exact .own0 (F:=fun _=>False) _ _ _ b cc es0.length t' (by simp [upd]) (jq _)
 -- a new block
 have grow:∀ (olds:List Value) (cp:Nat) (r0:(Builtin.append_ #[t,t] ty #[vx,.slice a0 new.length c0]).run P w = .ok (.slice (some ⟨w.heap.size,0,none⟩) (es0.length+new.length) (grownCap w (es0.length+new.length) cp t'))
    (w.drew.alloc (.cells ((olds.toArray ++ news.toArray) ++ Builtin.zeroCells S.z.cells (grownCap w (es0.length+new.length) cp t' - (es0.length+new.length))) t'))),
   olds.length=es0.length * E.kinds.length→(∀ i,i < es0.length→(eg es0 i).length=E.kinds.length) →
   (∀ i,i < es0.length→∀ j,j < E.kinds.length→RepC P w (Al w0 w σ s.hp) (E.kinds.getD j .other) (olds.getD (i * E.kinds.length+j) undef) (cg (eg es0 i) j)) →
   ∃ v w',(Builtin.append_ #[t,t] ty #[vx,.slice a0 new.length c0]).run P w = .ok v w'∧∃ σ',RelL P w0 N σ' ⟨s.tm,upd (upd s.hp id .gone) kid (.row t' (es0 ++ new))⟩ tms w' ∧
   ARel P w' (Al w0 w' σ' (upd (upd s.hp id .gone) kid (.row t' (es0 ++ new)))) σ' v (.own kid E.kinds 0 (es0.length+new.length)):=by
  intro olds cp r0 hol hel hrep
  have hcap:=grownCap_ge w (es0.length+new.length) cp t'
  have hcapm:=grownCap_le_maxLen w (es0.length+new.length) cp t' (by simp only [maxLen];omega)
  refine ⟨_,_,r0,upd (upd σ id .gone) kid (.row w.heap.size (grownCap w (es0.length+new.length) cp t') t' E.kinds (es0 ++ new).length),?_,?_⟩
  ·refine h.replace hb hσd (h.below.then ((aw8 w _).mono h.below.size)) (aw8 w _).size (fun c hc _=>(aw8 w _).block c hc) (fun c hc=>.inr (by simp [aj0] at hc;omega)) (fun hal hheap=>?_)
   refine aya (olds ++ news) (Builtin.zeroCells S.z.cells (grownCap w (es0.length+new.length) cp t' - (es0.length+new.length))).toList hE hbyl (.inl h.below.size) (heap_alloc_new w.drew _) (by simp) (by rw [jh,jh,hol,mlen,jo]) ?_ (by rw [jh];exact hcap) hcapm ?_
    (akb rfl hol mlen (fun i hi j hj=>(hrep i hi j hj).mono hheap hal) (fun i hi j hj=>(mrep i hi j hj).mono hheap hal))
   ·rw [Array.size_append,Array.size_append,jK,jK,hol,mlen,az4,hzl,← jo,← jo]
    congr 1;omega
   ·intro i hi
    rw [jh] at hi
    by_cases hh:i < es0.length
    ·have:eg (es0 ++ new) i=eg es0 i:=by simp only [eg,jb,jr hh]
     rw [this];exact hel i hh
    ·have:eg (es0 ++ new) i=eg new (i - es0.length):=by simp only [eg,jb,jt (by omega:es0.length≤i)]
     rw [this];exact mel _ (by omega)
  ·exact .own0 (F:=fun _=>False) _ _ _ w.heap.size _ (es0 ++ new).length t' (by simp [upd]) (by simp)
 rcases hv with ⟨rfl,hl0,_,hes,hrown⟩ | ⟨_,ho,_⟩ | ⟨b,cap,c,hg,rfl,hc0,hlc⟩
 ·have he0:=hnl hes
  subst he0
  rcases Nat.eq_zero_or_pos new.length with h0 | h0
  ·exact zero (jx h0) ⟨none,0,rfl,jq _⟩ (.inl ⟨rfl,hrown,hes⟩)
  ·rcases mmem with rfl | ⟨b,o,ha,hbb,hcell⟩
   ·simp at h0
   ·have hrun:=run_append_nil (P:=P) w t ty t' S.i S.z hu S.info S.zero ⟨b,o,none⟩ new.length c0 news (by rw [S.size];exact mlen) (fun j v hj=>by rw [Addr.add_lit];exact hcell j v hj) (by omega) (by omega) (by rw [S.bytes];simp at hbyn;omega)
    refine grow [] 0 ?_ (by simp) (by simp) (by simp)
    rw [ha]
    simpa using hrun
 ·exact absurd rfl ho
 ·have hcc:=hc0 rfl
  subst hcc
  try obtain rfl:=akj hB0 hg
  obtain ⟨_,_,_,hBb,cur,tg,hh,hsz,hec',hcm,_,hel',hcell'⟩:=awe hB0 hg
  have hec:es0.length≤c:=by omega
  have hel:∀ i,i < es0.length→(eg es0 i).length=E.kinds.length:=fun i hi=>by rw [heg i hi];exact hel' i (by omega)
  have hcell:∀ i,i < es0.length→∀ j,j < E.kinds.length→i * E.kinds.length+j < cur.size∧w.cell? ⟨b,i * E.kinds.length+j,none⟩=some (cur.getD (i * E.kinds.length+j) undef)∧RepC P w (Al w0 w σ s.hp) (E.kinds.getD j .other) (cur.getD (i * E.kinds.length+j) undef) (cg (eg es0 i) j):=fun i hi j hj=>by rw [heg i hi];exact hcell' i (by omega) j hj
  have hle2:es0.length * E.kinds.length≤cur.size:=by rw [hsz];exact jk _ hec
  have hcl:cur.toList.length=cur.size:=jI
  simp only [Jn] at hx ⊢ zero grow
  rcases Nat.eq_zero_or_pos new.length with h0 | h0
  ·exact zero (jx h0) ⟨_,c,rfl,by omega⟩ (.inr ⟨b,c,rfl,hg⟩)
  ·rcases mmem with rfl | ⟨b2,o,ha,hbb,hcell2⟩
   ·simp at h0
   ·by_cases hroom:es0.length+new.length≤c
    ·have hfit:es0.length * E.kinds.length+news.length≤cur.size:=by
      rw [mlen,hsz,← jo];exact jk _ hroom
     have hrun:=bqj (P:=P) w t ty t' tg S.i hu S.info b es0.length c cur hh ⟨b2,o,none⟩ new.length c0 news (by rw [S.size];exact mlen) (fun j v hj=>by rw [Addr.add_lit];exact hcell2 j v hj) hone hroom (by rw [S.size];exact hfit)
     refine ⟨_,_,by rw [ha];exact hrun,upd (upd σ id .gone) kid (.row b c t' E.kinds (es0 ++ new).length),?_,?_⟩
     ·have hbel:az1 w0.n w0.mu w (w.setRow b (cur.toList.take (es0.length * S.i.size) ++ news ++ cur.toList.drop (es0.length * S.i.size+news.length)).toArray) :=
       ⟨by simp,by simp,by simp,by simp,fun k hk hn=>setRow_other w b k _ (by
        rcases hBb with hBb | hBb
        ·omega
        ·intro e;exact hn (e ▸ hBb))⟩
      refine h.replace hb hσd (h.below.trans hbel) (by simp) (fun k hk hkb=>setRow_other w b k _ (fun e=>hkb (by rw [hg,e];exact .inl rfl))) (fun k hk=>.inl (by rw [hg];exact hk)) (fun hal hheap=>?_)
      have htk:(cur.toList.take (es0.length * E.kinds.length)).length=es0.length * E.kinds.length:=by
       rw [jm];omega
      refine aya (cur.toList.take (es0.length * E.kinds.length) ++ news) (cur.toList.drop (es0.length * E.kinds.length+news.length)) hE hbyl hBb (setRow_heap w b cur _ _ _ hh) (by simp [S.size]) (by rw [jh,jh,htk,mlen,jo]) ?_ (by rw [jh];exact hroom) hcm ?_
       (akb rfl htk mlen (fun i hi j hj=>?_) (fun i hi j hj=>(mrep i hi j hj).mono hheap hal))
      ·simp only [jK,jh,jm,jN,jI,S.size];omega
      ·intro i hi
       rw [jh] at hi
       by_cases hh:i < es0.length
       ·have:eg (es0 ++ new) i=eg es0 i:=by simp only [eg,jb,jr hh]
        rw [this];exact hel i hh
       ·have:eg (es0 ++ new) i=eg new (i - es0.length):=by simp only [eg,jb,jt (by omega:es0.length≤i)]
        rw [this];exact mel _ (by omega)
      ·have hlt:i * E.kinds.length+j < es0.length * E.kinds.length:=by
        calc i * E.kinds.length+j < i * E.kinds.length+E.kinds.length:=by omega
         _=(i+1) * E.kinds.length:=by rw [jo];omega
         _≤es0.length * E.kinds.length:=jk _ (by omega)
       have:=((hcell i hi j hj).2.2).mono hheap hal
       rw [aju _ _ _ _ hlt]
       have e1:cur.toList.getD (i * E.kinds.length+j) undef=cur.getD (i * E.kinds.length+j) undef:=by simp [je,jb]
       rw [e1];exact this
     ·exact .own0 (F:=fun _=>False) _ _ _ b c (es0 ++ new).length t' (by simp [upd]) (by simp)
    ·have hol:(cur.toList.take (es0.length * E.kinds.length)).length=es0.length * E.kinds.length:=by
      rw [jm];omega
     have hrun:=run_append_grow (P:=P) w t ty t' S.i S.z hu S.info S.zero ⟨b,0,none⟩ es0.length c (cur.toList.take (es0.length * E.kinds.length)) (by rw [S.size];exact hol) (fun j v hj=>by
       rw [Addr.add_lit,jM,cell_of_row w b j cur _ (0,0) hh]
       rw [Jc] at hj
       split at hj
       ·simpa using hj
       ·cases hj) ⟨b2,o,none⟩ new.length c0 news (by rw [S.size];exact mlen) (fun j v hj=>by rw [Addr.add_lit];exact hcell2 j v hj) (by omega) (by omega) (by rw [S.bytes];exact growslice_fits (by omega) hbyn)
     refine grow (cur.toList.take (es0.length * E.kinds.length)) c ?_ hol hel (fun i hi j hj=>?_)
     ·rw [ha];exact hrun
     ·have hlt:i * E.kinds.length+j < es0.length * E.kinds.length:=by
       calc i * E.kinds.length+j < i * E.kinds.length+E.kinds.length:=by omega
        _=(i+1) * E.kinds.length:=by rw [jo];omega
        _≤es0.length * E.kinds.length:=jk _ (by omega)
      rw [aju _ _ _ _ hlt]
      have e1:cur.toList.getD (i * E.kinds.length+j) undef=cur.getD (i * E.kinds.length+j) undef:=by simp [je,jb]
      rw [e1];exact (hcell i hi j hj).2.2
end Go.AE
/-
 Append within a row: a part of it, moved over another.
-/
namespace Go.AE
open Go.RowKit (Below)
variable {P:Program} {w0:Base} {w:World} {N:Nat} {σ:Nat→RefI} {s:S} {tms:Array Value} {ρ:Operand→Value} {al:Nat→Prop}
theorem bw5 {es:List (List C)} {n i:Nat} (h:i < n):eg (es.take n) i=eg es i:=by
 simp [eg,jb,h]
theorem bkx {es:List (List C)} {n i:Nat}:eg (es.drop n) i=eg es (n+i):=by
 simp [eg,jb,Jm]
theorem ak1 {es fs:List (List C)} {i:Nat} (h:i < es.length):eg (es ++ fs) i=eg es i:=by
 simp only [eg,jb,jr h]
theorem bjf {es fs:List (List C)} {i:Nat} (h:es.length≤i):eg (es ++ fs) i=eg fs (i - es.length):=by
 simp only [eg,jb,jt h]
theorem byf {t e:TypeId} {E:TyI} {y:A} {vx vy:Value} {es new:List (List C)} {id kid len:Nat} {ks:List Kd} (h:RelL P w0 N σ s tms w) (hs:slE P t=some (e,E)) (hsrc:Nonempty (bjv P w (Al w0 w σ s.hp) E.kinds vy new)) (hd:aqh (s.hp kid)=true) (hpl:azd E.kinds=true)
  (hb:s.hp id = .row e es) (hfit:len+new.length≤es.length) (hx:ARel P w (Al w0 w σ s.hp) σ vx (.own id ks 0 len)) (hy:ARel P w (Al w0 w σ s.hp) σ vy y) (ty:TypeId) :
  ∃ v w',(Builtin.append_ #[t,t] ty #[vx,vy]).run P w = .ok v w'∧∃ σ',RelL P w0 N σ' ⟨s.tm,upd s.hp id (.row e (es.take len ++ new ++ es.drop (len+new.length)))⟩ tms w' ∧
   ARel P w' (Al w0 w' σ' (upd s.hp id (.row e (es.take len ++ new ++ es.drop (len+new.length))))) σ' v (.own id ks 0 (len+new.length)):=by
 obtain ⟨hu,hE⟩:=aqa hs
 obtain ⟨S⟩:=ajk hE
 obtain ⟨m⟩:=hsrc
 have hone:=m.one (awq (ks:=E.kinds) hpl)
 have hlv:live s.hp id=true:=by unfold live;simp [hb]
 obtain ⟨t',es',hb',hle,⟨E',hE',hks⟩,hbd,hv⟩:=azs h hlv hx
 have heq:t'=e∧es'=es:=by rcases hb' with hb' | hb' <;> rw [hb] at hb' <;> simp at hb';exact ⟨hb'.1.symm,hb'.2.symm⟩
 obtain ⟨rfl,rfl⟩:=heq
 rw [hE] at hE';simp only [ja] at hE';subst hE';subst hks
 have hσd:=ajw hd
 have hB0:aq2 P w w0.wr (Al w0 w σ s.hp) (σ id) t' es':=by have:=h.blks id;rw [hb] at this;exact this
 have hlen':(es'.take len ++ new ++ es'.drop (len+new.length)).length=es'.length:=by simp;omega
 have hz:new=[]→es'.take len ++ new ++ es'.drop (len+new.length)=es':=by rintro rfl;simp
 rcases hv with ⟨rfl,rfl,_,rfl,hrown⟩ | ⟨_,ho,_⟩ | ⟨b,cap,c,hg,rfl,hc0,hlc⟩
 ·have h0:new=[]:=jx (by simp only [jO] at hfit;omega)
  subst h0
  have hrel:RelL P w0 N σ ⟨s.tm,upd s.hp id (.row t' (List.take 0 [] ++ [] ++ List.drop (0+([]:List (List C)).length) []))⟩ tms w:=by
   have e:upd s.hp id (.row t' (List.take 0 [] ++ [] ++ List.drop (0+([]:List (List C)).length) []))=s.hp:=by
    funext k;simp only [upd];split
    ·rename_i e;rw [e,hb];simp
    ·rfl
   rw [e];exact h
  refine ⟨.slice none 0 0,w,?_,σ,hrel,.ownNil _ _ _ t' hrown rfl⟩
  rw [m.eq]
  exact awm hs ty none m.a 0 0 m.c (jq _)
 ·exact absurd rfl ho
 ·have hcc:=hc0 rfl
  subst hcc
  try obtain rfl:=akj hB0 hg
  obtain ⟨_,_,_,hBb,cur,tg,hh,hsz,hec,hcm,_,hel,hcell⟩:=awe hB0 hg
  simp only [Jn] at hx ⊢
  by_cases h0:new=[]
  ·have hrel:RelL P w0 N σ ⟨s.tm,upd s.hp id (.row t' es')⟩ tms w:=by
    have e:upd s.hp id (.row t' es')=s.hp:=by
     funext k;simp only [upd];split
     ·rename_i e;rw [e,hb]
     ·rfl
    rw [e];exact h
   rw [hz h0]
   subst h0
   refine ⟨.slice (some ⟨b,0,none⟩) len c,w,?_,σ,hrel,?_⟩
   ·rw [m.eq];exact awm hs ty (some ⟨b,0,none⟩) m.a len c m.c (by omega)
   ·exact .own0 _ _ _ b c es'.length t' hg (by omega)
  ·rcases m.mem with h1 | ⟨b2,o,ha,hbb,hcell2⟩
   ·exact absurd h1 h0
   ·have hroom:len+new.length≤c:=by omega
    have hfit2:len * E.kinds.length+m.news.length≤cur.size:=by
     rw [m.len,hsz,← jo];exact jk _ hroom
    have hrun:=bqj (P:=P) w t ty t' tg S.i hu S.info b len c cur hh ⟨b2,o,none⟩ new.length m.c m.news (by rw [S.size];exact m.len) (fun j v hj=>by rw [Addr.add_lit];exact hcell2 j v hj) hone hroom (by rw [S.size];exact hfit2)
    refine ⟨_,_,by rw [m.eq,ha];exact hrun,σ,?_,?_⟩
    ·have hbel:az1 w0.n w0.mu w (w.setRow b (cur.toList.take (len * S.i.size) ++ m.news ++ cur.toList.drop (len * S.i.size+m.news.length)).toArray) :=
      ⟨by simp,by simp,by simp,by simp,fun k hk hn=>setRow_other w b k _ (by
       rcases hBb with hBb | hBb
       ·omega
       ·intro e;exact hn (e ▸ hBb))⟩
     refine h.write (b:=b) (by simp [hg,aj0]) (by simp [hb,ake]) _ (by simp) (by simp) (by simp) (by simp) (fun c hc=>setRow_other w b c _ hc) (fun hal hheap=>?_)
     show aq2 P _ _ _ (σ id) t' _
     rw [hg,← hlen']
     have hcl:cur.toList.length=cur.size:=jI
     have hle3:es'.length * E.kinds.length≤cur.size:=by rw [hsz];exact jk _ hec
     have hle4:len * E.kinds.length+m.news.length≤es'.length * E.kinds.length:=by rw [m.len,← jo];exact jk _ hfit
     have htk:(cur.toList.take (len * E.kinds.length)).length=(es'.take len).length * E.kinds.length:=by
      rw [jm,jm,Jz (by omega),Jz (by omega)]
     have hdl:(es'.drop (len+new.length)).length * E.kinds.length=es'.length * E.kinds.length - (len * E.kinds.length+m.news.length):=by
      rw [jN,Nat.sub_mul,jo,m.len]
     have hcd:∀ k,(cur.toList.drop (len * E.kinds.length+m.news.length)).getD k undef=cur.getD (len * E.kinds.length+m.news.length+k) undef:=by
      intro k;simp [jb,Jm,je]
     refine aya (cells:=(cur.toList.take (len * E.kinds.length) ++ m.news) ++ (cur.toList.drop (len * E.kinds.length+m.news.length)).take ((es'.drop (len+new.length)).length * E.kinds.length)) (rest:=(cur.toList.drop (len * E.kinds.length+m.news.length)).drop ((es'.drop (len+new.length)).length * E.kinds.length))
      hE (by rw [hlen'];obtain ⟨E2,hE2,hby2,_⟩:=hB0;rw [hE] at hE2;simp only [ja] at hE2;subst hE2;exact hby2) hBb (setRow_heap w b cur _ _ _ hh) ?_ ?_ ?_ (by rw [hlen'];exact hec) hcm ?_ ?_
     ·simp only [S.size]
      rw [List.append_assoc _ (List.take _ _),List.take_append_drop]
     ·have hA:(cur.toList.drop (len * E.kinds.length+m.news.length)).length=cur.size - (len * E.kinds.length+m.news.length):=by rw [jN,hcl]
      have hB:((cur.toList.drop (len * E.kinds.length+m.news.length)).take ((es'.drop (len+new.length)).length * E.kinds.length)).length=es'.length * E.kinds.length - (len * E.kinds.length+m.news.length):=by
       rw [jm,hA,hdl];omega
      rw [jh,jh,hB,hlen',jm,hcl,Jz (by omega)]
      omega
     ·simp only [jK,jh,jm,jN,jI,S.size];omega
     ·intro i hi
      rw [hlen'] at hi
      by_cases h1:i < len
      ·rw [ak1 (by simp;omega),ak1 (by simp;omega),bw5 h1];exact hel i hi
      ·by_cases h2:i < len+new.length
       ·rw [ak1 (by simp;omega),bjf (by simp;omega)]
        exact m.el _ (by simp;omega)
       ·rw [bjf (by simp;omega),bkx]
        exact hel _ (by simp;omega)
     ·refine akb rfl (by rw [jh,jh,htk,m.len,jo]) (by rw [jm,jN (l:=cur.toList),hcl,hdl];omega) (akb rfl htk m.len (fun i hi j hj=>?_) (fun i hi j hj=>(m.rep i hi j hj).mono hheap hal)) (fun i hi j hj=>?_)
      ·have hi':i < len:=by rw [jm] at hi;omega
       rw [bw5 hi']
       have hlt:i * E.kinds.length+j < len * E.kinds.length:=by
        calc i * E.kinds.length+j < i * E.kinds.length+E.kinds.length:=by omega
         _=(i+1) * E.kinds.length:=by rw [jo];omega
         _≤len * E.kinds.length:=jk _ (by omega)
       have:=((hcell i (by omega) j hj).2.2).mono hheap hal
       rw [aju _ _ _ _ hlt]
       have e1:cur.toList.getD (i * E.kinds.length+j) undef=cur.getD (i * E.kinds.length+j) undef:=by simp [je,jb]
       rw [e1];exact this
      ·have hi':len+new.length+i < es'.length:=by rw [jN] at hi;omega
       rw [bkx]
       have hlt:i * E.kinds.length+j < (es'.drop (len+new.length)).length * E.kinds.length:=by
        calc i * E.kinds.length+j < i * E.kinds.length+E.kinds.length:=by omega
         _=(i+1) * E.kinds.length:=by rw [jo];omega
         _≤_:=jk _ (by omega)
       have:=((hcell _ hi' j hj).2.2).mono hheap hal
       rw [aju _ _ _ _ hlt,hcd]
       show RepC P _ _ _ _ _
       have e2:len * E.kinds.length+m.news.length+(i * E.kinds.length+j)=(len+new.length+i) * E.kinds.length+j:=by
        rw [m.len,jo,jo];omega
       rw [e2];exact this
    ·exact .own0 _ _ _ b c es'.length t' hg (by omega)
theorem bqe {n sz i j:Nat} (hi:i < n) (hj:j < sz):i * sz+j < n * sz:=by
 calc i * sz+j < i * sz+sz:=by omega
  _=(i+1) * sz:=by rw [jo];omega
  _≤n * sz:=jk _ hi
theorem dkm {id sz:Nat} {ks:List Kd} {v:Value} {t':TypeId} {es:List (List C)} (h:RelL P w0 N σ s tms w) (hb:s.hp id = .row t' es∨s.hp id = .frz t' es) (hx:ARel P w (Al w0 w σ s.hp) σ v (.elt id sz ks 0 0)) :
  ∃ E b cap cur tg,tyI P t'=some E∧(es.length:Int) * E.bytes≤140737488355328∧v = .pointer (some ⟨b,0,none⟩)∧σ id = .row b cap t' E.kinds es.length∧w0.wr b∧w.heap[b]? = some (.cells cur tg (0,0))∧cur.size=cap * E.kinds.length∧es.length≤cap∧cap≤maxLen ∧
   (∀ i,i < es.length→(eg es i).length=E.kinds.length) ∧
   (∀ i,i < es.length→∀ j,j < E.kinds.length→i * E.kinds.length+j < cur.size∧w.cell? ⟨b,i * E.kinds.length+j,none⟩=some (cur.getD (i * E.kinds.length+j) undef)∧RepC P w (Al w0 w σ s.hp) (E.kinds.getD j .other) (cur.getD (i * E.kinds.length+j) undef) (cg (eg es i) j)):=by
 have hB:aq2 P w w0.wr (Al w0 w σ s.hp) (σ id) t' es:=by
  have:=h.blks id
  rcases hb with hb | hb <;> rw [hb] at this <;> exact this
 cases hx with
 | eltGone _ _ _ _ _ _ hg =>
  obtain ⟨E,_,_,hB⟩:=hB
  rcases hB with ⟨hB,_⟩ | ⟨_,_,_,_,hB,_⟩ <;> rw [hB] at hg <;> cases hg
 | elt _ ks0 _ _ _ b cap n t'' hg hin hks =>
  try obtain rfl:=akj hB hg
  obtain ⟨rfl,rfl,⟨E,hE,hk0⟩,hwr,cur,tg,hh,hsz,hec,hcm,_,hel,hcell⟩:=awe hB hg
  obtain ⟨E2,hE2,hby,_⟩:=hB
  rw [hE] at hE2;simp only [ja] at hE2;subst hE2
  subst hk0
  exact ⟨E,b,cap,cur,tg,hE,hby,by simp,hg,hwr,hh,hsz,hec,hcm,hel,hcell⟩
theorem bkt {t:TypeId} {a:A} {v:Value} {p:Prop} {z:A} (h:RelL P w0 N σ s tms w) (hf:cwa P t s.hp a=some (p,z)) (hp:p) (hx:ARel P w (Al w0 w σ s.hp) σ v a) :
  ∃ ad u,v = .pointer (some ad)∧(Instr.loadAt t v).run P w = .ok u w∧ARel P w (Al w0 w σ s.hp) σ u z:=by
 have key:∀ n e E id sz ks es,arrI P t=some (n,e,E)→a = .elt id sz ks 0 0→(s.hp id = .row e es∨s.hp id = .frz e es)→es.length=n→z = .c (.arr t) (.slice es)→∃ ad u,v = .pointer (some ad)∧(Instr.loadAt t v).run P w = .ok u w∧ARel P w (Al w0 w σ s.hp) σ u z:=by
  rintro n e E id sz ks es hA rfl hb hn rfl
  obtain ⟨i,z,hi,hu,hE,hsize,hpos,hby,hz,hfit⟩:=bw6 hA
  obtain ⟨E',b,cap,cur,tg,hE',_,hv,hg,_,hh,hsz,hec,hcm,hel,hcell⟩:=dkm h hb hx
  rw [hE] at hE';simp only [ja] at hE';subst hE'
  have hks:=az2 hE
  have hl:=run_loadCells (P:=P) w ⟨b,0,none⟩ (n * E.kinds.length) (fun k=>cur.getD k undef) (fun k hk=>by
   obtain ⟨h1,h2,h3⟩:=cqt hk
   have:=(hcell (k / E.kinds.length) (by omega) (k % E.kinds.length) h2).2.1
   rw [h3] at this
   rw [Addr.add_lit,jM];exact this)
  have hr:(Instr.loadAt t v).run P w = .ok (.agg ((Je (n * E.kinds.length)).map fun k=>cur.getD k undef).toArray) w:=by
   rw [hv]
   simp only [Instr.loadAt,Instr.sureAddr,loadVar,Sem.run_bind,Sem.run_pure,Result.andThen_ok,cqn hu,awn]
   simp [sizeOf,run_typeInfo w hi,hsize,hl]
  refine ⟨_,_,hv,hr,?_⟩
  refine .c _ _ _ (.arr t (.slice es) _ n e E hA hn (by simp) (fun i hi=>hel i (by omega)) (fun i hi j hj=>?_))
  have hlt:=bqe hi hj
  have e1:((Je (n * E.kinds.length)).map fun k=>cur.getD k undef).getD (i * E.kinds.length+j) undef=cur.getD (i * E.kinds.length+j) undef:=by
   simp [jb,hlt]
  rw [e1]
  exact (hcell i (by omega) j hj).2.2
 unfold cwa at hf
 split at hf
 ·rename_i n e E id sz ks hA
  split at hf
  ·rename_i t' es hb
   split at hf
   ·rename_i he
    simp only [beq_iff_eq] at he;subst he
    simp only [ja,Prod.mk.injEq] at hf
    obtain ⟨rfl,rfl⟩:=hf
    exact key n t' E id sz ks es hA rfl (.inl hb) hp rfl
   ·cases hf
  ·rename_i t' es hb
   split at hf
   ·rename_i he
    simp only [beq_iff_eq] at he;subst he
    simp only [ja,Prod.mk.injEq] at hf
    obtain ⟨rfl,rfl⟩:=hf
    exact key n t' E id sz ks es hA rfl (.inr hb) hp rfl
   ·cases hf
  ·cases hf
 ·cases hf
end Go.AE
