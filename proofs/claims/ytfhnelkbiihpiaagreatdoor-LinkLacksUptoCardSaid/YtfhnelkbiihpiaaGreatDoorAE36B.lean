/- Text. -/
import Derived.Test.YtfhnelkbiihpiaaGreatDoorAE32
import Derived.Test.YtfhnelkbiihpiaaGreatDoorAE11B
import Derived.Lib.AppendStr
import Derived.Laws.BytesArg
import Derived.Laws.CopyRow
set_option linter.unusedSimpArgs false
set_option linter.unusedVariables false
open _root_.Array renaming length_toList→jI,getD_eq_getD_getElem?→je
open _root_.Bool renaming and_eq_true→jd,not_eq_true'→Ja
open _root_.Int renaming mul_le_mul_of_nonneg_left→Jg
open _root_.List renaming getD_eq_getElem?_getD→jb,length_take→jm,getElem?_take→Jc,length_append→jh,length_nil→jO,size_toArray→jK,getElem?_append_left→jr,getElem?_append_right→jt,eq_nil_of_length_eq_zero→jx,length_drop→jN,getElem?_set_ne→Jv
open _root_.Nat renaming add_zero→jV,mul_one→Ju,le_refl→jq,add_mul→jo,mul_le_mul_right→jk,min_eq_left→Jz
open Go.Op renaming operands→jc
open _root_.Option.some renaming injEq→ja
namespace Go.AE
open Go.RowKit (Below)
variable {P:Program} {w0:Base} {w:World} {N:Nat} {σ:Nat→RefI} {s:S} {tms:Array Value} {ρ:Operand→Value} {al:Nat→Prop}
def row8 (l:List UInt8):List (List C):=l.map fun b=>[.int (b.toNat:Int)]
def str8 (es:List (List C)):List UInt8:=es.map fun e=>UInt8.ofNat (cg e 0).toInt.toNat
theorem ckc (l:List UInt8):(row8 l).length=l.length:=by simp [row8]
theorem ewr (l:List (List C)):(str8 l).length=l.length:=by simp [str8]
theorem ej3 (l:List UInt8) (i:Nat) (hi:i < (row8 l).length):eg (row8 l) i=[.int ((l.getD i 0).toNat:Int)]:=by
 have h:i < l.length:=by rw [ckc] at hi;exact hi
 simp [eg,row8,jb,h]
theorem ejo (l:List UInt8) (i:Nat) (hi:i < (row8 l).length):(eg (row8 l) i).length=1:=by rw [ej3 l i hi];rfl
theorem dwz (l:List UInt8) (i:Nat) (hi:i < (row8 l).length):RepC P w al (([.int .u8]:List Kd).getD 0 .other) ((Go.Lib.strCells ⟨l.toArray⟩).getD i undef) (cg (eg (row8 l) i) 0):=by
 rw [ej3 l i hi]
 have h:i < l.length:=by rw [ckc] at hi;exact hi
 have e:(Go.Lib.strCells ⟨l.toArray⟩).getD i undef = .int .u8 ((l.getD i 0).toNat:Int):=by
  simp [Go.Lib.strCells,jb,h]
 rw [e]
 have:=RepC.int (P:=P) (w:=w) (Al:=al) .u8 (.int ((l.getD i 0).toNat:Int)) (by
  have h3:IntKind.u8.min=0:=by decide
  have h4:IntKind.u8.max=255:=by decide
  have:=(l.getD i 0).toNat_lt
  simp only [InR,C.toInt_int,h3,h4];omega)
 exact this
theorem ak3 {t u e:TypeId} {E:TyI} (hs:slE P t=some (e,E)) (hU:P.underlying u=some .string) (ty:TypeId) (b:Option Addr) (n cap:Nat) (hn:n≤cap) :
  (Builtin.append_ #[t,u] ty #[.slice b n cap,.string ⟨([]:List UInt8).toArray⟩]).run P w = .ok (.slice b n cap) w:=by
 obtain ⟨hu,hE⟩:=aqa hs
 cases b <;> simp [Builtin.append_,run_underlying hu,run_underlying hU,akn hE,Builtin.lenOf,hn,Builtin.firstCells,storeCells,ByteArray.size]
theorem bq7 (w:World) (t u ty e tg:TypeId) (i:TypeInfo) (ht:P.underlying t=some (.slice e)) (hu:P.underlying u=some .string) (hi:P.info? e=some i) (hs1:i.size=1)
  (g sLen sCap:Nat) (cur:Array Value) (hg:w.heap[g]? = some (.cells cur tg (0,0))) (s:ByteArray)
  (hroom:sLen+s.size≤sCap) (hfit:sLen+s.size≤cur.size) :
  (Builtin.append_ #[t,u] ty #[.slice (some ⟨g,0,none⟩) sLen sCap,.string s]).run P w =
   .ok (.slice (some ⟨g,0,none⟩) (sLen+s.size) sCap) (w.setRow g (cur.toList.take sLen ++ Go.Lib.strCells s ++ cur.toList.drop (sLen+s.size)).toArray):=by
 have hf:=Go.Lib.run_firstCells_string (P:=P) w 1 s
 have hst:=run_storeCells_at P g sLen tg (Go.Lib.strCells s) 0 cur w hg (by simpa [Go.Lib.strCells_length] using hfit) (Go.Lib.strCells_oneCell s)
 simp only [jV,Go.Lib.strCells_length] at hst
 simp [Builtin.append_,run_underlying ht,run_underlying hu,sizeOf,typeInfo,hi,hs1,Builtin.lenOf,hroom,hf,Addr.add_lit,hst]
theorem cjf {t u e:TypeId} {E:TyI} {vx:Value} {es:List (List C)} {l:List UInt8} {id kid len:Nat} {ks:List Kd} (h:RelL P w0 N σ s tms w) (hs:slE P t=some (e,E)) (hU:P.underlying u=some .string) (hk1:E.kinds=[.int .u8]) (hd:aqh (s.hp kid)=true)
  (hb:s.hp id = .row e es) (hlen:len≤es.length) (hby:((len+(row8 l).length:Nat):Int) * E.bytes≤140737488355328) (hx:ARel P w (Al w0 w σ s.hp) σ vx (.own id ks 0 len)) (ty:TypeId) :
  ∃ v w',(Builtin.append_ #[t,u] ty #[vx,.string ⟨l.toArray⟩]).run P w = .ok v w'∧∃ σ',RelL P w0 N σ' ⟨s.tm,upd (upd s.hp id .gone) kid (.row e (es.take len ++ row8 l))⟩ tms w' ∧
   ARel P w' (Al w0 w' σ' (upd (upd s.hp id .gone) kid (.row e (es.take len ++ row8 l)))) σ' v (.own kid ks 0 (len+(row8 l).length)):=by
 obtain ⟨hu,hE⟩:=aqa hs
 obtain ⟨S⟩:=ajk hE
 obtain ⟨new,hnew⟩:∃ new,new=row8 l:=⟨_,rfl⟩
 obtain ⟨news,hnews⟩:∃ news,news=Go.Lib.strCells ⟨l.toArray⟩:=⟨_,rfl⟩
 have hk2:E.kinds.length=1:=by rw [hk1];rfl
 have hsl:(⟨l.toArray⟩:ByteArray).size=new.length:=by rw [hnew];simp [row8,ByteArray.size]
 have mlen:news.length=new.length * E.kinds.length:=by rw [hnews,Go.Lib.strCells_length,hsl,hk2,Ju]
 have mel:∀ i,i < new.length→(eg new i).length=E.kinds.length:=fun i hi=>by rw [hk2,hnew] at *;exact ejo l i hi
 have mrep:∀ i,i < new.length→∀ j,j < E.kinds.length→RepC P w (Al w0 w σ s.hp) (E.kinds.getD j .other) (news.getD (i * E.kinds.length+j) undef) (cg (eg new i) j):=fun i hi j hj=>by
  have hj0:j=0:=by rw [hk2] at hj;omega
  subst hj0
  rw [hk2,hk1,hnews,hnew,Ju,jV]
  rw [hnew] at hi
  exact dwz l i hi
 have hone:∀ u∈news,u.oneCell'=true:=by rw [hnews];exact Go.Lib.strCells_oneCell _
 rw [← hnew] at hby ⊢
 have hlv:live s.hp id=true:=by unfold live;simp [hb]
 obtain ⟨t',es',hb',hle,⟨E',hE',hks⟩,hbd,hv⟩:=azs h hlv hx
 have heq:t'=e∧es'=es:=by
  rcases hb' with hb' | hb' <;> rw [hb] at hb' <;> simp at hb' <;> exact ⟨hb'.1.symm,hb'.2.symm⟩
 obtain ⟨rfl,rfl⟩:=heq
 rw [hE] at hE';simp only [ja] at hE';subst hE';subst hks
 obtain ⟨es0,he0⟩:∃ es0,es0=es'.take len:=⟨_,rfl⟩
 rw [← he0]
 have hl0:len=es0.length:=by rw [he0,jm];omega
 have heg:∀ i,i < len→eg es0 i=eg es' i:=by
  intro i hi
  rw [he0]
  simp only [eg,jb,Jc,hi,if_true]
 have hnl:es'=[]→es0=[]:=by intro h2;rw [he0,h2];simp
 clear he0
 subst hl0
 have hbyn:(es0.length+new.length) * E.bytes≤140737488355328:=by omega
 have hnle:es0.length+new.length≤140737488355328:=by
  have:=S.pos
  have:(es0.length+new.length) * 1≤(es0.length+new.length) * E.bytes:=Nat.mul_le_mul_left _ (by omega)
  omega
 have hbyl:((es0 ++ new).length:Int) * E.bytes≤140737488355328:=by rw [jh];exact hby
 have hzl:S.z.cells.size=E.kinds.length:=by have:=(azr (P:=P) (w:=w) (al:=fun _=>True) S.zfits).1;simpa using this
 have hσd:=ajw hd
 have hne:id≠kid:=by intro e;rw [e,hσd] at hb;cases hb
 have hB0:aq2 P w w0.wr (Al w0 w σ s.hp) (σ id) t' es':=by have:=h.blks id;rw [hb] at this;exact this
 -- nothing new
 have zero:new=[]→(∃ a c,vx = .slice a es0.length c∧es0.length≤c)→((vx = .slice none 0 0∧σ id = .rown t' E.kinds∧es'=[])∨∃ b c,vx = .slice (some ⟨b,0,none⟩) es0.length c∧σ id = .row b c t' E.kinds es'.length) →
   ∃ v w',(Builtin.append_ #[t,u] ty #[vx,.string ⟨l.toArray⟩]).run P w = .ok v w'∧∃ σ',RelL P w0 N σ' ⟨s.tm,upd (upd s.hp id .gone) kid (.row t' (es0 ++ new))⟩ tms w' ∧
   ARel P w' (Al w0 w' σ' (upd (upd s.hp id .gone) kid (.row t' (es0 ++ new)))) σ' v (.own kid E.kinds 0 (es0.length+new.length)):=by
  rintro h00' ⟨a,c,hvx,hac⟩ hform
  have hl00:l=[]:=by rw [hnew] at h00';simpa [row8] using h00'
  rw [h00',List.append_nil]
  simp only [jO,jV]
  rcases hform with ⟨hf,h1,h2⟩ | ⟨b,cc,hf,hr⟩
  ·have he:=hnl h2
   have hrel:=h.replace (id:=id) (key:=kid) (es':=es0) (r':=σ id) hb hσd h.below (jq _) (fun _ _ _=>rfl) (fun c hc=>.inl hc) (fun hal hheap=>by
    rw [he] at hal ⊢
    rw [h2] at hB0
    exact hB0.mono hheap hal (fun _ _=>rfl))
   refine ⟨vx,w,?_,_,hrel,?_⟩
   ·rw [hvx];rw [hl00];exact ak3 hs hU ty a _ c hac
   ·rw [hf,he]
    exact .ownNil _ _ _ t' (by simp [upd,h1]) rfl
  ·have hrel:=h.replace (id:=id) (key:=kid) (es':=es0) (r':=.row b cc t' E.kinds es0.length) hb hσd h.below (jq _) (fun _ _ _=>rfl) (fun c hc=>.inl (by rw [hr];exact hc)) (fun hal hheap=>by
    obtain ⟨E2,hE2,hby2,hr2⟩:=hB0
    rw [hE] at hE2;simp only [ja] at hE2;subst hE2
    rcases hr2 with ⟨hr2,_⟩ | ⟨b2,cap2,cur2,tg2,hr2,hB2,hh2,k1,k2,k3,k4,k5⟩
    ·rw [hr] at hr2;cases hr2
    ·rw [hr] at hr2
     simp only [RefI.row.injEq] at hr2
     obtain ⟨rfl,rfl,_⟩:=hr2
     refine ⟨E,hE,?_,.inr ⟨b,cc,cur2,tg2,rfl,hB2,hh2,by omega,k2,k3,fun i hi=>?_,fun i hi j hj=>?_⟩⟩
     ·have:=Int.mul_le_mul_of_nonneg_right (show (es0.length:Int)≤(es'.length:Int) by omega) (show (0:Int)≤E.bytes by omega)
      omega
     ·rw [heg i (by omega)];exact k4 i (by omega)
     ·rw [heg i (by omega)];exact (k5 i (by omega) j hj).mono hheap hal)
   refine ⟨vx,w,?_,_,hrel,?_⟩
   ·rw [hvx];rw [hl00];exact ak3 hs hU ty a _ c hac
   ·rw [hf]
    exact .own0 (F:=fun _=>False) _ _ _ b cc es0.length t' (by simp [upd]) (jq _)
 -- a new block
 have grow:∀ (olds:List Value) (cp:Nat) (r0:(Builtin.append_ #[t,u] ty #[vx,.string ⟨l.toArray⟩]).run P w = .ok (.slice (some ⟨w.heap.size,0,none⟩) (es0.length+new.length) (grownCap w (es0.length+new.length) cp t'))
    (w.drew.alloc (.cells ((olds.toArray ++ news.toArray) ++ Builtin.zeroCells S.z.cells (grownCap w (es0.length+new.length) cp t' - (es0.length+new.length))) t'))),
   olds.length=es0.length * E.kinds.length→(∀ i,i < es0.length→(eg es0 i).length=E.kinds.length) →
   (∀ i,i < es0.length→∀ j,j < E.kinds.length→RepC P w (Al w0 w σ s.hp) (E.kinds.getD j .other) (olds.getD (i * E.kinds.length+j) undef) (cg (eg es0 i) j)) →
   ∃ v w',(Builtin.append_ #[t,u] ty #[vx,.string ⟨l.toArray⟩]).run P w = .ok v w'∧∃ σ',RelL P w0 N σ' ⟨s.tm,upd (upd s.hp id .gone) kid (.row t' (es0 ++ new))⟩ tms w' ∧
   ARel P w' (Al w0 w' σ' (upd (upd s.hp id .gone) kid (.row t' (es0 ++ new)))) σ' v (.own kid E.kinds 0 (es0.length+new.length)):=by
  intro olds cp r0 hol hel hrep
  have hcap:=grownCap_ge w (es0.length+new.length) cp t'
  have hcapm:=grownCap_le_maxLen w (es0.length+new.length) cp t' (by simp only [maxLen];omega)
  refine ⟨_,_,r0,upd (upd σ id .gone) kid (.row w.heap.size (grownCap w (es0.length+new.length) cp t') t' E.kinds (es0 ++ new).length),?_,?_⟩
  ·refine h.replace hb hσd (h.below.then ((aw8 w _).mono h.below.size)) (aw8 w _).size (fun c hc _=>(aw8 w _).block c hc) (fun c hc=>.inr (by simp [aj0] at hc;omega)) (fun hal hheap=>?_)
   refine aya (olds ++ news) (Builtin.zeroCells S.z.cells (grownCap w (es0.length+new.length) cp t' - (es0.length+new.length))).toList hE hbyl (.inl h.below.size) (heap_alloc_new w.drew _) (by simp) (by rw [jh,jh,hol,mlen,jo]) ?_ (by rw [jh];exact hcap) hcapm ?_
    (akb rfl hol mlen (fun i hi j hj=>(hrep i hi j hj).mono hheap hal) (fun i hi j hj=>(mrep i hi j hj).mono hheap hal))
   ·rw [Array.size_append,Array.size_append,jK,jK,hol,mlen,az4,hzl,← jo,← jo]
    congr 1;omega
   ·intro i hi
    rw [jh] at hi
    by_cases hh:i < es0.length
    ·have:eg (es0 ++ new) i=eg es0 i:=by simp only [eg,jb,jr hh]
     rw [this];exact hel i hh
    ·have:eg (es0 ++ new) i=eg new (i - es0.length):=by simp only [eg,jb,jt (by omega:es0.length≤i)]
     rw [this];exact mel _ (by omega)
  ·exact .own0 (F:=fun _=>False) _ _ _ w.heap.size _ (es0 ++ new).length t' (by simp [upd]) (by simp)
 rcases hv with ⟨rfl,hl0,_,hes,hrown⟩ | ⟨_,ho,_⟩ | ⟨b,cap,c,hg,rfl,hc0,hlc⟩
 ·have he0:=hnl hes
  subst he0
  rcases Nat.eq_zero_or_pos new.length with h0 | h0
  ·exact zero (jx h0) ⟨none,0,rfl,jq _⟩ (.inl ⟨rfl,hrown,hes⟩)
  ·have hrun:=run_append_nil_string (P:=P) w t u ty t' S.i S.z hu hU S.info S.zero ⟨l.toArray⟩ (by rw [hsl];exact h0) (by rw [hsl];simp at hnle;omega) (by rw [hsl,S.bytes];simp at hbyn;omega)
   refine grow [] 0 ?_ (by simp) (by simp) (by simp)
   rw [hsl] at hrun
   have e:(⟨l.toArray⟩:ByteArray).data.map (fun b=>Value.int .u8 b.toNat)=news.toArray:=by rw [hnews];simp [Go.Lib.strCells]
   rw [e] at hrun
   simpa using hrun
 ·exact absurd rfl ho
 ·have hcc:=hc0 rfl
  subst hcc
  try obtain rfl:=akj hB0 hg
  obtain ⟨_,_,_,hBb,cur,tg,hh,hsz,hec',hcm,_,hel',hcell'⟩:=awe hB0 hg
  have hec:es0.length≤c:=by omega
  have hel:∀ i,i < es0.length→(eg es0 i).length=E.kinds.length:=fun i hi=>by rw [heg i hi];exact hel' i (by omega)
  have hcell:∀ i,i < es0.length→∀ j,j < E.kinds.length→i * E.kinds.length+j < cur.size∧w.cell? ⟨b,i * E.kinds.length+j,none⟩=some (cur.getD (i * E.kinds.length+j) undef)∧RepC P w (Al w0 w σ s.hp) (E.kinds.getD j .other) (cur.getD (i * E.kinds.length+j) undef) (cg (eg es0 i) j):=fun i hi j hj=>by rw [heg i hi];exact hcell' i (by omega) j hj
  have hle2:es0.length * E.kinds.length≤cur.size:=by rw [hsz];exact jk _ hec
  have hcl:cur.toList.length=cur.size:=jI
  simp only [Nat.zero_mul] at hx ⊢ zero grow
  rcases Nat.eq_zero_or_pos new.length with h0 | h0
  ·exact zero (jx h0) ⟨_,c,rfl,by omega⟩ (.inr ⟨b,c,rfl,hg⟩)
  ··by_cases hroom:es0.length+new.length≤c
    ·have hfit:es0.length * E.kinds.length+news.length≤cur.size:=by
      rw [mlen,hsz,← jo];exact jk _ hroom
     have hrun:=bq7 (P:=P) w t u ty t' tg S.i hu hU S.info (by rw [S.size,hk2]) b es0.length c cur hh ⟨l.toArray⟩ (by rw [hsl];exact hroom) (by rw [hsl];rw [mlen,hk2] at hfit;omega)
     rw [← hnews,hsl] at hrun
     have hrun:(Builtin.append_ #[t,u] ty #[.slice (some ⟨b,0,none⟩) es0.length c,.string ⟨l.toArray⟩]).run P w = .ok (.slice (some ⟨b,0,none⟩) (es0.length+new.length) c) (w.setRow b (cur.toList.take (es0.length * S.i.size) ++ news ++ cur.toList.drop (es0.length * S.i.size+news.length)).toArray):=by
      rw [hrun,S.size,hk2,Ju,mlen,hk2,Ju]
     refine ⟨_,_,hrun,upd (upd σ id .gone) kid (.row b c t' E.kinds (es0 ++ new).length),?_,?_⟩
     ·have hbel:az1 w0.n w0.mu w (w.setRow b (cur.toList.take (es0.length * S.i.size) ++ news ++ cur.toList.drop (es0.length * S.i.size+news.length)).toArray) :=
       ⟨by simp,by simp,by simp,by simp,fun k hk hn=>setRow_other w b k _ (by
        rcases hBb with hBb | hBb
        ·omega
        ·intro e;exact hn (e ▸ hBb))⟩
      refine h.replace hb hσd (h.below.trans hbel) (by simp) (fun k hk hkb=>setRow_other w b k _ (fun e=>hkb (by rw [hg,e];exact .inl rfl))) (fun k hk=>.inl (by rw [hg];exact hk)) (fun hal hheap=>?_)
      have htk:(cur.toList.take (es0.length * E.kinds.length)).length=es0.length * E.kinds.length:=by
       rw [jm];omega
      refine aya (cur.toList.take (es0.length * E.kinds.length) ++ news) (cur.toList.drop (es0.length * E.kinds.length+news.length)) hE hbyl hBb (setRow_heap w b cur _ _ _ hh) (by simp [S.size]) (by rw [jh,jh,htk,mlen,jo]) ?_ (by rw [jh];exact hroom) hcm ?_
       (akb rfl htk mlen (fun i hi j hj=>?_) (fun i hi j hj=>(mrep i hi j hj).mono hheap hal))
      ·simp only [jK,jh,jm,jN,jI,S.size];omega
      ·intro i hi
       rw [jh] at hi
       by_cases hh:i < es0.length
       ·have:eg (es0 ++ new) i=eg es0 i:=by simp only [eg,jb,jr hh]
        rw [this];exact hel i hh
       ·have:eg (es0 ++ new) i=eg new (i - es0.length):=by simp only [eg,jb,jt (by omega:es0.length≤i)]
        rw [this];exact mel _ (by omega)
      ·have hlt:i * E.kinds.length+j < es0.length * E.kinds.length:=by
        calc i * E.kinds.length+j < i * E.kinds.length+E.kinds.length:=by omega
         _=(i+1) * E.kinds.length:=by rw [jo];omega
         _≤es0.length * E.kinds.length:=jk _ (by omega)
       have:=((hcell i hi j hj).2.2).mono hheap hal
       rw [aju _ _ _ _ hlt]
       have e1:cur.toList.getD (i * E.kinds.length+j) undef=cur.getD (i * E.kinds.length+j) undef:=by simp [je,jb]
       rw [e1];exact this
     ·exact .own0 (F:=fun _=>False) _ _ _ b c (es0 ++ new).length t' (by simp [upd]) (by simp)
    ·have hol:(cur.toList.take (es0.length * E.kinds.length)).length=es0.length * E.kinds.length:=by
      rw [jm];omega
     have hrun:=Go.Lib.run_append_grow_string (P:=P) w t u ty t' S.i S.z hu hU S.info S.zero ⟨b,0,none⟩ es0.length c (cur.toList.take (es0.length * E.kinds.length)) (by rw [S.size];exact hol) (fun j v hj=>by
       rw [Addr.add_lit,Nat.zero_add,cell_of_row w b j cur _ (0,0) hh]
       rw [Jc] at hj
       split at hj
       ·simpa using hj
       ·cases hj) ⟨l.toArray⟩ (by rw [hsl];omega) (by rw [hsl];omega) (by rw [hsl,S.bytes];exact growslice_fits (by omega) hbyn)
     rw [hsl,← hnews] at hrun
     refine grow (cur.toList.take (es0.length * E.kinds.length)) c ?_ hol hel (fun i hi j hj=>?_)
     ·exact hrun
     ·have hlt:i * E.kinds.length+j < es0.length * E.kinds.length:=by
       calc i * E.kinds.length+j < i * E.kinds.length+E.kinds.length:=by omega
        _=(i+1) * E.kinds.length:=by rw [jo];omega
        _≤es0.length * E.kinds.length:=jk _ (by omega)
      rw [aju _ _ _ _ hlt]
      have e1:cur.toList.getD (i * E.kinds.length+j) undef=cur.getD (i * E.kinds.length+j) undef:=by simp [je,jb]
      rw [e1];exact (hcell i hi j hj).2.2
theorem ejd {t':TypeId} {E:TyI} {es' new:List (List C)} {id b c off:Nat} {cur:Array Value} {tg:TypeId} {news:List Value} (h:RelL P w0 N σ s tms w) (hE:tyI P t'=some E) (hb:s.hp id = .row t' es') (hg:σ id = .row b c t' E.kinds es'.length)
  (hh:w.heap[b]? = some (.cells cur tg (0,0))) (mlen:news.length=new.length * E.kinds.length) (mel:∀ i,i < new.length→(eg new i).length=E.kinds.length)
  (mrep:∀ i,i < new.length→∀ j,j < E.kinds.length→RepC P w (Al w0 w σ s.hp) (E.kinds.getD j .other) (news.getD (i * E.kinds.length+j) undef) (cg (eg new i) j)) (hfit:off+new.length≤es'.length) :
  RelL P w0 N σ ⟨s.tm,upd s.hp id (.row t' (es'.take off ++ new ++ es'.drop (off+new.length)))⟩ tms (w.setRow b (cur.toList.take (off * E.kinds.length) ++ news ++ cur.toList.drop (off * E.kinds.length+news.length)).toArray):=by
 have hB0:aq2 P w w0.wr (Al w0 w σ s.hp) (σ id) t' es':=by have:=h.blks id;rw [hb] at this;exact this
 have hlen':(es'.take off ++ new ++ es'.drop (off+new.length)).length=es'.length:=by simp;omega
 obtain ⟨_,_,_,hBb,cur2,tg2,hh2,hsz,hec,hcm,_,hel,hcell⟩:=awe hB0 hg
 rw [hh] at hh2
 simp only [ja,Obj.cells.injEq] at hh2
 obtain ⟨rfl,rfl,_⟩:=hh2
 refine h.write (b:=b) (by simp [hg,aj0]) (by simp [hb,ake]) _ (by simp) (by simp) (by simp) (by simp) (fun c hc=>setRow_other w b c _ hc) (fun hal hheap=>?_)
 show aq2 P _ _ _ (σ id) t' _
 rw [hg,← hlen']
 have hcl:cur.toList.length=cur.size:=jI
 have hle3:es'.length * E.kinds.length≤cur.size:=by rw [hsz];exact jk _ hec
 have hle4:off * E.kinds.length+news.length≤es'.length * E.kinds.length:=by rw [mlen,← jo];exact jk _ hfit
 have htk:(cur.toList.take (off * E.kinds.length)).length=(es'.take off).length * E.kinds.length:=by
  rw [jm,jm,Jz (by omega),Jz (by omega)]
 have hdl:(es'.drop (off+new.length)).length * E.kinds.length=es'.length * E.kinds.length - (off * E.kinds.length+news.length):=by
  rw [jN,Nat.sub_mul,jo,mlen]
 have hcd:∀ k,(cur.toList.drop (off * E.kinds.length+news.length)).getD k undef=cur.getD (off * E.kinds.length+news.length+k) undef:=by
  intro k;simp [jb,List.getElem?_drop,je]
 refine aya (cells:=(cur.toList.take (off * E.kinds.length) ++ news) ++ (cur.toList.drop (off * E.kinds.length+news.length)).take ((es'.drop (off+new.length)).length * E.kinds.length)) (rest:=(cur.toList.drop (off * E.kinds.length+news.length)).drop ((es'.drop (off+new.length)).length * E.kinds.length))
  hE (by rw [hlen'];obtain ⟨E2,hE2,hby2,_⟩:=hB0;rw [hE] at hE2;simp only [ja] at hE2;subst hE2;exact hby2) hBb (setRow_heap w b cur _ _ _ hh) ?_ ?_ ?_ (by rw [hlen'];exact hec) hcm ?_ ?_
 ·rw [List.append_assoc _ (List.take _ _),List.take_append_drop]
 ·have hA:(cur.toList.drop (off * E.kinds.length+news.length)).length=cur.size - (off * E.kinds.length+news.length):=by rw [jN,hcl]
  have hB:((cur.toList.drop (off * E.kinds.length+news.length)).take ((es'.drop (off+new.length)).length * E.kinds.length)).length=es'.length * E.kinds.length - (off * E.kinds.length+news.length):=by
   rw [jm,hA,hdl];omega
  rw [jh,jh,hB,hlen',jm,hcl,Jz (by omega)]
  omega
 ·simp only [jK,jh,jm,jN,jI];omega
 ·intro i hi
  rw [hlen'] at hi
  by_cases h1:i < off
  ·rw [ak1 (by simp;omega),ak1 (by simp;omega),bw5 h1];exact hel i hi
  ·by_cases h2:i < off+new.length
   ·rw [ak1 (by simp;omega),bjf (by simp;omega)]
    exact mel _ (by simp;omega)
   ·rw [bjf (by simp;omega),bkx]
    exact hel _ (by simp;omega)
 ·refine akb rfl (by rw [jh,jh,htk,mlen,jo]) (by rw [jm,jN (l:=cur.toList),hcl,hdl];omega) (akb rfl htk mlen (fun i hi j hj=>?_) (fun i hi j hj=>(mrep i hi j hj).mono hheap hal)) (fun i hi j hj=>?_)
  ·have hi':i < off:=by rw [jm] at hi;omega
   rw [bw5 hi']
   have hlt:i * E.kinds.length+j < off * E.kinds.length:=by
    calc i * E.kinds.length+j < i * E.kinds.length+E.kinds.length:=by omega
     _=(i+1) * E.kinds.length:=by rw [jo];omega
     _≤off * E.kinds.length:=jk _ (by omega)
   have:=((hcell i (by omega) j hj).2.2).mono hheap hal
   rw [aju _ _ _ _ hlt]
   have e1:cur.toList.getD (i * E.kinds.length+j) undef=cur.getD (i * E.kinds.length+j) undef:=by simp [je,jb]
   rw [e1];exact this
  ·have hi':off+new.length+i < es'.length:=by rw [jN] at hi;omega
   rw [bkx]
   have hlt:i * E.kinds.length+j < (es'.drop (off+new.length)).length * E.kinds.length:=by
    calc i * E.kinds.length+j < i * E.kinds.length+E.kinds.length:=by omega
     _=(i+1) * E.kinds.length:=by rw [jo];omega
     _≤_:=jk _ (by omega)
   have:=((hcell _ hi' j hj).2.2).mono hheap hal
   rw [aju _ _ _ _ hlt,hcd]
   show RepC P _ _ _ _ _
   have e2:off * E.kinds.length+news.length+(i * E.kinds.length+j)=(off+new.length+i) * E.kinds.length+j:=by
    rw [mlen,jo,jo];omega
   rw [e2];exact this
theorem bz6 {t u e:TypeId} {E:TyI} {l:List UInt8} {kid:Nat} (h:RelL P w0 N σ s tms w) (hs:slE P t=some (e,E)) (hU:P.underlying u=some .string) (hk1:E.kinds=[.int .u8]) (hd:aqh (s.hp kid)=true)
  (hby:((row8 l).length:Int) * E.bytes≤140737488355328) (ty:TypeId) :
  ∃ v w',(Builtin.append_ #[t,u] ty #[.slice none 0 0,.string ⟨l.toArray⟩]).run P w = .ok v w'∧∃ σ',RelL P w0 N σ' ⟨s.tm,upd s.hp kid (.row e (row8 l))⟩ tms w'∧ARel P w' (Al w0 w' σ' (upd s.hp kid (.row e (row8 l)))) σ' v (.own kid E.kinds 0 (row8 l).length):=by
 obtain ⟨hu,hE⟩:=aqa hs
 obtain ⟨S⟩:=ajk hE
 by_cases h0:l=[]
 ·subst h0
  refine ⟨.slice none 0 0,w,?_,upd σ kid (.rown e E.kinds),h.newNil hE (ajw hd),.ownNil _ _ _ e (by simp [upd]) rfl⟩
  exact ak3 hs hU ty none 0 0 (jq _)
 ·have hsl:(⟨l.toArray⟩:ByteArray).size=(row8 l).length:=by simp [row8,ByteArray.size]
  have hpos:0 < (row8 l).length:=by rw [ckc];exact List.length_pos_iff.2 h0
  have hbyn:(row8 l).length * E.bytes≤140737488355328:=by omega
  have hnle:(row8 l).length≤140737488355328:=by
   have:=S.pos
   have:(row8 l).length * 1≤(row8 l).length * E.bytes:=Nat.mul_le_mul_left _ (by omega)
   omega
  have hk2:E.kinds.length=1:=by rw [hk1];rfl
  have hrun:=run_append_nil_string (P:=P) w t u ty e S.i S.z hu hU S.info S.zero ⟨l.toArray⟩ (by rw [hsl];exact hpos) (by rw [hsl];omega) (by rw [hsl,S.bytes];omega)
  rw [hsl] at hrun
  have e0:(⟨l.toArray⟩:ByteArray).data.map (fun b=>Value.int .u8 b.toNat)=(Go.Lib.strCells ⟨l.toArray⟩).toArray:=by simp [Go.Lib.strCells]
  rw [e0] at hrun
  have hcap:=grownCap_ge w (row8 l).length 0 e
  have hcapm:=grownCap_le_maxLen w (row8 l).length 0 e (by simp only [maxLen];omega)
  have hzl:S.z.cells.size=E.kinds.length:=by have:=(azr (P:=P) (w:=w) (al:=fun _=>True) S.zfits).1;simpa using this
  have hw:=h.world (w':=w.drew) ((Below.refl _ _).drew)
  have mlen:(Go.Lib.strCells ⟨l.toArray⟩).length=(row8 l).length * E.kinds.length:=by rw [Go.Lib.strCells_length,hsl,hk2,Ju]
  refine ⟨_,_,hrun,upd σ kid (.row w.heap.size (grownCap w (row8 l).length 0 e) e E.kinds (row8 l).length),?_,.own0 (F:=fun _=>False) _ _ _ w.heap.size _ _ e (by simp [upd]) (jq _)⟩
  refine hw.alloc (ajw hd) _ (.row w.heap.size (grownCap w (row8 l).length 0 e) e E.kinds (row8 l).length) _ (by simp [aj0];try (intro c hc;exact hc.symm)) (fun hal hheap hss=>?_)
  simp only [BRel,upd,if_true]
  refine aya (Go.Lib.strCells ⟨l.toArray⟩) (Builtin.zeroCells S.z.cells (grownCap w (row8 l).length 0 e - (row8 l).length)).toList hE hby (.inl h.below.size) (heap_alloc_new w.drew _) (by simp) mlen ?_ hcap hcapm (fun i hi=>by rw [hk2];exact ejo l i hi) (fun i hi j hj=>?_)
  ·rw [Array.size_append,jK,mlen,az4,hzl,← jo]
   congr 1;omega
  ·have hj0:j=0:=by rw [hk2] at hj;omega
   subst hj0
   rw [hk2,hk1,Ju,jV]
   exact dwz l i hi
def bk1 (isL:Bool) (x y:A) (hp:Nat→Blk):Option Out :=
 match x,y with
 | .c (.int k) a,.c (.int _) b=>some ⟨0≤b.toInt,True,ki k (if isL then k.wrap (a.toInt * 2 ^ min b.toInt.toNat k.bits) else a.toInt.fdiv (2 ^ min b.toInt.toNat k.bits)),hp,true⟩
 | _,_=>none
def dym (P:Program) (src dst:TypeId) (hp:Nat→Blk) (x:A):Option Out :=
 match slE P src,P.underlying dst with
 | some (e,E),some .string=>match E.kinds,P.underlying e with
  | [.int .u8],some (.int .u8)=>match az7 e hp x with
   | some es=>some ⟨True,True,.c .str (.str (str8 es)),hp,true⟩
   | none=>none
  | _,_=>none
 | _,_=>none
def appV (P:Program) (t u:TypeId) (d:Option Nat) (hp:Nat→Blk) (x y:A):Option Out :=
 match slE P t,P.underlying u,d,y with
 | some (e,E),some .string,some d,.c .str l=>match E.kinds with
  | [.int .u8]=>if aqh (hp (key d 0)) then (match x with
   | .nilsl=>some ⟨((row8 l.toStr).length:Int) * E.bytes≤140737488355328,True,.own (key d 0) E.kinds 0 (row8 l.toStr).length,upd hp (key d 0) (.row e (row8 l.toStr)),false⟩
   | .own id ks 0 len=>match hp id with
    | .row t' es=>if t'=e then some ⟨len≤es.length∧((len+(row8 l.toStr).length:Nat):Int) * E.bytes≤140737488355328,True,.own (key d 0) ks 0 (len+(row8 l.toStr).length),upd (upd hp id .gone) (key d 0) (.row e (es.take len ++ row8 l.toStr)),false⟩ else none
    | _=>none
   | _=>none) else none
  | _=>none
 | _,_,_,_=>none
def copyV (P:Program) (t:TypeId) (hp:Nat→Blk) (x y:A):Option Out :=
 match slE P t with
 | some (e,E)=>if E.kinds.length == 1 && azd E.kinds then (match x,az7 e hp y with
  | .own id ks off len,some new=>if dwg id y then none else (match hp id with
   | .row t' es=>if t'=e then some ⟨off+len≤es.length,True,ki .i64 ((new.take len).length:Int),upd hp id (.row t' (bz7 es off (new.take len))),false⟩ else none
   | _=>none)
  | _,_=>none) else none
 | none=>none
def idxL (P:Program) (t:TypeId) (hp:Nat→Blk) (x i:A):Option Out :=
 match slE P t,x,i with
 | some (_,E),.own id ks 0 len,.c (.int _) n=>match hp id with
  | .rl _ _ _ _ _=>if ks=E.kinds then some ⟨0≤n.toInt∧n.toInt < (len:Int),True,.elt id ks.length ks n.toInt.toNat 0,hp,true⟩ else none
  | _=>none
 | _,_,_=>none
def dyz (P:Program) (t:TypeId) (hp:Nat→Blk) (x:A):Option Out :=
 match tyI P t,x with
 | some T,.elt id _ _ i off=>match hp id with
  | .rl _ es i0 j0 a=>if (T.kinds.length == 1 && !T.agg) && off == j0 then some ⟨i=i0∧i < es.length,True,a,hp,true⟩ else none
  | _=>none
 | _,_=>none
def cyq (P:Program) (t:TypeId) (hp:Nat→Blk) (x y:A):Option Out :=
 match tyI P t,x,y with
 | some T,.elt id _ _ i off,.own id2 ks2 0 len2=>match hp id,hp id2 with
  | .rl t0 es i0 j0 _,.row u es2=>if (T.kinds == [.slice u] && off == j0) && !(id == id2) then some ⟨i=i0∧i < es.length∧len2≤es2.length,True,.unk,upd hp id (.rl t0 (es.set i0 (ayn (eg es i0) j0 [.slice (es2.take len2)])) i0 j0 (.own id2 ks2 0 len2)),false⟩ else none
  | _,_=>none
 | _,_,_=>none
def lenL (P:Program) (t:TypeId) (hp:Nat→Blk) (x:A):Option Out :=
 match slE P t,x with
 | some _,.own id _ 0 len=>match hp id with
  | .rl _ _ _ _ _=>some ⟨True,(len:Int)≤140737488355328,ki .i64 len,hp,true⟩
  | _=>none
 | _,_=>none
def opV (P:Program) (o:Oper) (hp:Nat→Blk) (v:Operand→A):Option Out :=
 match o.op with
 | .indexAddr t x i=>idxL P t hp (v x) (v i)
 | .load t x=>dyz P t hp (v x)
 | .store t x y=>cyq P t hp (v x) (v y)
 | .nilCheck x=>nilZ hp (v x)
 | .buildSlice t n parts=>bsP P t n (parts.toList.map fun p=>(p.1,v p.2)) o.dst hp
 | .binOp .shl _ x y _=>bk1 true (v x) (v y) hp
 | .binOp .shr _ x y _=>bk1 false (v x) (v y) hp
 | .convert s d x=>dym P s d hp (v x)
 | .call c=>match c.callee with
  | .builtin .append=>match c.args.toList,c.argTypes.toList with
   | [x,y],[t,u]=>appV P t u o.dst hp (v x) (v y)
   | _,_=>none
  | .builtin .copy=>match c.args.toList,c.argTypes.toList with
   | [x,y],[t,_]=>copyV P t hp (v x) (v y)
   | _,_=>none
  | .builtin .len=>match c.args.toList,c.argTypes.toList with
   | [x],[t]=>lenL P t hp (v x)
   | _,_=>none
  | _=>none
 | _=>none
def ew0 (P:Program) (o:Oper) (s:S) (K:S→Prop):Prop :=
 match o.guard with
 | none=>match opV P o s.hp (aj4 s.tm) with
  | some r=>aj6 s.tm o.op.operands.toList∧r.pre∧(r.fact→K ⟨updD s.tm o.dst r.val,r.hp⟩)
  | none=>False
 | some _=>False
end Go.AE
/-
 Bytes and strings, copies, shifts: what the machine does.
-/
namespace Go.AE
open Go.RowKit (Below)
variable {P:Program} {w0:Base} {w:World} {N:Nat} {σ:Nat→RefI} {s:S} {tms:Array Value} {ρ:Operand→Value} {al:Nat→Prop}
theorem ewf {k:IntKind} {a:Int} (n:Nat) (h:InR k a):InR k (a.fdiv (2 ^ n)):=by
 have hd:(0:Int) < 2 ^ n:=Int.pow_pos (by decide)
 have e:a.fdiv (2 ^ n)=a / (2 ^ n):=Int.fdiv_eq_ediv_of_nonneg _ (by omega)
 have h1:1≤(2:Int) ^ n:=by omega
 rw [e]
 have hmin:k.min≤0:=by cases k <;> decide
 have hmax:0≤k.max:=by cases k <;> decide
 obtain ⟨h2,h3⟩:=h
 generalize (2:Int) ^ n=d at hd h1
 have hq:=Int.mul_ediv_add_emod a d
 have hr:=Int.emod_nonneg a (show d≠0 by omega)
 have hr2:=Int.emod_lt_of_pos a hd
 constructor
 ·by_cases ha:0≤a
  ·have:=Int.ediv_nonneg ha (show 0≤d by omega);omega
  ·have:a≤a / d:=by
    rw [Int.le_ediv_iff_mul_le hd]
    have:(-a) * 1≤(-a) * d:=Jg h1 (by omega)
    rw [Int.neg_mul,Int.neg_mul] at this
    omega
   omega
 ·by_cases ha:0≤a
  ·have:=Int.ediv_le_self d ha;omega
  ·have:a / d < 0:=Int.ediv_neg_of_neg_of_pos (by omega) hd
   omega
theorem byu {o:Oper} {r:Out} {isL:Bool} {t:TypeId} {x y:Operand} {a b:A} {yt:TypeId} (h:RelL P w0 N σ s tms w) (hf:bk1 isL a b s.hp=some r) (ho:o.op = .binOp (if isL then .shl else .shr) t x y yt) (hp:r.pre)
  (hx:ARel P w (Al w0 w σ s.hp) σ (ρ x) a) (hy:ARel P w (Al w0 w σ s.hp) σ (ρ y) b):OpOk P w0 N s tms o ρ w r:=by
 unfold bk1 at hf
 split at hf
 ·rename_i k a k' b
  simp only [ja] at hf;subst hf
  obtain ⟨hxe,hxr⟩:=hx.int_inv
  obtain ⟨hye,hyr⟩:=hy.int_inv
  dsimp only at hp
  refine OpOk.pure (v:=.int k (if isL then k.wrap (a.toInt * 2 ^ min b.toInt.toNat k.bits) else a.toInt.fdiv (2 ^ min b.toInt.toNat k.bits))) h ?_ trivial rfl ?_
  ·have hn:¬ b.toInt < 0:=by omega
   cases isL with
   | true =>
    simp only [if_true] at ho ⊢
    simp only [execOp,ho]
    refine run_value ?_
    simp [eqGuard,binOp,hxe,hye,Op.shift,hn]
   | false =>
    simp only [Bool.false_eq_true,if_false] at ho ⊢
    simp only [execOp,ho]
    refine run_value ?_
    simp [eqGuard,binOp,hxe,hye,Op.shift,hn]
  ·refine ARel.c _ _ _ (RepC.int k (.int _) ?_)
   cases isL with
   | true=>exact InR.wrap k _
   | false=>exact ewf _ hxr
 ·cases hf
theorem ek8 {l:List (List C)}:(⟨(str8 l).toArray⟩:ByteArray)=strOfNums (l.map fun e=>(cg e 0).toInt):=by
 simp [str8,strOfNums]
theorem ekh {e:TypeId} {E:TyI} {y:A} {vy:Value} {new:List (List C)} (h:RelL P w0 N σ s tms w) (hE:tyI P e=some E) (hs:az7 e s.hp y=some new) (hy:ARel P w (Al w0 w σ s.hp) σ vy y):(new.length:Int)≤140737488355328:=by
 unfold az7 at hs
 split at hs
 ·split at hs
  ·simp only [ja] at hs;subst hs
   rcases ay4 hy.c_inv with ⟨_,_,_,he⟩ | ⟨_,_,_,_,_,_,_,_,hl,_⟩
   ·rw [he];simp
   ·omega
  ·cases hs
 ·simp only [ja] at hs;subst hs;simp
 ·rename_i id ks off len
  have key:∀ e' es,(s.hp id = .row e' es∨s.hp id = .frz e' es)→(((es.drop off).take len).length:Int)≤140737488355328:=by
   intro e' es hb
   have hlv:live s.hp id=true:=by unfold live;rcases hb with hb | hb <;> simp [hb]
   obtain ⟨t',es',hb',_,_,hbd,_⟩:=azs h hlv hy
   have:es'=es:=by rcases hb with hb | hb <;> rcases hb' with hb' | hb' <;> rw [hb] at hb' <;> simp at hb' <;> exact hb'.2.symm
   subst this
   rw [jm,jN];omega
  split at hs
  ·rename_i e' es hb
   split at hs
   ·simp only [ja] at hs;subst hs;exact key _ _ (.inl hb)
   ·cases hs
  ·rename_i e' es hb
   split at hs
   ·simp only [ja] at hs;subst hs;exact key _ _ (.inr hb)
   ·cases hs
  ·cases hs
 ·cases hs
theorem dzy {k:IntKind} {v:Value} {x:C} (h:RepC P w al (.int k) v x):v = .int k x.toInt:=by
 cases h with
 | int _ _ _=>rfl
theorem dw8 {o:Oper} {r:Out} {src dst:TypeId} {x:Operand} {a:A} (h:RelL P w0 N σ s tms w) (hf:dym P src dst s.hp a=some r) (ho:o.op = .convert src dst x)
  (hx:ARel P w (Al w0 w σ s.hp) σ (ρ x) a):OpOk P w0 N s tms o ρ w r:=by
 unfold dym at hf
 split at hf
 ·rename_i e E hs hd
  obtain ⟨hu,hE⟩:=aqa hs
  obtain ⟨S⟩:=ajk hE
  split at hf
  ·rename_i hk he8
   split at hf
   ·rename_i es hsr
    simp only [ja] at hf;subst hf
    obtain ⟨⟨ma,mc,meq,mnews,mlen,mel,mrep,mmem⟩⟩:=bks h hE hsr hx
    have hk2:E.kinds.length=1:=by rw [hk];rfl
    have hnews:∀ i,i < es.length→mnews.getD i undef = .int .u8 (cg (eg es i) 0).toInt:=by
     intro i hi
     have:=mrep i hi 0 (by omega)
     rw [hk2,hk,Ju,jV] at this
     exact (dzy this)
    have hlen:(str8 es).length≤9223372036854775807:=by
     rw [ewr]
     have:=ekh h hE hsr hx
     omega
    refine OpOk.pure (v:=.string ⟨(str8 es).toArray⟩) h ?_ trivial rfl (.c _ _ _ (RepC.str (.str (str8 es)) hlen))
    simp only [execOp,ho]
    refine run_value ?_
    rw [meq]
    rcases mmem with h0 | ⟨b,o',ha,hb,hcell⟩
    ·subst h0
     cases hma:ma with
     | none=>exact run_convert_bytes_nil w src e hu he8 0 mc dst hd
     | some ad =>
      obtain ⟨b,o',i'⟩:=ad
      have:=run_convert_bytes_string (P:=P) w src dst e (some ⟨b,o',i'⟩) 0 mc hu he8 hd
      rw [jO,this,run_bytesToString w _ 0 mc [] (by simp [loadCells,loadCellsFrom])]
      rfl
    ·rw [ha]
     have:=run_convert_bytes_arg (P:=P) w src e hu he8 b o' es.length mc (es.map fun e=>(cg e 0).toInt) (by simp) (fun i hi=>by
      have h1:mnews[i]? = some (mnews.getD i undef):=by
       have:i < mnews.length:=by rw [mlen,hk2];omega
       simp [jb,this]
      rw [hcell i _ h1,hnews i hi]
      simp [eg,jb,hi]) dst hd
     rw [this,ek8]
   ·cases hf
  ·cases hf
 ·cases hf
theorem dzp {o:Oper} {r:Out} {t u:TypeId} {x y:Operand} {a b:A} (h:RelL P w0 N σ s tms w) (hf:appV P t u o.dst s.hp a b=some r) (ho:o.op = .call ⟨.builtin .append,#[x,y],#[t,u]⟩) (hp:r.pre)
  (hx:ARel P w (Al w0 w σ s.hp) σ (ρ x) a) (hy:ARel P w (Al w0 w σ s.hp) σ (ρ y) b):OpOk P w0 N s tms o ρ w r:=by
 unfold appV at hf
 split at hf
 ·rename_i e E d l hs hU hdst
  have hye:ρ y = .string ⟨l.toStr.toArray⟩:=by
   have:=hy.c_inv
   revert this
   generalize ρ y=v
   intro this
   cases this with
   | str _ _=>rfl
  split at hf
  ·rename_i hk
   split at hf
   ·rename_i hd
    split at hf
    ·simp only [ja] at hf;subst hf
     have hxe:ρ x = .slice none 0 0:=by revert hx;generalize ρ x=v;intro hx;cases hx;rfl
     obtain ⟨q,w',hr,σ',hR,hv⟩:=bz6 h hs hU hk hd hp o.type
     refine .inl ⟨q,w',?_,trivial,σ',hR,hv⟩
     simp only [execOp,ho]
     exact run_value (x:=Builtin.append_ #[t,u] o.type (#[x,y].map ρ)) (by simpa [hxe,hye] using hr)
    ·rename_i id ks len
     split at hf
     ·rename_i t' es hb
      split at hf
      ·rename_i hte
       subst hte
       simp only [ja] at hf;subst hf
       obtain ⟨q,w',hr,σ',hR,hv⟩:=cjf h hs hU hk hd hb hp.1 hp.2 hx o.type
       refine .inl ⟨q,w',?_,trivial,σ',hR,hv⟩
       simp only [execOp,ho]
       exact run_value (x:=Builtin.append_ #[t,u] o.type (#[x,y].map ρ)) (by simpa [hye] using hr)
      ·cases hf
     ·cases hf
    ·cases hf
   ·cases hf
  ·cases hf
 ·cases hf
theorem cke {t e:TypeId} {E:TyI} (hs:slE P t=some (e,E)) (t2 ty:TypeId) (d a:Option Addr) (dl dc sl sc:Nat) (h0:Nat.min sl dl=0) :
  (Builtin.copy_ #[t,t2] ty #[.slice d dl dc,.slice a sl sc]).run P w = .ok (goInt 0) w:=by
 obtain ⟨hu,hE⟩:=aqa hs
 cases a <;> cases d <;> simp [Builtin.copy_,run_underlying hu,akn hE,Builtin.lenOf,h0,Builtin.firstCells,loadCells,loadCellsFrom,storeCells]
theorem ewb {id:Nat} {b:Blk} {hp:Nat→Blk} (hb:hp id=b):upd hp id b=hp:=by
 funext k;simp only [upd];split
 ·rename_i e;rw [e,hb]
 ·rfl
theorem dq5 {r:Out} {t t2:TypeId} {x y:Operand} {a b:A} (h:RelL P w0 N σ s tms w) (hf:copyV P t s.hp a b=some r) (hp:r.pre)
  (hx:ARel P w (Al w0 w σ s.hp) σ (ρ x) a) (hy:ARel P w (Al w0 w σ s.hp) σ (ρ y) b) (ty:TypeId) :
  ∃ v w',(Builtin.copy_ #[t,t2] ty #[ρ x,ρ y]).run P w = .ok v w'∧r.fact∧RelL P w0 N σ ⟨s.tm,r.hp⟩ tms w'∧ARel P w' (Al w0 w' σ r.hp) σ v r.val:=by
 unfold copyV at hf
 split at hf
 ·rename_i e E hs
  split at hf
  ·rename_i hc
   simp only [jd,beq_iff_eq] at hc
   obtain ⟨hk2,hpl⟩:=hc
   split at hf
   ·rename_i id ks off len new hsr
    split at hf
    ·cases hf
    ·rename_i hself
     split at hf
     ·rename_i t' es hb
      split at hf
      ·rename_i hte
       subst hte
       simp only [ja] at hf;subst hf
       dsimp only at hp ⊢
       obtain ⟨hu,hE⟩:=aqa hs
       obtain ⟨S⟩:=ajk hE
       obtain ⟨m⟩:=bks h hE hsr hy
       have hone:=m.one (awq (ks:=E.kinds) hpl)
       obtain ⟨ma,mc,meq,mnews,mlen,mel,mrep,mmem⟩:=m
       rw [hk2] at mlen
       rw [Ju] at mlen
       have hlv:live s.hp id=true:=by unfold live;simp [hb]
       obtain ⟨t2',es',hb',hle,⟨E',hE',hks⟩,hbd,hv⟩:=azs h hlv hx
       have heq:t2'=t'∧es'=es:=by rcases hb' with hb' | hb' <;> rw [hb] at hb' <;> simp at hb';exact ⟨hb'.1.symm,hb'.2.symm⟩
       obtain ⟨rfl,rfl⟩:=heq
       rw [hE] at hE';simp only [ja] at hE';subst hE';subst hks
       have hB0:aq2 P w w0.wr (Al w0 w σ s.hp) (σ id) t2' es':=by have:=h.blks id;rw [hb] at this;exact this
       have hfit:off+(new.take len).length≤es'.length:=by rw [jm];omega
       have hres:∀ n:Nat,(n:Int)≤140737488355328→∀ {w':World} {hp':Nat→Blk},ARel P w' (Al w0 w' σ hp') σ (goInt n) (ki .i64 (n:Int)):=fun n hn w' hp'=>ARel.mk_int (by
        have h3:IntKind.i64.min = -9223372036854775808:=by decide
        have h4:IntKind.i64.max=9223372036854775807:=by decide
        simp only [InR,h3,h4];omega)
       have hnl:(((new.take len).length:Nat):Int)≤140737488355328:=by rw [jm];omega
       have zero:Nat.min new.length len=0→(∃ ad c,ρ x = .slice ad len c)→∃ v w',(Builtin.copy_ #[t,t2] ty #[ρ x,ρ y]).run P w = .ok v w'∧True∧RelL P w0 N σ ⟨s.tm,upd s.hp id (.row t2' (bz7 es' off (new.take len)))⟩ tms w'∧ARel P w' (Al w0 w' σ (upd s.hp id (.row t2' (bz7 es' off (new.take len))))) σ v (ki .i64 ((new.take len).length:Int)):=by
        rintro h0 ⟨ad,c,hxe⟩
        have h1:new.take len=[]:=jx (by rw [jm];rw [Nat.min_comm];exact h0)
        have h2:bz7 es' off []=es':=by
         rw [bkj (by simp;omega)];simp
        rw [h1,h2,ewb hb]
        exact ⟨goInt 0,w,by rw [hxe,meq];exact cke hs t2 ty ad ma len c new.length mc h0,trivial,h,hres 0 (by decide)⟩
       rcases hv with ⟨hv,h0,_⟩ | ⟨h0,_,a0,c,hv⟩ | ⟨b,cap,c,hg,hv,hc0,hlc⟩
       ·refine zero (by rw [h0];exact Nat.min_zero _) ⟨_,_,by rw [hv,h0]⟩
       ·refine zero (by rw [h0];exact Nat.min_zero _) ⟨_,_,by rw [hv,h0]⟩
       ·by_cases h0:Nat.min new.length len=0
        ·exact zero h0 ⟨_,_,hv⟩
        ·rcases mmem with h1 | ⟨b2,o2,ha,hbb,hcell⟩
         ·rw [h1] at h0;exact absurd (Nat.zero_min _) h0
         ·obtain ⟨_,_,_,hBb,cur,tg,hh,hsz,hec,hcm,_,hel,hcl⟩:=awe hB0 hg
          have hcs:(mnews.take len).length=Nat.min new.length len:=by rw [jm,mlen];exact Nat.min_comm _ _
          have hnt:(new.take len).length=Nat.min new.length len:=by rw [jm];exact Nat.min_comm _ _
          have hrun:=run_copy_row (P:=P) w t t2 ty t2' b (off * E.kinds.length) len c ⟨b2,o2,none⟩ new.length mc cur tg (mnews.take len) hu (by rw [S.info];simp [S.size,hk2]) hh hcs
           (fun j v hj=>by
            rw [Addr.add_lit]
            rw [Jc] at hj
            split at hj
            ·exact hcell j v hj
            ·cases hj)
           (by rw [hcs,hk2,Ju,hsz,hk2,Ju,← hnt];omega) (fun v hv=>hone v (List.mem_of_mem_take hv))
          have hrel:=ejd (off:=off) (new:=new.take len) (news:=mnews.take len) h hE hb hg hh (by rw [hcs,hnt,hk2,Ju]) (fun i hi=>by
            rw [jm] at hi
            rw [bw5 (by omega)];exact mel i (by omega))
           (fun i hi j hj=>by
            rw [jm] at hi
            rw [bw5 (by omega)]
            have:=mrep i (by omega) j hj
            rw [hk2] at hj this ⊢
            rw [aju _ _ _ _ (by omega)]
            exact this) hfit
          rw [bkj hfit]
          refine ⟨goInt (mnews.take len).length,_,?_,trivial,hrel,?_⟩
          ·rw [hv,meq,ha];exact hrun
          ·rw [hcs,← hnt];exact hres _ hnl
      ·cases hf
     ·cases hf
   ·cases hf
  ·cases hf
 ·cases hf
theorem ezh {t:TypeId} {es:List (List C)} {i j:Nat} {a:A} {id len:Nat} {ks:List Kd} {v:Value} (h:RelL P w0 N σ s tms w) (hb:s.hp id = .rl t es i j a) (hx:ARel P w (Al w0 w σ s.hp) σ v (.own id ks 0 len)) :
  len≤es.length∧(es.length:Int)≤140737488355328∧(∃ E,tyI P t=some E∧ks=E.kinds)∧((v = .slice none 0 0∧len=0)∨∃ b cap,v = .slice (some ⟨b,0,none⟩) len cap∧σ id = .row b cap t ks es.length):=by
 have hB:=h.blks id
 rw [hb] at hB
 obtain ⟨E,hE,hby,hB⟩:=hB
 obtain ⟨S⟩:=ajk hE
 have hlen:(es.length:Int)≤140737488355328:=by
  have:=S.pos
  have:(es.length:Int) * 1≤es.length * E.bytes:=Jg (by omega) (by omega)
  omega
 rcases hB with ⟨hr,rfl⟩ | ⟨b',cap',cur,tg,hr,_,_,hle,_⟩
 ·cases hx with
  | ownGone _ _ _ _ _ hg=>rw [hr] at hg;cases hg
  | ownNil _ _ _ t' hg ho =>
   rw [hr] at hg;simp only [RefI.rown.injEq] at hg
   exact ⟨by simp,hlen,⟨E,hE,hg.2.symm⟩,.inl ⟨rfl,rfl⟩⟩
  | own0 _ _ _ b cap n t' hg hle=>rw [hr] at hg;cases hg
  | ownOff _ _ _ _ b cap n cap' t' hg ho=>exact absurd rfl ho
  | ownOff0 _ _ _ _ b cap n cap' t' hg ho=>exact absurd rfl ho
 ·cases hx with
  | ownGone _ _ _ _ _ hg=>rw [hr] at hg;cases hg
  | ownNil _ _ _ t' hg ho=>rw [hr] at hg;cases hg
  | own0 _ _ _ b cap n t' hg hle' =>
   rw [hr] at hg;simp only [RefI.row.injEq] at hg
   obtain ⟨rfl,rfl,rfl,rfl,rfl,rfl⟩:=hg
   exact ⟨hle',hlen,⟨E,hE,rfl⟩,.inr ⟨_,_,rfl,hr⟩⟩
  | ownOff _ _ _ _ b cap n cap' t' hg ho=>exact absurd rfl ho
  | ownOff0 _ _ _ _ b cap n cap' t' hg ho=>exact absurd rfl ho
theorem dzj {o:Oper} {r:Out} {t:TypeId} {x i:Operand} {a b:A} (h:RelL P w0 N σ s tms w) (hf:idxL P t s.hp a b=some r) (ho:o.op = .indexAddr t x i) (hp:r.pre)
  (hx:ARel P w (Al w0 w σ s.hp) σ (ρ x) a) (hi:ARel P w (Al w0 w σ s.hp) σ (ρ i) b):OpOk P w0 N s tms o ρ w r:=by
 unfold idxL at hf
 split at hf
 ·rename_i e E id ks len k n hs
  split at hf
  ·rename_i t0 es i0 j0 a0 hb
   split at hf
   ·rename_i hks
    simp only [ja] at hf;subst hf
    dsimp only at hp
    obtain ⟨hu,hE⟩:=aqa hs
    obtain ⟨hie,_⟩:=hi.int_inv
    obtain ⟨hle,_,_,hv⟩:=ezh h hb hx
    rcases hv with ⟨_,h0⟩ | ⟨b,cap,hv,hg⟩
    ·omega
    ·refine OpOk.pure h (v:=.pointer (some ⟨b,0+n.toInt.toNat * E.kinds.length,none⟩)) ?_ trivial rfl ?_
     ·simp only [execOp,ho]
      refine run_value ?_
      rw [hv,hie]
      exact bzt hu hE k n.toInt b 0 len cap (by omega)
     ·subst hks
      have:=ARel.elt (P:=P) (w:=w) (al:=Al w0 w σ s.hp) (σ:=σ) id E.kinds E.kinds n.toInt.toNat 0 b cap es.length t0 hg (by omega) (by simp)
      simpa using this
   ·cases hf
  ·cases hf
 ·cases hf
theorem ezb {t:TypeId} {es:List (List C)} {i0 j0:Nat} {a:A} {id sz i off:Nat} {ks:List Kd} {v:Value} (h:RelL P w0 N σ s tms w) (hb:s.hp id = .rl t es i0 j0 a) (hx:ARel P w (Al w0 w σ s.hp) σ v (.elt id sz ks i off)) :
  ∃ E b cap cur tg,tyI P t=some E∧σ id = .row b cap t E.kinds es.length∧v = .pointer (some ⟨b,i * E.kinds.length+off,none⟩)∧i < es.length∧w0.wr b∧w.heap[b]? = some (.cells cur tg (0,0))∧es.length≤cap∧cap≤maxLen∧cur.size=cap * E.kinds.length∧(es.length:Int) * E.bytes≤140737488355328 ∧
   (∀ i,i < es.length→(eg es i).length=E.kinds.length) ∧
   (∀ i',i' < es.length→∀ j',j' < E.kinds.length→¬ (i'=i0∧j'=j0)→RepC P w (Al w0 w σ s.hp) (E.kinds.getD j' .other) (cur.getD (i' * E.kinds.length+j') undef) (cg (eg es i') j')) ∧
   (i0 < es.length→j0 < E.kinds.length∧ARel P w (Al w0 w σ s.hp) σ (cur.getD (i0 * E.kinds.length+j0) undef) a):=by
 have hB:=h.blks id
 rw [hb] at hB
 obtain ⟨E,hE,hby,hB⟩:=hB
 rcases hB with ⟨hr,_⟩ | ⟨b',cap',cur,tg,hr,hw,hh,k1,k2,k3,k4,k5,k6⟩
 ·cases hx with
  | eltGone _ _ _ _ _ _ hg=>rw [hr] at hg;cases hg
  | elt _ ks0 _ _ _ b cap n t'' hg hin hks=>rw [hr] at hg;cases hg
 ·cases hx with
  | eltGone _ _ _ _ _ _ hg=>rw [hr] at hg;cases hg
  | elt _ ks0 _ _ _ b cap n t'' hg hin hks =>
   rw [hr] at hg;simp only [RefI.row.injEq] at hg
   obtain ⟨rfl,rfl,rfl,rfl,rfl,rfl⟩:=hg
   exact ⟨E,_,_,cur,tg,hE,hr,rfl,hin,hw,hh,k1,k2,k3,hby,k4,k5,k6⟩
theorem dqv {o:Oper} {r:Out} {t:TypeId} {x:Operand} {a:A} (h:RelL P w0 N σ s tms w) (hf:dyz P t s.hp a=some r) (ho:o.op = .load t x) (hp:r.pre)
  (hx:ARel P w (Al w0 w σ s.hp) σ (ρ x) a):OpOk P w0 N s tms o ρ w r:=by
 unfold dyz at hf
 split at hf
 ·rename_i T id sz ks i off hT
  split at hf
  ·rename_i t0 es i0 j0 a0 hb
   split at hf
   ·rename_i hc
    simp only [jd,beq_iff_eq,Ja] at hc
    obtain ⟨⟨hk,hag⟩,hoff⟩:=hc
    simp only [ja] at hf;subst hf
    obtain ⟨rfl,hi⟩:=hp
    subst hoff
    obtain ⟨E,b,cap,cur,tg,hE,hg,hv,_,_,hh,hcap,_,hsz,_,_,_,k6⟩:=ezb h hb hx
    obtain ⟨hj,hl⟩:=k6 hi
    have hlt:i * E.kinds.length+off < cur.size:=by
     rw [hsz];exact bqe (by omega) hj
    refine OpOk.pure h (v:=cur.getD (i * E.kinds.length+off) undef) ?_ trivial rfl hl
    simp only [execOp,ho]
    refine run_value ?_
    rw [hv]
    have:=bwy (P:=P) (w:=w) hT b (i * E.kinds.length+off) (fun j=>cur.getD (i * E.kinds.length+off+j) undef) (fun j hj=>by
     have:j=0:=by omega
     subst this
     rw [jV,cell_of_row w b _ cur _ (0,0) hh]
     simp [Array.getD,hlt])
    simpa [hag] using this
   ·cases hf
  ·cases hf
 ·cases hf
theorem cyc {o:Oper} {r:Out} {t:TypeId} {x y:Operand} {a b:A} (h:RelL P w0 N σ s tms w) (hf:cyq P t s.hp a b=some r) (ho:o.op = .store t x y) (hp:r.pre)
  (hx:ARel P w (Al w0 w σ s.hp) σ (ρ x) a) (hy:ARel P w (Al w0 w σ s.hp) σ (ρ y) b):OpOk P w0 N s tms o ρ w r:=by
 unfold cyq at hf
 split at hf
 ·rename_i T id sz ks i off id2 ks2 len2 hT
  split at hf
  ·rename_i t0 es i0 j0 a0 u es2 hb hb2
   split at hf
   ·rename_i hc
    simp only [jd,beq_iff_eq,Ja,beq_eq_false_iff_ne] at hc
    obtain ⟨⟨hk,hoff⟩,hne⟩:=hc
    simp only [ja] at hf;subst hf
    obtain ⟨rfl,hi,hle2⟩:=hp
    subst hoff
    obtain ⟨E,b,cap,cur,tg,hE,hg,hv,_,hwr,hh,hcap,hcm,hsz,hby,hel,k5,k6⟩:=ezb h hb hx
    obtain ⟨hj,_⟩:=k6 hi
    have hlt:i * E.kinds.length+off < cur.size:=by rw [hsz];exact bqe (by omega) hj
    have hlv:live s.hp id2=true:=by unfold live;simp [hb2]
    obtain ⟨⟨sa,sc,hys⟩,_⟩:=byo h hlv hy
    have hvc:(ρ y).cells = #[ρ y]:=by rw [hys];rfl
    have hrun:=bzm (P:=P) (w:=w) hT (v:=ρ y) (n:=1) (by rw [hvc];rfl) (by rw [hk];rfl) (b:=b) (o:=i * E.kinds.length+off) hh (by omega) (fun j hj=>by
     have:j=0:=by omega
     subst this
     rw [hvc,hys];rfl)
    refine .inr (.inl ⟨w.setRow b (awg cur.toList (i * E.kinds.length+off) (ρ y).cells.toList).toArray,?_,rfl,trivial,σ,?_⟩)
    ·simp only [execOp,ho]
     rw [hv]
     simp only [Sem.run_bind,hrun]
     rfl
    ·have hl:i * E.kinds.length+off+(ρ y).cells.toList.length≤cur.toList.length:=by rw [hvc];simp;omega
     refine h.write (b:=b) (by simp [hg,aj0]) (by simp [hb,ake]) _ (by simp) (by simp) (by simp) (by simp) (fun c hc=>setRow_other w b c _ hc) (fun hal hheap=>?_)
     have hlen:(es.set i (ayn (eg es i) off [.slice (es2.take len2)])).length=es.length:=by simp
     have hse:∀ q,(awg cur.toList (i * E.kinds.length+off) (ρ y).cells.toList).toArray.getD q undef=if q=i * E.kinds.length+off then ρ y else cur.getD q undef:=by
      intro q
      have e0:(awg cur.toList (i * E.kinds.length+off) (ρ y).cells.toList).toArray.getD q undef=(awg cur.toList (i * E.kinds.length+off) (ρ y).cells.toList).getD q undef:=by
       simp [je,jb]
      rw [e0,ak4 _ _ _ _ _ hl,hvc]
      by_cases e:q=i * E.kinds.length+off
      ·subst e;simp
      ·rw [if_neg (by simp;omega),if_neg e]
       simp [je,jb]
     refine ⟨E,hE,by rw [hlen];exact hby,.inr ⟨b,cap,_,tg,by rw [hg,hlen],hwr,setRow_heap w b cur _ _ _ hh,by rw [hlen];exact hcap,hcm,?_,?_,?_,?_⟩⟩
     ·rw [jK,aqt _ _ _ hl];simpa using hsz
     ·intro i' hi'
      rw [hlen] at hi'
      by_cases e:i'=i
      ·subst e
       have:eg (es.set i' (ayn (eg es i') off [.slice (es2.take len2)])) i'=ayn (eg es i') off [.slice (es2.take len2)]:=by simp [eg,jb,hi']
       rw [this]
       unfold ayn
       rw [aqt _ _ _ (by rw [hel i' hi'];simp;omega),hel i' hi']
      ·have:eg (es.set i (ayn (eg es i) off [.slice (es2.take len2)])) i'=eg es i':=by simp [eg,jb,Jv (Ne.symm e)]
       rw [this,hel i' hi']
     ·intro i' hi' j' hj' hn
      rw [hlen] at hi'
      have hq:¬ i' * E.kinds.length+j'=i * E.kinds.length+off:=by
       intro e
       apply hn
       have h1:i'=i:=by
        rcases Nat.lt_trichotomy i' i with hlt | heq | hlt
        ·have:(i'+1) * E.kinds.length≤i * E.kinds.length:=jk _ hlt
         rw [jo] at this;omega
        ·exact heq
        ·have:(i+1) * E.kinds.length≤i' * E.kinds.length:=jk _ hlt
         rw [jo] at this;omega
       subst h1
       exact ⟨rfl,by omega⟩
      rw [hse,if_neg hq]
      have old:=(k5 i' hi' j' hj' hn).mono hheap hal
      by_cases e:i'=i
      ·subst e
       have e1:eg (es.set i' (ayn (eg es i') off [.slice (es2.take len2)])) i'=ayn (eg es i') off [.slice (es2.take len2)]:=by simp [eg,jb,hi']
       rw [e1]
       unfold ayn
       have e2:cg (awg (eg es i') off [.slice (es2.take len2)]) j'=if off≤j'∧j' < off+[C.slice (es2.take len2)].length then cg [C.slice (es2.take len2)] (j' - off) else cg (eg es i') j':=ak4 _ _ _ _ _ (by rw [hel i' hi'];simp;omega)
       rw [e2,if_neg (by simp;intro h1;have:¬ j'=off:=fun e=>hn ⟨rfl,e⟩;omega)]
       exact old
      ·have e1:eg (es.set i (ayn (eg es i) off [.slice (es2.take len2)])) i'=eg es i':=by simp [eg,jb,Jv (Ne.symm e)]
       rw [e1];exact old
     ·intro _
      refine ⟨hj,?_⟩
      rw [hse,if_pos rfl]
      exact hy.mono hheap hal (fun _ _=>.inl rfl)
   ·cases hf
  ·cases hf
 ·cases hf
theorem dzz {r:Out} {t:TypeId} {x:Operand} {a:A} (h:RelL P w0 N σ s tms w) (hf:lenL P t s.hp a=some r) (hx:ARel P w (Al w0 w σ s.hp) σ (ρ x) a) (ty:TypeId) :
  ∃ v,(Builtin.len_ #[t] ty #[ρ x]).run P w = .ok v w∧r.fact∧r.hp=s.hp∧ARel P w (Al w0 w σ s.hp) σ v r.val:=by
 unfold lenL at hf
 split at hf
 ·rename_i q id ks len hs
  split at hf
  ·rename_i t0 es i0 j0 a0 hb
   simp only [ja] at hf;subst hf
   obtain ⟨hu,hE⟩:=aqa (e:=q.1) (E:=q.2) (by rw [hs])
   obtain ⟨hle,hbd,_,hv⟩:=ezh h hb hx
   have hc:∃ ad c,ρ x = .slice ad len c:=by
    rcases hv with ⟨hv,h0⟩ | ⟨b,cap,hv,_⟩
    ·exact ⟨none,0,by rw [hv,h0]⟩
    ·exact ⟨_,cap,hv⟩
   obtain ⟨ad,c,hv⟩:=hc
   refine ⟨_,by rw [hv];exact run_len_slice hu _ _ _ _,by dsimp only;omega,rfl,ARel.mk_int (cq5 (by omega))⟩
  ·cases hf
 ·cases hf
theorem eqo {o:Oper} {r:Out} {v:Operand→A} (h:RelL P w0 N σ s tms w) (hop:opV P o s.hp v=some r) (hv:∀ x,x∈o.op.operands→ARel P w (Al w0 w σ s.hp) σ (ρ x) (v x)) (hp:r.pre):OpOk P w0 N s tms o ρ w r:=by
 cases hoo:o.op with
 | binOp op t x y yt =>
  cases op <;> simp only [opV,hoo] at hop <;> try (cases hop;done)
  ·exact byu (isL:=true) h hop hoo hp (hv x (by rw [hoo];simp [jc])) (hv y (by rw [hoo];simp [jc]))
  ·exact byu (isL:=false) h hop hoo hp (hv x (by rw [hoo];simp [jc])) (hv y (by rw [hoo];simp [jc]))
 | convert s d x=>simp only [opV,hoo] at hop;exact dw8 h hop hoo (hv x (by rw [hoo];simp [jc]))
 | indexAddr t x i=>simp only [opV,hoo] at hop;exact dzj h hop hoo hp (hv x (by rw [hoo];simp [jc])) (hv i (by rw [hoo];simp [jc]))
 | load t x=>simp only [opV,hoo] at hop;exact dqv h hop hoo hp (hv x (by rw [hoo];simp [jc]))
 | buildSlice t n parts=>simp only [opV,hoo] at hop;exact eq4 h hop hoo hp hv
 | nilCheck x=>simp only [opV,hoo] at hop;exact cz8 h hop hoo (hv x (by rw [hoo];simp [jc]))
 | store t x y=>simp only [opV,hoo] at hop;exact cyc h hop hoo hp (hv x (by rw [hoo];simp [jc])) (hv y (by rw [hoo];simp [jc]))
 | call c =>
  obtain ⟨callee,args,argTypes⟩:=c
  cases callee with
  | builtin b =>
   cases b with
   | append =>
    simp only [opV,hoo] at hop
    split at hop
    ·rename_i x y t u hax hat
     have e1:=aj7 hax
     have e2:=aj7 hat
     subst e1 e2
     exact dzp h hop hoo hp (hv x (by rw [hoo];simp [jc,Call.operands])) (hv y (by rw [hoo];simp [jc,Call.operands]))
    ·cases hop
   | copy =>
    simp only [opV,hoo] at hop
    split at hop
    ·rename_i x y t t2 hax hat
     have e1:=aj7 hax
     have e2:=aj7 hat
     subst e1 e2
     obtain ⟨q,w',hr,hfc,hR,hq⟩:=dq5 (t2:=t2) h hop hp (hv x (by rw [hoo];simp [jc,Call.operands])) (hv y (by rw [hoo];simp [jc,Call.operands])) o.type
     refine .inl ⟨q,w',?_,hfc,σ,hR,hq⟩
     simp only [execOp,hoo]
     exact run_value (x:=Builtin.copy_ #[t,t2] o.type (#[x,y].map ρ)) (by simpa using hr)
    ·cases hop
   | len =>
    simp only [opV,hoo] at hop
    split at hop
    ·rename_i x t hax hat
     have e1:=aj7 hax
     have e2:=aj7 hat
     subst e1 e2
     obtain ⟨q,hr,hfc,hhp,hq⟩:=dzz h hop (hv x (by rw [hoo];simp [jc,Call.operands])) o.type
     refine OpOk.pure h (v:=q) ?_ hfc hhp hq
     simp only [execOp,hoo]
     exact run_value (x:=Builtin.len_ #[t] o.type (#[x].map ρ)) (by simpa using hr)
    ·cases hop
   | _=>simp [opV,hoo] at hop
  | _=>simp [opV,hoo] at hop
 | _=>simp [opV,hoo] at hop
theorem ews:akl P (ew0 P):=by
 intro N ops o s K hok h
 unfold ew0 at h
 split at h
 ·rename_i hg
  split at h
  ·rename_i r hop
   obtain ⟨hn,hp,hK⟩:=h
   obtain ⟨_,ho⟩:=aqp hok
   exact cwe hg hok r (fun w0 a w σ hR=>eqo hR hop (fun x hx=>aqb hR (ho x hx) (ajo hn x (Array.mem_toList_iff.2 hx))) hp) hK
  ·exact h.elim
 ·exact h.elim
end Go.AE
