/- Text. -/
import Derived.Test.YtijnkhcfondehaaGreatDoorAE4
set_option linter.unusedVariables false
open _root_.Bool renaming and_eq_true→jf,false_eq_true→jn
open Go.IntKind renaming signed→Jv,bits→jj
open _root_.List renaming getD_eq_getElem?_getD→ja
open _root_.Nat renaming add_assoc→JV,zero_add→Jh,add_mul→jD,zero_mul→J2,add_zero→Jj
open _root_.Option renaming map_some→j5
open _root_.Option.some renaming injEq→jc
open _root_.Prod.mk renaming injEq→jo
open Go.Result renaming andThen_ok→jt
open Go.Sem renaming run_bind→jI,run_pure→jW
namespace Go.AE
open Go.RowKit (Below)
variable {P:Program} {w0:Base} {w:World} {N:Nat} {σ:Nat→RefI} {s:S} {tms:Array Value} {ρ:Operand→Value} {al:Nat→Prop}
theorem dqc {t:TypeId} {T:TyI} (hT:tyI P t=some T) (ha:T.agg=false) :
  ∃ d,P.underlying t=some d∧ak7 d=false∧awc P 12 t=some T.kinds∧T.elem=fqf d:=by
 obtain ⟨S⟩:=ajr hT;exact ⟨S.d,S.und,S.agg ▸ ha,S.kinds,S.elem⟩
theorem ckf {t:TypeId} (h:dzr P t=true):P.underlying t=some .string:=by
 unfold dzr at h
 split at h
 ·rename_i f e b hT;obtain ⟨d,hd,ha,hk,_⟩:=dqc hT rfl;simp only [awc,hd] at hk;cases d <;> simp [ak7] at hk ha
  exact hd
 ·cases h
theorem aqf {t e:TypeId} {E:TyI} (h:slE P t=some (e,E)):P.underlying t=some (.slice e)∧tyI P e=some E:=by
 unfold slE at h
 split at h
 ·rename_i e' f e2 b hT
  split at h
  ·rename_i E' hE;simp only [jc,jo] at h;obtain ⟨rfl,rfl⟩:=h;obtain ⟨d,hd,ha,hk,_⟩:=dqc hT rfl;simp only [awc,hd] at hk;cases d <;> simp [ak7] at hk ha
   subst hk;exact ⟨hd,hE⟩
  ·cases h
 ·cases h
theorem djj {n:Nat} (h:(n:Int)≤9223372036854775807):InR .i64 (n:Int):=by
 constructor
 ·simp only [IntKind.min,Jv,jj,if_true];omega
 ·simp only [IntKind.max,Jv,jj,if_true];omega
theorem run_len_slice {t e:TypeId} (hu:P.underlying t=some (.slice e)) (ty:TypeId) (a:Option Addr) (n c:Nat) :
  (Builtin.len_ #[t] ty #[.slice a n c]).run P w = .ok (.int .i64 n) w:=by
 simp [Builtin.len_,run_underlying hu,goInt]
theorem run_len_string {t:TypeId} (hu:P.underlying t=some .string) (ty:TypeId) (x:ByteArray) :
  (Builtin.len_ #[t] ty #[.string x]).run P w = .ok (.int .i64 x.size) w:=by
 simp [Builtin.len_,run_underlying hu,goInt]
theorem cqy {id:Nat} {ks:List Kd} {off len:Nat} {v:Value} (h:RelL P w0 N σ s tms w) (hl:live s.hp id=true) (hx:ARel P w (Al w0 w σ s.hp) σ v (.own id ks off len)) :
  (∃ a c,v = .slice a len c)∧(len:Int)≤140737488355328:=by
 obtain ⟨t',es,hb,hle,_,hbd,hv⟩:=akt h hl hx;refine ⟨?_,by omega⟩;rcases hv with ⟨rfl,rfl,_⟩ | ⟨rfl,_,a,c,rfl⟩ | ⟨b,cap,c,_,rfl,_⟩
 ·exact ⟨_,_,rfl⟩
 ·exact ⟨_,_,rfl⟩
 ·exact ⟨_,_,rfl⟩
theorem fqb {t e:TypeId} {x z:A} {vx:Value} {p:Prop} (h:RelL P w0 N σ s tms w) (hu:P.underlying t=some (.slice e)) (hf:dwu s.hp x=some (p,z)) (hx:ARel P w (Al w0 w σ s.hp) σ vx x) (ty:TypeId) :
  p∧∃ v,(Builtin.len_ #[t] ty #[vx]).run P w = .ok v w∧ARel P w (Al w0 w σ s.hp) σ v z:=by
 unfold dwu at hf
 split at hf
 ·rename_i t' c;obtain ⟨a,cc,rfl,hl⟩:=gwl hx.c_inv;simp only [jc,jo] at hf;obtain ⟨rfl,rfl⟩:=hf;exact ⟨hl,_,run_len_slice hu _ _ _ _,ARel.mk_int (djj (by omega))⟩
 ·rename_i id ks off len
  split at hf
  ·rename_i hlv;simp only [jc,jo] at hf;obtain ⟨rfl,rfl⟩:=hf;obtain ⟨⟨a,c,rfl⟩,hbd⟩:=cqy h hlv hx;exact ⟨hbd,_,run_len_slice hu _ _ _ _,ARel.mk_int (djj (by omega))⟩
  ·cases hf
 ·simp only [jc,jo] at hf;obtain ⟨rfl,rfl⟩:=hf;cases hx
  exact ⟨trivial,_,run_len_slice hu _ _ _ _,ARel.mk_int (djj (n:=0) (by omega))⟩
 ·cases hf
theorem fyr {t:TypeId} {x z:A} {vx:Value} {p:Prop} (h:RelL P w0 N σ s tms w) (hf:lenA P t s.hp x=some (p,z)) (hx:ARel P w (Al w0 w σ s.hp) σ vx x) (ty:TypeId) :
  p∧∃ v,(Builtin.len_ #[t] ty #[vx]).run P w = .ok v w∧ARel P w (Al w0 w σ s.hp) σ v z:=by
 have sl:(if (slE P t).isSome then dwu s.hp x else none)=some (p,z)→p∧∃ v,(Builtin.len_ #[t] ty #[vx]).run P w = .ok v w∧ARel P w (Al w0 w σ s.hp) σ v z:=by
  intro hf
  split at hf
  ·rename_i hs;cases he:slE P t with
   | none=>simp [he] at hs
   | some q=>exact fqb h (aqf he).1 hf hx ty
  ·cases hf
 unfold lenA at hf
 split at hf
 ·rename_i c
  split at hf
  ·rename_i hs;obtain ⟨rfl,hl⟩:=hx.str_inv;simp only [jc,jo] at hf;obtain ⟨rfl,rfl⟩:=hf;refine ⟨by omega,.int .i64 c.toStr.length,?_,ARel.mk_int (djj (by omega))⟩;rw [run_len_string (ckf hs)];rfl
  ·cases hf
 ·exact sl hf
theorem cj7 {t e:TypeId} {E:TyI} (hu:P.underlying t=some (.slice e)) (hE:tyI P e=some E) (k:IntKind) (i:Int) (b o len cap:Nat) (hi:0≤i∧i < (len:Int)) :
  (Instr.indexAt t (.slice (some ⟨b,o,none⟩) len cap) (.int k i)).run P w = .ok (.pointer (some ⟨b,o+i.toNat * E.kinds.length,none⟩)) w:=by
 simp [Instr.indexAt,asIntOf,run_underlying hu,hi,bqd hE,Addr.add_lit]
theorem dzj {t e:TypeId} {E:TyI} {x z:A} {vx:Value} {p:Prop} {k:IntKind} {i:Int} (h:RelL P w0 N σ s tms w) (hs:slE P t=some (e,E))
  (hf:az2 e E s.hp x i=some (p,z)) (hp:p) (hx:ARel P w (Al w0 w σ s.hp) σ vx x) :
  ∃ v,(Instr.indexAt t vx (.int k i)).run P w = .ok v w∧ARel P w (Al w0 w σ s.hp) σ v z:=by
 obtain ⟨hu,hE⟩:=aqf hs;unfold az2 at hf
 split at hf
 ·rename_i t' c
  split at hf
  ·rename_i e1;subst e1;simp only [jc,jo] at hf;obtain ⟨rfl,rfl⟩:=hf;rcases bwf hx.c_inv with ⟨a,cc,rfl,he⟩ | ⟨b,off,cap,E',f,rfl,hE',hal,hl,hcp,hel,hcell,hrep⟩
   ·rw [he] at hp;simp at hp;omega
   ·rw [hE] at hE';simp only [jc] at hE';subst hE';refine ⟨_,cj7 hu hE k i b off _ cap hp,?_⟩;have hi:i.toNat < c.toSl.length:=by omega
    refine .pp _ _ _ b _ hal (fun j=>f i.toNat j) (fun j hj=>?_) (fun j hj=>?_)
    ·rw [← hcell i.toNat hi j hj,JV]
    ·rw [Jh];exact hrep i.toNat hi j hj
  ·cases hf
 ·rename_i id ks off len
  split at hf
  ·rename_i hlv
   split at hf
   ·rename_i e1;simp only [jc,jo] at hf;obtain ⟨rfl,rfl⟩:=hf;obtain ⟨t',es,hb,hle,⟨E',hE',hks⟩,hbd,hv⟩:=akt h hlv hx;rcases hv with ⟨rfl,rfl,_⟩ | ⟨rfl,_,a,c,rfl⟩ | ⟨b,cap,c,hg,rfl,_⟩
    ·omega
    ·omega
    ·refine ⟨_,cj7 hu hE k i b _ _ c hp,?_⟩
     have:off * ks.length+i.toNat * E.kinds.length=(off+i.toNat) * ks.length+0:=by rw [← e1,jD];omega
     rw [this];exact .elt id ks ks (off+i.toNat) 0 b cap _ t' hg (by omega) (by simp)
   ·cases hf
  ·cases hf
 ·cases hf
theorem cqu {t:TypeId} {n:Nat} {e:TypeId} {E:TyI} (h:arrI P t=some (n,e,E)):∃ i z,P.info? t=some i∧P.underlying t=some (.array n e)∧tyI P e=some E∧i.size=n * E.kinds.length∧0 < n∧n * E.bytes≤140737488355328 ∧
  i.zero=some (.agg z)∧ak6 (List.replicate n E.kinds).flatten z.toList=true:=by
 unfold arrI at h
 split at h
 ·rename_i i n' e' hi hu
  split at h
  ·rename_i E' hE;rw [Option.ite_none_right_eq_some] at h;obtain ⟨hc,h⟩:=h;simp only [jc,jo] at h;obtain ⟨rfl,rfl,rfl⟩:=h;rw [jf,jf,jf,beq_iff_eq,decide_eq_true_eq,decide_eq_true_eq] at hc;obtain ⟨h1,h2,h3,h4⟩:=hc;cases hz:i.zero with
   | none=>rw [hz] at h4;cases h4
   | some z =>
    rw [hz] at h4;cases z <;> first | (cases h4;done) | exact ⟨i,_,hi,hu,hE,h1,h2,h3,hz,h4⟩
  ·cases h
 ·cases h
theorem dyl {t e:TypeId} {m:Nat} {E:TyI} {x z:A} {vx:Value} {p:Prop} {k:IntKind} {i:Int} (h:RelL P w0 N σ s tms w) (hs:arrI P t=some (m,e,E))
  (hf:ay7 m e E s.hp x i=some (p,z)) (hp:p) (hx:ARel P w (Al w0 w σ s.hp) σ vx x) :
  ∃ v,(Instr.indexAt t vx (.int k i)).run P w = .ok v w∧ARel P w (Al w0 w σ s.hp) σ v z:=by
 obtain ⟨inf,zz,hi,hu,hE,hsize,hpos,_⟩:=cqu hs
 have key:∀ id sz ks t' es,x = .elt id sz ks 0 0→(s.hp id = .row t' es∨s.hp id = .frz t' es)→(t'=e∧ks=E.kinds∧sz=ks.length)→(0≤i∧i < (m:Int)∧es.length=m)→z = .elt id sz ks i.toNat 0 →
   ∃ v,(Instr.indexAt t vx (.int k i)).run P w = .ok v w∧ARel P w (Al w0 w σ s.hp) σ v z:=by
  rintro id sz ks t' es rfl hb ⟨rfl,hks0,hsz0⟩ ⟨h1,h2,h3⟩ rfl
  have hB:ajq P w w0.wr (Al w0 w σ s.hp) (σ id) t' es:=by
   have:=h.blks id
   rcases hb with hb | hb <;> rw [hb] at this <;> exact this
  cases hx with
  | eltGone _ _ _ _ _ _ hg =>
   obtain ⟨E,_,_,hB⟩:=hB;rcases hB with ⟨hB,_⟩ | ⟨_,_,_,_,hB,_⟩ <;> rw [hB] at hg <;> cases hg
  | elt _ ks0 _ _ _ b cap n t'' hg hin hks =>
   try obtain rfl:=ayk hB hg
   obtain ⟨rfl,rfl,⟨E',hE',hk0⟩,_,cur,tg,hh,_⟩:=azm hB hg;rw [hE] at hE';simp only [jc] at hE';subst hE';subst hk0;rw [hks0];refine ⟨.pointer (some ⟨b,i.toNat * E.kinds.length,none⟩),?_,?_⟩
   ·have hlt:i < (m:Int):=h2;simp only [J2,Jh];simp [Instr.indexAt,asIntOf,run_underlying hu,h1,h2,bqd hE,Addr.add_lit,Instr.sureAddr]
   ·exact .elt id E.kinds E.kinds i.toNat 0 b cap _ t'' hg (by omega) (by simp)
 unfold ay7 at hf
 split at hf
 ·rename_i id sz ks
  split at hf
  ·rename_i t' es hb
   split at hf
   ·rename_i hc;simp only [jc,jo] at hf;obtain ⟨rfl,rfl⟩:=hf;exact key id sz ks t' es rfl (.inl hb) hc hp rfl
   ·cases hf
  ·rename_i t' es hb
   split at hf
   ·rename_i hc;simp only [jc,jo] at hf;obtain ⟨rfl,rfl⟩:=hf;exact key id sz ks t' es rfl (.inr hb) hc hp rfl
   ·cases hf
  ·cases hf
 ·cases hf
def cyb (P:Program) (w:World) (al:Nat→Prop) (σ:Nat→RefI):Option Value→Option A→Prop
 | none,none=>True
 | some v,some a=>ARel P w al σ v a
 | _,_=>False
theorem awn {d:Int} {lo:Option A} {l:Int} {vlo:Option Value} (h:bound d lo=some l) (hlo:cyb P w al σ vlo lo) :
  (vlo=none∧l=d)∨∃ k,vlo=some (.int k l):=by
 cases lo with
 | none=>cases vlo with
  | none=>simp only [bound,jc] at h;exact .inl ⟨rfl,h.symm⟩
  | some v=>exact hlo.elim
 | some a=>cases vlo with
  | none=>exact hlo.elim
  | some v =>
   unfold bound at h
   split at h
   ·rename_i e;cases e
   ·rename_i k x e;simp only [jc] at h e;subst h;subst e;obtain ⟨rfl,_⟩:=ARel.int_inv hlo;exact .inr ⟨_,rfl⟩
   ·cases h
theorem run_sliceBound {x:Int} {k:IntKind} {y:Nat} {code:BoundsCode} (h:0≤x) (h':x≤(y:Int)):(Instr.sliceBound (.int k x) y code).run P w = .ok x.toNat w:=by
 simp only [Instr.sliceBound,asIntOf,pure_bind];rw [if_pos ⟨h,h'⟩];rfl
theorem cqw {isSlice:Bool} {len cap:Nat} {l h:Int} {vlo vhi:Option Value} (hlo:(vlo=none∧l=0)∨∃ k,vlo=some (.int k l)) (hhi:(vhi=none∧h=(len:Int))∨∃ k,vhi=some (.int k h))
  (h1:0≤l) (h2:l≤h) (h3:h≤(cap:Int)):(Instr.sliceBounds isSlice len cap vlo vhi none).run P w = .ok (l.toNat,h.toNat,cap) w:=by
 have hh:0≤h:=by omega
 have hlh:l≤(h.toNat:Int):=by omega
 have hl':l≤(len:Int)→0≤l:=fun _=>h1;rcases hlo with ⟨rfl,rfl⟩ | ⟨k,rfl⟩ <;> rcases hhi with ⟨rfl,rfl⟩ | ⟨k',rfl⟩
 ·simp only [Instr.sliceBounds,pure_bind];rfl
 ·simp only [Instr.sliceBounds,pure_bind,jI,run_sliceBound hh h3,jt];rfl
 ·simp only [Instr.sliceBounds,pure_bind,jI,run_sliceBound h1 h2,jt];rfl
 ·simp only [Instr.sliceBounds,pure_bind,jI,run_sliceBound hh h3,run_sliceBound h1 hlh,jt];rfl
theorem dqt (es:List (List C)) (l h i:Nat) (hi:l+i < h):eg ((es.take h).drop l) i=eg es (l+i):=by
 simp only [eg,ja,List.getElem?_drop,List.getElem?_take];rw [if_pos hi]
theorem dy7 {t:TypeId} {d:TypeDesc} (hd:P.underlying t=some d) (hna:ak7 d=false) (vx:Value) (lo hi:Option Value) :
  (Instr.sliceAt t vx lo hi none).run P w=(Instr.slice t vx lo hi none).run P w:=by
 simp only [Instr.sliceAt,jI,run_underlying hd,jt];cases d <;> first | rfl | cases hna
theorem ay0 {t e:TypeId} {E:TyI} (hs:slE P t=some (e,E)) {a:Option Addr} {len cap:Nat} {l h:Int} {vlo vhi:Option Value} (hlo:(vlo=none∧l=0)∨∃ k,vlo=some (.int k l)) (hhi:(vhi=none∧h=(len:Int))∨∃ k,vhi=some (.int k h))
  (h1:0≤l) (h2:l≤h) (h3:h≤(cap:Int)) :
  (Instr.sliceAt t (.slice a len cap) vlo vhi none).run P w = .ok (.slice (if cap=l.toNat then a else a.map (·.add (l.toNat * E.kinds.length))) (h.toNat - l.toNat) (cap - l.toNat)) w:=by
 obtain ⟨hu,hE⟩:=aqf hs;rw [dy7 hu rfl];simp only [Instr.slice,jI,run_underlying hu,jt,cqw hlo hhi h1 h2 h3,bqd hE,jW]
theorem ezl {t:TypeId} {x z:A} {lo hi:Option A} {vx:Value} {vlo vhi:Option Value} {p:Prop} (h:RelL P w0 N σ s tms w)
  (hf:cq9 P t s.hp x lo hi=some (p,z)) (hp:p) (hx:ARel P w (Al w0 w σ s.hp) σ vx x)
  (hlo:cyb P w (Al w0 w σ s.hp) σ vlo lo) (hhi:cyb P w (Al w0 w σ s.hp) σ vhi hi) :
  ∃ v,(Instr.sliceAt t vx vlo vhi none).run P w = .ok v w∧ARel P w (Al w0 w σ s.hp) σ v z:=by
 unfold cq9 at hf
 split at hf
 ·rename_i c
  split at hf
  ·rename_i hs;have hstr:=ckf hs;unfold ewv at hf
   split at hf
   ·rename_i l hh hbl hbh;simp only [jc,jo] at hf;obtain ⟨rfl,rfl⟩:=hf;obtain ⟨h1,h2,h3⟩:=hp;obtain ⟨rfl,hl⟩:=hx.str_inv;have hB:=cqw (P:=P) (w:=w) (isSlice:=false) (len:=c.toStr.length) (cap:=c.toStr.length) (awn hbl hlo) (awn hbh hhi) h1 h2 h3;refine ⟨.string ⟨((c.toStr.take hh.toNat).drop l.toNat).toArray⟩,?_,ARel.mk_str (by simp;omega)⟩;rw [dy7 hstr rfl];have hsz:(⟨c.toStr.toArray⟩:ByteArray).size=c.toStr.length:=by simp [ByteArray.size]
    simp only [Instr.slice,jI,run_underlying hstr,jt,Option.isSome_none,jn,if_false,hsz,hB,jW];congr 2;apply ByteArray.ext;apply Array.ext';simp [List.drop_take]
   ·cases hf
  ·cases hf
 ·rename_i t' c
  split at hf
  ·rename_i e E hs
   split at hf
   ·rename_i e1;subst e1;obtain ⟨hu,hE⟩:=aqf hs;unfold fjg at hf
    split at hf
    ·rename_i l hh hbl hbh;simp only [jc,jo] at hf;obtain ⟨rfl,rfl⟩:=hf;obtain ⟨h1,h2,h3⟩:=hp;rcases bwf hx.c_inv with ⟨a,cc,rfl,he⟩ | ⟨b,off,cap,E',f,rfl,hE',hal,hl,hcp,hel,hcell,hrep⟩
     ·rw [he] at h3 hbh;have e1:hh=0:=by simp at h3;omega
      have e2:l=0:=by omega
      subst e1 e2;refine ⟨_,ay0 hs (len:=0) (awn hbl hlo) (awn (by simpa using hbh) hhi) h1 h2 (by omega),?_⟩;exact .c _ _ _ (.empty _ _ _ _ (by simp [he]) nofun)
     ·rw [hE] at hE';simp only [jc] at hE';subst hE';refine ⟨_,ay0 hs (awn hbl hlo) (awn hbh hhi) h1 h2 (by omega),?_⟩;have hlen:((c.toSl.take hh.toNat).drop l.toNat).length=hh.toNat - l.toNat:=by simp;omega
      refine .c _ _ _ ?_;by_cases h0:hh.toNat - l.toNat=0
      ·rw [h0];exact .empty _ _ _ _ (List.eq_nil_of_length_eq_zero (by rw [C.toSl_slice,hlen];exact h0)) nofun
      ·rw [if_neg (by omega)];simp only [j5,Addr.add_lit];rw [← hlen]
       refine .slice t' (.slice ((c.toSl.take hh.toNat).drop l.toNat)) b _ _ nofun E hE hal (by rw [C.toSl_slice,hlen];omega) (by rw [C.toSl_slice,hlen];omega) (fun i hi=>by
        rw [C.toSl_slice,hlen] at hi
        rw [C.toSl_slice,dqt _ _ _ _ (by omega)];exact hel _ (by omega)) (fun i j=>f (l.toNat+i) j) (fun i hi j hj=>?_) (fun i hi j hj=>?_)
       ·rw [C.toSl_slice,hlen] at hi;rw [← hcell (l.toNat+i) (by omega) j hj,jD,JV,JV]
       ·rw [C.toSl_slice,hlen] at hi;rw [C.toSl_slice,dqt _ _ _ _ (by omega)];exact hrep (l.toNat+i) (by omega) j hj
    ·cases hf
   ·cases hf
  ·cases hf
 ·rename_i id ks off len
  split at hf
  ·rename_i e E hs
   split at hf
   ·rename_i hlv
    split at hf
    ·rename_i e1;unfold ewk at hf
     split at hf
     ·rename_i l hh hbl hbh;simp only [jc,jo] at hf;obtain ⟨rfl,rfl⟩:=hf;obtain ⟨h1,h2,h3⟩:=hp;obtain ⟨t',es,hb,hle,⟨E',hE',hks⟩,hbd,hv⟩:=akt h hlv hx
      have hml:dqj s.hp id off len=if off=0 then es.length else len:=by
       unfold dqj
       split
       ·rcases hb with hb | hb <;> simp [hb]
       ·simp
      rw [hml] at h3;rcases hv with ⟨rfl,rfl,ho,hes,_⟩ | ⟨rfl,ho,a,c,rfl⟩ | ⟨b,cap,c,hg,rfl,hc0,hcl⟩
      ·rw [hes] at h3;have e2:hh=0:=by simp at h3;omega
       have e3:l=0:=by omega
       subst e2 e3 ho hes;refine ⟨_,ay0 hs (len:=0) (awn hbl hlo) (awn hbh hhi) h1 h2 (by omega),?_⟩;exact hx
      ·rw [if_neg ho] at h3;have e2:hh=0:=by omega
       have e3:l=0:=by omega
       subst e2 e3;refine ⟨_,ay0 hs (len:=0) (awn hbl hlo) (awn hbh hhi) h1 h2 (by omega),?_⟩;simp only [Int.toNat_zero,J2,Nat.sub_self,Int.sub_self,Jj,Nat.sub_zero];cases hx with
       | ownGone _ _ _ _ _ hg=>exact .ownGone _ _ _ _ _ hg
       | ownNil _ _ _ _ hg h0=>exact absurd h0 ho
       | own0 _ _ _ _ _ _ _ _ _=>exact absurd rfl ho
       | ownOff _ _ _ _ b cap n cap' t'' hg ho' hle' hcc=>exact .ownOff0 _ _ _ _ b cap n _ t'' hg ho (by omega)
       | ownOff0 _ _ _ _ b cap n cap' t'' hg ho' hle'=>exact .ownOff0 _ _ _ _ b cap n _ t'' hg ho hle'
      ·have hB:ajq P w w0.wr (Al w0 w σ s.hp) (σ id) t' es:=by
        have:=h.blks id
        rcases hb with hb | hb <;> rw [hb] at this <;> exact this
       try obtain rfl:=ayk hB hg
       obtain ⟨_,_,_,_,cur,tg,hh',_,hec,_⟩:=azm hB hg
       have h3':hh≤(c:Int)∧(off:Int)+hh≤es.length:=by
        split at h3
        ·rename_i h0;rw [hc0 h0];omega
        ·omega
       clear h3;obtain ⟨h3,h3'⟩:=h3';refine ⟨_,ay0 hs (awn hbl hlo) (awn hbh hhi) h1 h2 (by omega),?_⟩;have e4:(hh - l).toNat=hh.toNat - l.toNat:=by omega
       rw [e4];by_cases hl0:l.toNat=0
       ·have hz:l=0:=by omega
        subst hz;simp only [Int.toNat_zero,J2,Jj,Nat.sub_zero,j5,Addr.add_lit,ite_self];by_cases ho:off=0
        ·subst ho;rw [hc0 rfl,J2];exact .own0 id ks _ b cap _ t' hg (by omega)
        ·exact .ownOff id ks off _ b cap _ c t' hg ho (by omega) (by omega)
       ·by_cases h0:hh.toNat - l.toNat=0
        ·rw [h0];exact .ownOff0 _ id ks _ b cap _ _ t' hg (by omega) (by omega)
        ·rw [if_neg (by omega)];simp only [j5,Addr.add_lit];rw [← e1,← jD];exact .ownOff id ks _ _ b cap _ _ t' hg (by omega) (by omega) (by omega)
     ·cases hf
    ·cases hf
   ·cases hf
  ·cases hf
 ·cases hf
theorem fjn {t:TypeId} {c:C} {vx:Value} {k:IntKind} {i:Int} (hs:dzr P t=true) (hp:0≤i∧i < (c.toStr.length:Int)) (hx:ARel P w al σ vx (.c .str c)) :
  ∃ v,(Instr.index t vx (.int k i)).run P w = .ok v w∧ARel P w al σ v (ki .u8 (c.toStr.getD i.toNat 0).toNat):=by
 obtain ⟨rfl,hl⟩:=hx.str_inv;have hu:=ckf hs;have hi:i.toNat < c.toStr.length:=by omega
 have hb:=(c.toStr.getD i.toNat 0).toNat_lt;refine ⟨.int .u8 (c.toStr.getD i.toNat 0).toNat,?_,ARel.mk_int ⟨?_,?_⟩⟩
 ·have hg:(⟨c.toStr.toArray⟩:ByteArray)[i.toNat]? = some (c.toStr.getD i.toNat 0):=by
   have h2:i.toNat < (⟨c.toStr.toArray⟩:ByteArray).size:=by simpa [ByteArray.size] using hi
   rw [getElem?_pos (⟨c.toStr.toArray⟩:ByteArray) i.toNat h2];congr 1;simp [ja,hi];rfl
  simp only [Instr.index,asIntOf,pure_bind,jI,run_underlying hu,jt,hp.1,if_true,hg,jW]
 ·simp only [IntKind.min,Jv,jn,if_false];omega
 ·simp only [IntKind.max,Jv,jj,jn,if_false];omega
theorem ew1 {xs:List A} {i:Nat} {z:A} {vx:Value} (hf:xs[i]? = some z) (hx:ARel P w al σ vx (.tup xs)) :
  ∃ v,(Instr.extract vx i).run P w = .ok v w∧ARel P w al σ v z:=by
 cases hx with
 | tup vs _ hl h =>
  have hi:i < xs.length:=by
   rcases Nat.lt_or_ge i xs.length with h' | h'
   ·exact h'
   ·rw [List.getElem?_eq_none h'] at hf;cases hf
  have h1:=h i hi;have h2:xs.getD i .unk=z:=by simp [ja,hf]
  rw [h2] at h1;refine ⟨_,?_,h1⟩
  have h3:vs.toArray[i]? = some (vs.getD i undef):=by
   have:i < vs.length:=by omega
   simp [ja,this]
  simp only [Instr.extract,h3,jW]
end Go.AE
