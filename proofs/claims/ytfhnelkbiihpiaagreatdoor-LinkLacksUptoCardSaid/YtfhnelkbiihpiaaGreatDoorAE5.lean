/- Text. -/
import Derived.Test.YtfhnelkbiihpiaaGreatDoorAE4
set_option linter.unusedVariables false
open _root_.Bool renaming and_eq_true→jd,false_eq_true→jD
open Go.IntKind renaming signed→Jx
open _root_.List renaming getD_eq_getElem?_getD→jb
open _root_.Nat renaming add_assoc→Jt,zero_add→jM,add_mul→jo,zero_mul→Jn,add_zero→jV
open _root_.Option renaming map_some→ju
open _root_.Option.some renaming injEq→ja
open _root_.Prod.mk renaming injEq→jj
open Go.Result renaming andThen_ok→jl
open Go.Sem renaming run_bind→jn,run_pure→jy
namespace Go.AE
open Go.RowKit (Below)
variable {P:Program} {w0:Base} {w:World} {N:Nat} {σ:Nat→RefI} {s:S} {tms:Array Value} {ρ:Operand→Value} {al:Nat→Prop}
theorem byj {t:TypeId} {T:TyI} (hT:tyI P t=some T) (ha:T.agg=false) :
  ∃ d,P.underlying t=some d∧awn d=false∧aqi P 12 t=some T.kinds∧T.elem=dqi d:=by
 obtain ⟨S⟩:=ajk hT
 exact ⟨S.d,S.und,S.agg ▸ ha,S.kinds,S.elem⟩
theorem bzi {t:TypeId} (h:cwc P t=true):P.underlying t=some .string:=by
 unfold cwc at h
 split at h
 ·rename_i f e b hT
  obtain ⟨d,hd,ha,hk,_⟩:=byj hT rfl
  simp only [aqi,hd] at hk
  cases d <;> simp [awn] at hk ha
  exact hd
 ·cases h
theorem aqa {t e:TypeId} {E:TyI} (h:slE P t=some (e,E)):P.underlying t=some (.slice e)∧tyI P e=some E:=by
 unfold slE at h
 split at h
 ·rename_i e' f e2 b hT
  split at h
  ·rename_i E' hE
   simp only [ja,jj] at h
   obtain ⟨rfl,rfl⟩:=h
   obtain ⟨d,hd,ha,hk,_⟩:=byj hT rfl
   simp only [aqi,hd] at hk
   cases d <;> simp [awn] at hk ha
   subst hk
   exact ⟨hd,hE⟩
  ·cases h
 ·cases h
theorem cq5 {n:Nat} (h:(n:Int)≤9223372036854775807):InR .i64 (n:Int):=by
 constructor
 ·simp only [IntKind.min,Jx,IntKind.bits,if_true];omega
 ·simp only [IntKind.max,Jx,IntKind.bits,if_true];omega
theorem run_len_slice {t e:TypeId} (hu:P.underlying t=some (.slice e)) (ty:TypeId) (a:Option Addr) (n c:Nat) :
  (Builtin.len_ #[t] ty #[.slice a n c]).run P w = .ok (.int .i64 n) w:=by
 simp [Builtin.len_,run_underlying hu,goInt]
theorem run_len_string {t:TypeId} (hu:P.underlying t=some .string) (ty:TypeId) (x:ByteArray) :
  (Builtin.len_ #[t] ty #[.string x]).run P w = .ok (.int .i64 x.size) w:=by
 simp [Builtin.len_,run_underlying hu,goInt]
theorem byo {id:Nat} {ks:List Kd} {off len:Nat} {v:Value} (h:RelL P w0 N σ s tms w) (hl:live s.hp id=true) (hx:ARel P w (Al w0 w σ s.hp) σ v (.own id ks off len)) :
  (∃ a c,v = .slice a len c)∧(len:Int)≤140737488355328:=by
 obtain ⟨t',es,hb,hle,_,hbd,hv⟩:=azs h hl hx
 refine ⟨?_,by omega⟩
 rcases hv with ⟨rfl,rfl,_⟩ | ⟨rfl,_,a,c,rfl⟩ | ⟨b,cap,c,_,rfl,_⟩
 ·exact ⟨_,_,rfl⟩
 ·exact ⟨_,_,rfl⟩
 ·exact ⟨_,_,rfl⟩
theorem dq8 {t e:TypeId} {x z:A} {vx:Value} {p:Prop} (h:RelL P w0 N σ s tms w) (hu:P.underlying t=some (.slice e)) (hf:cja s.hp x=some (p,z)) (hx:ARel P w (Al w0 w σ s.hp) σ vx x) (ty:TypeId) :
  p∧∃ v,(Builtin.len_ #[t] ty #[vx]).run P w = .ok v w∧ARel P w (Al w0 w σ s.hp) σ v z:=by
 unfold cja at hf
 split at hf
 ·rename_i t' c
  obtain ⟨a,cc,rfl,hl⟩:=dkn hx.c_inv
  simp only [ja,jj] at hf
  obtain ⟨rfl,rfl⟩:=hf
  exact ⟨hl,_,run_len_slice hu _ _ _ _,ARel.mk_int (cq5 (by omega))⟩
 ·rename_i id ks off len
  split at hf
  ·rename_i hlv
   simp only [ja,jj] at hf
   obtain ⟨rfl,rfl⟩:=hf
   obtain ⟨⟨a,c,rfl⟩,hbd⟩:=byo h hlv hx
   exact ⟨hbd,_,run_len_slice hu _ _ _ _,ARel.mk_int (cq5 (by omega))⟩
  ·cases hf
 ·simp only [ja,jj] at hf
  obtain ⟨rfl,rfl⟩:=hf
  cases hx
  exact ⟨trivial,_,run_len_slice hu _ _ _ _,ARel.mk_int (cq5 (n:=0) (by omega))⟩
 ·cases hf
theorem dkk {t:TypeId} {x z:A} {vx:Value} {p:Prop} (h:RelL P w0 N σ s tms w) (hf:lenA P t s.hp x=some (p,z)) (hx:ARel P w (Al w0 w σ s.hp) σ vx x) (ty:TypeId) :
  p∧∃ v,(Builtin.len_ #[t] ty #[vx]).run P w = .ok v w∧ARel P w (Al w0 w σ s.hp) σ v z:=by
 have sl:(if (slE P t).isSome then cja s.hp x else none)=some (p,z)→p∧∃ v,(Builtin.len_ #[t] ty #[vx]).run P w = .ok v w∧ARel P w (Al w0 w σ s.hp) σ v z:=by
  intro hf
  split at hf
  ·rename_i hs
   cases he:slE P t with
   | none=>simp [he] at hs
   | some q=>exact dq8 h (aqa he).1 hf hx ty
  ·cases hf
 unfold lenA at hf
 split at hf
 ·rename_i c
  split at hf
  ·rename_i hs
   obtain ⟨rfl,hl⟩:=hx.str_inv
   simp only [ja,jj] at hf
   obtain ⟨rfl,rfl⟩:=hf
   refine ⟨by omega,.int .i64 c.toStr.length,?_,ARel.mk_int (cq5 (by omega))⟩
   rw [run_len_string (bzi hs)]
   rfl
  ·cases hf
 ·exact sl hf
theorem bzt {t e:TypeId} {E:TyI} (hu:P.underlying t=some (.slice e)) (hE:tyI P e=some E) (k:IntKind) (i:Int) (b o len cap:Nat) (hi:0≤i∧i < (len:Int)) :
  (Instr.indexAt t (.slice (some ⟨b,o,none⟩) len cap) (.int k i)).run P w = .ok (.pointer (some ⟨b,o+i.toNat * E.kinds.length,none⟩)) w:=by
 simp [Instr.indexAt,asIntOf,run_underlying hu,hi,akn hE,Addr.add_lit]
theorem cqw {t e:TypeId} {E:TyI} {x z:A} {vx:Value} {p:Prop} {k:IntKind} {i:Int} (h:RelL P w0 N σ s tms w) (hs:slE P t=some (e,E))
  (hf:aqy e E s.hp x i=some (p,z)) (hp:p) (hx:ARel P w (Al w0 w σ s.hp) σ vx x) :
  ∃ v,(Instr.indexAt t vx (.int k i)).run P w = .ok v w∧ARel P w (Al w0 w σ s.hp) σ v z:=by
 obtain ⟨hu,hE⟩:=aqa hs
 unfold aqy at hf
 split at hf
 ·rename_i t' c
  split at hf
  ·rename_i e1;subst e1
   simp only [ja,jj] at hf
   obtain ⟨rfl,rfl⟩:=hf
   rcases ay4 hx.c_inv with ⟨a,cc,rfl,he⟩ | ⟨b,off,cap,E',f,rfl,hE',hal,hl,hcp,hel,hcell,hrep⟩
   ·rw [he] at hp;simp at hp;omega
   ·rw [hE] at hE';simp only [ja] at hE';subst hE'
    refine ⟨_,bzt hu hE k i b off _ cap hp,?_⟩
    have hi:i.toNat < c.toSl.length:=by omega
    refine .pp _ _ _ b _ hal (fun j=>f i.toNat j) (fun j hj=>?_) (fun j hj=>?_)
    ·rw [← hcell i.toNat hi j hj,Jt]
    ·rw [jM];exact hrep i.toNat hi j hj
  ·cases hf
 ·rename_i id ks off len
  split at hf
  ·rename_i hlv
   split at hf
   ·rename_i e1
    simp only [ja,jj] at hf
    obtain ⟨rfl,rfl⟩:=hf
    obtain ⟨t',es,hb,hle,⟨E',hE',hks⟩,hbd,hv⟩:=azs h hlv hx
    rcases hv with ⟨rfl,rfl,_⟩ | ⟨rfl,_,a,c,rfl⟩ | ⟨b,cap,c,hg,rfl,_⟩
    ·omega
    ·omega
    ·refine ⟨_,bzt hu hE k i b _ _ c hp,?_⟩
     have:off * ks.length+i.toNat * E.kinds.length=(off+i.toNat) * ks.length+0:=by rw [← e1,jo];omega
     rw [this]
     exact .elt id ks ks (off+i.toNat) 0 b cap _ t' hg (by omega) (by simp)
   ·cases hf
  ·cases hf
 ·cases hf
theorem bw6 {t:TypeId} {n:Nat} {e:TypeId} {E:TyI} (h:arrI P t=some (n,e,E)):∃ i z,P.info? t=some i∧P.underlying t=some (.array n e)∧tyI P e=some E∧i.size=n * E.kinds.length∧0 < n∧n * E.bytes≤140737488355328 ∧
  i.zero=some (.agg z)∧akp (List.replicate n E.kinds).flatten z.toList=true:=by
 unfold arrI at h
 split at h
 ·rename_i i n' e' hi hu
  split at h
  ·rename_i E' hE
   rw [Option.ite_none_right_eq_some] at h
   obtain ⟨hc,h⟩:=h
   simp only [ja,jj] at h
   obtain ⟨rfl,rfl,rfl⟩:=h
   rw [jd,jd,jd,beq_iff_eq,decide_eq_true_eq,decide_eq_true_eq] at hc
   obtain ⟨h1,h2,h3,h4⟩:=hc
   cases hz:i.zero with
   | none=>rw [hz] at h4;cases h4
   | some z =>
    rw [hz] at h4
    cases z <;> first | (cases h4;done) | exact ⟨i,_,hi,hu,hE,h1,h2,h3,hz,h4⟩
  ·cases h
 ·cases h
theorem cwh {t e:TypeId} {m:Nat} {E:TyI} {x z:A} {vx:Value} {p:Prop} {k:IntKind} {i:Int} (h:RelL P w0 N σ s tms w) (hs:arrI P t=some (m,e,E))
  (hf:azb m e E s.hp x i=some (p,z)) (hp:p) (hx:ARel P w (Al w0 w σ s.hp) σ vx x) :
  ∃ v,(Instr.indexAt t vx (.int k i)).run P w = .ok v w∧ARel P w (Al w0 w σ s.hp) σ v z:=by
 obtain ⟨inf,zz,hi,hu,hE,hsize,hpos,_⟩:=bw6 hs
 have key:∀ id sz ks t' es,x = .elt id sz ks 0 0→(s.hp id = .row t' es∨s.hp id = .frz t' es)→(t'=e∧ks=E.kinds∧sz=ks.length)→(0≤i∧i < (m:Int)∧es.length=m)→z = .elt id sz ks i.toNat 0 →
   ∃ v,(Instr.indexAt t vx (.int k i)).run P w = .ok v w∧ARel P w (Al w0 w σ s.hp) σ v z:=by
  rintro id sz ks t' es rfl hb ⟨rfl,hks0,hsz0⟩ ⟨h1,h2,h3⟩ rfl
  have hB:aq2 P w w0.wr (Al w0 w σ s.hp) (σ id) t' es:=by
   have:=h.blks id
   rcases hb with hb | hb <;> rw [hb] at this <;> exact this
  cases hx with
  | eltGone _ _ _ _ _ _ hg =>
   obtain ⟨E,_,_,hB⟩:=hB
   rcases hB with ⟨hB,_⟩ | ⟨_,_,_,_,hB,_⟩ <;> rw [hB] at hg <;> cases hg
  | elt _ ks0 _ _ _ b cap n t'' hg hin hks =>
   try obtain rfl:=akj hB hg
   obtain ⟨rfl,rfl,⟨E',hE',hk0⟩,_,cur,tg,hh,_⟩:=awe hB hg
   rw [hE] at hE';simp only [ja] at hE';subst hE'
   subst hk0
   rw [hks0]
   refine ⟨.pointer (some ⟨b,i.toNat * E.kinds.length,none⟩),?_,?_⟩
   ·have hlt:i < (m:Int):=h2
    simp only [Jn,jM]
    simp [Instr.indexAt,asIntOf,run_underlying hu,h1,h2,akn hE,Addr.add_lit,Instr.sureAddr]
   ·exact .elt id E.kinds E.kinds i.toNat 0 b cap _ t'' hg (by omega) (by simp)
 unfold azb at hf
 split at hf
 ·rename_i id sz ks
  split at hf
  ·rename_i t' es hb
   split at hf
   ·rename_i hc
    simp only [ja,jj] at hf
    obtain ⟨rfl,rfl⟩:=hf
    exact key id sz ks t' es rfl (.inl hb) hc hp rfl
   ·cases hf
  ·rename_i t' es hb
   split at hf
   ·rename_i hc
    simp only [ja,jj] at hf
    obtain ⟨rfl,rfl⟩:=hf
    exact key id sz ks t' es rfl (.inr hb) hc hp rfl
   ·cases hf
  ·cases hf
 ·cases hf
def bzw (P:Program) (w:World) (al:Nat→Prop) (σ:Nat→RefI):Option Value→Option A→Prop
 | none,none=>True
 | some v,some a=>ARel P w al σ v a
 | _,_=>False
theorem aqr {d:Int} {lo:Option A} {l:Int} {vlo:Option Value} (h:bound d lo=some l) (hlo:bzw P w al σ vlo lo) :
  (vlo=none∧l=d)∨∃ k,vlo=some (.int k l):=by
 cases lo with
 | none=>cases vlo with
  | none=>simp only [bound,ja] at h;exact .inl ⟨rfl,h.symm⟩
  | some v=>exact hlo.elim
 | some a=>cases vlo with
  | none=>exact hlo.elim
  | some v =>
   unfold bound at h
   split at h
   ·rename_i e;cases e
   ·rename_i k x e
    simp only [ja] at h e;subst h;subst e
    obtain ⟨rfl,_⟩:=ARel.int_inv hlo
    exact .inr ⟨_,rfl⟩
   ·cases h
theorem run_sliceBound {x:Int} {k:IntKind} {y:Nat} {code:BoundsCode} (h:0≤x) (h':x≤(y:Int)):(Instr.sliceBound (.int k x) y code).run P w = .ok x.toNat w:=by
 simp only [Instr.sliceBound,asIntOf,pure_bind]
 rw [if_pos ⟨h,h'⟩];rfl
theorem bwi {isSlice:Bool} {len cap:Nat} {l h:Int} {vlo vhi:Option Value} (hlo:(vlo=none∧l=0)∨∃ k,vlo=some (.int k l)) (hhi:(vhi=none∧h=(len:Int))∨∃ k,vhi=some (.int k h))
  (h1:0≤l) (h2:l≤h) (h3:h≤(cap:Int)):(Instr.sliceBounds isSlice len cap vlo vhi none).run P w = .ok (l.toNat,h.toNat,cap) w:=by
 have hh:0≤h:=by omega
 have hlh:l≤(h.toNat:Int):=by omega
 have hl':l≤(len:Int)→0≤l:=fun _=>h1
 rcases hlo with ⟨rfl,rfl⟩ | ⟨k,rfl⟩ <;> rcases hhi with ⟨rfl,rfl⟩ | ⟨k',rfl⟩
 ·simp only [Instr.sliceBounds,pure_bind];rfl
 ·simp only [Instr.sliceBounds,pure_bind,jn,run_sliceBound hh h3,jl];rfl
 ·simp only [Instr.sliceBounds,pure_bind,jn,run_sliceBound h1 h2,jl];rfl
 ·simp only [Instr.sliceBounds,pure_bind,jn,run_sliceBound hh h3,run_sliceBound h1 hlh,jl];rfl
theorem cj0 (es:List (List C)) (l h i:Nat) (hi:l+i < h):eg ((es.take h).drop l) i=eg es (l+i):=by
 simp only [eg,jb,List.getElem?_drop,List.getElem?_take]
 rw [if_pos hi]
theorem cqv {t:TypeId} {d:TypeDesc} (hd:P.underlying t=some d) (hna:awn d=false) (vx:Value) (lo hi:Option Value) :
  (Instr.sliceAt t vx lo hi none).run P w=(Instr.slice t vx lo hi none).run P w:=by
 simp only [Instr.sliceAt,jn,run_underlying hd,jl]
 cases d <;> first | rfl | cases hna
theorem azn {t e:TypeId} {E:TyI} (hs:slE P t=some (e,E)) {a:Option Addr} {len cap:Nat} {l h:Int} {vlo vhi:Option Value} (hlo:(vlo=none∧l=0)∨∃ k,vlo=some (.int k l)) (hhi:(vhi=none∧h=(len:Int))∨∃ k,vhi=some (.int k h))
  (h1:0≤l) (h2:l≤h) (h3:h≤(cap:Int)) :
  (Instr.sliceAt t (.slice a len cap) vlo vhi none).run P w = .ok (.slice (if cap=l.toNat then a else a.map (·.add (l.toNat * E.kinds.length))) (h.toNat - l.toNat) (cap - l.toNat)) w:=by
 obtain ⟨hu,hE⟩:=aqa hs
 rw [cqv hu rfl]
 simp only [Instr.slice,jn,run_underlying hu,jl,bwi hlo hhi h1 h2 h3,akn hE,jy]
theorem dj4 {t:TypeId} {x z:A} {lo hi:Option A} {vx:Value} {vlo vhi:Option Value} {p:Prop} (h:RelL P w0 N σ s tms w)
  (hf:bqv P t s.hp x lo hi=some (p,z)) (hp:p) (hx:ARel P w (Al w0 w σ s.hp) σ vx x)
  (hlo:bzw P w (Al w0 w σ s.hp) σ vlo lo) (hhi:bzw P w (Al w0 w σ s.hp) σ vhi hi) :
  ∃ v,(Instr.sliceAt t vx vlo vhi none).run P w = .ok v w∧ARel P w (Al w0 w σ s.hp) σ v z:=by
 unfold bqv at hf
 split at hf
 ·rename_i c
  split at hf
  ·rename_i hs
   have hstr:=bzi hs
   unfold ckf at hf
   split at hf
   ·rename_i l hh hbl hbh
    simp only [ja,jj] at hf
    obtain ⟨rfl,rfl⟩:=hf
    obtain ⟨h1,h2,h3⟩:=hp
    obtain ⟨rfl,hl⟩:=hx.str_inv
    have hB:=bwi (P:=P) (w:=w) (isSlice:=false) (len:=c.toStr.length) (cap:=c.toStr.length) (aqr hbl hlo) (aqr hbh hhi) h1 h2 h3
    refine ⟨.string ⟨((c.toStr.take hh.toNat).drop l.toNat).toArray⟩,?_,ARel.mk_str (by simp;omega)⟩
    rw [cqv hstr rfl]
    have hsz:(⟨c.toStr.toArray⟩:ByteArray).size=c.toStr.length:=by simp [ByteArray.size]
    simp only [Instr.slice,jn,run_underlying hstr,jl,Option.isSome_none,jD,if_false,hsz,hB,jy]
    congr 2
    apply ByteArray.ext
    apply Array.ext'
    simp [List.drop_take]
   ·cases hf
  ·cases hf
 ·rename_i t' c
  split at hf
  ·rename_i e E hs
   split at hf
   ·rename_i e1;subst e1
    obtain ⟨hu,hE⟩:=aqa hs
    unfold dqo at hf
    split at hf
    ·rename_i l hh hbl hbh
     simp only [ja,jj] at hf
     obtain ⟨rfl,rfl⟩:=hf
     obtain ⟨h1,h2,h3⟩:=hp
     rcases ay4 hx.c_inv with ⟨a,cc,rfl,he⟩ | ⟨b,off,cap,E',f,rfl,hE',hal,hl,hcp,hel,hcell,hrep⟩
     ·rw [he] at h3 hbh
      have e1:hh=0:=by simp at h3;omega
      have e2:l=0:=by omega
      subst e1 e2
      refine ⟨_,azn hs (len:=0) (aqr hbl hlo) (aqr (by simpa using hbh) hhi) h1 h2 (by omega),?_⟩
      exact .c _ _ _ (.empty _ _ _ _ (by simp [he]) nofun)
     ·rw [hE] at hE';simp only [ja] at hE';subst hE'
      refine ⟨_,azn hs (aqr hbl hlo) (aqr hbh hhi) h1 h2 (by omega),?_⟩
      have hlen:((c.toSl.take hh.toNat).drop l.toNat).length=hh.toNat - l.toNat:=by simp;omega
      refine .c _ _ _ ?_
      by_cases h0:hh.toNat - l.toNat=0
      ·rw [h0];exact .empty _ _ _ _ (List.eq_nil_of_length_eq_zero (by rw [C.toSl_slice,hlen];exact h0)) nofun
      ·rw [if_neg (by omega)]
       simp only [ju,Addr.add_lit]
       rw [← hlen]
       refine .slice t' (.slice ((c.toSl.take hh.toNat).drop l.toNat)) b _ _ nofun E hE hal (by rw [C.toSl_slice,hlen];omega) (by rw [C.toSl_slice,hlen];omega) (fun i hi=>by
        rw [C.toSl_slice,hlen] at hi
        rw [C.toSl_slice,cj0 _ _ _ _ (by omega)];exact hel _ (by omega)) (fun i j=>f (l.toNat+i) j) (fun i hi j hj=>?_) (fun i hi j hj=>?_)
       ·rw [C.toSl_slice,hlen] at hi
        rw [← hcell (l.toNat+i) (by omega) j hj,jo,Jt,Jt]
       ·rw [C.toSl_slice,hlen] at hi
        rw [C.toSl_slice,cj0 _ _ _ _ (by omega)]
        exact hrep (l.toNat+i) (by omega) j hj
    ·cases hf
   ·cases hf
  ·cases hf
 ·rename_i id ks off len
  split at hf
  ·rename_i e E hs
   split at hf
   ·rename_i hlv
    split at hf
    ·rename_i e1
     unfold ckp at hf
     split at hf
     ·rename_i l hh hbl hbh
      simp only [ja,jj] at hf
      obtain ⟨rfl,rfl⟩:=hf
      obtain ⟨h1,h2,h3⟩:=hp
      obtain ⟨t',es,hb,hle,⟨E',hE',hks⟩,hbd,hv⟩:=azs h hlv hx
      have hml:bym s.hp id off len=if off=0 then es.length else len:=by
       unfold bym
       split
       ·rcases hb with hb | hb <;> simp [hb]
       ·simp
      rw [hml] at h3
      rcases hv with ⟨rfl,rfl,ho,hes,_⟩ | ⟨rfl,ho,a,c,rfl⟩ | ⟨b,cap,c,hg,rfl,hc0,hcl⟩
      ·rw [hes] at h3
       have e2:hh=0:=by simp at h3;omega
       have e3:l=0:=by omega
       subst e2 e3 ho hes
       refine ⟨_,azn hs (len:=0) (aqr hbl hlo) (aqr hbh hhi) h1 h2 (by omega),?_⟩
       exact hx
      ·rw [if_neg ho] at h3
       have e2:hh=0:=by omega
       have e3:l=0:=by omega
       subst e2 e3
       refine ⟨_,azn hs (len:=0) (aqr hbl hlo) (aqr hbh hhi) h1 h2 (by omega),?_⟩
       simp only [Int.toNat_zero,Jn,Nat.sub_self,Int.sub_self,jV,Nat.sub_zero]
       cases hx with
       | ownGone _ _ _ _ _ hg=>exact .ownGone _ _ _ _ _ hg
       | ownNil _ _ _ _ hg h0=>exact absurd h0 ho
       | own0 _ _ _ _ _ _ _ _ _=>exact absurd rfl ho
       | ownOff _ _ _ _ b cap n cap' t'' hg ho' hle' hcc=>exact .ownOff0 _ _ _ _ b cap n _ t'' hg ho (by omega)
       | ownOff0 _ _ _ _ b cap n cap' t'' hg ho' hle'=>exact .ownOff0 _ _ _ _ b cap n _ t'' hg ho hle'
      ·have hB:aq2 P w w0.wr (Al w0 w σ s.hp) (σ id) t' es:=by
        have:=h.blks id
        rcases hb with hb | hb <;> rw [hb] at this <;> exact this
       try obtain rfl:=akj hB hg
       obtain ⟨_,_,_,_,cur,tg,hh',_,hec,_⟩:=awe hB hg
       have h3':hh≤(c:Int)∧(off:Int)+hh≤es.length:=by
        split at h3
        ·rename_i h0;rw [hc0 h0];omega
        ·omega
       clear h3
       obtain ⟨h3,h3'⟩:=h3'
       refine ⟨_,azn hs (aqr hbl hlo) (aqr hbh hhi) h1 h2 (by omega),?_⟩
       have e4:(hh - l).toNat=hh.toNat - l.toNat:=by omega
       rw [e4]
       by_cases hl0:l.toNat=0
       ·have hz:l=0:=by omega
        subst hz
        simp only [Int.toNat_zero,Jn,jV,Nat.sub_zero,ju,Addr.add_lit,ite_self]
        by_cases ho:off=0
        ·subst ho
         rw [hc0 rfl,Jn]
         exact .own0 id ks _ b cap _ t' hg (by omega)
        ·exact .ownOff id ks off _ b cap _ c t' hg ho (by omega) (by omega)
       ·by_cases h0:hh.toNat - l.toNat=0
        ·rw [h0];exact .ownOff0 _ id ks _ b cap _ _ t' hg (by omega) (by omega)
        ·rw [if_neg (by omega)]
         simp only [ju,Addr.add_lit]
         rw [← e1,← jo]
         exact .ownOff id ks _ _ b cap _ _ t' hg (by omega) (by omega) (by omega)
     ·cases hf
    ·cases hf
   ·cases hf
  ·cases hf
 ·cases hf
theorem dw4 {t:TypeId} {c:C} {vx:Value} {k:IntKind} {i:Int} (hs:cwc P t=true) (hp:0≤i∧i < (c.toStr.length:Int)) (hx:ARel P w al σ vx (.c .str c)) :
  ∃ v,(Instr.index t vx (.int k i)).run P w = .ok v w∧ARel P w al σ v (ki .u8 (c.toStr.getD i.toNat 0).toNat):=by
 obtain ⟨rfl,hl⟩:=hx.str_inv
 have hu:=bzi hs
 have hi:i.toNat < c.toStr.length:=by omega
 have hb:=(c.toStr.getD i.toNat 0).toNat_lt
 refine ⟨.int .u8 (c.toStr.getD i.toNat 0).toNat,?_,ARel.mk_int ⟨?_,?_⟩⟩
 ·have hg:(⟨c.toStr.toArray⟩:ByteArray)[i.toNat]? = some (c.toStr.getD i.toNat 0):=by
   have h2:i.toNat < (⟨c.toStr.toArray⟩:ByteArray).size:=by simpa [ByteArray.size] using hi
   rw [getElem?_pos (⟨c.toStr.toArray⟩:ByteArray) i.toNat h2]
   congr 1
   simp [jb,hi]
   rfl
  simp only [Instr.index,asIntOf,pure_bind,jn,run_underlying hu,jl,hp.1,if_true,hg,jy]
 ·simp only [IntKind.min,Jx,jD,if_false];omega
 ·simp only [IntKind.max,Jx,IntKind.bits,jD,if_false];omega
theorem ck8 {xs:List A} {i:Nat} {z:A} {vx:Value} (hf:xs[i]? = some z) (hx:ARel P w al σ vx (.tup xs)) :
  ∃ v,(Instr.extract vx i).run P w = .ok v w∧ARel P w al σ v z:=by
 cases hx with
 | tup vs _ hl h =>
  have hi:i < xs.length:=by
   rcases Nat.lt_or_ge i xs.length with h' | h'
   ·exact h'
   ·rw [List.getElem?_eq_none h'] at hf;cases hf
  have h1:=h i hi
  have h2:xs.getD i .unk=z:=by simp [jb,hf]
  rw [h2] at h1
  refine ⟨_,?_,h1⟩
  have h3:vs.toArray[i]? = some (vs.getD i undef):=by
   have:i < vs.length:=by omega
   simp [jb,this]
  simp only [Instr.extract,h3,jy]
end Go.AE
