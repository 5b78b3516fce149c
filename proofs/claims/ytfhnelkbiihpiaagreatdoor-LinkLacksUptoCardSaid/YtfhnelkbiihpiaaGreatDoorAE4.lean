/- Text. -/
import Derived.Test.YtfhnelkbiihpiaaGreatDoorAE3
set_option linter.unusedVariables false
open _root_.List renaming getD_cons_zero→j8,range→Je,getD_eq_getElem?_getD→jb,getElem?_map→j1,length_take→jm
open _root_.Nat renaming add_assoc→Jt
open _root_.Option renaming map_some→ju
open _root_.Option.some renaming injEq→ja
open _root_.Prod.mk renaming injEq→jj
open Go.Result renaming andThen_ok→jl
open Go.Sem renaming run_bind→jn,run_pure→jy
namespace Go.AE
open Go.RowKit (Below)
def OpOk (P:Program) (w0:Base) (N:Nat) (s:S) (tms:Array Value) (o:Oper) (ρ:Operand→Value) (w:World) (r:Out):Prop :=
 (∃ v w',(execOp ρ o).run P w = .ok (.value v) w'∧r.fact∧∃ σ',RelL P w0 N σ' ⟨s.tm,r.hp⟩ tms w'∧ARel P w' (Al w0 w' σ' r.hp) σ' v r.val) ∨
 (∃ w',(execOp ρ o).run P w = .ok .skip w'∧r.val = .unk∧r.fact∧∃ σ',RelL P w0 N σ' ⟨s.tm,r.hp⟩ tms w') ∨
 (∃ f args,(execOp ρ o).run P w = .ok (.enter f args) w∧r.fact ∧
  Calls P f args w (fun e w'=>∃ v,e = .returned v∧∃ σ',RelL P w0 N σ' ⟨s.tm,r.hp⟩ tms w'∧ARel P w' (Al w0 w' σ' r.hp) σ' v r.val))
variable {P:Program} {w0:Base} {w:World} {N:Nat} {σ:Nat→RefI} {s:S} {tms:Array Value} {ρ:Operand→Value} {al:Nat→Prop}
theorem OpOk.pure {o:Oper} {r:Out} {v:Value} (h:RelL P w0 N σ s tms w) (hr:(execOp ρ o).run P w = .ok (.value v) w) (hf:r.fact) (hhp:r.hp=s.hp)
  (hv:ARel P w (Al w0 w σ s.hp) σ v r.val):OpOk P w0 N s tms o ρ w r :=
 .inl ⟨v,w,hr,hf,σ,by rw [hhp];exact h,by rw [hhp];exact hv⟩
theorem ejm {op:UnOp} {x z:A} {vx:Value} (h:unA op x=some z) (hx:ARel P w al σ vx x) :
  ∃ v,(Op.unary op vx).run P w = .ok v w∧ARel P w al σ v z:=by
 unfold unA at h
 split at h
 ·rename_i x
  have e:=hx.bool_inv;subst e
  cases op <;> simp only [ja,reduceCtorEq] at h
  subst h
  exact ⟨.bool (!x.toBool),rfl,ARel.mk_bool _⟩
 ·rename_i k x
  obtain ⟨rfl,ha⟩:=hx.int_inv
  cases op <;> simp only [ja,reduceCtorEq] at h
  subst h
  exact ⟨.int k (k.wrap (0 - x.toInt)),rfl,ARel.mk_int (InR.wrap _ _)⟩
 ·cases h
theorem dqr {t u:TypeId} {x z:A} {vx:Value} {d:TypeDesc} (hd:P.underlying t=some d) (h:equ P t u x=some z) (hx:ARel P w al σ vx x) :
  ∃ v,(convert t u vx).run P w = .ok v w∧ARel P w al σ v z:=by
 unfold equ at h
 split at h
 ·rename_i k c k' hu
  obtain ⟨rfl,ha⟩:=hx.int_inv
  simp only [ja] at h;subst h
  refine ⟨.int k' (k'.wrap c.toInt),?_,ARel.mk_int (InR.wrap _ _)⟩
  simp only [convert,jn,run_underlying hd,run_underlying hu,jl]
  cases d <;> rfl
 ·rename_i c hu
  obtain ⟨rfl,ha⟩:=hx.str_inv
  simp only [ja] at h;subst h
  refine ⟨_,?_,hx⟩
  simp only [convert,jn,run_underlying hd,run_underlying hu,jl]
  cases d <;> rfl
 ·cases h
theorem InR.ite {k:IntKind} {a b:Int} {c:Prop} [Decidable c] (ha:InR k a) (hb:InR k b):InR k (if c then a else b):=by split <;> assumption
theorem bk8:∀ (ys:List A) (vs:List Value) (x z:A) (vx:Value),bw2 false x ys=some z→ARel P w al σ vx x→vs.length=ys.length→(∀ i,i < ys.length→ARel P w al σ (vs.getD i undef) (ys.getD i .unk)) →
  ∃ v,(vs.foldlM Builtin.min2 vx).run P w = .ok v w∧ARel P w al σ v z
 | [],vs,x,z,vx,h,hx,hl,hy=>by
  simp only [bw2,ja] at h;subst h
  cases vs with
  | nil=>exact ⟨vx,rfl,hx⟩
  | cons v vs=>simp at hl
 | y :: ys,vs,x,z,vx,h,hx,hl,hy=>by
  cases vs with
  | nil=>simp at hl
  | cons v vs =>
   simp only [bw2] at h
   split at h
   ·rename_i m hm
    have hv:=hy 0 (by simp)
    simp only [j8] at hv
    unfold cq7 at hm
    split at hm
    ·rename_i k a k' b
     split at hm
     ·rename_i e;subst e
      obtain ⟨rfl,ha⟩:=hx.int_inv
      obtain ⟨rfl,hb⟩:=hv.int_inv
      simp only [ja,Bool.false_eq_true,if_false] at hm;subst hm
      simp only [List.foldlM_cons]
      have hmin:(Builtin.min2 (.int k a.toInt) (.int k b.toInt)).run P w = .ok (.int k (if b.toInt < a.toInt then b.toInt else a.toInt)) w:=rfl
      simp only [jn,hmin,jl]
      exact bk8 ys vs _ z _ h (ARel.mk_int (InR.ite hb ha)) (by simpa using hl) (fun i hi=>by have:=hy (i+1) (by simp;omega);simpa using this)
     ·cases hm
    ·cases hm
   ·cases h
theorem bki:∀ (ys:List A) (vs:List Value) (x z:A) (vx:Value),bw2 true x ys=some z→ARel P w al σ vx x→vs.length=ys.length→(∀ i,i < ys.length→ARel P w al σ (vs.getD i undef) (ys.getD i .unk)) →
  ∃ v,(vs.foldlM Builtin.max2 vx).run P w = .ok v w∧ARel P w al σ v z
 | [],vs,x,z,vx,h,hx,hl,hy=>by
  simp only [bw2,ja] at h;subst h
  cases vs with
  | nil=>exact ⟨vx,rfl,hx⟩
  | cons v vs=>simp at hl
 | y :: ys,vs,x,z,vx,h,hx,hl,hy=>by
  cases vs with
  | nil=>simp at hl
  | cons v vs =>
   simp only [bw2] at h
   split at h
   ·rename_i m hm
    have hv:=hy 0 (by simp)
    simp only [j8] at hv
    unfold cq7 at hm
    split at hm
    ·rename_i k a k' b
     split at hm
     ·rename_i e;subst e
      obtain ⟨rfl,ha⟩:=hx.int_inv
      obtain ⟨rfl,hb⟩:=hv.int_inv
      simp only [ja,if_true] at hm;subst hm
      simp only [List.foldlM_cons]
      have hmin:(Builtin.max2 (.int k a.toInt) (.int k b.toInt)).run P w = .ok (.int k (if b.toInt > a.toInt then b.toInt else a.toInt)) w:=rfl
      simp only [jn,hmin,jl]
      exact bki ys vs _ z _ h (ARel.mk_int (InR.ite hb ha)) (by simpa using hl) (fun i hi=>by have:=hy (i+1) (by simp;omega);simpa using this)
     ·cases hm
    ·cases hm
   ·cases h
theorem cqn {t:TypeId} {d:TypeDesc} (h:P.underlying t=some d):(isAgg t).run P w = .ok (awn d) w:=by
 simp only [isAgg,jn,run_underlying h,jl]
 cases d <;> rfl
theorem akn {t:TypeId} {T:TyI} (h:tyI P t=some T):(sizeOf t).run P w = .ok T.kinds.length w:=by
 obtain ⟨S⟩:=ajk h
 simp only [sizeOf,jn,run_typeInfo w S.info,jl,jy,S.size]
theorem az2 {t:TypeId} {T:TyI} (h:tyI P t=some T):0 < T.kinds.length:=by
 obtain ⟨S⟩:=ajk h
 exact List.length_pos_iff.2 S.ne
theorem bwy {t:TypeId} {T:TyI} (h:tyI P t=some T) (b o:Nat) (f:Nat→Value) (hc:∀ j,j < T.kinds.length→w.cell? ⟨b,o+j,none⟩=some (f j)) :
  (Instr.loadAt t (.pointer (some ⟨b,o,none⟩))).run P w = .ok (if T.agg then .agg ((Je T.kinds.length).map f).toArray else f 0) w:=by
 obtain ⟨S⟩:=ajk h
 have hl:=run_loadCells (P:=P) w ⟨b,o,none⟩ T.kinds.length f (fun j hj=>by rw [Addr.add_lit];exact hc j hj)
 have h0:=hc 0 (az2 h)
 simp only [Nat.add_zero] at h0
 simp only [Instr.loadAt,Instr.sureAddr,loadVar,jn,jy,jl,cqn S.und,S.agg]
 cases awn S.d
 ·simp [h0]
 ·simp [akn h,hl]
theorem cqq {n:Nat} {f:Nat→Value} {xs:List A} (agg:Bool) (hn:0 < n) (hl:xs.length=n) (h:∀ j,j < n→ARel P w al σ (f j) (xs.getD j .unk)) :
  ARel P w al σ (if agg then .agg ((Je n).map f).toArray else f 0) (pack agg xs):=by
 cases agg
 ·simp only [pack,Bool.false_eq_true,if_false]
  have:=h 0 hn
  cases xs with
  | nil=>simp at hl;omega
  | cons x xs=>simpa using this
 ·simp only [pack,if_true]
  refine .agg _ _ (by simp [hl]) (fun i hi=>?_)
  have:=h i (by omega)
  rw [jb,j1,List.getElem?_range (by omega)]
  exact this
theorem azo (ks:List Kd) (cells:List C):∀ off,(aku ks cells off).length=ks.length:=by
 induction ks with
 | nil=>intro off;rfl
 | cons k ks ih=>intro off;simp [aku,ih]
theorem bqd (ks:List Kd) (cells:List C):∀ off j,j < ks.length→(aku ks cells off).getD j .unk = .c (ks.getD j .other) (nrm (ks.getD j .other) (cg cells (off+j))):=by
 induction ks with
 | nil=>intro off j hj;simp at hj
 | cons k ks ih =>
  intro off j hj
  cases j with
  | zero=>simp [aku]
  | succ j =>
   simp only [aku,List.getD_cons_succ]
   rw [ih (off+1) j (by simpa using hj)]
   have e:off+1+j=off+(j+1):=by omega
   rw [e]
theorem aju {α:Type} (l:List α) (n j:Nat) (d:α) (h:j < n):(l.take n).getD j d=l.getD j d:=by
 simp [jb,h]
theorem akx {α:Type} (l:List α) (n j:Nat) (d:α):(l.drop n).getD j d=l.getD (n+j) d:=by
 simp [jb,List.getElem?_drop]
theorem akj {B:Nat→Prop} {r:RefI} {t:TypeId} {es:List (List C)} {b cap n:Nat} {t':TypeId} {ks:List Kd} {F:Nat→Prop} (h:aq2 P w B al r t es) (hr:r = .row b cap t' ks n F):F=fun _=>False:=by
 obtain ⟨E,hE,hby,h⟩:=h
 rcases h with ⟨h,_⟩ | ⟨b',cap',cur,tg,h,hB,hh,h1,h2,h3,h4,h5⟩
 ·rw [hr] at h;cases h
 ·rw [hr] at h
  simp only [RefI.row.injEq] at h
  exact h.2.2.2.2.2
theorem awe {B:Nat→Prop} {r:RefI} {t:TypeId} {es:List (List C)} {b cap n:Nat} {t':TypeId} {ks:List Kd} {F:Nat→Prop} (h:aq2 P w B al r t es) (hr:r = .row b cap t' ks n F) :
  t'=t∧n=es.length∧(∃ E,tyI P t=some E∧ks=E.kinds)∧B b∧∃ cur tg,w.heap[b]? = some (.cells cur tg (0,0))∧cur.size=cap * ks.length∧es.length≤cap∧cap≤maxLen∧(es.length:Int)≤140737488355328 ∧
   (∀ i,i < es.length→(eg es i).length=ks.length) ∧
   (∀ i,i < es.length→∀ j,j < ks.length→i * ks.length+j < cur.size∧w.cell? ⟨b,i * ks.length+j,none⟩=some (cur.getD (i * ks.length+j) undef)∧RepC P w al (ks.getD j .other) (cur.getD (i * ks.length+j) undef) (cg (eg es i) j)):=by
 obtain ⟨E,hE,hby,h⟩:=h
 rcases h with ⟨h,_⟩ | ⟨b',cap',cur,tg,h,hB,hh,h1,h2,h3,h4,h5⟩
 ·rw [hr] at h;cases h
 ·rw [hr] at h
  simp only [RefI.row.injEq] at h
  obtain ⟨rfl,rfl,rfl,rfl,rfl,rfl⟩:=h
  obtain ⟨S⟩:=ajk hE
  refine ⟨rfl,rfl,⟨E,hE,rfl⟩,hB,cur,tg,hh,h3,h1,h2,?_,h4,?_⟩
  ·have:=S.pos
   have:(es.length:Int) * 1≤es.length * E.bytes:=Int.mul_le_mul_of_nonneg_left (by omega) (by omega)
   omega
  ·intro i hi j hj
   have hlt:i * E.kinds.length+j < cur.size:=by
    rw [h3]
    calc i * E.kinds.length+j < i * E.kinds.length+E.kinds.length:=by omega
     _=(i+1) * E.kinds.length:=by rw [Nat.add_mul];omega
     _≤cap * E.kinds.length:=Nat.mul_le_mul_right _ (by omega)
   refine ⟨hlt,?_,h5 i hi j hj⟩
   rw [cell_of_row w b _ cur _ (0,0) hh]
   simp [Array.getD,hlt]
theorem cqj {t:TypeId} {T:TyI} {p:A} {vp:Value} {pre:Prop} {z:A} (h:RelL P w0 N σ s tms w) (hT:tyI P t=some T) (hl:bqo T s.hp p=some (pre,z)) (hpre:pre)
  (hp:ARel P w (Al w0 w σ s.hp) σ vp p):∃ v,(Instr.loadAt t vp).run P w = .ok v w∧ARel P w (Al w0 w σ s.hp) σ v z:=by
 unfold bqo at hl
 split at hl
 ·rename_i id off
  split at hl
  ·rename_i cells hb
   simp only [ja,jj] at hl
   obtain ⟨rfl,rfl⟩:=hl
   have hB:=h.blks id
   rw [hb] at hB
   obtain ⟨b,vs,t',hr,_,hh,hsz,hc⟩:=hB
   cases hp with
   | box _ _ b' hg =>
    rw [hr] at hg;simp only [RefI.box.injEq] at hg;subst hg
    refine ⟨_,bwy hT b off (fun j=>vs.getD (off+j) undef) (fun j hj=>?_),cqq T.agg (az2 hT) (by simp;omega) (fun j hj=>?_)⟩
    ·rw [cell_of_row w b _ vs t' (0,0) hh]
     have:off+j < vs.size:=by omega
     simp [Array.getD,this]
    ·rw [aju _ _ _ _ hj,akx]
     exact hc _ (by omega)
  ·cases hl
 ·rename_i id sz ks i off
  have key:∀ t' es,(s.hp id = .row t' es∨s.hp id = .frz t' es)→i < es.length∧T.kinds.length≤ks.length→z=pack T.agg (aku (ks.take T.kinds.length) (eg es i) off) →
    ∃ v,(Instr.loadAt t vp).run P w = .ok v w∧ARel P w (Al w0 w σ s.hp) σ v z:=by
   rintro t' es hb ⟨hi,hk⟩ rfl
   have hB:aq2 P w w0.wr (Al w0 w σ s.hp) (σ id) t' es:=by
    have:=h.blks id
    rcases hb with hb | hb <;> rw [hb] at this <;> exact this
   cases hp with
   | eltGone _ _ _ _ _ _ hg =>
    obtain ⟨E,_,_,hB⟩:=hB
    rcases hB with ⟨hB,_⟩ | ⟨_,_,_,_,hB,_⟩ <;> rw [hB] at hg <;> cases hg
   | elt _ ks0 _ _ _ b cap n t'' hg hin hks =>
    try obtain rfl:=akj hB hg
    obtain ⟨rfl,rfl,⟨E,hE,rfl⟩,_,cur,tg,hh,_,_,_,_,hlen,hcell⟩:=awe hB hg
    subst hks
    have hkl:T.kinds.length≤E.kinds.length - off:=by simpa using hk
    have h0:=az2 hT
    refine ⟨_,bwy hT b (i * E.kinds.length+off) (fun j=>cur.getD (i * E.kinds.length+(off+j)) undef) (fun j hj=>?_),cqq T.agg h0 (by rw [azo,jm];omega) (fun j hj=>?_)⟩
    ·have:=(hcell i hi (off+j) (by omega)).2.1
     rw [← this,Jt]
    ·rw [bqd _ _ _ _ (by rw [jm];omega),aju _ _ _ _ hj,akx]
     exact .c _ _ _ (hcell i hi (off+j) (by omega)).2.2.nrm
  split at hl
  ·rename_i t' es hb
   simp only [ja,jj] at hl
   obtain ⟨rfl,rfl⟩:=hl
   exact key t' es (.inl hb) hpre rfl
  ·rename_i t' es hb
   simp only [ja,jj] at hl
   obtain ⟨rfl,rfl⟩:=hl
   exact key t' es (.inr hb) hpre rfl
  ·cases hl
 ·rename_i ks cells off
  simp only [ja,jj] at hl
  obtain ⟨rfl,rfl⟩:=hl
  cases hp with
  | pp _ _ _ b o hal f hcell hrep =>
   refine ⟨_,bwy hT b o f (fun j hj=>awl (hcell j (by omega))),cqq T.agg (az2 hT) (by rw [azo,jm];omega) (fun j hj=>?_)⟩
   rw [bqd _ _ _ _ (by rw [jm];omega),aju _ _ _ _ hj]
   exact .c _ _ _ (hrep j (by omega)).nrm
 ·cases hl
theorem bya {t:TypeId} {T:TyI} (hT:tyI P t=some T) {f:Nat} {p:Nat×TypeId} (hf:T.fields[f]? = some p) (b o:Nat) :
  (Instr.fieldAt t (.pointer (some ⟨b,o,none⟩)) f).run P w = .ok (.pointer (some ⟨b,o+p.1,none⟩)) w∧∃ fi,P.info? p.2=some fi∧0 < fi.size∧p.1+fi.size≤T.kinds.length:=by
 obtain ⟨S⟩:=ajk hT
 have hfs:=S.fields
 have hfit:=S.fit
 have hund:=S.und
 generalize S.d=d at *
 cases d <;> simp only [ay6] at hfs
 case struct fs =>
  rw [hfs,j1] at hf
  cases hff:fs.toList[f]? with
  | none=>simp [hff] at hf
  | some fl =>
   simp only [hff,ju,ja] at hf
   subst hf
   simp only [bkc,ay6,List.all_map,List.all_eq_true] at hfit
   have hm:=hfit fl (List.mem_of_getElem? hff)
   simp only [Function.comp] at hm
   cases hi:P.info? fl.type with
   | none=>simp [hi] at hm
   | some fi =>
    simp only [hi,Bool.and_eq_true,decide_eq_true_eq] at hm
    refine ⟨?_,fi,rfl,hm.1,hm.2⟩
    have hff':fs[f]? = some fl:=by rw [← Array.getElem?_toList];exact hff
    have hsz:(sizeOf fl.type).run P w = .ok fi.size w:=by simp only [sizeOf,jn,run_typeInfo w hi,jl,jy]
    have h0:¬ fi.size=0:=by omega
    simp [Instr.fieldAt,run_underlying hund,hff',Instr.sureAddr,fieldPlace,hsz,h0,Addr.add_lit]
 all_goals (rw [hfs] at hf;simp at hf)
theorem aze {id:Nat} (h:RelL P w0 N σ s tms w) (hl:live s.hp id=true):σ id≠.gone∧σ id≠.dead:=by
 have hB:=h.blks id
 unfold live at hl
 split at hl
 ·rename_i cells hb
  rw [hb] at hB
  obtain ⟨b,vs,t,hr,_⟩:=hB
  simp [hr]
 ·rename_i t es hb
  rw [hb] at hB
  obtain ⟨E,_,_,hB⟩:=hB
  rcases hB with ⟨hB,_⟩ | ⟨_,_,_,_,hB,_⟩ <;> simp [hB]
 ·rename_i t es hb
  rw [hb] at hB
  obtain ⟨E,_,_,hB⟩:=hB
  rcases hB with ⟨hB,_⟩ | ⟨_,_,_,_,hB,_⟩ <;> simp [hB]
 ·cases hl
theorem cyi {t:TypeId} {T:TyI} {f:Nat} {x z:A} {vx:Value} (h:RelL P w0 N σ s tms w) (hT:tyI P t=some T) (hf:bji T s.hp f x=some z) (hx:ARel P w (Al w0 w σ s.hp) σ vx x) :
  ∃ v,(Instr.fieldAt t vx f).run P w = .ok v w∧ARel P w (Al w0 w σ s.hp) σ v z:=by
 unfold bji at hf
 split at hf
 ·rename_i id off
  cases hff:T.fields[f]? with
  | none=>simp [hff] at hf
  | some p =>
   simp only [hff,ju,ja] at hf;subst hf
   cases hx with
   | box _ _ b hg=>exact ⟨_,(bya hT hff b _).1,.box _ _ _ hg⟩
 ·rename_i id sz ks i off
  split at hf
  ·rename_i hl
   cases hff:T.fields[f]? with
   | none=>simp [hff] at hf
   | some p =>
    simp only [hff,ju,ja] at hf;subst hf
    cases hx with
    | eltGone _ _ _ _ _ _ hg=>exact absurd hg (aze h hl).1
    | elt _ ks0 _ _ _ b cap n t'' hg hi hk =>
     refine ⟨_,(bya hT hff b _).1,?_⟩
     rw [Jt]
     exact .elt _ ks0 _ _ _ b cap n t'' hg hi (by rw [hk,List.drop_drop])
  ·cases hf
 ·rename_i ks cells off
  cases hff:T.fields[f]? with
  | none=>simp [hff] at hf
  | some p =>
   simp only [hff,ju,ja] at hf;subst hf
   cases hx with
   | pp _ _ _ b o hal f' hcell hrep =>
    refine ⟨_,(bya hT hff b _).1,.pp _ _ _ b _ hal (fun j=>f' (p.1+j)) (fun j hj=>?_) (fun j hj=>?_)⟩
    ·have:=hcell (p.1+j) (by simp at hj;omega)
     rw [← this,Jt]
    ·have:=hrep (p.1+j) (by simp at hj;omega)
     rw [akx,Jt];exact this
 ·cases hf
theorem azs {id:Nat} {ks:List Kd} {off len:Nat} {v:Value} (h:RelL P w0 N σ s tms w) (hl:live s.hp id=true) (hx:ARel P w (Al w0 w σ s.hp) σ v (.own id ks off len)) :
  ∃ t es,(s.hp id = .row t es∨s.hp id = .frz t es)∧off+len≤es.length∧(∃ E,tyI P t=some E∧ks=E.kinds)∧(es.length:Int)≤140737488355328 ∧
   ((v = .slice none 0 0∧len=0∧off=0∧es=[]∧σ id = .rown t ks)∨(len=0∧off≠0∧∃ a c,v = .slice a 0 c) ∨
    ∃ b cap c,σ id = .row b cap t ks es.length∧v = .slice (some ⟨b,off * ks.length,none⟩) len c∧(off=0→c=cap)∧len≤c):=by
 have hlv:=aze h hl
 have hB:=h.blks id
 have key:∀ t es,(s.hp id = .row t es∨s.hp id = .frz t es)→aq2 P w w0.wr (Al w0 w σ s.hp) (σ id) t es→∃ t es,(s.hp id = .row t es∨s.hp id = .frz t es)∧off+len≤es.length∧(∃ E,tyI P t=some E∧ks=E.kinds)∧(es.length:Int)≤140737488355328 ∧
   ((v = .slice none 0 0∧len=0∧off=0∧es=[]∧σ id = .rown t ks)∨(len=0∧off≠0∧∃ a c,v = .slice a 0 c) ∨
    ∃ b cap c,σ id = .row b cap t ks es.length∧v = .slice (some ⟨b,off * ks.length,none⟩) len c∧(off=0→c=cap)∧len≤c):=by
  intro t es hb hR
  cases hx with
  | ownGone _ _ _ _ _ hg=>exact absurd hg hlv.1
  | ownNil _ _ _ t' hg ho =>
   obtain ⟨E,hE,hby,hR⟩:=hR
   rcases hR with ⟨hr,rfl⟩ | ⟨_,_,_,_,hr,_⟩
   ·have hg':=hg;rw [hr] at hg';simp only [RefI.rown.injEq] at hg'
    obtain ⟨rfl,rfl⟩:=hg'
    exact ⟨t,[],hb,by simp [ho],⟨E,hE,rfl⟩,by simp,.inl ⟨rfl,rfl,ho,rfl,hr⟩⟩
   ·rw [hr] at hg;cases hg
  | own0 _ _ _ b cap n t' hg hle =>
   try obtain rfl:=akj hR hg
   obtain ⟨rfl,rfl,hE,_,cur,tg,hh,_,hec,_,hlen,_,_⟩:=awe hR hg
   exact ⟨_,es,hb,by omega,hE,hlen,.inr (.inr ⟨b,cap,cap,hg,by simp,fun _=>rfl,by omega⟩)⟩
  | ownOff _ _ _ _ b cap n cap' t' hg ho hle hcc =>
   try obtain rfl:=akj hR hg
   obtain ⟨rfl,rfl,hE,_,cur,tg,hh,_,_,_,hlen,_,_⟩:=awe hR hg
   exact ⟨_,es,hb,hle,hE,hlen,.inr (.inr ⟨b,cap,cap',hg,rfl,fun e=>absurd e ho,hcc⟩)⟩
  | ownOff0 a _ _ _ b cap n cap' t' hg ho hle =>
   try obtain rfl:=akj hR hg
   obtain ⟨rfl,rfl,hE,_,cur,tg,hh,_,_,_,hlen,_,_⟩:=awe hR hg
   exact ⟨_,es,hb,by omega,hE,hlen,.inr (.inl ⟨rfl,ho,a,cap',rfl⟩)⟩
 unfold live at hl
 split at hl
 ·rename_i cells hb
  rw [hb] at hB
  obtain ⟨b,vs,t,hr,_⟩:=hB
  cases hx with
  | ownGone _ _ _ _ _ hg=>exact absurd hg hlv.1
  | ownNil _ _ _ t' hg ho=>rw [hr] at hg;cases hg
  | own0 _ _ _ b cap n t' hg hle=>rw [hr] at hg;cases hg
  | ownOff _ _ _ _ b cap n cap' t' hg ho hle hcc=>rw [hr] at hg;cases hg
  | ownOff0 a _ _ _ b cap n cap' t' hg ho hle=>rw [hr] at hg;cases hg
 ·rename_i t es hb;rw [hb] at hB;exact key t es (.inl hb) hB
 ·rename_i t es hb;rw [hb] at hB;exact key t es (.inr hb) hB
 ·cases hl
theorem ay4 {t:TypeId} {x:C} {v:Value} (h:RepC P w al (.slice t) v x) :
  (∃ a cap,v = .slice a 0 cap∧x.toSl=[]) ∨
  (∃ (b off cap:Nat) (E:TyI) (f:Nat→Nat→Value),v = .slice (some ⟨b,off,none⟩) x.toSl.length cap∧tyI P t=some E∧al b∧x.toSl.length≤140737488355328∧x.toSl.length≤cap∧(∀ i,i < x.toSl.length→(eg x.toSl i).length=E.kinds.length) ∧
   (∀ i,i < x.toSl.length→∀ j,j < E.kinds.length→bz3 w ⟨b,off+(i * E.kinds.length+j),none⟩=some (f i j)) ∧
   (∀ i,i < x.toSl.length→∀ j,j < E.kinds.length→RepC P w al (E.kinds.getD j .other) (f i j) (cg (eg x.toSl i) j))):=by
 cases h with
 | empty _ _ a cap h _=>exact .inl ⟨a,cap,rfl,h⟩
 | slice _ _ b off cap _ E hE hal hlen hcap hel f hcell hrep=>exact .inr ⟨b,off,cap,E,f,rfl,hE,hal,hlen,hcap,hel,hcell,hrep⟩
theorem ARel.c_inv {k:Kd} {x:C} {v:Value} (h:ARel P w al σ v (.c k x)):RepC P w al k v x:=by
 cases h with | c _ _ _ h=>exact h
theorem dkn {t:TypeId} {x:C} {v:Value} (h:RepC P w al (.slice t) v x):∃ a c,v = .slice a x.toSl.length c∧(x.toSl.length:Int)≤140737488355328:=by
 rcases ay4 h with ⟨a,c,rfl,he⟩ | ⟨b,off,cap,E,f,rfl,_,_,hl,_⟩
 ·exact ⟨a,c,by simp [he],by simp [he]⟩
 ·exact ⟨_,cap,rfl,by omega⟩
end Go.AE
