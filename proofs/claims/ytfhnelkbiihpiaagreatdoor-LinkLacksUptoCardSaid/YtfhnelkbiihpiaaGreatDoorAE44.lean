/- Text. -/
import Derived.Test.YtfhnelkbiihpiaaGreatDoorAE41
set_option linter.unusedSimpArgs false
set_option linter.unusedVariables false
namespace Go.AE
open Go.RowKit (Below)
variable {P:Program} {w0:Base} {w:World} {N:Nat} {σ:Nat→RefI} {s:S} {tms:Array Value} {ρ:Operand→Value} {al:Nat→Prop}
end Go.AE
/-
 Rows with a lent cell among what a function hands back.
-/
namespace Go.AE
open Go.RowKit (Below)
variable {P:Program} {w0:Base} {w:World} {N kp:Nat} {σ:Nat→RefI} {s:S} {tms:Array Value} {ρ:Operand→Value}
def ek4 (hp:Nat→Blk) (id:Nat):Bool:=match hp id with
 | .row _ _=>true
 | .rl _ _ _ _ _=>true
 | _=>false
theorem dkb {id:Nat} (h:RelL P w0 N σ s tms w) (hl:ek4 s.hp id=true):σ id≠.gone:=by
 have hB:=h.blks id
 unfold ek4 at hl
 split at hl
 ·rename_i t es hb
  rw [hb] at hB
  obtain ⟨E,_,_,hB⟩:=hB
  rcases hB with ⟨hB,_⟩ | ⟨_,_,_,_,hB,_⟩ <;> simp [hB]
 ·rename_i t es i j a hb
  rw [hb] at hB
  obtain ⟨E,_,_,hB⟩:=hB
  rcases hB with ⟨hB,_⟩ | ⟨_,_,_,_,hB,_⟩ <;> simp [hB]
 ·cases hl
mutual
def akt (P:Program) (ids:List (Option Nat)) (hs':List Blk) (hp:Nat→Blk):A→A→Prop
 | .c k x,act=>match toCell hp act with
  | some (k',y)=>fitP k k'=true∧y=x∧(ajc act).all (fun id=>ayf id ids)=true
  | none=>False
 | .nilsl,act=>act = .nilsl
 | .own j ks off len,act=>match act with
  | .own id ks' off' len'=>ids.getD j none=some id∧ks'=ks∧off'=off∧len'=len∧ek4 hp id=true
  | .nilsl=>ids[j]? = some none∧off=0∧len=0∧(match hs'.getD j .dead with | .row t _=>(match tyI P t with | some E=>E.kinds=ks | none=>False) | _=>False)
  | _=>False
 | .box j off,act=>match act with
  | .box id off'=>ids.getD j none=some id∧off'=off
  | _=>False
 | .bsl j len,act=>match act with
  | .bsl id len'=>ids.getD j none=some id∧len'=len
  | _=>False
 | .mref j,act=>match act with
  | .mref id=>ids.getD j none=some id
  | _=>False
 | .elt j sz ks i off,act=>match act with
  | .elt id sz' ks' i' off'=>ids.getD j none=some id∧sz'=sz∧ks'=ks∧i'=i∧off'=off∧live hp id=true
  | _=>False
 | .agg es,act=>match act with
  | .agg as=>bqc P ids hs' hp es as
  | _=>False
 | .fnv f es,act=>match act with
  | .fnv f' as=>f'=f∧bqc P ids hs' hp es as
  | _=>False
 | .fnb f es,act=>match act with
  | .fnb f' as=>f'=f∧bqc P ids hs' hp es as
  | _=>False
 | .rg j k x,act=>match act with
  | .rg id k' x'=>ids.getD j none=some id∧k'=k∧x'=x
  | _=>False
 | .unk,_=>True
 | _,_=>False
def bqc (P:Program) (ids:List (Option Nat)) (hs':List Blk) (hp:Nat→Blk):List A→List A→Prop
 | [],[]=>True
 | e :: es,a :: as=>akt P ids hs' hp e a∧bqc P ids hs' hp es as
 | _,_=>False
end
def blkL (P:Program) (ids:List (Option Nat)) (hs':List Blk) (hp:Nat→Blk):Option Nat→Blk→Prop
 | some id,.row t es=>hp id = .row t es
 | none,.row t es=>es=[]∧(tyI P t).isSome=true
 | some id,.frz t es=>hp id = .frz t es
 | some id,.gone=>hp id = .gone
 | some id,.box cells=>match hp id with | .box cells'=>bqc P ids hs' hp cells cells' | _=>False
 | some id,.mp kk vp m=>hp id = .mp kk vp m
 | some id,.reg=>hp id = .reg
 | some id,.wob=>hp id = .wob
 | some id,.rl t es i j a=>match hp id with | .rl t' es' i' j' a'=>t'=t∧es'=es∧i'=i∧j'=j∧akt P ids hs' hp a a' | _=>False
 | _,_=>False
def ej5 (P:Program) (ids:List (Option Nat)) (hs':List Blk) (hp:Nat→Blk):List (Option Nat)→List Blk→Prop
 | [],[]=>True
 | i :: is,b :: bs=>blkL P ids hs' hp i b∧ej5 P ids hs' hp is bs
 | _,_=>False
theorem czp {hp:Nat→Blk} {ids0:List (Option Nat)} {hs0:List Blk}:∀ {ids:List (Option Nat)} {bs:List Blk},ej5 P ids0 hs0 hp ids bs→ids.length=bs.length∧∀ j,j < bs.length→∃ o,ids[j]? = some o∧blkL P ids0 hs0 hp o (bs.getD j .dead)
 | [],[],_=>⟨rfl,fun j hj=>by simp at hj⟩
 | [],_ :: _,h=>h.elim
 | _ :: _,[],h=>h.elim
 | i :: is,b :: bs,h=>by
  obtain ⟨h1,h2⟩:=h
  obtain ⟨l,hr⟩:=czp h2
  refine ⟨by simp [l],fun j hj=>?_⟩
  cases j with
  | zero=>exact ⟨i,rfl,by simpa using h1⟩
  | succ j=>simpa using hr j (by simpa using hj)
section
variable {ids:List (Option Nat)} {hs':List Blk}
theorem ezr (h:RelL P w0 N σ s tms w) (hm:ej5 P ids hs' s.hp ids hs') :
  (∀ b,Al w0 w σ s.hp b→Al w0 w (ajz P σ ids hs') (aja hs') b) ∧
  (∀ id,ayf id ids=true→∀ b,aj0 (σ id) b→Al w0 w (ajz P σ ids hs') (aja hs') b):=by
 obtain ⟨hl,hs⟩:=czp hm
 have hj:∀ j b,aj0 (ajz P σ ids hs' j) b→∃ id,ids[j]? = some (some id)∧aj0 (σ id) b∧(ake (s.hp id)→ake (aja hs' j)):=by
  intro j b hb
  obtain ⟨id,h1,h2⟩:=azc hb
  have hlt:j < hs'.length:=by
   rcases Nat.lt_or_ge j ids.length with h' | h'
   ·omega
   ·rw [List.getElem?_eq_none h'] at h1;cases h1
  obtain ⟨o,h3,h4⟩:=hs j hlt
  rw [h1] at h3
  simp only [Option.some.injEq] at h3;subst h3
  refine ⟨id,h1,h2,fun hf=>?_⟩
  show ake (hs'.getD j .dead)
  generalize hs'.getD j .dead=K at h4
  cases K with
  | frz t es=>trivial
  | row t es=>simp only [blkL] at h4;rw [h4] at hf;exact hf
  | gone=>simp only [blkL] at h4;rw [h4] at hf;exact hf
  | mp kk vp m=>simp only [blkL] at h4;rw [h4] at hf;exact hf
  | box cells =>
   simp only [blkL] at h4
   split at h4
   ·rename_i e;rw [e] at hf;exact hf
   ·exact h4.elim
  | dead=>simp [blkL] at h4
  | it kk vp c l=>simp [blkL] at h4
  | reg=>simp only [blkL] at h4;rw [h4] at hf;exact hf
  | wob=>simp only [blkL] at h4;rw [h4] at hf;exact hf
  | rl t es i j a =>
   simp only [blkL] at h4
   split at h4
   ·rename_i e;rw [e] at hf;exact hf
   ·exact h4.elim
 refine ⟨fun b hb=>⟨hb.1,fun j hjb=>?_,hb.2.2⟩,fun id hn b hb=>⟨(aj3 (h.blks id) hb).1,fun j hjb=>?_,.inl (aj3 (h.blks id) hb).2⟩⟩
 ·obtain ⟨id,_,h2,h3⟩:=hj j b hjb
  exact h3 (hb.2.1 id h2)
 ·obtain ⟨id',h1,h2,h3⟩:=hj j b hjb
  have e:=h.inj id' id b h2 hb
  subst e
  exact absurd h1 (ak7 hn j)
mutual
theorem dj6 (h00:tyI P 0=none) (h:RelL P w0 N σ s tms w) (hm:ej5 P ids hs' s.hp ids hs'):∀ (e a:A) (v:Value),akt P ids hs' s.hp e a→ARel P w (Al w0 w σ s.hp) σ v a→ARel P w (Al w0 w (ajz P σ ids hs') (aja hs')) (ajz P σ ids hs') v e
 | .c k x,a,v,ht,hx=>by
  simp only [akt] at ht
  obtain ⟨ha1,ha2⟩:=ezr h hm
  split at ht
  ·rename_i k' y hto
   obtain ⟨hf,rfl,hn⟩:=ht
   rw [List.all_eq_true] at hn
   have:=awp h hto hx ha1 (fun id hid=>ha2 id (hn id hid))
   exact .c _ _ _ (bz0 h00 hf this)
  ·exact ht.elim
 | .nilsl,a,v,ht,hx=>by
  simp only [akt] at ht
  subst ht;cases hx;exact .nilsl
 | .own j ks off len,a,v,ht,hx=>by
  simp only [akt] at ht
  split at ht
  ·rename_i id ks' off' len'
   obtain ⟨hr,rfl,rfl,rfl,hl⟩:=ht
   have hσ:=aqc (P:=P) (σ:=σ) (hs':=hs') hr
   have hg:=dkb h hl
   cases hx with
   | ownGone _ _ _ _ _ hgg=>exact absurd hgg hg
   | ownNil _ _ _ t hh ho=>exact .ownNil _ _ _ t (hσ.trans hh) ho
   | own0 _ _ _ b cap n t hh hle=>exact .own0 _ _ _ b cap n t (hσ.trans hh) hle
   | ownOff _ _ _ _ b cap n cap' t hh ho hle hc=>exact .ownOff _ _ _ _ b cap n cap' t (hσ.trans hh) ho hle hc
   | ownOff0 ad _ _ _ b cap n cap' t hh ho hle=>exact .ownOff0 ad _ _ _ b cap n cap' t (hσ.trans hh) ho hle
  ·obtain ⟨hr,rfl,rfl,hk⟩:=ht
   cases hx
   split at hk
   ·rename_i t es hrow
    split at hk
    ·rename_i E hE
     subst hk
     have hrow':hs'[j]? = some (.row t es):=by
      rw [List.getD_eq_getElem?_getD] at hrow
      cases hx:hs'[j]? with
      | none=>rw [hx] at hrow;simp at hrow
      | some q=>rw [hx] at hrow;simp at hrow;rw [hrow]
     exact .ownNil _ _ _ t (by unfold ajz;rw [hr,hrow'];simp [hE]) rfl
    ·exact hk.elim
   ·exact hk.elim
  ·exact ht.elim
 | .box j off,a,v,ht,hx=>by
  simp only [akt] at ht
  split at ht
  ·obtain ⟨hr,rfl⟩:=ht
   have hσ:=aqc (P:=P) (σ:=σ) (hs':=hs') hr
   cases hx with
   | box _ _ b hh=>exact .box _ _ b (hσ.trans hh)
  ·exact ht.elim
 | .bsl j len,a,v,ht,hx=>by
  simp only [akt] at ht
  split at ht
  ·obtain ⟨hr,rfl⟩:=ht
   have hσ:=aqc (P:=P) (σ:=σ) (hs':=hs') hr
   cases hx with
   | bsl _ _ b cap hh=>exact .bsl _ _ b cap (hσ.trans hh)
  ·exact ht.elim
 | .mref j,a,v,ht,hx=>by
  simp only [akt] at ht
  split at ht
  ·have hσ:=aqc (P:=P) (σ:=σ) (hs':=hs') ht
   cases hx with
   | mref _ b hh=>exact .mref _ b (hσ.trans hh)
   | mrefGone _ _ hh=>exact .mrefGone _ _ (hσ.trans hh)
   | itr _ r b hh=>exact .itr _ r b (hσ.trans hh)
  ·exact ht.elim
 | .elt j sz ks i off,a,v,ht,hx=>by
  simp only [akt] at ht
  split at ht
  ·obtain ⟨hr,rfl,rfl,rfl,rfl,hl⟩:=ht
   have hσ:=aqc (P:=P) (σ:=σ) (hs':=hs') hr
   have hg:=(aze h hl).1
   cases hx with
   | eltGone _ _ _ _ _ _ hgg=>exact absurd hgg hg
   | elt _ ks0 _ _ _ b cap n t hh hi hk=>exact .elt _ ks0 _ _ _ b cap n t (hσ.trans hh) hi hk
  ·exact ht.elim
 | .agg es,a,v,ht,hx=>by
  simp only [akt] at ht
  split at ht
  ·rename_i as
   cases hx with
   | agg us _ hlu hu =>
    obtain ⟨l',hr'⟩:=ayg h00 h hm es as us ht hlu hu
    exact .agg us es (by rw [hlu,l']) hr'
  ·exact ht.elim
 | .fnv f es,a,v,ht,hx=>by
  simp only [akt] at ht
  split at ht
  ·rename_i f' as
   obtain ⟨rfl,ht⟩:=ht
   cases hx with
   | fnv _ _ us hlu hu =>
    obtain ⟨l',hr'⟩:=ayg h00 h hm es as us ht hlu hu
    exact .fnv _ es us (by rw [hlu,l']) hr'
  ·exact ht.elim
 | .fnb f es,a,v,ht,hx=>by
  simp only [akt] at ht
  split at ht
  ·rename_i f' as
   obtain ⟨rfl,ht⟩:=ht
   cases hx with
   | fnb _ _ us hlu hu =>
    obtain ⟨l',hr'⟩:=ayg h00 h hm es as us ht hlu hu
    exact .fnb _ es us (by rw [hlu,l']) hr'
  ·exact ht.elim
 | .unk,a,v,ht,hx=>.unk v
 | .tup es,a,v,ht,hx=>by simp [akt] at ht
 | .pp ks cells off,a,v,ht,hx=>by simp [akt] at ht
 | .when g e,a,v,ht,hx=>by simp [akt] at ht
 | .rg j k x,a,v,ht,hx=>by
  simp only [akt] at ht
  split at ht
  ·obtain ⟨hr,rfl,rfl⟩:=ht
   have hσ:=aqc (P:=P) (σ:=σ) (hs':=hs') hr
   cases hx with
   | rg _ _ _ _ W Q hh hq=>exact .rg _ _ _ _ W Q (hσ.trans hh) hq
   | rgGone _ _ _ _ hh=>exact .rgGone _ _ _ _ (hσ.trans hh)
  ·exact ht.elim
 | .rp _ _ _ _,a,v,ht,hx=>by simp [akt] at ht
theorem ayg (h00:tyI P 0=none) (h:RelL P w0 N σ s tms w) (hm:ej5 P ids hs' s.hp ids hs'):∀ (es as:List A) (vs:List Value),bqc P ids hs' s.hp es as→vs.length=as.length →
  (∀ i,i < as.length→ARel P w (Al w0 w σ s.hp) σ (vs.getD i undef) (as.getD i .unk))→es.length=as.length∧∀ i,i < es.length→ARel P w (Al w0 w (ajz P σ ids hs') (aja hs')) (ajz P σ ids hs') (vs.getD i undef) (es.getD i .unk)
 | [],[],vs,_,_,_=>⟨rfl,fun i hi=>by simp at hi⟩
 | [],_ :: _,vs,ht,_,_=>by simp [bqc] at ht
 | _ :: _,[],vs,ht,_,_=>by simp [bqc] at ht
 | e :: es,a :: as,[],ht,hl,hx=>by simp at hl
 | e :: es,a :: as,v :: vs,ht,hl,hx=>by
  simp only [bqc] at ht
  obtain ⟨t1,t2⟩:=ht
  obtain ⟨l,hr⟩:=ayg h00 h hm es as vs t2 (by simpa using hl) (fun i hi=>by have:=hx (i+1) (by simp;omega);simpa using this)
  have h0:ARel P w (Al w0 w σ s.hp) σ v a:=hx 0 (by simp)
  have h1:=dj6 h00 h hm e a v t1 h0
  refine ⟨by simp [l],fun i hi=>?_⟩
  cases i with
  | succ i=>simpa using hr i (by simpa using hi)
  | zero=>exact h1
end
end
end Go.AE
/-
 A field of a structure's value.
-/
namespace Go.AE
open Go.RowKit (Below)
variable {P:Program} {w0:Base} {w:World} {N kp:Nat} {σ:Nat→RefI} {s:S} {tms:Array Value} {ρ:Operand→Value}
end Go.AE
