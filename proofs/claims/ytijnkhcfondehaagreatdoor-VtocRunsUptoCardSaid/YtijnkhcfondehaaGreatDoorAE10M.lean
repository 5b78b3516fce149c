/- Text. -/
import Derived.Test.YtijnkhcfondehaaGreatDoorAE9O
import Derived.MapKept
set_option linter.unusedSimpArgs false
set_option linter.unusedVariables false
set_option linter.unusedVariables false
namespace Go.AE
open Go.RowKit (Below)
variable {P:Program} {w0:Base} {w:World} {N:Nat} {σ:Nat→RefI} {s:S} {tms:Array Value} {ρ:Operand→Value} {al:Nat→Prop}
def eyw (w:World) (al:Nat→Prop):Base:=⟨w,al,fun _=>False,fun _=>.dead,noMk,0⟩
theorem dy5 {w:World} {al:Nat→Prop} {b:Nat} (h:(eyw w al).wr b):w.heap.size≤b:=by
 rcases h with h | h
 ·exact h
 ·exact h.elim
def ajo (rows:List Blk) (j:Nat):Blk:=rows.getD j .dead
def hj8:Blk→Bool
 | .row _ _=>true
 | _=>false
def gyg (P:Program) (w:World) (al:Nat→Prop) (w':World) (v:Value) (sig:Sig):Prop :=
 Below w.heap.size w w'∧(∀ b,b∈sig.rows→hj8 b=true)∧∃ σr:Nat→RefI,
  (∀ j,BRel P w' (eyw w al).wr (Al (eyw w al) w' σr (ajo sig.rows)) σr j (ajo sig.rows j)) ∧
  (∀ i j b,aj6 (σr i) b→aj6 (σr j) b→i=j) ∧
  ARel P w' (Al (eyw w al) w' σr (ajo sig.rows)) σr v (cwz sig.res)
def cjl:Kd→Bool
 | .bool=>true
 | .int _=>true
 | .str=>true
 | _=>false
mutual
def ayl:A→Bool
 | .c k _=>cjl k
 | .agg xs=>bzi xs
 | .own _ ks _ _=>ks.all cjl
 | .nilsl=>true
 | _=>false
def bzi:List A→Bool
 | []=>true
 | a :: as=>ayl a && bzi as
end
structure aj2 (P:Program) (g:Fn):Prop where
 enter:∀ args w,(callFunc g.f args).run P w = .ok (.enter g.f args) w
 scalar:g.refs=false→∀ cs,bzi (g.sem cs).res=true∧∀ b∈(g.sem cs).rows,∃ t es E,b = .row t es∧tyI P t=some E∧E.kinds.all cjl=true
 calls:∀ (w:World) (al:Nat→Prop) (vs:List Value) (cs:List (List C)),(∀ b,al b→b < w.heap.size)→vs.length=g.ps.length→cs.length=g.ps.length →
  (∀ i,i < g.ps.length→ArgRel P w al (g.ps.getD i (false,[])) (vs.getD i undef) (cs.getD i []))→(g.sem cs).pre →
  Calls P g.f vs.toArray w (fun e w'=>∃ v,e = .returned v∧gyg P w al w' v (g.sem cs))
theorem ejh:∀ {Γ:List Fn} {f:FuncId} {g:Fn},dzv Γ f=some g→g∈Γ∧g.f=f
 | [],f,g,h=>by cases h
 | x :: Γ,f,g,h=>by
  simp only [dzv] at h
  split at h
  ·rename_i e;simp only [Option.some.injEq] at h;subst h;exact ⟨by simp,e⟩
  ·obtain ⟨h1,h2⟩:=ejh h;exact ⟨by simp [h1],h2⟩
theorem ck5 {al':Nat→Prop} {p:Bool×List Kd} {a:A} {v:Value} {c:List C} (h00:tyI P 0=none) (h:RelL P w0 N σ s tms w) (h1:∀ b,Al w0 w σ s.hp b→al' b) (hf:bqs s.hp p a=some c)
  (hx:ARel P w (Al w0 w σ s.hp) σ v a) (h2:∀ id,id∈(aje a).flatMap ajf→∀ b,aj6 (σ id) b→al' b):ArgRel P w al' p v c:=by
 have single:∀ k c0 k0,toCell s.hp a=some (k,c0)→aje a=[a]→p.1=false→p.2=[k0]→fitP k0 k=true→c=[c0]→ArgRel P w al' p v c:=by
  rintro k c0 k0 hto hca hp1 hp2 hfk rfl
  have hr:=ako h hto hx h1 (fun id hid=>h2 id (by rw [hca];simpa using hid))
  simp only [ArgRel,hp1,hp2]
  exact ⟨rfl,rfl,ckh h00 hfk hr⟩
 cases a with
 | agg xs =>
  simp only [bqs] at hf
  split at hf
  ·rename_i he
   split at hf
   ·rename_i ks' cs hto
    split at hf
    ·rename_i hok
     simp only [Bool.and_eq_true,beq_iff_eq] at hok
     simp only [Option.some.injEq] at hf;subst hf
     cases hx with
     | agg vs _ hl hh =>
      obtain ⟨l1,l2,hrep⟩:=ay2 h h1 hto hl hh h2
      obtain ⟨f1,f2⟩:=cqi hok.1
      simp only [ArgRel,he]
      refine ⟨vs,rfl,by rw [hl,← l1,hok.2],by rw [l2,← l1,hok.2],fun j hj=>?_⟩
      have hj':j < ks'.length:=by rw [hok.2];exact hj
      exact by2 h00 (f2 j hj') (hrep j (by omega))
    ·cases hf
   ·cases hf
  ·cases hf
 | _ =>
  simp only [bqs] at hf
  split at hf
  ·cases hf
  ·rename_i he
   split at hf
   ·rename_i hto hks
    split at hf
    ·rename_i hfk
     simp only [Option.some.injEq] at hf
     exact single _ _ _ hto rfl he hks hfk hf.symm
    ·cases hf
   ·cases hf
theorem dj5 {hp:Nat→Blk} {p:Bool×List Kd} {a:A} {c:List C} (hf:bqs hp p a=some c):∀ id,id∈(aje a).flatMap ajf→∃ t es,hp id = .row t es∨hp id = .frz t es:=by
 have single:∀ q,toCell hp a=some q→aje a=[a]→∀ id,id∈(aje a).flatMap ajf→∃ t es,hp id = .row t es∨hp id = .frz t es:=by
  intro q hto hca
  rw [hca]
  exact bjb (q:=([q.1],[q.2])) (by simp [aw3,hto])
 cases a with
 | agg xs =>
  simp only [bqs] at hf
  split at hf
  ·split at hf
   ·rename_i ks' cs hto;exact bjb hto
   ·cases hf
  ·cases hf
 | _ =>
  simp only [bqs] at hf
  split at hf
  ·cases hf
  ·split at hf
   ·rename_i k c0 k0 hto hks;exact single _ hto rfl
   ·cases hf
theorem dzd {hp:Nat→Blk}:∀ {ps:List (Bool×List Kd)} {as:List A} {cs:List (List C)},bjc hp ps as=some cs →
  as.length=ps.length∧cs.length=ps.length∧∀ i,i < ps.length→bqs hp (ps.getD i (false,[])) (as.getD i .unk)=some (cs.getD i [])
 | [],[],cs,h=>by simp only [bjc,Option.some.injEq] at h;subst h;exact ⟨rfl,rfl,fun i hi=>by simp at hi⟩
 | [],_ :: _,cs,h=>by simp [bjc] at h
 | _ :: _,[],cs,h=>by simp [bjc] at h
 | p :: ps,a :: as,cs,h=>by
  simp only [bjc] at h
  split at h
  ·rename_i x xs hx hxs
   simp only [Option.some.injEq] at h;subst h
   obtain ⟨h1,h2,h3⟩:=dzd hxs
   refine ⟨by simp [h1],by simp [h2],fun i hi=>?_⟩
   cases i with
   | zero=>simpa using hx
   | succ i=>simpa using h3 i (by simpa using hi)
  ·cases h
theorem gjv {as:List A} {i:Nat} (hi:i < as.length) {id:Nat} (h:id∈(aje (as.getD i .unk)).flatMap ajf):id∈bjj as:=by
 induction as generalizing i with
 | nil=>simp at hi
 | cons a as ih =>
  simp only [bjj]
  cases i with
  | zero=>exact List.mem_append.2 (.inl (by simpa using h))
  | succ i=>exact List.mem_append.2 (.inr (ih (by simpa using hi) (by simpa using h)))
theorem gqz {as:List A} {id:Nat} (h:id∈bjj as):∃ i,i < as.length∧id∈(aje (as.getD i .unk)).flatMap ajf:=by
 induction as with
 | nil=>simp [bjj] at h
 | cons a as ih =>
  simp only [bjj] at h
  rcases List.mem_append.1 h with h | h
  ·exact ⟨0,by simp,by simpa using h⟩
  ·obtain ⟨i,hi,hm⟩:=ih h
   exact ⟨i+1,by simpa using hi,by simpa using hm⟩
theorem dwx (d:Nat):∀ (bs:List Blk) (j:Nat) (hp:Nat→Blk) (id:Nat),addRows d j bs hp id=if key d j≤id∧id < key d j+bs.length then bs.getD (id - key d j) .dead else hp id
 | [],j,hp,id=>by simp only [addRows,List.length_nil];rw [if_neg (by omega)]
 | b :: bs,j,hp,id=>by
  simp only [addRows]
  rw [dwx d bs (j+1)]
  have hk:key d (j+1)=key d j+1:=by simp [key];omega
  rw [hk]
  simp only [List.length_cons,upd]
  by_cases h1:key d j+1≤id∧id < key d j+1+bs.length
  ·rw [if_pos h1,if_pos (by omega)]
   have:id - key d j=(id - (key d j+1))+1:=by omega
   rw [this,List.getD_cons_succ]
  ·rw [if_neg h1]
   by_cases h2:id=key d j
   ·subst h2;rw [if_pos rfl,if_pos (by omega)];simp
   ·rw [if_neg h2,if_neg (by omega)]
theorem eq3 (d:Nat):∀ (bs:List Blk) (j:Nat) (hp:Nat→Blk),bw4 d j bs hp=true→∀ i,i < bs.length→hp (key d j+i) = .dead
 | [],j,hp,h,i,hi=>by simp at hi
 | b :: bs,j,hp,h,i,hi=>by
  simp only [bw4,Bool.and_eq_true] at h
  cases i with
  | zero=>exact aqj h.1
  | succ i =>
   have:=eq3 d bs (j+1) hp h.2 i (by simpa using hi)
   have hk:key d (j+1)=key d j+1:=by simp [key];omega
   rw [hk] at this
   rw [← this];congr 1;omega
theorem cj5 (d:Nat) (as:List A):(dja d as).length=as.length:=by
 induction as with
 | nil=>rfl
 | cons a as ih=>simp [dja,ih]
theorem ezk (d:Nat) (as:List A) (i:Nat):(dja d as).getD i .unk=renA d (as.getD i .unk):=by
 induction as generalizing i with
 | nil=>simp [dja,renA]
 | cons a as ih =>
  cases i with
  | zero=>simp [dja]
  | succ i=>simpa [dja] using ih i
theorem gqh {σr σ':Nat→RefI} {d:Nat} {v:Value} {a:A} (h:ARel P w al σr v a) (hs:∀ j,σr j≠.dead→σ' (key d j)=σr j):ARel P w al σ' v (renA d a):=by
 induction h with
 | unk v=>exact .unk v
 | c k v x h=>exact .c k v x h
 | nilsl=>exact .nilsl
 | agg vs xs hl h ih =>
  simp only [renA]
  refine .agg vs _ (by rw [cj5];exact hl) (fun i hi=>?_)
  rw [cj5] at hi
  rw [ezk];exact ih i hi
 | tup vs xs hl h ih=>exact .unk _
 | ownGone v id ks off len h=>exact .ownGone v _ ks off len (by rw [hs id (by simp [h]),h])
 | eltGone v id sz ks i off h=>exact .unk _
 | ownNil id ks off t h ho=>exact .ownNil _ ks off t (by rw [hs id (by simp [h]),h]) ho
 | own0 id ks len b cap n t h hl=>exact .own0 _ ks len b cap n t (by rw [hs id (by simp [h]),h]) hl
 | ownOff id ks off len b cap n cap' t h ho hl hc=>exact .ownOff _ ks off len b cap n cap' t (by rw [hs id (by simp [h]),h]) ho hl hc
 | ownOff0 a id ks off b cap n cap' t h ho hl=>exact .ownOff0 a _ ks off b cap n cap' t (by rw [hs id (by simp [h]),h]) ho hl
 | box id off b h=>exact .unk _
 | elt id ks0 ks i off b cap n t h hi hk=>exact .unk _
 | pp ks cells off b o hal f hcell hrep=>exact .unk _
 | fnv f caps vs hl h ih=>exact .unk _
 | mref id b h=>exact .unk _
 | mrefGone v id h=>exact .unk _
 | itr id r b h=>exact .unk _
 | whenT v a h ih=>exact .unk _
 | whenF a=>exact .unk _
theorem gwi {σr σ':Nat→RefI} {d:Nat} {v:Value} {as:List A} (h:ARel P w al σr v (cwz as)) (hs:∀ j,σr j≠.dead→σ' (key d j)=σr j):ARel P w al σ' v (cwz (dja d as)):=by
 have tup:∀ as:List A,ARel P w al σr v (.tup as)→ARel P w al σ' v (.tup (dja d as)):=by
  intro as h
  cases h with
  | tup vs _ hl hh =>
   refine .tup vs _ (by rw [cj5];exact hl) (fun i hi=>?_)
   rw [cj5] at hi
   rw [ezk];exact gqh (hh i hi) hs
 cases as with
 | nil=>exact tup [] h
 | cons a as =>
  cases as with
  | nil=>exact gqh h hs
  | cons b as=>exact tup (a :: b :: as) h
theorem RepC.scalar {al':Nat→Prop} {k:Kd} {v:Value} {x:C} (h:RepC P w al k v x) (hk:cjl k=true):RepC P w al' k v x:=by
 cases h <;> first | (simp [cjl] at hk;done) | skip
 ·exact .bool x
 ·exact .int _ x (by assumption)
 ·exact .str x (by assumption)
theorem cw4:∀ {as:List A},bzi as=true→∀ i,i < as.length→ayl (as.getD i .unk)=true
 | [],_,i,hi=>by simp at hi
 | a :: as,h,i,hi=>by
  simp only [bzi,Bool.and_eq_true] at h
  cases i with
  | zero=>simpa using h.1
  | succ i=>simpa using cw4 h.2 i (by simpa using hi)
theorem ARel.scalar {al':Nat→Prop} {v:Value} {a:A} (h:ARel P w al σ v a) (hk:ayl a=true):ARel P w al' σ v a:=by
 induction h with
 | unk v=>simp [ayl] at hk
 | c k v x h=>exact .c k v x (h.scalar (by simpa [ayl] using hk))
 | nilsl=>exact .nilsl
 | agg vs xs hl h ih=>exact .agg vs xs hl (fun i hi=>ih i hi (cw4 (by simpa [ayl] using hk) i hi))
 | tup vs xs hl h ih=>simp [ayl] at hk
 | ownGone v id ks off len h=>exact .ownGone v id ks off len h
 | eltGone v id sz ks i off h=>simp [ayl] at hk
 | ownNil id ks off t h ho=>exact .ownNil id ks off t h ho
 | own0 id ks len b cap n t h hl=>exact .own0 id ks len b cap n t h hl
 | ownOff id ks off len b cap n cap' t h ho hl hc=>exact .ownOff id ks off len b cap n cap' t h ho hl hc
 | ownOff0 a id ks off b cap n cap' t h ho hl=>exact .ownOff0 a id ks off b cap n cap' t h ho hl
 | box id off b h=>simp [ayl] at hk
 | elt id ks0 ks i off b cap n t h hi hk'=>simp [ayl] at hk
 | pp ks cells off b o hal f hcell hrep=>simp [ayl] at hk
 | fnv f caps vs hl h ih=>simp [ayl] at hk
 | mref id b h=>simp [ayl] at hk
 | mrefGone v id h=>simp [ayl] at hk
 | itr id r b h=>simp [ayl] at hk
 | whenT v a h ih=>simp [ayl] at hk
 | whenF a=>simp [ayl] at hk
theorem ARel.scalar_unTup {al':Nat→Prop} {v:Value} {as:List A} (h:ARel P w al σ v (cwz as)) (hk:bzi as=true):ARel P w al' σ v (cwz as):=by
 have tup:∀ as:List A,bzi as=true→ARel P w al σ v (.tup as)→ARel P w al' σ v (.tup as):=by
  intro as hk h
  cases h with
  | tup vs _ hl hh=>exact .tup vs _ hl (fun i hi=>(hh i hi).scalar (cw4 hk i hi))
 cases as with
 | nil=>exact tup [] hk h
 | cons a as =>
  cases as with
  | nil=>simp only [bzi,Bool.and_true] at hk;exact ARel.scalar h hk
  | cons b as=>exact tup (a :: b :: as) hk h
theorem gkp {ks:List Kd} (h:ks.all cjl=true):∀ j,j < ks.length→cjl (ks.getD j .other)=true:=by
 intro j hj
 rw [List.all_eq_true] at h
 have e:ks.getD j .other=ks[j]:=by simp [List.getD_eq_getElem?_getD,hj]
 rw [e];exact h _ (List.getElem_mem hj)
theorem ajz.weaken {B B':Nat→Prop} {al':Nat→Prop} {r:RefI} {t:TypeId} {es:List (List C)} (h:ajz P w B al r t es) (hB:∀ b,B b→B' b)
  (hr:(∀ b,al b→al' b)∨∃ E,tyI P t=some E∧E.kinds.all cjl=true):ajz P w B' al' r t es:=by
 obtain ⟨E,hE,hby,h⟩:=h
 refine ⟨E,hE,hby,h.imp id ?_⟩
 rintro ⟨b,cap,cur,tg,e,hb,hh,h1,h2,h3,h4,h5⟩
 refine ⟨b,cap,cur,tg,e,hB b hb,hh,h1,h2,h3,h4,fun i hi j hj=>?_⟩
 rcases hr with hr | ⟨E',hE',hk⟩
 ·exact (h5 i hi j hj).mono (fun _ _=>rfl) hr
 ·rw [hE] at hE';simp only [Option.some.injEq] at hE';subst hE'
  exact (h5 i hi j hj).scalar (gkp hk j hj)
theorem fw6 {Γ:List Fn} {f:FuncId} {d:Nat} {as:List A} {r:Out} {vs:List Value} (h00:tyI P 0=none) (hΓ:∀ g,g∈Γ→aj2 P g) (h:RelL P w0 N σ s tms w) (hf:eyt Γ f d as s.hp=some r) (hp:r.pre)
  (hvl:vs.length=as.length) (hvs:∀ i,i < as.length→ARel P w (Al w0 w σ s.hp) σ (vs.getD i undef) (as.getD i .unk)) :
  (callFunc f vs.toArray).run P w = .ok (.enter f vs.toArray) w∧r.fact ∧
   Calls P f vs.toArray w (fun e w'=>∃ v,e = .returned v∧∃ σ',RelL P w0 N σ' ⟨s.tm,r.hp⟩ tms w'∧ARel P w' (Al w0 w' σ' r.hp) σ' v r.val):=by
 unfold eyt at hf
 split at hf
 ·rename_i g hg
  obtain ⟨hgm,rfl⟩:=ejh hg
  have C0:=hΓ g hgm
  split at hf
  ·rename_i cs hcs
   split at hf
   ·rename_i hdead0
    have hdead:=(Bool.and_eq_true_iff.1 hdead0).2
    simp only [Option.some.injEq] at hf;subst hf
    obtain ⟨l1,l2,hfit⟩:=dzd hcs
    refine ⟨C0.enter _ _,trivial,?_⟩
    -- where the callee may look
    have hrows:∀ id,id∈bjj as→∃ t es,s.hp id = .row t es∨s.hp id = .frz t es:=by
     intro id hid
     obtain ⟨i,hi,hm⟩:=gqz hid
     exact dj5 (hfit i (by omega)) id hm
    obtain ⟨hal1,hal2⟩:=bzn h (bjj as) hrows
    obtain ⟨hpF,hpFe⟩:∃ hpF,hpF=(if g.refs then freezeAll s.hp (bjj as) else s.hp):=⟨_,rfl⟩
    obtain ⟨al0,hal0e⟩:∃ al0,al0=(if g.refs then Al w0 w σ hpF else fun b=>b < w.heap.size):=⟨_,rfl⟩
    rw [← hpFe]
    have hz:RelL P w0 N σ ⟨s.tm,hpF⟩ tms w:=by rw [hpFe];split;exact h.freezeAll _;exact h
    have hlt:∀ b,al0 b→b < w.heap.size:=by
     intro b hb;rw [hal0e] at hb;split at hb
     ·exact hb.1
     ·exact hb
    have ha1:∀ b,Al w0 w σ s.hp b→al0 b:=by
     intro b hb
     rw [hal0e,hpFe]
     split
     ·exact hal1 b hb
     ·exact hb.1
    have ha2:∀ id,id∈bjj as→∀ b,aj6 (σ id) b→al0 b:=by
     intro id hid b hb
     rw [hal0e,hpFe]
     split
     ·exact hal2 id hid b hb
     ·exact (aja (h.blks id) hb).1
    have hdeadF:∀ i,i < (g.sem cs).rows.length→hpF (key d 0+i) = .dead:=by
     intro i hi
     have hd:=eq3 d _ 0 _ hdead i hi
     rw [hpFe];split
     ·rw [akq]
      split
      ·rw [hd]
      ·exact hd
     ·exact hd
    have hargs:∀ i,i < g.ps.length→ArgRel P w al0 (g.ps.getD i (false,[])) (vs.getD i undef) (cs.getD i []):=fun i hi =>
     ck5 h00 h ha1 (hfit i hi) (hvs i (by omega)) (fun id hid b hb=>ha2 id (gjv (i:=i) (by omega) hid) b hb)
    refine (C0.calls w al0 vs cs hlt (by omega) l2 hargs hp).mono ?_
    rintro e w' ⟨v,rfl,hbel,hisrow,σr,hB,hinj,hv⟩
    refine ⟨v,rfl,?_⟩
    have hk0:∀ j,key d j=key d 0+j:=fun j=>by simp [key]
    obtain ⟨σ',hσ'⟩:∃ σ':Nat→RefI,σ'=fun id=>if key d 0≤id∧id < key d 0+(g.sem cs).rows.length then σr (id - key d 0) else σ id:=⟨_,rfl⟩
    have hσn:∀ j,j < (g.sem cs).rows.length→σ' (key d 0+j)=σr j:=by
     intro j hj;rw [hσ'];simp only [];rw [if_pos (by omega)];congr 1;omega
    have hσo:∀ id,¬ (key d 0≤id∧id < key d 0+(g.sem cs).rows.length)→σ' id=σ id:=by
     intro id hid;rw [hσ'];simp only [];rw [if_neg hid]
    have hpn:∀ j,j < (g.sem cs).rows.length→addRows d 0 (g.sem cs).rows hpF (key d 0+j)=ajo (g.sem cs).rows j:=by
     intro j hj;rw [dwx,if_pos (by omega)];unfold ajo;congr 1;omega
    have hpo:∀ id,¬ (key d 0≤id∧id < key d 0+(g.sem cs).rows.length)→addRows d 0 (g.sem cs).rows hpF id=hpF id:=by
     intro id hid;rw [dwx,if_neg hid]
    have hrdead:∀ j,(g.sem cs).rows.length≤j→σr j = .dead:=by
     intro j hj
     have:=hB j
     have e:ajo (g.sem cs).rows j = .dead:=by simp [ajo,List.getD_eq_getElem?_getD,List.getElem?_eq_none hj]
     rw [e] at this;exact this
    have hrowOf:∀ j,j < (g.sem cs).rows.length→∃ t es,ajo (g.sem cs).rows j = .row t es∧.row t es∈(g.sem cs).rows:=by
     intro j hj
     have hm:(g.sem cs).rows[j]∈(g.sem cs).rows:=List.getElem_mem hj
     have e:ajo (g.sem cs).rows j=(g.sem cs).rows[j]:=by simp [ajo,List.getD_eq_getElem?_getD,hj]
     have:=hisrow _ hm
     rw [e]
     cases hx:(g.sem cs).rows[j] <;> rw [hx] at this hm <;> simp [hj8] at this
     exact ⟨_,_,rfl,hm⟩
    have hnewge:∀ j b,aj6 (σr j) b→w.heap.size≤b:=fun j b hb=>dy5 (aja (hB j) hb).2
    have hnsz:w0.n≤w.heap.size:=h.below.size
    have hal:∀ b,Al w0 w σ hpF b→Al w0 w' σ' (addRows d 0 (g.sem cs).rows hpF) b:=by
     intro b hb
     refine ⟨Nat.lt_of_lt_of_le hb.1 hbel.size,fun id hid=>?_,hb.2.2⟩
     by_cases hn:key d 0≤id∧id < key d 0+(g.sem cs).rows.length
     ·have e:id=key d 0+(id - key d 0):=by omega
      rw [e,hσn _ (by omega)] at hid
      have:=hnewge _ _ hid
      have:=hb.1;omega
     ·rw [hσo id hn] at hid
      rw [hpo id hn];exact hb.2.1 id hid
    -- the callee's data, where the caller sees it
    have halR:g.refs=true→∀ b,Al (eyw w al0) w' σr (ajo (g.sem cs).rows) b→Al w0 w' σ' (addRows d 0 (g.sem cs).rows hpF) b:=by
     intro hr b hb
     refine ⟨hb.1,fun id hid=>?_,?_⟩
     ·by_cases hn:key d 0≤id∧id < key d 0+(g.sem cs).rows.length
      ·have e:id=key d 0+(id - key d 0):=by omega
       rw [e,hσn _ (by omega)] at hid
       rw [e,hpn _ (by omega)]
       exact hb.2.1 _ hid
      ·rw [hσo id hn] at hid
       rw [hpo id hn]
       have hlt':=(aja (hz.blks id) hid).1
       rcases hb.2.2 with h3 | h3
       ·have:w.heap.size≤b:=dy5 h3
        omega
       ·have:al0 b:=h3
        rw [hal0e,if_pos hr] at this
        exact this.2.1 id hid
     ·rcases hb.2.2 with h3 | h3
      ·exact .inl (.inl (Nat.le_trans hnsz (dy5 h3)))
      ·have:al0 b:=h3
       rw [hal0e,if_pos hr] at this
       exact this.2.2
    refine ⟨σ',hz.change (h.below.then (hbel.mono hnsz)) hbel.size hal (fun b hb=>hbel.block b hb.1) ?_ ?_ ?_,?_⟩
    ·intro id hid
     refine .inl ?_
     by_cases hn:key d 0≤id∧id < key d 0+(g.sem cs).rows.length
     ·have e:id=key d 0+(id - key d 0):=by omega
      have hd:=hdeadF (id - key d 0) (by omega)
      rw [← e] at hd
      exact absurd (cqs (hz.blks id) hd) hid
     ·exact hσo id hn
    ·intro id
     by_cases hn:key d 0≤id∧id < key d 0+(g.sem cs).rows.length
     ·refine .inr ?_
      have e:id=key d 0+(id - key d 0):=by omega
      have hj:id - key d 0 < (g.sem cs).rows.length:=by omega
      obtain ⟨t,es,hrow,hmem⟩:=hrowOf _ hj
      have hBj:=hB (id - key d 0)
      rw [hrow] at hBj
      dsimp only
      rw [e,hpn _ hj,hrow]
      simp only [BRel]
      rw [hσn _ hj]
      refine ajz.weaken hBj (fun b hb=>.inl (Nat.le_trans hnsz (dy5 hb))) ?_
      cases hr:g.refs with
      | true=>exact .inl (halR hr)
      | false =>
       obtain ⟨t',es',E,e1,e2,e3⟩:=(C0.scalar hr cs).2 _ hmem
       simp only [Blk.row.injEq] at e1
       obtain ⟨rfl,rfl⟩:=e1
       exact .inr ⟨E,e2,e3⟩
     ·exact .inl ⟨hσo id hn,hpo id hn,fun b hb=>hbel.block b (aja (hz.blks id) hb).1⟩
    ·intro i j b hi hj
     by_cases hn:key d 0≤i∧i < key d 0+(g.sem cs).rows.length <;> by_cases hm:key d 0≤j∧j < key d 0+(g.sem cs).rows.length
     ·have e1:i=key d 0+(i - key d 0):=by omega
      have e2:j=key d 0+(j - key d 0):=by omega
      rw [e1,hσn _ (by omega)] at hi
      rw [e2,hσn _ (by omega)] at hj
      have:=hinj _ _ _ hi hj
      omega
     ·have e1:i=key d 0+(i - key d 0):=by omega
      rw [e1,hσn _ (by omega)] at hi
      rw [hσo j hm] at hj
      have:=hnewge _ _ hi
      have:=(aja (hz.blks j) hj).1
      omega
     ·have e1:j=key d 0+(j - key d 0):=by omega
      rw [e1,hσn _ (by omega)] at hj
      rw [hσo i hn] at hi
      have:=hnewge _ _ hj
      have:=(aja (hz.blks i) hi).1
      omega
     ·rw [hσo i hn] at hi
      rw [hσo j hm] at hj
      exact hz.inj i j b hi hj
    ·refine gwi (σr:=σr) ?_ (fun j hj=>?_)
     ·cases hr:g.refs with
      | true=>exact hv.mono (fun _ _=>rfl) (halR hr) (fun _ _=>.inl rfl)
      | false=>exact hv.scalar_unTup (C0.scalar hr cs).1
     ·rw [hk0]
      have:j < (g.sem cs).rows.length:=by
       rcases Nat.lt_or_ge j (g.sem cs).rows.length with h' | h'
       ·exact h'
       ·exact absurd (hrdead j h') hj
      exact hσn j this
   ·cases hf
  ·cases hf
 ·cases hf
end Go.AE
/-
 Maps with keys of strings or numbers.
-/
set_option linter.unusedVariables false
namespace Go.AE
open Go.RowKit (Below)
open Go.MapKept
variable {P:Program} {w0:Base} {w:World} {N:Nat} {σ:Nat→RefI} {s:S} {tms:Array Value} {ρ:Operand→Value} {al:Nat→Prop} {Γ:List Fn}
def hqg (kk:Kd) (d:TypeDesc):Prop:=(kk = .str∧d = .string)∨∃ q,kk = .int q∧d = .int q
theorem dqq {t e:TypeId} {kk:Kd} {E:TyI} (h:mapE P t=some (kk,e,E)):∃ k d,P.underlying t=some (.map k e)∧P.underlying k=some d∧tyI P e=some E∧hqg kk d:=by
 unfold mapE at h
 split at h
 ·rename_i k e' hu
  split at h
  ·rename_i hk hE
   simp only [Option.some.injEq,Prod.mk.injEq] at h
   obtain ⟨rfl,rfl,rfl⟩:=h
   exact ⟨k,_,hu,hk,hE,.inl ⟨rfl,rfl⟩⟩
  ·rename_i q _ hk hE
   simp only [Option.some.injEq,Prod.mk.injEq] at h
   obtain ⟨rfl,rfl,rfl⟩:=h
   exact ⟨k,_,hu,hk,hE,.inr ⟨q,rfl,rfl⟩⟩
  ·cases h
 ·cases h
theorem gqt (x y:List UInt8):((⟨x.toArray⟩:ByteArray) == ⟨y.toArray⟩)=(x == y):=by
 rw [Bool.eq_iff_iff,bytes_beq]
 simp
theorem dku {kk:Kd} {d:TypeDesc} {a b:Value} {x y:C} (hk:hqg kk d) (ha:RepC P w al kk a x) (hb:RepC P w al kk b y) :
  IsKey d a∧Instr.sameNow d a b=some (eqq kk x y)∧(eqq kk x y=true→b=a):=by
 rcases hk with ⟨rfl,rfl⟩ | ⟨q,rfl,rfl⟩
 ·cases ha with | str _ h1 =>
  cases hb with | str _ h2 =>
  refine ⟨trivial,by simp only [Instr.sameNow,eqq,gqt],fun h=>?_⟩
  simp only [eqq,beq_iff_eq] at h
  rw [h]
 ·cases ha with | int _ _ h1 =>
  cases hb with | int _ _ h2 =>
  refine ⟨rfl,by simp only [Instr.sameNow,eqq,if_true],fun h=>?_⟩
  simp only [eqq,beq_iff_eq] at h
  rw [h]
theorem dy0 {kk:Kd} {d:TypeDesc} {vp:Bool×List Kd} {kv:Value} {k:C} (hk:hqg kk d) (hkv:RepC P w al kk kv k) :
  ∀ {es:List MapEntry} {m:List (C×List C)} (i:Nat),MRel P w al kk vp es m →
   (Instr.findNow d kv es i=some none∧mget kk k m=none∧(∀ c,mset kk k c m=m ++ [(k,c)])∧mdel kk k m=m) ∨
   ∃ j e c0,Instr.findNow d kv es i=some (some (i+j,e.val))∧es[j]? = some e∧e.key=kv∧ArgRel P w al vp e.val c0∧mget kk k m=some c0 ∧
    (∀ c,mset kk k c m=m.set j (k,c))∧mdel kk k m=m.eraseIdx j
 | [],[],i,h=>.inl ⟨rfl,rfl,fun _=>rfl,rfl⟩
 | [],_ :: _,i,h=>h.elim
 | _ :: _,[],i,h=>h.elim
 | e :: es,x :: m,i,h=>by
  obtain ⟨h1,h2,h3⟩:=dku hk hkv h.1
  cases hq:eqq kk k x.1 with
  | true =>
   rw [hq] at h2 h3
   exact .inr ⟨0,e,x.2,by simp [Instr.findNow,h2],rfl,h3 rfl,h.2.1,by simp [mget,hq],fun c=>by simp [mset,hq],by simp [mdel,hq]⟩
  | false =>
   rw [hq] at h2
   rcases dy0 hk hkv (i+1) h.2.2 with ⟨a1,a2,a3,a4⟩ | ⟨j,e',c0,a1,a2,a3,a4,a5,a6,a7⟩
   ·exact .inl ⟨by simp [Instr.findNow,h2,a1],by simp [mget,hq,a2],fun c=>by simp [mset,hq,a3],by simp [mdel,hq,a4]⟩
   ·exact .inr ⟨j+1,e',c0,by simp [Instr.findNow,h2,a1];omega,by simpa using a2,a3,a4,by simp [mget,hq,a5],fun c=>by simp [mset,hq,a6],by simp [mdel,hq,a7]⟩
theorem MRel.append {kk:Kd} {vp:Bool×List Kd} {e:MapEntry} {x:C×List C} (h1:RepC P w al kk e.key x.1) (h2:ArgRel P w al vp e.val x.2) :
  ∀ {es:List MapEntry} {m:List (C×List C)},MRel P w al kk vp es m→MRel P w al kk vp (es ++ [e]) (m ++ [x])
 | [],[],_=>⟨h1,h2,trivial⟩
 | [],_ :: _,h=>h.elim
 | _ :: _,[],h=>h.elim
 | _ :: _,_ :: _,h=>⟨h.1,h.2.1,MRel.append h1 h2 h.2.2⟩
theorem MRel.set {kk:Kd} {vp:Bool×List Kd} {f:MapEntry→MapEntry} {x:C×List C} (h1:∀ e,RepC P w al kk (f e).key x.1) (h2:∀ e,ArgRel P w al vp (f e).val x.2) :
  ∀ {es:List MapEntry} {m:List (C×List C)} (j:Nat),MRel P w al kk vp es m→MRel P w al kk vp (es.modify j f) (m.set j x)
 | [],[],j,_=>by cases j <;> trivial
 | [],_ :: _,j,h=>h.elim
 | _ :: _,[],j,h=>h.elim
 | e :: _,_ :: _,0,h=>⟨h1 e,h2 e,h.2.2⟩
 | _ :: _,_ :: _,j+1,h=>⟨h.1,h.2.1,MRel.set h1 h2 j h.2.2⟩
theorem MRel.erase {kk:Kd} {vp:Bool×List Kd}:∀ {es:List MapEntry} {m:List (C×List C)} (j:Nat),MRel P w al kk vp es m→MRel P w al kk vp (es.eraseIdx j) (m.eraseIdx j)
 | [],[],j,_=>by cases j <;> trivial
 | [],_ :: _,j,h=>h.elim
 | _ :: _,[],j,h=>h.elim
 | e :: _,_ :: _,0,h=>h.2.2
 | _ :: _,_ :: _,j+1,h=>⟨h.1,h.2.1,MRel.erase j h.2.2⟩
theorem byk {p:Bool×List Kd} {v:Value} {c:List C} (h:ArgRel P w al p v c):ARel P w al σ v (pack p.1 (bqe p.2 c 0)):=by
 unfold ArgRel at h
 split at h
 ·rename_i hp
  obtain ⟨us,rfl,h1,h2,h3⟩:=h
  simp only [pack,hp,if_true]
  refine .agg us _ (by rw [ays];exact h1) (fun i hi=>?_)
  rw [ays] at hi
  rw [cw5 _ _ _ _ hi,Nat.zero_add]
  exact .c _ _ _ (h3 i hi).nrm
 ·rename_i hp
  obtain ⟨h1,h2,h3⟩:=h
  simp only [pack,hp,Bool.false_eq_true,if_false]
  match hks:p.2,h1 with
  | [k0],_ =>
   rw [hks] at h3
   exact .c _ _ _ (RepC.nrm (k:=k0) h3)
theorem gk5 {e:TypeId} {E:TyI} (hE:tyI P e=some E):∃ z,(zeroValue e).run P w = .ok z w∧ArgRel P w al (E.agg,E.kinds) z (ajs E):=by
 obtain ⟨S⟩:=aqb hE
 obtain ⟨z1,z2⟩:=bj7 (P:=P) (w:=w) (al:=al) S.zfits
 refine ⟨S.z,by simp only [zeroValue,Sem.run_bind,run_typeInfo w S.info,Result.andThen_ok,S.zero,Sem.run_pure],?_⟩
 have hz:=S.zagg
 rw [← S.agg] at hz
 have hlen:(ajs E).length=E.kinds.length:=by simp [ajs]
 cases hzv:S.z with
 | agg cs =>
  rw [hzv] at hz z1 z2
  simp only [fkk] at hz
  simp only [ArgRel,hz]
  exact ⟨cs.toList,rfl,z1,hlen,z2⟩
 | _ =>
  rw [hzv] at hz z1 z2
  simp only [fkk] at hz
  simp only [ArgRel,hz]
  have h1:E.kinds.length=1:=by simpa [Value.cells] using z1.symm
  refine ⟨h1,by rw [hlen,h1],?_⟩
  simpa [Value.cells,ajs] using z2 0 (by omega)
theorem dy4 {v:Value} {id b:Nat} (h:ARel P w al σ v (.mref id)) (hs:σ id = .mp b):v = .map (some b):=by
 cases h with
 | mref _ b h=>rw [hs] at h;cases h;rfl
 | mrefGone v id h=>rw [hs] at h;cases h
 | itr id r b h=>rw [hs] at h;cases h
theorem ezu {t:TypeId} {id:Nat} {kk:Kd} {vp:Bool×List Kd} (h:RelL P w0 N σ s tms w) (hd:awa (s.hp id)=true) :
  ∃ v' w',(Instr.makeMap t none).run P w = .ok v' w'∧∃ σ',RelL P w0 N σ' ⟨s.tm,upd s.hp id (.mp kk vp [])⟩ tms w'∧ARel P w' (Al w0 w' σ' (upd s.hp id (.mp kk vp []))) σ' v' (.mref id):=by
 refine ⟨.map (some w.heap.size),w.alloc (.map #[] 0),?_,upd σ id (.mp w.heap.size),?_,.mref id w.heap.size (by simp [upd])⟩
 ·simp [Instr.makeMap,Result.andThen]
 ·refine h.alloc (aqj hd) (.map #[] 0) (.mp w.heap.size) _ (by simp [aj6];try (intro c hc;exact hc.symm)) (fun hal hheap hs=>?_)
  exact ⟨w.heap.size,#[],0,by simp [upd],.inl h.below.size,heap_alloc_new w _,⟨by simp,by simp⟩,trivial⟩
theorem fjj {t:TypeId} {ok:Bool} {x y z:A} {vx vy:Value} (h:RelL P w0 N σ s tms w) (hf:czn P t ok s.hp x y=some z)
  (hx:ARel P w (Al w0 w σ s.hp) σ vx x) (hy:ARel P w (Al w0 w σ s.hp) σ vy y) :
  ∃ v,(Instr.lookup t vx vy ok).run P w = .ok v w∧ARel P w (Al w0 w σ s.hp) σ v z:=by
 unfold czn at hf
 split at hf
 ·rename_i kk e E id ky k hm
  obtain ⟨kt,d,hu,hkd,hE,hko⟩:=dqq hm
  split at hf
  ·rename_i hkk;subst hkk
   split at hf
   ·rename_i kk' vp m hb
    split at hf
    ·rename_i hk';subst hk'
     split at hf
     ·rename_i hvp;subst hvp
      simp only [Option.some.injEq] at hf
      have hB:=h.blks id
      rw [hb] at hB
      obtain ⟨b,es,clock,hσ,hBn,hh,hok,hmr⟩:=hB
      obtain rfl:=dy4 hx hσ
      have hkv:=hy.c_inv
      obtain ⟨hik,_,_⟩:=dku hko hkv hkv
      obtain ⟨zv,hz,hza⟩:=gk5 (w:=w) (al:=Al w0 w σ s.hp) hE
      rcases dy0 hko hkv 0 hmr with ⟨a1,a2,_,_⟩ | ⟨j,e',c0,a1,a2,a3,a4,a5,_,_⟩
      ·have hrun:(Instr.lookup t (.map (some b)) vy ok).run P w = .ok (if ok then .tuple #[zv,.bool false] else zv) w:=by
        simp [Instr.lookup,run_underlying hu,MapKept.run_getObj_map hh,MapKept.run_checkKey hkd hik,MapKept.run_findKey hkd a1,hz,Result.andThen]
       refine ⟨_,hrun,?_⟩
       rw [a2] at hf
       subst hf
       cases ok with
       | false=>exact byk hza
       | true =>
        refine .tup [zv,.bool false] _ rfl (fun i hi=>?_)
        match i,hi with
        | 0,_=>exact byk hza
        | 1,_=>exact ARel.mk_bool _
      ·have hrun:(Instr.lookup t (.map (some b)) vy ok).run P w = .ok (if ok then .tuple #[e'.val,.bool true] else e'.val) w:=by
        simp [Instr.lookup,run_underlying hu,MapKept.run_getObj_map hh,MapKept.run_checkKey hkd hik,MapKept.run_findKey hkd a1,Result.andThen]
       refine ⟨_,hrun,?_⟩
       rw [a5] at hf
       subst hf
       cases ok with
       | false=>exact byk a4
       | true =>
        refine .tup [e'.val,.bool true] _ rfl (fun i hi=>?_)
        match i,hi with
        | 0,_=>exact byk a4
        | 1,_=>exact ARel.mk_bool _
     ·cases hf
    ·cases hf
   ·cases hf
  ·cases hf
 ·cases hf
theorem dkg.push {es:Array MapEntry} {clock:Nat} (h:dkg es clock) (k v:Value):dkg (es.push { key:=k,val:=v,born:=clock }) (clock+1):=by
 refine ⟨fun x hx=>?_,?_⟩
 ·simp only [Array.toList_push,List.mem_append,List.mem_singleton] at hx
  rcases hx with hx | rfl
  ·have:=h.1 x hx;omega
  ·simp
 ·simp only [Array.toList_push,List.map_append,List.map_cons,List.map_nil]
  refine List.nodup_append.2 ⟨h.2,by simp,fun a ha b hb=>?_⟩
  simp only [List.mem_singleton] at hb
  obtain ⟨x,hx,rfl⟩:=List.mem_map.1 ha
  have:=h.1 x hx
  omega
theorem dkg.modify {es:Array MapEntry} {clock:Nat} (h:dkg es clock) (j:Nat) (k v:Value):dkg (es.modify j fun e=>{ e with key:=k,val:=v }) clock:=by
 have e:(es.modify j fun e=>{ e with key:=k,val:=v }).toList.map (·.born)=es.toList.map (·.born):=by
  rw [Array.toList_modify]
  generalize es.toList=l
  induction l generalizing j with
  | nil=>simp
  | cons a l ih =>
   cases j with
   | zero=>simp
   | succ j=>simp [ih]
 refine ⟨fun x hx=>?_,by rw [e];exact h.2⟩
 have:x.born∈es.toList.map (·.born):=by rw [← e];exact List.mem_map_of_mem hx
 obtain ⟨y,hy,hyx⟩:=List.mem_map.1 this
 have:=h.1 y hy
 omega
theorem dkg.erase {es:Array MapEntry} {clock:Nat} (h:dkg es clock) (j:Nat):dkg (es.eraseIdxIfInBounds j) clock:=by
 unfold Array.eraseIdxIfInBounds
 split
 ·refine ⟨fun x hx=>?_,?_⟩
  ·simp only [Array.toList_eraseIdx] at hx
   exact h.1 x (List.mem_of_mem_eraseIdx hx)
  ·simp only [Array.toList_eraseIdx]
   exact ((List.eraseIdx_sublist es.toList j).map (·.born)).nodup h.2
 ·exact h
theorem dq1 {id b clock clock':Nat} {kk:Kd} {vp:Bool×List Kd} {m m':List (C×List C)} {es es':Array MapEntry} (h:RelL P w0 N σ s tms w) (hb:s.hp id = .mp kk vp m) (hσ:σ id = .mp b)
  (hh:w.heap[b]? = some (.map es clock)) (hok:dkg es' clock') (hm:MRel P w (Al w0 w σ s.hp) kk vp es'.toList m') :
  RelL P w0 N σ ⟨s.tm,upd s.hp id (.mp kk vp m')⟩ tms { w with heap:=w.heap.setIfInBounds b (.map es' clock') }:=by
 obtain ⟨h1,h2⟩:=heap_set (o':=.map es' clock') hh
 refine h.write (b:=b) (by simp [hσ,aj6]) (by simp [hb,bjl]) _ (by simp) rfl rfl rfl h2 (fun hal hheap=>?_)
 exact ⟨b,es',clock',hσ,(aja (h.blks id) (b:=b) (by simp [hσ,aj6])).2,h1,hok,hm.mono hheap hal⟩
theorem fq1 {t:TypeId} {x y z:A} {vx vy vz:Value} {hp':Nat→Blk} (h00:tyI P 0=none) (h:RelL P w0 N σ s tms w) (hf:ckg P t s.hp x y z=some hp')
  (hx:ARel P w (Al w0 w σ s.hp) σ vx x) (hy:ARel P w (Al w0 w σ s.hp) σ vy y) (hz:ARel P w (Al w0 w σ s.hp) σ vz z) :
  ∃ w',(Instr.mapUpdate t vx vy vz).run P w = .ok () w'∧RelL P w0 N σ ⟨s.tm,hp'⟩ tms w':=by
 unfold ckg at hf
 split at hf
 ·rename_i kk e E id ky k hm
  obtain ⟨kt,d,hu,hkd,hE,hko⟩:=dqq hm
  split at hf
  ·rename_i hkk;subst hkk
   split at hf
   ·rename_i kk' vp m hb
    split at hf
    ·rename_i hk';subst hk'
     split at hf
     ·rename_i hvp
      split at hf
      ·rename_i c hc
       simp only [Option.some.injEq] at hf;subst hf
       have hids:=dj5 hc
       obtain ⟨al1,al2⟩:=bzn h _ hids
       have hF:=h.freezeAll ((aje z).flatMap ajf)
       have hvz:ArgRel P w (Al w0 w σ (freezeAll s.hp ((aje z).flatMap ajf))) vp vz c:=ck5 h00 h al1 hc hz al2
       have hkv:RepC P w (Al w0 w σ (freezeAll s.hp ((aje z).flatMap ajf))) kk' vy k:=hy.c_inv.mono (fun _ _=>rfl) al1
       have hnid:freezeAll s.hp ((aje z).flatMap ajf) id = .mp kk' vp m:=by
        rw [akq,hb];split <;> rfl
       have hB:=hF.blks id
       rw [show S.hp ⟨s.tm,freezeAll s.hp ((aje z).flatMap ajf)⟩ id = .mp kk' vp m from hnid] at hB
       obtain ⟨b,es,clock,hσ,hBn,hh,hok,hmr⟩:=hB
       obtain rfl:=dy4 hx hσ
       obtain ⟨hik,_,_⟩:=dku hko hkv hkv
       rcases dy0 hko hkv 0 hmr with ⟨a1,a2,a3,_⟩ | ⟨j,e',c0,a1,a2,a3,a4,a5,a6,_⟩
       ·refine ⟨{ w with heap:=w.heap.setIfInBounds b (.map (es.push { key:=vy,val:=vz,born:=clock }) (clock+1)) },?_,?_⟩
        ·simp [Instr.mapUpdate,run_underlying hu,MapKept.run_getObj_map hh,MapKept.run_checkKey hkd hik,MapKept.run_findKey hkd a1,MapKept.run_setObj_map _ hh,Result.andThen]
        ·rw [a3]
         refine dq1 hF hnid hσ hh (hok.push vy vz) ?_
         rw [Array.toList_push]
         exact MRel.append (e:={ key:=vy,val:=vz,born:=clock }) hkv hvz hmr
       ·have hj:es[j]? = some e':=by simpa using a2
        refine ⟨{ w with heap:=w.heap.setIfInBounds b (.map (es.modify (0+j) fun e=>{ e with key:=vy,val:=vz }) clock) },?_,?_⟩
        ·simp [Instr.mapUpdate,run_underlying hu,MapKept.run_getObj_map hh,MapKept.run_checkKey hkd hik,MapKept.run_findKey hkd a1,hj,a3,MapKept.run_keyThatStays hik,MapKept.run_setObj_map _ hh,Result.andThen]
        ·rw [a6]
         refine dq1 hF hnid hσ hh (hok.modify _ vy vz) ?_
         rw [Nat.zero_add,Array.toList_modify]
         exact MRel.set (f:=fun e=>{ e with key:=vy,val:=vz }) (fun _=>hkv) (fun _=>hvz) j hmr
      ·cases hf
     ·cases hf
    ·cases hf
   ·cases hf
  ·cases hf
 ·cases hf
theorem fqq {t ty:TypeId} {x y:A} {vx vy:Value} {hp':Nat→Blk} (h:RelL P w0 N σ s tms w) (hf:czl P t s.hp x y=some hp')
  (hx:ARel P w (Al w0 w σ s.hp) σ vx x) (hy:ARel P w (Al w0 w σ s.hp) σ vy y) (ats:Array TypeId) (hat:ats[0]? = some t) :
  ∃ w',(Builtin.delete_ ats ty #[vx,vy]).run P w = .ok (.tuple #[]) w'∧RelL P w0 N σ ⟨s.tm,hp'⟩ tms w':=by
 unfold czl at hf
 split at hf
 ·rename_i kk e E id ky k hm
  obtain ⟨kt,d,hu,hkd,hE,hko⟩:=dqq hm
  split at hf
  ·rename_i hkk;subst hkk
   split at hf
   ·rename_i kk' vp m hb
    split at hf
    ·rename_i hk';subst hk'
     simp only [Option.some.injEq] at hf;subst hf
     have hkv:=hy.c_inv
     have hB:=h.blks id
     rw [hb] at hB
     obtain ⟨b,es,clock,hσ,hBn,hh,hok,hmr⟩:=hB
     obtain rfl:=dy4 hx hσ
     obtain ⟨hik,_,_⟩:=dku hko hkv hkv
     rcases dy0 hko hkv 0 hmr with ⟨a1,a2,a3,a4⟩ | ⟨j,e',c0,a1,a2,a3,a4,a5,a6,a7⟩
     ·refine ⟨{ w with heap:=w.heap.setIfInBounds b (.map es clock) },?_,?_⟩
      ·simp [Builtin.delete_,hat,run_underlying hu,MapKept.run_getObj_map hh,MapKept.run_checkKey hkd hik,MapKept.run_findKey hkd a1,MapKept.run_setObj_map _ hh,Result.andThen]
      ·rw [a4];exact dq1 h hb hσ hh hok hmr
     ·refine ⟨{ w with heap:=w.heap.setIfInBounds b (.map (es.eraseIdxIfInBounds (0+j)) clock) },?_,?_⟩
      ·simp [Builtin.delete_,hat,run_underlying hu,MapKept.run_getObj_map hh,MapKept.run_checkKey hkd hik,MapKept.run_findKey hkd a1,MapKept.run_setObj_map _ hh,Result.andThen]
      ·rw [a7]
       refine dq1 h hb hσ hh (hok.erase _) ?_
       have hj:j < es.size:=by
        have:=(List.getElem?_eq_some_iff.1 a2).1;simpa using this
       have e1:(es.eraseIdxIfInBounds (0+j)).toList=es.toList.eraseIdx j:=by
        rw [Nat.zero_add]
        unfold Array.eraseIdxIfInBounds
        rw [dif_pos hj];simp
       rw [e1];exact MRel.erase j hmr
    ·cases hf
   ·cases hf
  ·cases hf
 ·cases hf
end Go.AE
