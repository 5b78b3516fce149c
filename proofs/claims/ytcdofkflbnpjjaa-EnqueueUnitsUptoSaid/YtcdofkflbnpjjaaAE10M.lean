/- Text. -/
import Derived.Test.YtcdofkflbnpjjaaAE9O
import Derived.MapKept
set_option linter.unusedSimpArgs false
set_option linter.unusedVariables false
set_option linter.unusedVariables false
namespace Go.AE
open Go.RowKit (Below)
variable {P:Program} {w0:Base} {w:World} {N:Nat} {σ:Nat→RefI} {s:S} {tms:Array Value} {ρ:Operand→Value} {al:Nat→Prop}
def base0 (w:World) (al:Nat→Prop):Base:=⟨w,al,fun _=>False,fun _=>.dead,noMk,0⟩
theorem base0_wr {w:World} {al:Nat→Prop} {b:Nat} (h:(base0 w al).wr b):w.heap.size≤b:=by
  rcases h with h | h
  · exact h
  · exact h.elim
def rowsHp (rows:List Blk) (j:Nat):Blk:=rows.getD j .dead
def isRow:Blk→Bool
  | .row _ _=>true
  | _=>false
def ResRel (P:Program) (w:World) (al:Nat→Prop) (w':World) (v:Value) (sig:Sig):Prop :=
  Below w.heap.size w w'∧(∀ b,b∈sig.rows→isRow b=true)∧∃ σr:Nat→RefI,
    (∀ j,BRel P w' (base0 w al).wr (Al (base0 w al) w' σr (rowsHp sig.rows)) σr j (rowsHp sig.rows j)) ∧
    (∀ i j b,blockOf (σr i) b→blockOf (σr j) b→i=j) ∧
    ARel P w' (Al (base0 w al) w' σr (rowsHp sig.rows)) σr v (unTup sig.res)
mutual
def scalarA:A→Bool
  | .c k _=>scalarK k
  | .agg xs=>scalarAs xs
  | .own _ ks _ _=>ks.all scalarK
  | .nilsl=>true
  | _=>false
def scalarAs:List A→Bool
  | []=>true
  | a :: as=>scalarA a && scalarAs as
end
structure Contract (P:Program) (g:Fn):Prop where
  enter:∀ args w,(callFunc g.f args).run P w = .ok (.enter g.f args) w
  new:g.refs=false→∀ (w:World) (al:Nat→Prop) (vs:List Value) (cs:List (List C)),(∀ b,al b→b < w.heap.size)→vs.length=g.ps.length→cs.length=g.ps.length →
    (∀ i,i < g.ps.length→ArgRel P w al (g.ps.getD i (false,[])) (vs.getD i undef) (cs.getD i []))→(g.sem cs).pre →
    Calls P g.f vs.toArray w (fun e w'=>∃ v,e = .returned v∧ResRel P w (fun _=>False) w' v (g.sem cs))
  calls:∀ (w:World) (al:Nat→Prop) (vs:List Value) (cs:List (List C)),(∀ b,al b→b < w.heap.size)→vs.length=g.ps.length→cs.length=g.ps.length →
    (∀ i,i < g.ps.length→ArgRel P w al (g.ps.getD i (false,[])) (vs.getD i undef) (cs.getD i []))→(g.sem cs).pre →
    Calls P g.f vs.toArray w (fun e w'=>∃ v,e = .returned v∧ResRel P w al w' v (g.sem cs))
theorem findFn_spec:∀ {Γ:List Fn} {f:FuncId} {g:Fn},findFn Γ f=some g→g∈Γ∧g.f=f
  | [],f,g,h=>by cases h
  | x :: Γ,f,g,h=>by
    simp only [findFn] at h
    split at h
    · rename_i e;simp only [Option.some.injEq] at h;subst h;exact ⟨by simp,e⟩
    · obtain ⟨h1,h2⟩:=findFn_spec h;exact ⟨by simp [h1],h2⟩
theorem fitArg_sound {al':Nat→Prop} {p:Bool×List Kd} {a:A} {v:Value} {c:List C} (h00:tyI P 0=none) (h:RelL P w0 N σ s tms w) (h1:∀ b,Al w0 w σ s.hp b→al' b) (hf:fitArg s.hp p a=some c)
    (hx:ARel P w (Al w0 w σ s.hp) σ v a) (h2:∀ id,id∈(cellsA a).flatMap frozenIds→∀ b,blockOf (σ id) b→al' b):ArgRel P w al' p v c:=by
  have single:∀ k c0 k0,toCell s.hp a=some (k,c0)→cellsA a=[a]→p.1=false→p.2=[k0]→fitP k0 k=true→c=[c0]→ArgRel P w al' p v c:=by
    rintro k c0 k0 hto hca hp1 hp2 hfk rfl
    have hr:=toCell_sound h hto hx h1 (fun id hid=>h2 id (by rw [hca];simpa using hid))
    simp only [ArgRel,hp1,hp2]
    exact ⟨rfl,rfl,fitP_sound h00 hfk hr⟩
  cases a with
  | agg xs =>
    simp only [fitArg] at hf
    split at hf
    · rename_i he
      split at hf
      · rename_i ks' cs hto
        split at hf
        · rename_i hok
          simp only [Bool.and_eq_true,beq_iff_eq] at hok
          simp only [Option.some.injEq] at hf;subst hf
          cases hx with
          | agg vs _ hl hh =>
            obtain ⟨l1,l2,hrep⟩:=toKCells_sound h h1 hto hl hh h2
            obtain ⟨f1,f2⟩:=fitKs_spec hok.1
            simp only [ArgRel,he]
            refine ⟨vs,rfl,by rw [hl,← l1,hok.2],by rw [l2,← l1,hok.2],fun j hj=>?_⟩
            have hj':j < ks'.length:=by rw [hok.2];exact hj
            exact fitK_sound h00 (f2 j hj') (hrep j (by omega))
        · cases hf
      · cases hf
    · cases hf
  | _ =>
    simp only [fitArg] at hf
    split at hf
    · cases hf
    · rename_i he
      split at hf
      · rename_i hto hks
        split at hf
        · rename_i hfk
          simp only [Option.some.injEq] at hf
          exact single _ _ _ hto rfl he hks hfk hf.symm
        · cases hf
      · cases hf
theorem fitArg_rows {hp:Nat→Blk} {p:Bool×List Kd} {a:A} {c:List C} (hf:fitArg hp p a=some c):∀ id,id∈(cellsA a).flatMap frozenIds→∃ t es,hp id = .row t es∨hp id = .frz t es:=by
  have single:∀ q,toCell hp a=some q→cellsA a=[a]→∀ id,id∈(cellsA a).flatMap frozenIds→∃ t es,hp id = .row t es∨hp id = .frz t es:=by
    intro q hto hca
    rw [hca]
    exact toKCells_rows (q:=([q.1],[q.2])) (by simp [toKCells,hto])
  cases a with
  | agg xs =>
    simp only [fitArg] at hf
    split at hf
    · split at hf
      · rename_i ks' cs hto;exact toKCells_rows hto
      · cases hf
    · cases hf
  | _ =>
    simp only [fitArg] at hf
    split at hf
    · cases hf
    · split at hf
      · rename_i k c0 k0 hto hks;exact single _ hto rfl
      · cases hf
theorem fitArgs_spec {hp:Nat→Blk}:∀ {ps:List (Bool×List Kd)} {as:List A} {cs:List (List C)},fitArgs hp ps as=some cs →
    as.length=ps.length∧cs.length=ps.length∧∀ i,i < ps.length→fitArg hp (ps.getD i (false,[])) (as.getD i .unk)=some (cs.getD i [])
  | [],[],cs,h=>by simp only [fitArgs,Option.some.injEq] at h;subst h;exact ⟨rfl,rfl,fun i hi=>by simp at hi⟩
  | [],_ :: _,cs,h=>by simp [fitArgs] at h
  | _ :: _,[],cs,h=>by simp [fitArgs] at h
  | p :: ps,a :: as,cs,h=>by
    simp only [fitArgs] at h
    split at h
    · rename_i x xs hx hxs
      simp only [Option.some.injEq] at h;subst h
      obtain ⟨h1,h2,h3⟩:=fitArgs_spec hxs
      refine ⟨by simp [h1],by simp [h2],fun i hi=>?_⟩
      cases i with
      | zero=>simpa using hx
      | succ i=>simpa using h3 i (by simpa using hi)
    · cases h
theorem idsOf_mem {as:List A} {i:Nat} (hi:i < as.length) {id:Nat} (h:id∈(cellsA (as.getD i .unk)).flatMap frozenIds):id∈idsOf as:=by
  induction as generalizing i with
  | nil=>simp at hi
  | cons a as ih =>
    simp only [idsOf]
    cases i with
    | zero=>exact List.mem_append.2 (.inl (by simpa using h))
    | succ i=>exact List.mem_append.2 (.inr (ih (by simpa using hi) (by simpa using h)))
theorem mem_idsOf {as:List A} {id:Nat} (h:id∈idsOf as):∃ i,i < as.length∧id∈(cellsA (as.getD i .unk)).flatMap frozenIds:=by
  induction as with
  | nil=>simp [idsOf] at h
  | cons a as ih =>
    simp only [idsOf] at h
    rcases List.mem_append.1 h with h | h
    · exact ⟨0,by simp,by simpa using h⟩
    · obtain ⟨i,hi,hm⟩:=ih h
      exact ⟨i+1,by simpa using hi,by simpa using hm⟩
theorem addRows_at (d:Nat):∀ (bs:List Blk) (j:Nat) (hp:Nat→Blk) (id:Nat),addRows d j bs hp id=if key d j≤id∧id < key d j+bs.length then bs.getD (id - key d j) .dead else hp id
  | [],j,hp,id=>by simp only [addRows,List.length_nil];rw [if_neg (by omega)]
  | b :: bs,j,hp,id=>by
    simp only [addRows]
    rw [addRows_at d bs (j+1)]
    have hk:key d (j+1)=key d j+1:=by simp [key];omega
    rw [hk]
    simp only [List.length_cons,upd]
    by_cases h1:key d j+1≤id∧id < key d j+1+bs.length
    · rw [if_pos h1,if_pos (by omega)]
      have:id - key d j=(id - (key d j+1))+1:=by omega
      rw [this,List.getD_cons_succ]
    · rw [if_neg h1]
      by_cases h2:id=key d j
      · subst h2;rw [if_pos rfl,if_pos (by omega)];simp
      · rw [if_neg h2,if_neg (by omega)]
theorem deadRows_at (d:Nat):∀ (bs:List Blk) (j:Nat) (hp:Nat→Blk),deadRows d j bs hp=true→∀ i,i < bs.length→hp (key d j+i) = .dead
  | [],j,hp,h,i,hi=>by simp at hi
  | b :: bs,j,hp,h,i,hi=>by
    simp only [deadRows,Bool.and_eq_true] at h
    cases i with
    | zero=>exact isDead_spec h.1
    | succ i =>
      have:=deadRows_at d bs (j+1) hp h.2 i (by simpa using hi)
      have hk:key d (j+1)=key d j+1:=by simp [key];omega
      rw [hk] at this
      rw [← this];congr 1;omega
theorem renAs_length (d:Nat) (as:List A):(renAs d as).length=as.length:=by
  induction as with
  | nil=>rfl
  | cons a as ih=>simp [renAs,ih]
theorem renAs_getD (d:Nat) (as:List A) (i:Nat):(renAs d as).getD i .unk=renA d (as.getD i .unk):=by
  induction as generalizing i with
  | nil=>simp [renAs,renA]
  | cons a as ih =>
    cases i with
    | zero=>simp [renAs]
    | succ i=>simpa [renAs] using ih i
theorem ren_rel {σr σ':Nat→RefI} {d:Nat} {v:Value} {a:A} (h:ARel P w al σr v a) (hs:∀ j,σr j≠.dead→σ' (key d j)=σr j):ARel P w al σ' v (renA d a):=by
  induction h with
  | unk v=>exact .unk v
  | c k v x h=>exact .c k v x h
  | nilsl=>exact .nilsl
  | agg vs xs hl h ih =>
    simp only [renA]
    refine .agg vs _ (by rw [renAs_length];exact hl) (fun i hi=>?_)
    rw [renAs_length] at hi
    rw [renAs_getD];exact ih i hi
  | tup vs xs hl h ih=>exact .unk _
  | ownGone v id ks off len h=>exact .ownGone v _ ks off len (by rw [hs id (by simp [h]),h])
  | eltGone v id sz ks i off h=>exact .unk _
  | ownNil id ks off t h ho=>exact .ownNil _ ks off t (by rw [hs id (by simp [h]),h]) ho
  | own0 id ks len b cap n t h hl=>exact .own0 _ ks len b cap n t (by rw [hs id (by simp [h]),h]) hl
  | ownOff id ks off len b cap n cap' t h ho hl hc=>exact .ownOff _ ks off len b cap n cap' t (by rw [hs id (by simp [h]),h]) ho hl hc
  | ownOff0 a id ks off b cap n cap' t h ho hl=>exact .ownOff0 a _ ks off b cap n cap' t (by rw [hs id (by simp [h]),h]) ho hl
  | box id off b h=>exact .unk _
  | bsl id len b cap h=>exact .unk _
  | elt id ks0 ks i off b cap n t h hi hk=>exact .unk _
  | pp ks cells off b o hal f hcell hrep=>exact .unk _
  | fnv f caps vs hl h ih=>exact .unk _
  | fnb f caps vs hl h ih=>exact .unk _
  | mref id b h=>exact .unk _
  | mrefGone v id h=>exact .unk _
  | itr id r b h=>exact .unk _
  | whenT v a h ih=>exact .unk _
  | whenF a=>exact .unk _
  | rg v id k x W Q h hr=>exact .unk _
  | rgGone v id k x h=>exact .unk _
  | rp id ks cells off b o W Q h hal f hcell hrep=>exact .unk _
  | rpGone v id ks cells off h=>exact .unk _
theorem ren_unTup {σr σ':Nat→RefI} {d:Nat} {v:Value} {as:List A} (h:ARel P w al σr v (unTup as)) (hs:∀ j,σr j≠.dead→σ' (key d j)=σr j):ARel P w al σ' v (unTup (renAs d as)):=by
  have tup:∀ as:List A,ARel P w al σr v (.tup as)→ARel P w al σ' v (.tup (renAs d as)):=by
    intro as h
    cases h with
    | tup vs _ hl hh =>
      refine .tup vs _ (by rw [renAs_length];exact hl) (fun i hi=>?_)
      rw [renAs_length] at hi
      rw [renAs_getD];exact ren_rel (hh i hi) hs
  cases as with
  | nil=>exact tup [] h
  | cons a as =>
    cases as with
    | nil=>exact ren_rel h hs
    | cons b as=>exact tup (a :: b :: as) h
theorem scalarAs_getD:∀ {as:List A},scalarAs as=true→∀ i,i < as.length→scalarA (as.getD i .unk)=true
  | [],_,i,hi=>by simp at hi
  | a :: as,h,i,hi=>by
    simp only [scalarAs,Bool.and_eq_true] at h
    cases i with
    | zero=>simpa using h.1
    | succ i=>simpa using scalarAs_getD h.2 i (by simpa using hi)
theorem ARel.scalar {al':Nat→Prop} {v:Value} {a:A} (h:ARel P w al σ v a) (hk:scalarA a=true):ARel P w al' σ v a:=by
  induction h with
  | unk v=>simp [scalarA] at hk
  | c k v x h=>exact .c k v x (h.scalar (by simpa [scalarA] using hk))
  | nilsl=>exact .nilsl
  | agg vs xs hl h ih=>exact .agg vs xs hl (fun i hi=>ih i hi (scalarAs_getD (by simpa [scalarA] using hk) i hi))
  | tup vs xs hl h ih=>simp [scalarA] at hk
  | ownGone v id ks off len h=>exact .ownGone v id ks off len h
  | eltGone v id sz ks i off h=>simp [scalarA] at hk
  | ownNil id ks off t h ho=>exact .ownNil id ks off t h ho
  | own0 id ks len b cap n t h hl=>exact .own0 id ks len b cap n t h hl
  | ownOff id ks off len b cap n cap' t h ho hl hc=>exact .ownOff id ks off len b cap n cap' t h ho hl hc
  | ownOff0 a id ks off b cap n cap' t h ho hl=>exact .ownOff0 a id ks off b cap n cap' t h ho hl
  | box id off b h=>simp [scalarA] at hk
  | bsl id len b cap h=>simp [scalarA] at hk
  | elt id ks0 ks i off b cap n t h hi hk'=>simp [scalarA] at hk
  | pp ks cells off b o hal f hcell hrep=>simp [scalarA] at hk
  | fnv f caps vs hl h ih=>simp [scalarA] at hk
  | fnb f caps vs hl h ih=>simp [scalarA] at hk
  | mref id b h=>simp [scalarA] at hk
  | mrefGone v id h=>simp [scalarA] at hk
  | itr id r b h=>simp [scalarA] at hk
  | whenT v a h ih=>simp [scalarA] at hk
  | whenF a=>simp [scalarA] at hk
  | rg v id k x W Q h hr=>simp [scalarA] at hk
  | rgGone v id k x h=>simp [scalarA] at hk
  | rp id ks cells off b o W Q h hal f hcell hrep=>simp [scalarA] at hk
  | rpGone v id ks cells off h=>simp [scalarA] at hk
theorem ARel.scalar_unTup {al':Nat→Prop} {v:Value} {as:List A} (h:ARel P w al σ v (unTup as)) (hk:scalarAs as=true):ARel P w al' σ v (unTup as):=by
  have tup:∀ as:List A,scalarAs as=true→ARel P w al σ v (.tup as)→ARel P w al' σ v (.tup as):=by
    intro as hk h
    cases h with
    | tup vs _ hl hh=>exact .tup vs _ hl (fun i hi=>(hh i hi).scalar (scalarAs_getD hk i hi))
  cases as with
  | nil=>exact tup [] hk h
  | cons a as =>
    cases as with
    | nil=>simp only [scalarAs,Bool.and_true] at hk;exact ARel.scalar h hk
    | cons b as=>exact tup (a :: b :: as) hk h
theorem RowRel.weaken {B B':Nat→Prop} {al':Nat→Prop} {r:RefI} {t:TypeId} {es:List (List C)} (h:RowRel P w B al r t es) (hB:∀ b,B b→B' b)
    (hr:(∀ b,al b→al' b)∨∃ E,tyI P t=some E∧E.kinds.all scalarK=true):RowRel P w B' al' r t es:=by
  obtain ⟨E,hE,hby,h⟩:=h
  refine ⟨E,hE,hby,h.imp id ?_⟩
  rintro ⟨b,cap,cur,tg,e,hb,hh,h1,h2,h3,h4,h5⟩
  refine ⟨b,cap,cur,tg,e,hB b hb,hh,h1,h2,h3,h4,fun i hi j hj=>?_⟩
  rcases hr with hr | ⟨E',hE',hk⟩
  · exact (h5 i hi j hj).mono (fun _ _=>rfl) hr
  · rw [hE] at hE';simp only [Option.some.injEq] at hE';subst hE'
    exact (h5 i hi j hj).scalar (all_getD hk j hj)
theorem toCell_meltHp {hp:Nat→Blk} {a:A} {q:Kd×C} (h:toCell hp a=some q):toCell (meltHp hp) a=some q:=by
  cases a with
  | own id ks off len =>
    simp only [toCell] at h ⊢
    have e:meltHp hp id=hp id:=by
      unfold meltHp
      rw [if_neg]
      intro e
      rw [isRegB_spec e] at h;cases h
    rw [e];exact h
  | _=>exact h
theorem toKCells_meltHp {hp:Nat→Blk}:∀ {as:List A} {q:List Kd×List C},toKCells hp as=some q→toKCells (meltHp hp) as=some q
  | [],q,h=>h
  | a :: as,q,h=>by
    simp only [toKCells] at h ⊢
    split at h
    · rename_i k x ks xs h1 h2
      rw [toCell_meltHp h1,toKCells_meltHp h2]
      exact h
    · cases h
theorem fitArg_meltHp {hp:Nat→Blk} {p:Bool×List Kd} {a:A} {c:List C} (h:fitArg hp p a=some c):fitArg (meltHp hp) p a=some c:=by
  cases a with
  | agg xs =>
    simp only [fitArg] at h ⊢
    split at h
    · split at h
      · rename_i ks cs hk
        rw [toKCells_meltHp hk];exact h
      · cases h
    · cases h
  | _ =>
    simp only [fitArg] at h ⊢
    split at h
    · cases h
    · split at h
      · rename_i k c0 k0 h1 h2
        rw [toCell_meltHp h1,h2];exact h
      · cases h
theorem ResRel.scalar {w':World} {v:Value} {sig:Sig} (h:ResRel P w al w' v sig) (h1:scalarAs sig.res=true) (h2:∀ b∈sig.rows,∃ t es E,b = .row t es∧tyI P t=some E∧E.kinds.all scalarK=true):ResRel P w (fun _=>False) w' v sig:=by
  obtain ⟨hbel,hrow,σr,hB,hinj,hv⟩:=h
  refine ⟨hbel,hrow,σr,fun j=>?_,hinj,hv.scalar_unTup h1⟩
  have hb:=hB j
  rcases Nat.lt_or_ge j sig.rows.length with hj | hj
  · have e:rowsHp sig.rows j=sig.rows[j]:=by simp [rowsHp,List.getD_eq_getElem?_getD,hj]
    obtain ⟨t,es,E,e1,e2,e3⟩:=h2 _ (List.getElem_mem hj)
    rw [e,e1] at hb ⊢
    exact RowRel.weaken hb (fun b hb=>hb) (.inr ⟨E,e2,e3⟩)
  · have e:rowsHp sig.rows j = .dead:=by simp [rowsHp,List.getD_eq_getElem?_getD,List.getElem?_eq_none hj]
    rw [e] at hb ⊢;exact hb
theorem Contract.of {g:Fn} (enter:∀ args w,(callFunc g.f args).run P w = .ok (.enter g.f args) w)
    (scalar:g.refs=false→∀ cs,scalarAs (g.sem cs).res=true∧∀ b∈(g.sem cs).rows,∃ t es E,b = .row t es∧tyI P t=some E∧E.kinds.all scalarK=true)
    (calls:∀ (w:World) (al:Nat→Prop) (vs:List Value) (cs:List (List C)),(∀ b,al b→b < w.heap.size)→vs.length=g.ps.length→cs.length=g.ps.length →
      (∀ i,i < g.ps.length→ArgRel P w al (g.ps.getD i (false,[])) (vs.getD i undef) (cs.getD i []))→(g.sem cs).pre →
      Calls P g.f vs.toArray w (fun e w'=>∃ v,e = .returned v∧ResRel P w al w' v (g.sem cs))):Contract P g :=
  ⟨enter,fun hr w al vs cs h1 h2 h3 h4 h5=>(calls w al vs cs h1 h2 h3 h4 h5).mono fun e w' ⟨v,e1,hR⟩=>⟨v,e1,hR.scalar (scalar hr cs).1 (scalar hr cs).2⟩,calls⟩
theorem callS_sound {g:Fn} {d:Nat} {vs:List Value} {cs:List (List C)} (C0:Contract P g) (hr:g.refs=false) (h:RelL P w0 N σ s tms w) (hdead:deadRows d 0 (g.sem cs).rows s.hp=true) (hp:(g.sem cs).pre)
    (hvl:vs.length=g.ps.length) (l2:cs.length=g.ps.length) (hargs:∀ i,i < g.ps.length→ArgRel P w (fun b=>b < w.heap.size) (g.ps.getD i (false,[])) (vs.getD i undef) (cs.getD i [])) :
    Calls P g.f vs.toArray w (fun e w'=>∃ v,e = .returned v∧∃ σ',RelL P w0 N σ' ⟨s.tm,addRows d 0 (g.sem cs).rows s.hp⟩ tms w'∧ARel P w' (Al w0 w' σ' (addRows d 0 (g.sem cs).rows s.hp)) σ' v (unTup (renAs d (g.sem cs).res))):=by
  refine (C0.new hr w (fun b=>b < w.heap.size) vs cs (fun _ h=>h) hvl l2 hargs hp).mono ?_
  rintro e w' ⟨v,rfl,hbel,hisrow,σr,hB,hinj,hv⟩
  refine ⟨v,rfl,?_⟩
  have hk0:∀ j,key d j=key d 0+j:=fun j=>by simp [key]
  have hdeadF:∀ i,i < (g.sem cs).rows.length→s.hp (key d 0+i) = .dead:=fun i hi=>deadRows_at d _ 0 _ hdead i hi
  obtain ⟨σ',hσ'⟩:∃ σ':Nat→RefI,σ'=fun id=>if key d 0≤id∧id < key d 0+(g.sem cs).rows.length then σr (id - key d 0) else σ id:=⟨_,rfl⟩
  have hσn:∀ j,j < (g.sem cs).rows.length→σ' (key d 0+j)=σr j:=by
    intro j hj;rw [hσ'];simp only [];rw [if_pos (by omega)];congr 1;omega
  have hσo:∀ id,¬ (key d 0≤id∧id < key d 0+(g.sem cs).rows.length)→σ' id=σ id:=by
    intro id hid;rw [hσ'];simp only [];rw [if_neg hid]
  have hpn:∀ j,j < (g.sem cs).rows.length→addRows d 0 (g.sem cs).rows s.hp (key d 0+j)=rowsHp (g.sem cs).rows j:=by
    intro j hj;rw [addRows_at,if_pos (by omega)];unfold rowsHp;congr 1;omega
  have hpo:∀ id,¬ (key d 0≤id∧id < key d 0+(g.sem cs).rows.length)→addRows d 0 (g.sem cs).rows s.hp id=s.hp id:=by
    intro id hid;rw [addRows_at,if_neg hid]
  have hrdead:∀ j,(g.sem cs).rows.length≤j→σr j = .dead:=by
    intro j hj
    have:=hB j
    have e:rowsHp (g.sem cs).rows j = .dead:=by simp [rowsHp,List.getD_eq_getElem?_getD,List.getElem?_eq_none hj]
    rw [e] at this;exact this
  have hrowOf:∀ j,j < (g.sem cs).rows.length→∃ t es,rowsHp (g.sem cs).rows j = .row t es∧.row t es∈(g.sem cs).rows:=by
    intro j hj
    have hm:(g.sem cs).rows[j]∈(g.sem cs).rows:=List.getElem_mem hj
    have e:rowsHp (g.sem cs).rows j=(g.sem cs).rows[j]:=by simp [rowsHp,List.getD_eq_getElem?_getD,hj]
    have:=hisrow _ hm
    rw [e]
    cases hx:(g.sem cs).rows[j] <;> rw [hx] at this hm <;> simp [isRow] at this
    exact ⟨_,_,rfl,hm⟩
  have hnewge:∀ j b,blockOf (σr j) b→w.heap.size≤b:=fun j b hb=>base0_wr (block_lt_of_bref (hB j) hb).2
  have hnsz:w0.n≤w.heap.size:=h.below.size
  have hal:∀ b,Al w0 w σ s.hp b→Al w0 w' σ' (addRows d 0 (g.sem cs).rows s.hp) b:=by
    intro b hb
    refine ⟨Nat.lt_of_lt_of_le hb.1 hbel.size,fun id hid=>?_,hb.2.2⟩
    by_cases hn:key d 0≤id∧id < key d 0+(g.sem cs).rows.length
    · have e:id=key d 0+(id - key d 0):=by omega
      rw [e,hσn _ (by omega)] at hid
      have:=hnewge _ _ hid
      have:=hb.1;omega
    · rw [hσo id hn] at hid
      rw [hpo id hn];exact hb.2.1 id hid
  have halR:∀ b,Al (base0 w (fun _=>False)) w' σr (rowsHp (g.sem cs).rows) b→Al w0 w' σ' (addRows d 0 (g.sem cs).rows s.hp) b:=by
    intro b hb
    have hge:w.heap.size≤b:=by
      rcases hb.2.2 with h3 | h3
      · exact base0_wr h3
      · exact h3.elim
    refine ⟨hb.1,fun id hid=>?_,.inl (.inl (Nat.le_trans hnsz hge))⟩
    by_cases hn:key d 0≤id∧id < key d 0+(g.sem cs).rows.length
    · have e:id=key d 0+(id - key d 0):=by omega
      rw [e,hσn _ (by omega)] at hid
      rw [e,hpn _ (by omega)]
      exact hb.2.1 _ hid
    · rw [hσo id hn] at hid
      have:=(block_lt_of_bref (h.blks id) hid).1
      omega
  refine ⟨σ',h.change (h.below.then (hbel.mono hnsz)) hbel.size hal (fun b hb=>hbel.block b hb.1) ?_ ?_ ?_,?_⟩
  · intro id hid
    refine .inl ?_
    by_cases hn:key d 0≤id∧id < key d 0+(g.sem cs).rows.length
    · have e:id=key d 0+(id - key d 0):=by omega
      have hd:=hdeadF (id - key d 0) (by omega)
      rw [← e] at hd
      exact absurd (bref_dead (h.blks id) hd) hid
    · exact hσo id hn
  · intro id
    by_cases hn:key d 0≤id∧id < key d 0+(g.sem cs).rows.length
    · refine .inr ?_
      have e:id=key d 0+(id - key d 0):=by omega
      have hj:id - key d 0 < (g.sem cs).rows.length:=by omega
      obtain ⟨t,es,hrow,hmem⟩:=hrowOf _ hj
      have hBj:=hB (id - key d 0)
      rw [hrow] at hBj
      rw [e,hpn _ hj,hrow]
      simp only [BRel]
      rw [hσn _ hj]
      exact RowRel.weaken hBj (fun b hb=>.inl (Nat.le_trans hnsz (base0_wr hb))) (.inl halR)
    · exact .inl ⟨hσo id hn,hpo id hn,fun b hb=>hbel.block b (block_lt_of_bref (h.blks id) hb).1⟩
  · intro i j b hi hj
    by_cases hn:key d 0≤i∧i < key d 0+(g.sem cs).rows.length <;> by_cases hm:key d 0≤j∧j < key d 0+(g.sem cs).rows.length
    · have e1:i=key d 0+(i - key d 0):=by omega
      have e2:j=key d 0+(j - key d 0):=by omega
      rw [e1,hσn _ (by omega)] at hi
      rw [e2,hσn _ (by omega)] at hj
      have:=hinj _ _ _ hi hj
      omega
    · have e1:i=key d 0+(i - key d 0):=by omega
      rw [e1,hσn _ (by omega)] at hi
      rw [hσo j hm] at hj
      have:=hnewge _ _ hi
      have:=(block_lt_of_bref (h.blks j) hj).1
      omega
    · have e1:j=key d 0+(j - key d 0):=by omega
      rw [e1,hσn _ (by omega)] at hj
      rw [hσo i hn] at hi
      have:=hnewge _ _ hj
      have:=(block_lt_of_bref (h.blks i) hi).1
      omega
    · rw [hσo i hn] at hi
      rw [hσo j hm] at hj
      exact h.inj i j b hi hj
  · refine ren_unTup (σr:=σr) (hv.mono (fun _ _=>rfl) halR (fun _ _=>.inl rfl)) (fun j hj=>?_)
    rw [hk0]
    have:j < (g.sem cs).rows.length:=by
      rcases Nat.lt_or_ge j (g.sem cs).rows.length with h' | h'
      · exact h'
      · exact absurd (hrdead j h') hj
    exact hσn j this
theorem callA_sound {Γ:List Fn} {f:FuncId} {d:Nat} {as:List A} {r:Out} {vs:List Value} (h00:tyI P 0=none) (hΓ:∀ g,g∈Γ→Contract P g) (h:RelL P w0 N σ s tms w) (hf:callA Γ f d as s.hp=some r) (hp:r.pre)
    (hvl:vs.length=as.length) (hvs:∀ i,i < as.length→ARel P w (Al w0 w σ s.hp) σ (vs.getD i undef) (as.getD i .unk)) :
    (callFunc f vs.toArray).run P w = .ok (.enter f vs.toArray) w∧r.fact ∧
      Calls P f vs.toArray w (fun e w'=>∃ v,e = .returned v∧∃ σ',RelL P w0 N σ' ⟨s.tm,r.hp⟩ tms w'∧ARel P w' (Al w0 w' σ' r.hp) σ' v r.val):=by
  unfold callA at hf
  split at hf
  · rename_i g hg
    obtain ⟨hgm,rfl⟩:=findFn_spec hg
    have C0:=hΓ g hgm
    split at hf
    · rename_i cs hcs
      split at hf
      · rename_i hdead0
        have hdead:=(Bool.and_eq_true_iff.1 hdead0).2
        simp only [Option.some.injEq] at hf;subst hf
        by_cases hrf:g.refs=false
        · obtain ⟨l1,l2,hfit⟩:=fitArgs_spec hcs
          have e1:callArgs g.refs s.hp as=meltHs s.hp as:=by rw [hrf];rfl
          rw [e1,meltHs_length] at l1
          rw [e1] at hfit
          have:=callS_sound (vs:=vs) C0 hrf h hdead hp (by omega) l2 (fun i hi=>by
            have hx:=meltH_rel h (hvs i (by omega))
            rw [← meltHs_getD] at hx
            exact fitArg_sound (s:=⟨s.tm,meltHp s.hp⟩) h00 h.melt (fun b hb=>hb.1) (fitArg_meltHp (hfit i hi)) hx (fun id _ b hb=>(block_lt_of_bref (h.melt.blks id) hb).1))
          refine ⟨C0.enter _ _,trivial,?_⟩
          simp only [hrf,Bool.false_eq_true,if_false]
          exact this
        have hcs:fitArgs s.hp g.ps as=some cs:=by
          have:g.refs=true:=by simpa using hrf
          rw [this] at hcs;exact hcs
        obtain ⟨l1,l2,hfit⟩:=fitArgs_spec hcs
        refine ⟨C0.enter _ _,trivial,?_⟩
        -- where the callee may look
        have hrows:∀ id,id∈idsOf as→∃ t es,s.hp id = .row t es∨s.hp id = .frz t es:=by
          intro id hid
          obtain ⟨i,hi,hm⟩:=mem_idsOf hid
          exact fitArg_rows (hfit i (by omega)) id hm
        obtain ⟨hal1,hal2⟩:=al_freeze h (idsOf as) hrows
        obtain ⟨hpF,hpFe⟩:∃ hpF,hpF=(if g.refs then freezeAll s.hp (idsOf as) else s.hp):=⟨_,rfl⟩
        obtain ⟨al0,hal0e⟩:∃ al0,al0=(if g.refs then Al w0 w σ hpF else fun b=>b < w.heap.size):=⟨_,rfl⟩
        rw [← hpFe]
        have hz:RelL P w0 N σ ⟨s.tm,hpF⟩ tms w:=by rw [hpFe];split;exact h.freezeAll _;exact h
        have hlt:∀ b,al0 b→b < w.heap.size:=by
          intro b hb;rw [hal0e] at hb;split at hb
          · exact hb.1
          · exact hb
        have ha1:∀ b,Al w0 w σ s.hp b→al0 b:=by
          intro b hb
          rw [hal0e,hpFe]
          split
          · exact hal1 b hb
          · exact hb.1
        have ha2:∀ id,id∈idsOf as→∀ b,blockOf (σ id) b→al0 b:=by
          intro id hid b hb
          rw [hal0e,hpFe]
          split
          · exact hal2 id hid b hb
          · exact (block_lt_of_bref (h.blks id) hb).1
        have hdeadF:∀ i,i < (g.sem cs).rows.length→hpF (key d 0+i) = .dead:=by
          intro i hi
          have hd:=deadRows_at d _ 0 _ hdead i hi
          rw [hpFe];split
          · rw [freezeAll_at]
            split
            · rw [hd]
            · exact hd
          · exact hd
        have hargs:∀ i,i < g.ps.length→ArgRel P w al0 (g.ps.getD i (false,[])) (vs.getD i undef) (cs.getD i []):=fun i hi =>
          fitArg_sound h00 h ha1 (hfit i hi) (hvs i (by omega)) (fun id hid b hb=>ha2 id (idsOf_mem (i:=i) (by omega) hid) b hb)
        refine (C0.calls w al0 vs cs hlt (by omega) l2 hargs hp).mono ?_
        rintro e w' ⟨v,rfl,hbel,hisrow,σr,hB,hinj,hv⟩
        refine ⟨v,rfl,?_⟩
        have hk0:∀ j,key d j=key d 0+j:=fun j=>by simp [key]
        obtain ⟨σ',hσ'⟩:∃ σ':Nat→RefI,σ'=fun id=>if key d 0≤id∧id < key d 0+(g.sem cs).rows.length then σr (id - key d 0) else σ id:=⟨_,rfl⟩
        have hσn:∀ j,j < (g.sem cs).rows.length→σ' (key d 0+j)=σr j:=by
          intro j hj;rw [hσ'];simp only [];rw [if_pos (by omega)];congr 1;omega
        have hσo:∀ id,¬ (key d 0≤id∧id < key d 0+(g.sem cs).rows.length)→σ' id=σ id:=by
          intro id hid;rw [hσ'];simp only [];rw [if_neg hid]
        have hpn:∀ j,j < (g.sem cs).rows.length→addRows d 0 (g.sem cs).rows hpF (key d 0+j)=rowsHp (g.sem cs).rows j:=by
          intro j hj;rw [addRows_at,if_pos (by omega)];unfold rowsHp;congr 1;omega
        have hpo:∀ id,¬ (key d 0≤id∧id < key d 0+(g.sem cs).rows.length)→addRows d 0 (g.sem cs).rows hpF id=hpF id:=by
          intro id hid;rw [addRows_at,if_neg hid]
        have hrdead:∀ j,(g.sem cs).rows.length≤j→σr j = .dead:=by
          intro j hj
          have:=hB j
          have e:rowsHp (g.sem cs).rows j = .dead:=by simp [rowsHp,List.getD_eq_getElem?_getD,List.getElem?_eq_none hj]
          rw [e] at this;exact this
        have hrowOf:∀ j,j < (g.sem cs).rows.length→∃ t es,rowsHp (g.sem cs).rows j = .row t es∧.row t es∈(g.sem cs).rows:=by
          intro j hj
          have hm:(g.sem cs).rows[j]∈(g.sem cs).rows:=List.getElem_mem hj
          have e:rowsHp (g.sem cs).rows j=(g.sem cs).rows[j]:=by simp [rowsHp,List.getD_eq_getElem?_getD,hj]
          have:=hisrow _ hm
          rw [e]
          cases hx:(g.sem cs).rows[j] <;> rw [hx] at this hm <;> simp [isRow] at this
          exact ⟨_,_,rfl,hm⟩
        have hnewge:∀ j b,blockOf (σr j) b→w.heap.size≤b:=fun j b hb=>base0_wr (block_lt_of_bref (hB j) hb).2
        have hnsz:w0.n≤w.heap.size:=h.below.size
        have hal:∀ b,Al w0 w σ hpF b→Al w0 w' σ' (addRows d 0 (g.sem cs).rows hpF) b:=by
          intro b hb
          refine ⟨Nat.lt_of_lt_of_le hb.1 hbel.size,fun id hid=>?_,hb.2.2⟩
          by_cases hn:key d 0≤id∧id < key d 0+(g.sem cs).rows.length
          · have e:id=key d 0+(id - key d 0):=by omega
            rw [e,hσn _ (by omega)] at hid
            have:=hnewge _ _ hid
            have:=hb.1;omega
          · rw [hσo id hn] at hid
            rw [hpo id hn];exact hb.2.1 id hid
        -- the callee's data, where the caller sees it
        have halR:g.refs=true→∀ b,Al (base0 w al0) w' σr (rowsHp (g.sem cs).rows) b→Al w0 w' σ' (addRows d 0 (g.sem cs).rows hpF) b:=by
          intro hr b hb
          refine ⟨hb.1,fun id hid=>?_,?_⟩
          · by_cases hn:key d 0≤id∧id < key d 0+(g.sem cs).rows.length
            · have e:id=key d 0+(id - key d 0):=by omega
              rw [e,hσn _ (by omega)] at hid
              rw [e,hpn _ (by omega)]
              exact hb.2.1 _ hid
            · rw [hσo id hn] at hid
              rw [hpo id hn]
              have hlt':=(block_lt_of_bref (hz.blks id) hid).1
              rcases hb.2.2 with h3 | h3
              · have:w.heap.size≤b:=base0_wr h3
                omega
              · have:al0 b:=h3
                rw [hal0e,if_pos hr] at this
                exact this.2.1 id hid
          · rcases hb.2.2 with h3 | h3
            · exact .inl (.inl (Nat.le_trans hnsz (base0_wr h3)))
            · have:al0 b:=h3
              rw [hal0e,if_pos hr] at this
              exact this.2.2
        refine ⟨σ',hz.change (h.below.then (hbel.mono hnsz)) hbel.size hal (fun b hb=>hbel.block b hb.1) ?_ ?_ ?_,?_⟩
        · intro id hid
          refine .inl ?_
          by_cases hn:key d 0≤id∧id < key d 0+(g.sem cs).rows.length
          · have e:id=key d 0+(id - key d 0):=by omega
            have hd:=hdeadF (id - key d 0) (by omega)
            rw [← e] at hd
            exact absurd (bref_dead (hz.blks id) hd) hid
          · exact hσo id hn
        · intro id
          by_cases hn:key d 0≤id∧id < key d 0+(g.sem cs).rows.length
          · refine .inr ?_
            have e:id=key d 0+(id - key d 0):=by omega
            have hj:id - key d 0 < (g.sem cs).rows.length:=by omega
            obtain ⟨t,es,hrow,hmem⟩:=hrowOf _ hj
            have hBj:=hB (id - key d 0)
            rw [hrow] at hBj
            dsimp only
            rw [e,hpn _ hj,hrow]
            simp only [BRel]
            rw [hσn _ hj]
            refine RowRel.weaken hBj (fun b hb=>.inl (Nat.le_trans hnsz (base0_wr hb))) ?_
            cases hr:g.refs with
            | true=>exact .inl (halR hr)
            | false=>exact absurd hr hrf
          · exact .inl ⟨hσo id hn,hpo id hn,fun b hb=>hbel.block b (block_lt_of_bref (hz.blks id) hb).1⟩
        · intro i j b hi hj
          by_cases hn:key d 0≤i∧i < key d 0+(g.sem cs).rows.length <;> by_cases hm:key d 0≤j∧j < key d 0+(g.sem cs).rows.length
          · have e1:i=key d 0+(i - key d 0):=by omega
            have e2:j=key d 0+(j - key d 0):=by omega
            rw [e1,hσn _ (by omega)] at hi
            rw [e2,hσn _ (by omega)] at hj
            have:=hinj _ _ _ hi hj
            omega
          · have e1:i=key d 0+(i - key d 0):=by omega
            rw [e1,hσn _ (by omega)] at hi
            rw [hσo j hm] at hj
            have:=hnewge _ _ hi
            have:=(block_lt_of_bref (hz.blks j) hj).1
            omega
          · have e1:j=key d 0+(j - key d 0):=by omega
            rw [e1,hσn _ (by omega)] at hj
            rw [hσo i hn] at hi
            have:=hnewge _ _ hj
            have:=(block_lt_of_bref (hz.blks i) hi).1
            omega
          · rw [hσo i hn] at hi
            rw [hσo j hm] at hj
            exact hz.inj i j b hi hj
        · refine ren_unTup (σr:=σr) ?_ (fun j hj=>?_)
          · cases hr:g.refs with
            | true=>exact hv.mono (fun _ _=>rfl) (halR hr) (fun _ _=>.inl rfl)
            | false=>exact absurd hr hrf
          · rw [hk0]
            have:j < (g.sem cs).rows.length:=by
              rcases Nat.lt_or_ge j (g.sem cs).rows.length with h' | h'
              · exact h'
              · exact absurd (hrdead j h') hj
            exact hσn j this
      · cases hf
    · cases hf
  · cases hf
end Go.AE
/-
  Maps with keys of strings or numbers.
-/
set_option linter.unusedVariables false
namespace Go.AE
open Go.RowKit (Below)
open Go.MapKept
variable {P:Program} {w0:Base} {w:World} {N:Nat} {σ:Nat→RefI} {s:S} {tms:Array Value} {ρ:Operand→Value} {al:Nat→Prop} {Γ:List Fn}
def KeyOk (kk:Kd) (d:TypeDesc):Prop:=(kk = .str∧d = .string)∨∃ q,kk = .int q∧d = .int q
theorem mapE_spec {t e:TypeId} {kk:Kd} {E:TyI} (h:mapE P t=some (kk,e,E)):∃ k d,P.underlying t=some (.map k e)∧P.underlying k=some d∧tyI P e=some E∧KeyOk kk d:=by
  unfold mapE at h
  split at h
  · rename_i k e' hu
    split at h
    · rename_i hk hE
      simp only [Option.some.injEq,Prod.mk.injEq] at h
      obtain ⟨rfl,rfl,rfl⟩:=h
      exact ⟨k,_,hu,hk,hE,.inl ⟨rfl,rfl⟩⟩
    · rename_i q _ hk hE
      simp only [Option.some.injEq,Prod.mk.injEq] at h
      obtain ⟨rfl,rfl,rfl⟩:=h
      exact ⟨k,_,hu,hk,hE,.inr ⟨q,rfl,rfl⟩⟩
    · cases h
  · cases h
theorem beq_bytes (x y:List UInt8):((⟨x.toArray⟩:ByteArray) == ⟨y.toArray⟩)=(x == y):=by
  rw [Bool.eq_iff_iff,bytes_beq]
  simp
theorem key_same {kk:Kd} {d:TypeDesc} {a b:Value} {x y:C} (hk:KeyOk kk d) (ha:RepC P w al kk a x) (hb:RepC P w al kk b y) :
    IsKey d a∧Instr.sameNow d a b=some (keyEq kk x y)∧(keyEq kk x y=true→b=a):=by
  rcases hk with ⟨rfl,rfl⟩ | ⟨q,rfl,rfl⟩
  · cases ha with | str _ h1 =>
    cases hb with | str _ h2 =>
    refine ⟨trivial,by simp only [Instr.sameNow,keyEq,beq_bytes],fun h=>?_⟩
    simp only [keyEq,beq_iff_eq] at h
    rw [h]
  · cases ha with | int _ _ h1 =>
    cases hb with | int _ _ h2 =>
    refine ⟨rfl,by simp only [Instr.sameNow,keyEq,if_true],fun h=>?_⟩
    simp only [keyEq,beq_iff_eq] at h
    rw [h]
theorem find_rel {kk:Kd} {d:TypeDesc} {vp:Bool×List Kd} {kv:Value} {k:C} (hk:KeyOk kk d) (hkv:RepC P w al kk kv k) :
    ∀ {es:List MapEntry} {m:List (C×List C)} (i:Nat),MRel P w al kk vp es m →
      (Instr.findNow d kv es i=some none∧mget kk k m=none∧(∀ c,mset kk k c m=m ++ [(k,c)])∧mdel kk k m=m) ∨
      ∃ j e c0,Instr.findNow d kv es i=some (some (i+j,e.val))∧es[j]? = some e∧e.key=kv∧ArgRel P w al vp e.val c0∧mget kk k m=some c0 ∧
        (∀ c,mset kk k c m=m.set j (k,c))∧mdel kk k m=m.eraseIdx j
  | [],[],i,h=>.inl ⟨rfl,rfl,fun _=>rfl,rfl⟩
  | [],_ :: _,i,h=>h.elim
  | _ :: _,[],i,h=>h.elim
  | e :: es,x :: m,i,h=>by
    obtain ⟨h1,h2,h3⟩:=key_same hk hkv h.1
    cases hq:keyEq kk k x.1 with
    | true =>
      rw [hq] at h2 h3
      exact .inr ⟨0,e,x.2,by simp [Instr.findNow,h2],rfl,h3 rfl,h.2.1,by simp [mget,hq],fun c=>by simp [mset,hq],by simp [mdel,hq]⟩
    | false =>
      rw [hq] at h2
      rcases find_rel hk hkv (i+1) h.2.2 with ⟨a1,a2,a3,a4⟩ | ⟨j,e',c0,a1,a2,a3,a4,a5,a6,a7⟩
      · exact .inl ⟨by simp [Instr.findNow,h2,a1],by simp [mget,hq,a2],fun c=>by simp [mset,hq,a3],by simp [mdel,hq,a4]⟩
      · exact .inr ⟨j+1,e',c0,by simp [Instr.findNow,h2,a1];omega,by simpa using a2,a3,a4,by simp [mget,hq,a5],fun c=>by simp [mset,hq,a6],by simp [mdel,hq,a7]⟩
theorem MRel.append {kk:Kd} {vp:Bool×List Kd} {e:MapEntry} {x:C×List C} (h1:RepC P w al kk e.key x.1) (h2:ArgRel P w al vp e.val x.2) :
    ∀ {es:List MapEntry} {m:List (C×List C)},MRel P w al kk vp es m→MRel P w al kk vp (es ++ [e]) (m ++ [x])
  | [],[],_=>⟨h1,h2,trivial⟩
  | [],_ :: _,h=>h.elim
  | _ :: _,[],h=>h.elim
  | _ :: _,_ :: _,h=>⟨h.1,h.2.1,MRel.append h1 h2 h.2.2⟩
theorem MRel.set {kk:Kd} {vp:Bool×List Kd} {f:MapEntry→MapEntry} {x:C×List C} (h1:∀ e,RepC P w al kk (f e).key x.1) (h2:∀ e,ArgRel P w al vp (f e).val x.2) :
    ∀ {es:List MapEntry} {m:List (C×List C)} (j:Nat),MRel P w al kk vp es m→MRel P w al kk vp (es.modify j f) (m.set j x)
  | [],[],j,_=>by cases j <;> trivial
  | [],_ :: _,j,h=>h.elim
  | _ :: _,[],j,h=>h.elim
  | e :: _,_ :: _,0,h=>⟨h1 e,h2 e,h.2.2⟩
  | _ :: _,_ :: _,j+1,h=>⟨h.1,h.2.1,MRel.set h1 h2 j h.2.2⟩
theorem MRel.erase {kk:Kd} {vp:Bool×List Kd}:∀ {es:List MapEntry} {m:List (C×List C)} (j:Nat),MRel P w al kk vp es m→MRel P w al kk vp (es.eraseIdx j) (m.eraseIdx j)
  | [],[],j,_=>by cases j <;> trivial
  | [],_ :: _,j,h=>h.elim
  | _ :: _,[],j,h=>h.elim
  | e :: _,_ :: _,0,h=>h.2.2
  | _ :: _,_ :: _,j+1,h=>⟨h.1,h.2.1,MRel.erase j h.2.2⟩
theorem argRel_pack {p:Bool×List Kd} {v:Value} {c:List C} (h:ArgRel P w al p v c):ARel P w al σ v (pack p.1 (ppVals p.2 c 0)):=by
  unfold ArgRel at h
  split at h
  · rename_i hp
    obtain ⟨us,rfl,h1,h2,h3⟩:=h
    simp only [pack,hp,if_true]
    refine .agg us _ (by rw [ppVals_length];exact h1) (fun i hi=>?_)
    rw [ppVals_length] at hi
    rw [ppVals_getD _ _ _ _ hi,Nat.zero_add]
    exact .c _ _ _ (h3 i hi).nrm
  · rename_i hp
    obtain ⟨h1,h2,h3⟩:=h
    simp only [pack,hp,Bool.false_eq_true,if_false]
    match hks:p.2,h1 with
    | [k0],_ =>
      rw [hks] at h3
      exact .c _ _ _ (RepC.nrm (k:=k0) h3)
theorem zero_arg {e:TypeId} {E:TyI} (hE:tyI P e=some E):∃ z,(zeroValue e).run P w = .ok z w∧ArgRel P w al (E.agg,E.kinds) z (zeroRow E):=by
  obtain ⟨S⟩:=tyI_spec hE
  obtain ⟨z1,z2⟩:=zerosC_rel (P:=P) (w:=w) (al:=al) S.zfits
  refine ⟨S.z,by simp only [zeroValue,Sem.run_bind,run_typeInfo w S.info,Result.andThen_ok,S.zero,Sem.run_pure],?_⟩
  have hz:=S.zagg
  rw [← S.agg] at hz
  have hlen:(zeroRow E).length=E.kinds.length:=by simp [zeroRow]
  cases hzv:S.z with
  | agg cs =>
    rw [hzv] at hz z1 z2
    simp only [isAggV] at hz
    simp only [ArgRel,hz]
    exact ⟨cs.toList,rfl,z1,hlen,z2⟩
  | _ =>
    rw [hzv] at hz z1 z2
    simp only [isAggV] at hz
    simp only [ArgRel,hz]
    have h1:E.kinds.length=1:=by simpa [Value.cells] using z1.symm
    refine ⟨h1,by rw [hlen,h1],?_⟩
    simpa [Value.cells,zeroRow] using z2 0 (by omega)
theorem mref_inv {v:Value} {id b:Nat} (h:ARel P w al σ v (.mref id)) (hs:σ id = .mp b):v = .map (some b):=by
  cases h with
  | mref _ b h=>rw [hs] at h;cases h;rfl
  | mrefGone v id h=>rw [hs] at h;cases h
  | itr id r b h=>rw [hs] at h;cases h
theorem makeMap_sound {t:TypeId} {id:Nat} {kk:Kd} {vp:Bool×List Kd} (h:RelL P w0 N σ s tms w) (hd:isDead (s.hp id)=true) :
    ∃ v' w',(Instr.makeMap t none).run P w = .ok v' w'∧∃ σ',RelL P w0 N σ' ⟨s.tm,upd s.hp id (.mp kk vp [])⟩ tms w'∧ARel P w' (Al w0 w' σ' (upd s.hp id (.mp kk vp []))) σ' v' (.mref id):=by
  refine ⟨.map (some w.heap.size),w.alloc (.map #[] 0),?_,upd σ id (.mp w.heap.size),?_,.mref id w.heap.size (by simp [upd])⟩
  · simp [Instr.makeMap,Result.andThen]
  · refine h.alloc (isDead_spec hd) (.map #[] 0) (.mp w.heap.size) _ (by simp [blockOf];try (intro c hc;exact hc.symm)) (fun hal hheap hs=>?_)
    exact ⟨w.heap.size,#[],0,by simp [upd],.inl h.below.size,heap_alloc_new w _,⟨by simp,by simp⟩,trivial⟩
theorem lookup_sound {t:TypeId} {ok:Bool} {x y z:A} {vx vy:Value} (h:RelL P w0 N σ s tms w) (hf:lookupA P t ok s.hp x y=some z)
    (hx:ARel P w (Al w0 w σ s.hp) σ vx x) (hy:ARel P w (Al w0 w σ s.hp) σ vy y) :
    ∃ v,(Instr.lookup t vx vy ok).run P w = .ok v w∧ARel P w (Al w0 w σ s.hp) σ v z:=by
  unfold lookupA at hf
  split at hf
  · rename_i kk e E id ky k hm
    obtain ⟨kt,d,hu,hkd,hE,hko⟩:=mapE_spec hm
    split at hf
    · rename_i hkk;subst hkk
      split at hf
      · rename_i kk' vp m hb
        split at hf
        · rename_i hk';subst hk'
          split at hf
          · rename_i hvp;subst hvp
            simp only [Option.some.injEq] at hf
            have hB:=h.blks id
            rw [hb] at hB
            obtain ⟨b,es,clock,hσ,hBn,hh,hok,hmr⟩:=hB
            obtain rfl:=mref_inv hx hσ
            have hkv:=hy.c_inv
            obtain ⟨hik,_,_⟩:=key_same hko hkv hkv
            obtain ⟨zv,hz,hza⟩:=zero_arg (w:=w) (al:=Al w0 w σ s.hp) hE
            rcases find_rel hko hkv 0 hmr with ⟨a1,a2,_,_⟩ | ⟨j,e',c0,a1,a2,a3,a4,a5,_,_⟩
            · have hrun:(Instr.lookup t (.map (some b)) vy ok).run P w = .ok (if ok then .tuple #[zv,.bool false] else zv) w:=by
                simp [Instr.lookup,run_underlying hu,MapKept.run_getObj_map hh,MapKept.run_checkKey hkd hik,MapKept.run_findKey hkd a1,hz,Result.andThen]
              refine ⟨_,hrun,?_⟩
              rw [a2] at hf
              subst hf
              cases ok with
              | false=>exact argRel_pack hza
              | true =>
                refine .tup [zv,.bool false] _ rfl (fun i hi=>?_)
                match i,hi with
                | 0,_=>exact argRel_pack hza
                | 1,_=>exact ARel.mk_bool _
            · have hrun:(Instr.lookup t (.map (some b)) vy ok).run P w = .ok (if ok then .tuple #[e'.val,.bool true] else e'.val) w:=by
                simp [Instr.lookup,run_underlying hu,MapKept.run_getObj_map hh,MapKept.run_checkKey hkd hik,MapKept.run_findKey hkd a1,Result.andThen]
              refine ⟨_,hrun,?_⟩
              rw [a5] at hf
              subst hf
              cases ok with
              | false=>exact argRel_pack a4
              | true =>
                refine .tup [e'.val,.bool true] _ rfl (fun i hi=>?_)
                match i,hi with
                | 0,_=>exact argRel_pack a4
                | 1,_=>exact ARel.mk_bool _
          · cases hf
        · cases hf
      · cases hf
    · cases hf
  · cases hf
theorem MapOk.push {es:Array MapEntry} {clock:Nat} (h:MapOk es clock) (k v:Value):MapOk (es.push { key:=k,val:=v,born:=clock }) (clock+1):=by
  refine ⟨fun x hx=>?_,?_⟩
  · simp only [Array.toList_push,List.mem_append,List.mem_singleton] at hx
    rcases hx with hx | rfl
    · have:=h.1 x hx;omega
    · simp
  · simp only [Array.toList_push,List.map_append,List.map_cons,List.map_nil]
    refine List.nodup_append.2 ⟨h.2,by simp,fun a ha b hb=>?_⟩
    simp only [List.mem_singleton] at hb
    obtain ⟨x,hx,rfl⟩:=List.mem_map.1 ha
    have:=h.1 x hx
    omega
theorem MapOk.modify {es:Array MapEntry} {clock:Nat} (h:MapOk es clock) (j:Nat) (k v:Value):MapOk (es.modify j fun e=>{ e with key:=k,val:=v }) clock:=by
  have e:(es.modify j fun e=>{ e with key:=k,val:=v }).toList.map (·.born)=es.toList.map (·.born):=by
    rw [Array.toList_modify]
    generalize es.toList=l
    induction l generalizing j with
    | nil=>simp
    | cons a l ih =>
      cases j with
      | zero=>simp
      | succ j=>simp [ih]
  refine ⟨fun x hx=>?_,by rw [e];exact h.2⟩
  have:x.born∈es.toList.map (·.born):=by rw [← e];exact List.mem_map_of_mem hx
  obtain ⟨y,hy,hyx⟩:=List.mem_map.1 this
  have:=h.1 y hy
  omega
theorem MapOk.erase {es:Array MapEntry} {clock:Nat} (h:MapOk es clock) (j:Nat):MapOk (es.eraseIdxIfInBounds j) clock:=by
  unfold Array.eraseIdxIfInBounds
  split
  · refine ⟨fun x hx=>?_,?_⟩
    · simp only [Array.toList_eraseIdx] at hx
      exact h.1 x (List.mem_of_mem_eraseIdx hx)
    · simp only [Array.toList_eraseIdx]
      exact ((List.eraseIdx_sublist es.toList j).map (·.born)).nodup h.2
  · exact h
theorem map_write {id b clock clock':Nat} {kk:Kd} {vp:Bool×List Kd} {m m':List (C×List C)} {es es':Array MapEntry} (h:RelL P w0 N σ s tms w) (hb:s.hp id = .mp kk vp m) (hσ:σ id = .mp b)
    (hh:w.heap[b]? = some (.map es clock)) (hok:MapOk es' clock') (hm:MRel P w (Al w0 w σ s.hp) kk vp es'.toList m') :
    RelL P w0 N σ ⟨s.tm,upd s.hp id (.mp kk vp m')⟩ tms { w with heap:=w.heap.setIfInBounds b (.map es' clock') }:=by
  obtain ⟨h1,h2⟩:=heap_set (o':=.map es' clock') hh
  refine h.write (b:=b) (by simp [hσ,blockOf]) (by simp [hb,isFrz]) _ (by simp) rfl rfl rfl h2 (fun hal hheap=>?_)
  exact ⟨b,es',clock',hσ,(block_lt_of_bref (h.blks id) (b:=b) (by simp [hσ,blockOf])).2,h1,hok,hm.mono hheap hal⟩
theorem update_sound {t:TypeId} {x y z:A} {vx vy vz:Value} {hp':Nat→Blk} (h00:tyI P 0=none) (h:RelL P w0 N σ s tms w) (hf:updateA P t s.hp x y z=some hp')
    (hx:ARel P w (Al w0 w σ s.hp) σ vx x) (hy:ARel P w (Al w0 w σ s.hp) σ vy y) (hz:ARel P w (Al w0 w σ s.hp) σ vz z) :
    ∃ w',(Instr.mapUpdate t vx vy vz).run P w = .ok () w'∧RelL P w0 N σ ⟨s.tm,hp'⟩ tms w':=by
  unfold updateA at hf
  split at hf
  · rename_i kk e E id ky k hm
    obtain ⟨kt,d,hu,hkd,hE,hko⟩:=mapE_spec hm
    split at hf
    · rename_i hkk;subst hkk
      split at hf
      · rename_i kk' vp m hb
        split at hf
        · rename_i hk';subst hk'
          split at hf
          · rename_i hvp
            split at hf
            · rename_i c hc
              simp only [Option.some.injEq] at hf;subst hf
              have hids:=fitArg_rows hc
              obtain ⟨al1,al2⟩:=al_freeze h _ hids
              have hF:=h.freezeAll ((cellsA z).flatMap frozenIds)
              have hvz:ArgRel P w (Al w0 w σ (freezeAll s.hp ((cellsA z).flatMap frozenIds))) vp vz c:=fitArg_sound h00 h al1 hc hz al2
              have hkv:RepC P w (Al w0 w σ (freezeAll s.hp ((cellsA z).flatMap frozenIds))) kk' vy k:=hy.c_inv.mono (fun _ _=>rfl) al1
              have hnid:freezeAll s.hp ((cellsA z).flatMap frozenIds) id = .mp kk' vp m:=by
                rw [freezeAll_at,hb];split <;> rfl
              have hB:=hF.blks id
              rw [show S.hp ⟨s.tm,freezeAll s.hp ((cellsA z).flatMap frozenIds)⟩ id = .mp kk' vp m from hnid] at hB
              obtain ⟨b,es,clock,hσ,hBn,hh,hok,hmr⟩:=hB
              obtain rfl:=mref_inv hx hσ
              obtain ⟨hik,_,_⟩:=key_same hko hkv hkv
              rcases find_rel hko hkv 0 hmr with ⟨a1,a2,a3,_⟩ | ⟨j,e',c0,a1,a2,a3,a4,a5,a6,_⟩
              · refine ⟨{ w with heap:=w.heap.setIfInBounds b (.map (es.push { key:=vy,val:=vz,born:=clock }) (clock+1)) },?_,?_⟩
                · simp [Instr.mapUpdate,run_underlying hu,MapKept.run_getObj_map hh,MapKept.run_checkKey hkd hik,MapKept.run_findKey hkd a1,MapKept.run_setObj_map _ hh,Result.andThen]
                · rw [a3]
                  refine map_write hF hnid hσ hh (hok.push vy vz) ?_
                  rw [Array.toList_push]
                  exact MRel.append (e:={ key:=vy,val:=vz,born:=clock }) hkv hvz hmr
              · have hj:es[j]? = some e':=by simpa using a2
                refine ⟨{ w with heap:=w.heap.setIfInBounds b (.map (es.modify (0+j) fun e=>{ e with key:=vy,val:=vz }) clock) },?_,?_⟩
                · simp [Instr.mapUpdate,run_underlying hu,MapKept.run_getObj_map hh,MapKept.run_checkKey hkd hik,MapKept.run_findKey hkd a1,hj,a3,MapKept.run_keyThatStays hik,MapKept.run_setObj_map _ hh,Result.andThen]
                · rw [a6]
                  refine map_write hF hnid hσ hh (hok.modify _ vy vz) ?_
                  rw [Nat.zero_add,Array.toList_modify]
                  exact MRel.set (f:=fun e=>{ e with key:=vy,val:=vz }) (fun _=>hkv) (fun _=>hvz) j hmr
            · cases hf
          · cases hf
        · cases hf
      · cases hf
    · cases hf
  · cases hf
theorem delete_sound {t ty:TypeId} {x y:A} {vx vy:Value} {hp':Nat→Blk} (h:RelL P w0 N σ s tms w) (hf:deleteA P t s.hp x y=some hp')
    (hx:ARel P w (Al w0 w σ s.hp) σ vx x) (hy:ARel P w (Al w0 w σ s.hp) σ vy y) (ats:Array TypeId) (hat:ats[0]? = some t) :
    ∃ w',(Builtin.delete_ ats ty #[vx,vy]).run P w = .ok (.tuple #[]) w'∧RelL P w0 N σ ⟨s.tm,hp'⟩ tms w':=by
  unfold deleteA at hf
  split at hf
  · rename_i kk e E id ky k hm
    obtain ⟨kt,d,hu,hkd,hE,hko⟩:=mapE_spec hm
    split at hf
    · rename_i hkk;subst hkk
      split at hf
      · rename_i kk' vp m hb
        split at hf
        · rename_i hk';subst hk'
          simp only [Option.some.injEq] at hf;subst hf
          have hkv:=hy.c_inv
          have hB:=h.blks id
          rw [hb] at hB
          obtain ⟨b,es,clock,hσ,hBn,hh,hok,hmr⟩:=hB
          obtain rfl:=mref_inv hx hσ
          obtain ⟨hik,_,_⟩:=key_same hko hkv hkv
          rcases find_rel hko hkv 0 hmr with ⟨a1,a2,a3,a4⟩ | ⟨j,e',c0,a1,a2,a3,a4,a5,a6,a7⟩
          · refine ⟨{ w with heap:=w.heap.setIfInBounds b (.map es clock) },?_,?_⟩
            · simp [Builtin.delete_,hat,run_underlying hu,MapKept.run_getObj_map hh,MapKept.run_checkKey hkd hik,MapKept.run_findKey hkd a1,MapKept.run_setObj_map _ hh,Result.andThen]
            · rw [a4];exact map_write h hb hσ hh hok hmr
          · refine ⟨{ w with heap:=w.heap.setIfInBounds b (.map (es.eraseIdxIfInBounds (0+j)) clock) },?_,?_⟩
            · simp [Builtin.delete_,hat,run_underlying hu,MapKept.run_getObj_map hh,MapKept.run_checkKey hkd hik,MapKept.run_findKey hkd a1,MapKept.run_setObj_map _ hh,Result.andThen]
            · rw [a7]
              refine map_write h hb hσ hh (hok.erase _) ?_
              have hj:j < es.size:=by
                have:=(List.getElem?_eq_some_iff.1 a2).1;simpa using this
              have e1:(es.eraseIdxIfInBounds (0+j)).toList=es.toList.eraseIdx j:=by
                rw [Nat.zero_add]
                unfold Array.eraseIdxIfInBounds
                rw [dif_pos hj];simp
              rw [e1];exact MRel.erase j hmr
        · cases hf
      · cases hf
    · cases hf
  · cases hf
end Go.AE
