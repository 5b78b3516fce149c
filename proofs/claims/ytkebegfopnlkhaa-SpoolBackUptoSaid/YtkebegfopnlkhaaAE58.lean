/- Text. -/
import Derived.Test.YtkebegfopnlkhaaAE44
import Derived.Test.YtkebegfopnlkhaaAE41
import Derived.Test.YtkebegfopnlkhaaAE11B
import Derived.Test.YtkebegfopnlkhaaAE33
import Derived.Test.YtkebegfopnlkhaaAE25
set_option linter.unusedSimpArgs false
set_option linter.unusedVariables false
set_option linter.unusedVariables false
namespace Go.AE
open Go.RowKit (Below)
variable {P:Program} {w0:Base} {w:World} {N kp:Nat} {σ:Nat→RefI} {s:S} {tms:Array Value} {ρ:Operand→Value} {al:Nat→Prop} {Γ:List Fn}
theorem cell_cells {a:Addr} {v:Value} (h:w.cell? a=some v):∃ vs t z,w.heap[a.block]? = some (.cells vs t z):=by
  unfold World.cell? at h
  cases ho:w.heap[a.block]? with
  | none=>simp [ho] at h
  | some o=>cases o <;> simp_all
def CellsAt (w:World) (b:Nat):Prop:=∃ vs t z,w.heap[b]? = some (.cells vs t z)
theorem RepC.cells {k:Kd} {v:Value} {x:C} (h:RepC P w al k v x):RepC P w (fun b=>al b∧CellsAt w b) k v x:=by
  induction h with
  | bool x=>exact .bool x
  | int k x h=>exact .int k x h
  | str x h=>exact .str x h
  | empty t x a cap h hz=>exact .empty t x a cap h hz
  | slice t x b off cap hz E hE hal hlen hcap hel f hcell hrep ih =>
    by_cases he:x.toSl=[]
    · have:=RepC.empty (P:=P) (w:=w) (Al:=fun b=>al b∧CellsAt w b) t x (some ⟨b,off,none⟩) cap he (fun e=>absurd e hz)
      simpa [he] using this
    · have h0:0 < x.toSl.length:=List.length_pos_iff.2 he
      obtain ⟨SE⟩:=tyI_spec hE
      exact .slice t x b off cap hz E hE ⟨hal,cell_cells (cellN_cell (hcell 0 h0 0 (List.length_pos_iff.2 SE.ne)))⟩ hlen hcap hel f hcell ih
  | arr t x vs n e E hA hn hl hel hrep ih=>exact .arr t x vs n e E hA hn hl hel ih
  | ptr t v x=>exact .ptr t v x
  | other v x=>exact .other v x
def deadHp:Nat→Blk:=fun _=>.dead
def deadσ:Nat→RefI:=fun _=>.dead
def auxB (w:World) (Q:Nat→Prop):Base:=⟨w,Q,fun _=>False,deadσ,noMk,0⟩
theorem RelL.aux {Q:Nat→Prop} (h:RelL P w0 N σ s tms w):RelL P (auxB w Q) N deadσ ⟨unkT,deadHp⟩ tms w :=
  ⟨BelowX.refl _ _ _,h.size,fun _=>.unk _,fun _=>rfl,fun id id' b hb=>by simp [deadσ,blockOf] at hb,fun id h=>absurd rfl h,⟨Nat.zero_le _,fun k o h=>by simp [auxB,noMk] at h⟩⟩
theorem aux_al {Q:Nat→Prop} {b:Nat} (h:Al (auxB w Q) w deadσ deadHp b):Q b:=by
  rcases h.2.2 with h1 | h1
  · rcases h1 with h1 | h1
    · have:=h.1;simp only [auxB,Base.n] at h1;omega
    · exact h1.elim
  · exact h1
theorem al_aux {Q:Nat→Prop} {b:Nat} (hb:b < w.heap.size) (h:Q b):Al (auxB w Q) w deadσ deadHp b:=⟨hb,fun id hi=>by simp [deadσ,blockOf] at hi,.inr h⟩
def regId:A→Option Nat
  | .rg id _ _=>some id
  | .rp id _ _ _=>some id
  | _=>none
def meltA:A→A
  | .rg _ k x=>.c k x
  | .rp _ ks cells off=>.pp ks cells off
  | _=>.unk
mutual
def tagA (r:Nat):A→A
  | .c k x=>if scalarK k then .c k x else .rg r k x
  | .pp ks cells off=>.rp r ks cells off
  | .agg xs=>.agg (tagAs r xs)
  | .nilsl=>.nilsl
  | _=>.unk
def tagAs (r:Nat):List A→List A
  | []=>[]
  | a :: as=>tagA r a :: tagAs r as
end
theorem tagAs_length (r:Nat) (as:List A):(tagAs r as).length=as.length:=by
  induction as with
  | nil=>rfl
  | cons a as ih=>simp [tagAs,ih]
theorem tagAs_getD (r:Nat) (as:List A) (i:Nat):(tagAs r as).getD i .unk=tagA r (as.getD i .unk):=by
  induction as generalizing i with
  | nil=>simp [tagAs,tagA]
  | cons a as ih =>
    cases i with
    | zero=>simp [tagAs]
    | succ i=>simpa [tagAs] using ih i
theorem melt_rel {v:Value} {a:A} {r:Nat} {W:World} {Q:Nat→Prop} (hx:ARel P w al σ v a) (hr:regId a=some r) (hσ:σ r = .reg W Q) (hq:∀ b,Q b→b < w.heap.size) (hw:∀ b,Q b→w.heap[b]? = W.heap[b]?) :
    ARel P w (Al (auxB w Q) w deadσ deadHp) deadσ v (meltA a):=by
  cases hx with
  | rg v id k x W' Q' h h1 =>
    simp only [regId,Option.some.injEq] at hr;subst hr
    rw [hσ] at h;cases h
    exact .c _ _ _ (h1.mono hw (fun b hb=>al_aux (hq b hb) hb))
  | rgGone v id k x h =>
    simp only [regId,Option.some.injEq] at hr;subst hr
    rw [hσ] at h;cases h
  | rp id ks cells off b o W' Q' h hal f hcell hrep =>
    simp only [regId,Option.some.injEq] at hr;subst hr
    rw [hσ] at h;cases h
    refine .pp _ _ _ b o (al_aux (hq b hal) hal) f (fun j hj=>?_) (fun j hj=>(hrep j hj).mono hw (fun b hb=>al_aux (hq b hb) hb))
    rw [← hcell j hj]
    exact cellN_of_block (w:=W) (a:=⟨b,_,none⟩) (hw b hal)
  | rpGone v id ks cells off h =>
    simp only [regId,Option.some.injEq] at hr;subst hr
    rw [hσ] at h;cases h
  | _=>simp [regId] at hr
theorem tag_rel {v:Value} {a:A} {r:Nat} {W:World} {Q:Nat→Prop} (hx:ARel P w (Al (auxB w Q) w deadσ deadHp) deadσ v a) (hσ:σ r = .reg W Q) (hw:∀ b,Q b→w.heap[b]? = W.heap[b]?):ARel P w al σ v (tagA r a):=by
  have hm:∀ {k v x},RepC P w (Al (auxB w Q) w deadσ deadHp) k v x→RepC P W Q k v x:=fun h=>h.mono (fun b hb=>(hw b (aux_al hb)).symm) (fun b hb=>aux_al hb)
  induction hx with
  | c k v x h =>
    simp only [tagA]
    split
    · rename_i hk;exact .c _ _ _ (h.scalar hk)
    · exact .rg _ _ _ _ W Q hσ (hm h)
  | nilsl=>exact .nilsl
  | agg vs xs hl h ih =>
    simp only [tagA]
    refine .agg vs _ (by rw [tagAs_length];exact hl) (fun i hi=>?_)
    rw [tagAs_length] at hi
    rw [tagAs_getD];exact ih i hi
  | pp ks cells off b o hal f hcell hrep =>
    refine .rp _ _ _ _ b o W Q hσ (aux_al hal) f (fun j hj=>?_) (fun j hj=>hm (hrep j hj))
    rw [← hcell j hj]
    exact cellN_of_block (w:=w) (a:=⟨b,_,none⟩) (hw b (aux_al hal)).symm
  | _=>exact .unk _
def intO:Option A→Bool
  | none=>true
  | some (.c (.int _) _)=>true
  | _=>false
theorem bound_aux {al':Nat→Prop} {σ':Nat→RefI} {x:Option Value} {y:Option A} (h:BoundRel P w al σ x y) (hi:intO y=true):BoundRel P w al' σ' x y:=by
  cases x <;> cases y <;> try (first | exact h | exact h.elim)
  rename_i v a
  cases a <;> simp [intO] at hi
  rename_i k c
  cases k <;> simp at hi
  have h:ARel P w al σ v _:=h
  show ARel P w al' σ' v _
  cases h with
  | c _ _ _ h=>exact .c _ _ _ (h.scalar rfl)
def rdR (hp:Nat→Blk) (x:A) (f:A→Option (Prop×A)):Option Out :=
  match regId x with
  | some r=>if isRegB (hp r) then match f (meltA x) with
    | some (p,a)=>some ⟨p,True,tagA r a,hp,true⟩
    | none=>none
    else none
  | none=>none
def opRg (P:Program) (o:Oper) (hp:Nat→Blk) (v:Operand→A):Option Out :=
  match o.op with
  | .load t x=>match tyI P t with
    | some T=>rdR hp (v x) fun a=>loadA T deadHp a
    | none=>none
  | .fieldAddr t x f=>match tyI P t with
    | some T=>rdR hp (v x) fun a=>(fieldA T deadHp f a).map fun z=>(True,z)
    | none=>none
  | .indexAddr t x i=>match slE P t,v i with
    | some (e,E),.c (.int _) n=>rdR hp (v x) fun a=>indexAddrA e E deadHp a n.toInt
    | _,_=>none
  | .slice t x lo hi none=>if intO (lo.map v) && intO (hi.map v) then rdR hp (v x) fun a=>sliceA P t deadHp a (lo.map v) (hi.map v) else none
  | .call c=>match c.callee with
    | .builtin .len=>match c.args.toList,c.argTypes.toList with
      | [x],[t]=>match rdR hp (v x) fun a=>lenA P t deadHp a with
        | some r=>some { r with pre:=True,fact:=r.pre }
        | none=>none
      | _,_=>none
    | _=>none
  | _=>none
theorem rdR_spec {x:A} {f:A→Option (Prop×A)} {r:Out} {v:Value} (h:RelL P w0 N σ s tms w) (hf:rdR s.hp x f=some r) (hx:ARel P w (Al w0 w σ s.hp) σ v x) :
    ∃ (Q:Nat→Prop) (p:Prop) (a z:A),ARel P w (Al (auxB w Q) w deadσ deadHp) deadσ v a∧f a=some (p,z)∧r.pre=p∧r.fact=True∧r.hp=s.hp ∧
      ∀ u,ARel P w (Al (auxB w Q) w deadσ deadHp) deadσ u z→ARel P w (Al w0 w σ s.hp) σ u r.val:=by
  unfold rdR at hf
  split at hf
  · rename_i i hi
    split at hf
    · rename_i hreg
      split at hf
      · rename_i p a ha
        simp only [Option.some.injEq] at hf;subst hf
        obtain ⟨W,Q,h1,h2,h3⟩:=reg_spec h hreg
        exact ⟨Q,p,_,a,melt_rel hx hi h1 h2 h3,ha,rfl,rfl,rfl,fun u hu=>tag_rel hu h1 h3⟩
      · cases hf
    · cases hf
  · cases hf
theorem opRg_sound {o:Oper} {r:Out} {v:Operand→A} (h:RelL P w0 N σ s tms w) (hop:opRg P o s.hp v=some r) (hv:∀ x,x∈o.op.operands→ARel P w (Al w0 w σ s.hp) σ (ρ x) (v x)) (hp:r.pre):OpOk P w0 N s tms o ρ w r:=by
  obtain ⟨dst,op,type,pos,after,guard⟩:=o
  cases op with
  | load t x =>
    simp only [opRg] at hop
    split at hop
    · rename_i T hT
      obtain ⟨Q,p,a,z,h1,h2,h3,h4,h5,h6⟩:=rdR_spec h hop (hv x (by simp [Op.operands]))
      rw [h3] at hp
      obtain ⟨u,hr,hu⟩:=loadA_sound (s:=⟨unkT,deadHp⟩) (h.aux (Q:=Q)) hT h2 hp h1
      exact OpOk.pure h (run_value hr) (by rw [h4];trivial) h5 (h6 u hu)
    · cases hop
  | fieldAddr t x f =>
    simp only [opRg] at hop
    split at hop
    · rename_i T hT
      obtain ⟨Q,p,a,z,h1,h2,h3,h4,h5,h6⟩:=rdR_spec h hop (hv x (by simp [Op.operands]))
      cases hz:fieldA T deadHp f a with
      | none=>rw [hz] at h2;cases h2
      | some z' =>
        rw [hz] at h2
        simp only [Option.map_some,Option.some.injEq,Prod.mk.injEq] at h2
        obtain ⟨_,rfl⟩:=h2
        obtain ⟨u,hr,hu⟩:=fieldA_sound (s:=⟨unkT,deadHp⟩) (h.aux (Q:=Q)) hT hz h1
        exact OpOk.pure h (run_value hr) (by rw [h4];trivial) h5 (h6 u hu)
    · cases hop
  | indexAddr t x i =>
    simp only [opRg] at hop
    split at hop
    · rename_i e E k n hs hvi
      obtain ⟨Q,p,a,z,h1,h2,h3,h4,h5,h6⟩:=rdR_spec h hop (hv x (by simp [Op.operands]))
      rw [h3] at hp
      have hi:=hv i (by simp [Op.operands])
      rw [hvi] at hi
      obtain ⟨hie,_⟩:=hi.int_inv
      obtain ⟨u,hr,hu⟩:=indexAddr_sound (s:=⟨unkT,deadHp⟩) (k:=k) (h.aux (Q:=Q)) hs h2 hp h1
      rw [← hie] at hr
      exact OpOk.pure h (run_value hr) (by rw [h4];trivial) h5 (h6 u hu)
    · cases hop
  | slice t x lo hi mx =>
    cases mx with
    | some m=>simp [opRg] at hop
    | none =>
      simp only [opRg] at hop
      split at hop
      · rename_i hb
        simp only [Bool.and_eq_true] at hb
        obtain ⟨Q,p,a,z,h1,h2,h3,h4,h5,h6⟩:=rdR_spec h hop (hv x (by simp [Op.operands]))
        rw [h3] at hp
        have hlo:BoundRel P w (Al w0 w σ s.hp) σ (lo.map ρ) (lo.map v):=by
          cases lo with
          | none=>trivial
          | some l=>exact hv l (by simp [Op.operands])
        have hhi:BoundRel P w (Al w0 w σ s.hp) σ (hi.map ρ) (hi.map v):=by
          cases hi with
          | none=>trivial
          | some l=>exact hv l (by simp [Op.operands])
        obtain ⟨u,hr,hu⟩:=sliceA_sound (s:=⟨unkT,deadHp⟩) (h.aux (Q:=Q)) h2 hp h1 (bound_aux hlo hb.1) (bound_aux hhi hb.2)
        exact OpOk.pure h (run_value hr) (by rw [h4];trivial) h5 (h6 u hu)
      · cases hop
  | call c =>
    simp only [opRg] at hop
    split at hop
    · rename_i hcal
      split at hop
      · rename_i x t hax hat
        split at hop
        · rename_i r0 hr0
          simp only [Option.some.injEq] at hop;subst hop
          obtain ⟨callee,args,argTypes⟩:=c
          simp only at hcal hax hat
          subst hcal
          have e1:=array_of_toList hax
          have e2:=array_of_toList hat
          subst e1 e2
          obtain ⟨Q,p,a,z,h1,h2,h3,h4,h5,h6⟩:=rdR_spec h hr0 (hv x (by simp [Op.operands,Call.operands]))
          obtain ⟨hpp,u,hr,hu⟩:=lenA_sound (s:=⟨unkT,deadHp⟩) (h.aux (Q:=Q)) h2 h1 type
          refine OpOk.pure h (run_value (x:=Builtin.len_ #[t] type (#[x].map ρ)) ?_) (by show r0.pre;rw [h3];exact hpp) h5 (h6 u hu)
          simpa using hr
        · cases hop
      · cases hop
    · cases hop
  | _=>simp [opRg] at hop
def stepRg (P:Program) (o:Oper) (s:S) (K:S→Prop):Prop :=
  match o.guard with
  | none=>match opRg P o s.hp (plainTm s.tm) with
    | some r=>allNeeds s.tm o.op.operands.toList∧r.pre∧(r.fact→K ⟨updD s.tm o.dst r.val,r.hp⟩)
    | none=>False
  | some _=>False
theorem stepRg_ok:StepSound P (stepRg P):=by
  intro N ops o s K hok h
  unfold stepRg at h
  split at h
  · rename_i hg
    split at h
    · rename_i r hop
      obtain ⟨hn,hp,hK⟩:=h
      obtain ⟨_,ho⟩:=operOk_spec hok
      exact stepOk_of hg hok r (fun w0 a w σ hR=>opRg_sound hR hop (fun x hx=>plain_sound hR (ho x hx) (allNeeds_spec hn x (Array.mem_toList_iff.2 hx))) hp) hK
    · exact h.elim
  · exact h.elim
def regVals:List Kd→List C→Nat→List A
  | [],_,_=>[]
  | k :: ks,cells,j=>(if scalarK k then .c k (nrm k (cg cells j)) else .rg 0 k (nrm k (cg cells j))) :: regVals ks cells (j+1)
def regArg (p:Bool×List Kd) (xs:List C):A:=pack p.1 (regVals p.2 xs 0)
def regArg1 (p:Bool×List Kd) (c:List C):Arg:=if p.2.all scalarK then .dat p c else .ref (regArg p c)
def regArgs:List (Bool×List Kd)→List (List C)→List Arg
  | p :: ps,c :: cs=>regArg1 p c :: regArgs ps cs
  | _,_=>[]
mutual
def tagV (r:Nat) (hp:Nat→Blk):A→A
  | .c k x=>if scalarK k then .c k x else .rg r k x
  | .agg xs=>.agg (tagVs r hp xs)
  | .nilsl=>.nilsl
  | .own id ks off len=>match hp id with
    | .row t es=>.rg r (.slice t) (.slice ((es.drop off).take len))
    | .frz t es=>.rg r (.slice t) (.slice ((es.drop off).take len))
    | _=>.unk
  | _=>.unk
def tagVs (r:Nat) (hp:Nat→Blk):List A→List A
  | []=>[]
  | a :: as=>tagV r hp a :: tagVs r hp as
end
theorem regVals_length:∀ (ks:List Kd) (cs:List C) (j:Nat),(regVals ks cs j).length=ks.length
  | [],_,_=>rfl
  | k :: ks,cs,j=>by simp [regVals,regVals_length ks cs (j+1)]
theorem regVals_getD:∀ (ks:List Kd) (cs:List C) (j i:Nat),i < ks.length→(regVals ks cs j).getD i .unk=if scalarK (ks.getD i .other) then .c (ks.getD i .other) (nrm (ks.getD i .other) (cg cs (j+i))) else .rg 0 (ks.getD i .other) (nrm (ks.getD i .other) (cg cs (j+i)))
  | [],_,_,i,hi=>by simp at hi
  | k :: ks,cs,j,0,_=>by simp [regVals]
  | k :: ks,cs,j,i+1,hi=>by
    have:=regVals_getD ks cs (j+1) i (by simpa using hi)
    simp only [regVals,List.getD_cons_succ]
    rw [this,show j+1+i=j+(i+1) by omega]
theorem regArgs_getD:∀ (ps:List (Bool×List Kd)) (cs:List (List C)) (i:Nat),cs.length=ps.length→i < ps.length→(regArgs ps cs).getD i (.ref .unk)=regArg1 (ps.getD i (false,[])) (cs.getD i [])
  | [],_,i,_,hi=>by simp at hi
  | _ :: _,[],i,h,_=>by simp at h
  | p :: ps,c :: cs,0,_,_=>by simp [regArgs]
  | p :: ps,c :: cs,i+1,h,hi=>by simpa [regArgs] using regArgs_getD ps cs i (by simpa using h) (by simpa using hi)
theorem regArgs_length:∀ (ps:List (Bool×List Kd)) (cs:List (List C)),cs.length=ps.length→(regArgs ps cs).length=ps.length
  | [],[],_=>rfl
  | [],_ :: _,h=>by simp at h
  | _ :: _,[],h=>by simp at h
  | p :: ps,c :: cs,h=>by simp [regArgs,regArgs_length ps cs (by simpa using h)]
theorem regArg_rel {p:Bool×List Kd} {v:Value} {c:List C} {Q:Nat→Prop} {al':Nat→Prop} {σ0:Nat→RefI} (h:ArgRel P w al p v c) (hσ:σ0 0 = .reg w Q) (hq:∀ {k v x},RepC P w al k v x→RepC P w Q k v x):ARel P w al' σ0 v (regArg p c):=by
  have one:∀ {k v x},RepC P w al k v x→ARel P w al' σ0 v (if scalarK k then .c k (nrm k x) else .rg 0 k (nrm k x)):=by
    intro k v x h
    split
    · rename_i hk;exact .c _ _ _ (h.nrm.scalar hk)
    · exact .rg _ _ _ _ w Q hσ (hq h.nrm)
  obtain ⟨agg,ks⟩:=p
  cases agg with
  | true =>
    obtain ⟨us,rfl,hl,_,hr⟩:=h
    simp only [regArg,pack,if_true]
    refine .agg us _ (by rw [regVals_length];exact hl) (fun i hi=>?_)
    rw [regVals_length] at hi
    rw [regVals_getD _ _ _ _ hi,Nat.zero_add]
    exact one (hr i hi)
  | false =>
    obtain ⟨hk,hc,hr⟩:=h
    simp only [regArg,pack,Bool.false_eq_true,if_false]
    cases ks with
    | nil=>simp at hk
    | cons k ks=>simpa [regVals] using one hr
structure FCall (P:Program) (g:FuncId) (acts:List A) (hp:Nat→Blk) (r:Nat) (val:A) (hp':Nat→Blk):Prop where
  ex:∃ ps css as res hs',CallsM P g as [.reg] res (.reg :: hs')∧fitArgs hp ps acts=some css∧as=regArgs ps css∧isDead (hp r)=true∧val=unTup (tagVs r (rowsHp (.reg :: hs')) res)∧hp'=upd (freezeAll hp (idsOf acts)) r .reg
end Go.AE
/-
  A call whose results become a region: the rule of a printed proof.
-/
set_option linter.unusedVariables false
namespace Go.AE
variable {P:Program} {N kp:Nat} {s s':S} {Γ:List Fn} {g:Option Nat} {o:Oper} {os:List (Option Nat×Oper)} {K:S→Prop}
end Go.AE
/-
  Regions whose plain cells are written: what stays is where their data lie.
-/
set_option linter.unusedVariables false
namespace Go.AE
open Go.RowKit (Below)
variable {P:Program} {w0:Base} {w:World} {N kp:Nat} {σ:Nat→RefI} {s:S} {tms:Array Value} {ρ:Operand→Value} {al:Nat→Prop} {Γ:List Fn}
def isW:Blk→Bool
  | .reg=>true
  | .wob=>true
  | _=>false
def scalPre:List Kd→List A→Bool
  | [],[]=>true
  | k :: ks,.c k' _ :: as=>scalarK k && (k == k') && scalPre ks as
  | _,_=>false
def opW (P:Program) (o:Oper) (hp:Nat→Blk) (v:Operand→A):Option Out :=
  match o.op with
  | .indexAddr t x i=>match slE P t,v x,v i with
    | some (e,E),.rg r (.slice t') c,.c (.int _) n=>if isW (hp r) && (t' == e) then some ⟨0≤n.toInt∧n.toInt < (c.toSl.length:Int),True,.rp r E.kinds (eg c.toSl n.toInt.toNat) 0,hp,true⟩ else none
    | _,_,_=>none
  | .fieldAddr t x f=>match tyI P t,v x with
    | some T,.rp r ks cells off=>if isW (hp r) then (T.fields[f]?).map fun p=>⟨True,True,.rp r (ks.drop p.1) cells (off+p.1),hp,true⟩ else none
    | _,_=>none
  | .load t x=>match slE P t,v x with
    | some (e,_),.rp r ks cells off=>if isW (hp r) && (ks.headD .other == .slice e) then some ⟨True,True,.rg r (.slice e) (nrm (.slice e) (cg cells off)),hp,true⟩ else none
    | _,_=>none
  | .call c=>match c.callee with
    | .builtin .len=>match c.args.toList,c.argTypes.toList with
      | [x],[t]=>match v x,(slE P t).isSome with
        | .rg r (.slice _) cc,true=>if isW (hp r) then some ⟨True,(cc.toSl.length:Int)≤140737488355328,ki .i64 cc.toSl.length,hp,true⟩ else none
        | _,_=>none
      | _,_=>none
    | _=>none
  | .store t x y=>match tyI P t,v x with
    | some T,.rp r ks cells off=>if isW (hp r) && (scalPre (ks.take T.kinds.length) (cellsA (v y)) && (decide (T.kinds.length≤ks.length))) then some ⟨True,True,.unk,upd hp r .wob,false⟩ else none
    | _,_=>none
  | _=>none
theorem SimV.trans {a b c:Value} (h1:SimV a b) (h2:SimV b c):SimV a c:=by
  rcases h1 with rfl | ⟨x,y,rfl,rfl⟩ | ⟨k,n,m,rfl,rfl,hr⟩ | ⟨x,y,rfl,rfl,hs⟩
  · exact h2
  · rcases h2 with rfl | ⟨x',y',e,rfl⟩ | ⟨_,_,_,e,_⟩ | ⟨_,_,e,_⟩
    · exact .inr (.inl ⟨_,_,rfl,rfl⟩)
    · exact .inr (.inl ⟨_,_,rfl,rfl⟩)
    · cases e
    · cases e
  · rcases h2 with rfl | ⟨x',y',e,_⟩ | ⟨k',n',m',e,rfl,_⟩ | ⟨_,_,e,_⟩
    · exact .inr (.inr (.inl ⟨_,_,_,rfl,rfl,hr⟩))
    · cases e
    · cases e;exact .inr (.inr (.inl ⟨_,_,_,rfl,rfl,hr⟩))
    · cases e
  · rcases h2 with rfl | ⟨x',y',e,_⟩ | ⟨k',n',m',e,_,_⟩ | ⟨_,_,e,rfl,_⟩
    · exact .inr (.inr (.inr ⟨_,_,rfl,rfl,hs⟩))
    · cases e
    · cases e
    · cases e;exact .inr (.inr (.inr ⟨_,_,rfl,rfl,hs⟩))
def stepW (P:Program) (o:Oper) (s:S) (K:S→Prop):Prop :=
  match o.guard with
  | none=>match opW P o s.hp (plainTm s.tm) with
    | some r=>allNeeds s.tm o.op.operands.toList∧r.pre∧(r.fact→K ⟨updD s.tm o.dst r.val,r.hp⟩)
    | none=>False
  | some _=>False
end Go.AE
/-
  All that a state holds becomes one region (for functions that were handed all their data, and that write on them).
-/
set_option linter.unusedVariables false
namespace Go.AE
open Go.RowKit (Below)
variable {P:Program} {w0:Base} {w:World} {N kp:Nat} {σ:Nat→RefI} {s:S} {tms:Array Value} {ρ:Operand→Value} {al:Nat→Prop} {Γ:List Fn} {a b c:Code} {Q:Exit→S→Prop}
mutual
def colA (r:Nat) (hp:Nat→Blk):A→A
  | .c k x=>if scalarK k then .c k x else .rg r k x
  | .agg xs=>.agg (colAs r hp xs)
  | .nilsl=>.nilsl
  | .own id ks off len=>match hp id with
    | .row t es=>.rg r (.slice t) (.slice ((es.drop off).take len))
    | .frz t es=>.rg r (.slice t) (.slice ((es.drop off).take len))
    | _=>.unk
  | .box id off=>match hp id with
    | .box _=>.box id off
    | _=>.unk
  | _=>.unk
def colAs (r:Nat) (hp:Nat→Blk):List A→List A
  | []=>[]
  | a :: as=>colA r hp a :: colAs r hp as
end
def colB (r:Nat) (hp:Nat→Blk):Blk→Blk
  | .row _ _=>.gone
  | .frz _ _=>.gone
  | .box cells=>.box (colAs r hp cells)
  | b=>b
def colHp (r:Nat) (hp:Nat→Blk):Nat→Blk:=fun id=>if id=r then .reg else colB r hp (hp id)
mutual
def rgOnly:A→Bool
  | .c k _=>scalarK k
  | .rg _ _ _=>true
  | .agg xs=>rgOnlys xs
  | .nilsl=>true
  | _=>false
def rgOnlys:List A→Bool
  | []=>true
  | a :: as=>rgOnly a && rgOnlys as
end
theorem rgOnlys_getD:∀ {as:List A},rgOnlys as=true→∀ i,i < as.length→rgOnly (as.getD i .unk)=true
  | [],_,i,hi=>by simp at hi
  | a :: as,h,0,_=>by simp only [rgOnlys,Bool.and_eq_true] at h;simpa using h.1
  | a :: as,h,i+1,hi=>by simp only [rgOnlys,Bool.and_eq_true] at h;simpa using rgOnlys_getD h.2 i (by simpa using hi)
theorem ARel.rgOnly {al':Nat→Prop} {v:Value} {x:A} (h:ARel P w al σ v x) (hx:rgOnly x=true):ARel P w al' σ v x:=by
  induction h with
  | c k v x h=>exact .c _ _ _ (h.scalar (by simpa [Go.AE.rgOnly] using hx))
  | nilsl=>exact .nilsl
  | agg vs xs hl h ih=>exact .agg vs xs hl (fun i hi=>ih i hi (rgOnlys_getD (by simpa [Go.AE.rgOnly] using hx) i hi))
  | rg v id k x W Q h hr=>exact .rg v id k x W Q h hr
  | rgGone v id k x h=>exact .rgGone v id k x h
  | _=>simp [Go.AE.rgOnly] at hx
end Go.AE
/-
  Functions whose results are new: their contracts, out of what they do when all their data are a region.
-/
set_option linter.unusedVariables false
namespace Go.AE
open Go.RowKit (Below)
variable {P:Program} {w0:Base} {w:World} {N kp:Nat} {σ:Nat→RefI} {s:S} {tms:Array Value} {al:Nat→Prop}
theorem contract_R {A R:Type} [Inhabited R] {fid:FuncId} {ps:List (Bool×List Kd)} {dec:List (List C)→A} {enc:A→List (List C)} {F:A→Option R} {res:R→List Go.AE.A} {rows:R→List Blk}
    (henter:∀ args w,(callFunc fid args).run P w = .ok (.enter fid args) w)
    (H:∀ (a:A) (r:R),F a=some r→∃ as res',CallsM P fid as [.reg] res' (.reg :: rows r)∧as=regArgs ps (enc a)∧res'=renMs (· + 1) (res r)∧okMs (rows r).length (res r)=true∧(rows r).all isRow=true) :
    Contract P (mkFn fid ps false dec enc F res rows):=by
  have key:∀ (w:World) (al:Nat→Prop) (vs:List Value) (cs:List (List C)),(∀ b,al b→b < w.heap.size)→vs.length=ps.length→cs.length=ps.length →
      (∀ i,i < ps.length→ArgRel P w al (ps.getD i (false,[])) (vs.getD i undef) (cs.getD i []))→((mkFn fid ps false dec enc F res rows).sem cs).pre →
      Calls P fid vs.toArray w (fun e w'=>∃ v,e = .returned v∧ResRel P w (fun _=>False) w' v ((mkFn fid ps false dec enc F res rows).sem cs)):=by
    intro w al vs cs hal hvl hcl harg hpre
    obtain ⟨hc,hs⟩:=hpre
    obtain ⟨r,hF⟩:=Option.isSome_iff_exists.1 hs
    have e1:(F (dec cs)).getD default=r:=by rw [hF];rfl
    have eres:((mkFn fid ps false dec enc F res rows).sem cs).res=res r:=by simp only [mkFn,e1]
    have erow:((mkFn fid ps false dec enc F res rows).sem cs).rows=rows r:=by simp only [mkFn,e1]
    obtain ⟨as,res',C0,has,hres,hok,hrw⟩:=H (dec cs) r hF
    rw [← hc] at has
    subst has hres
    obtain ⟨Q,hQ⟩:∃ Q:Nat→Prop,Q=fun b=>al b∧CellsAt w b:=⟨_,rfl⟩
    have hQlt:∀ b,Q b→b < w.heap.size:=fun b hb=>by rw [hQ] at hb;exact hal b hb.1
    have hQc:∀ b,Q b→CellsAt w b:=fun b hb=>by rw [hQ] at hb;exact hb.2
    obtain ⟨σ0,hσ0⟩:∃ σ0:Nat→RefI,σ0=fun j=>if j=0 then .reg w Q else .dead:=⟨_,rfl⟩
    have hσ00:σ0 0 = .reg w Q:=by rw [hσ0];rfl
    have hblk0:∀ j b,blockOf (σ0 j) b→j=0∧Q b:=by
      intro j b hb
      rw [hσ0] at hb
      by_cases hj:j=0
      · simp only [hj,if_true,blockOf] at hb;exact ⟨hj,hb⟩
      · simp [hj,blockOf] at hb
    have hargs:∀ i,i < (regArgs ps cs).length→ArgM P w (fun _=>False) σ0 ((regArgs ps cs).getD i (.ref .unk)) (vs.getD i undef):=by
      intro i hi
      rw [regArgs_length _ _ hcl] at hi
      rw [regArgs_getD _ _ _ hcl hi]
      have hA:=harg i hi
      unfold regArg1
      split
      · rename_i hsc
        have hk:=all_getD hsc
        show ArgRel P w _ _ _ _
        unfold ArgRel at hA ⊢
        split
        · rename_i e
          rw [e] at hA
          obtain ⟨us,g1,g2,g3,g4⟩:=hA
          exact ⟨us,g1,g2,g3,fun j hj=>(g4 j hj).scalar (hk j hj)⟩
        · rename_i e
          rw [e] at hA
          exact ⟨hA.1,hA.2.1,hA.2.2.scalar (hk 0 (by have:=hA.1;omega))⟩
      · exact regArg_rel hA hσ00 (fun h=>by rw [hQ];exact h.cells)
    refine (C0.calls w (fun _=>False) σ0 vs (fun b hb=>hb.elim) (fun j=>?_) (fun i j b hi hj=>by rw [(hblk0 i b hi).1,(hblk0 j b hj).1]) (by rw [regArgs_length _ _ hcl];omega) hargs).mono ?_
    · cases j with
      | zero =>
        refine ⟨w,Q,hσ00,fun b hb=>⟨hQlt b hb,?_⟩⟩
        obtain ⟨vs,t,z,h1⟩:=hQc b hb
        exact ⟨vs,t,z,h1,h1⟩
      | succ j =>
        show σ0 (j+1) = .dead
        rw [hσ0];simp
    rintro e w' ⟨v,rfl,hbel,σr,hBr,hinjr,hold,hv⟩
    refine ⟨v,rfl,?_⟩
    obtain ⟨W1,Q1,hr0,hr1⟩:=hBr 0
    have hr0':σr 0 = .reg w Q:=by
      rcases hold 0 (by rw [hσ00];simp) with e | e
      · rw [e,hσ00]
      · rw [hr0] at e;cases e.1
    rw [hr0'] at hr0
    cases hr0
    have hB:Below w.heap.size w w':=⟨hbel.os,hbel.tape,hbel.output,hbel.size,fun k hk=>by
      by_cases hm:muOf σ0 k
      · obtain ⟨j,hj⟩:=hm
        obtain ⟨_,vs,t,z,h1,h2⟩:=hr1 k (hblk0 j k hj).2
        rw [h1,h2]
      · exact hbel.block k hk hm⟩
    have hwr:∀ b,Base.wr ⟨w,fun _=>False,muOf σ0,σ0,noMk,0⟩ b→w.heap.size≤b∨Q b:=by
      rintro b (h1 | ⟨j,hj⟩)
      · exact .inl h1
      · exact .inr (hblk0 j b hj).2
    have hAn:∀ b,Al ⟨w,fun _=>False,muOf σ0,σ0,noMk,0⟩ w' σr (rowsHp (.reg :: rows r)) b→Al (base0 w (fun _=>False)) w' (fun j=>σr (j+1)) (rowsHp (rows r)) b:=by
      intro b hb
      refine ⟨hb.1,fun id hid=>hb.2.1 (id+1) hid,.inl (.inl ?_)⟩
      rcases hb.2.2 with h1 | h1
      · rcases hwr b h1 with h2 | h2
        · exact h2
        · exact (hb.2.1 0 (by rw [hr0'];exact h2)).elim
      · exact h1.elim
    unfold ResRel
    rw [eres,erow]
    refine ⟨hB,fun b hb=>List.all_eq_true.1 hrw b hb,fun j=>σr (j+1),fun j=>?_,fun i j b hi hj=>by have:=hinjr (i+1) (j+1) b hi hj;omega,?_⟩
    · have hb:=hBr (j+1)
      have e:rowsHp (.reg :: rows r) (j+1)=rowsHp (rows r) j:=rfl
      rw [e] at hb
      rcases Nat.lt_or_ge j (rows r).length with hj | hj
      · have e2:rowsHp (rows r) j=(rows r)[j]:=by simp [rowsHp,List.getD_eq_getElem?_getD,hj]
        have hi:=List.all_eq_true.1 hrw _ (List.getElem_mem hj)
        have hren:rowsHp (rows r) j=renB (fun x=>x) (rowsHp (rows r) j):=by
          rw [e2];cases hx:(rows r)[j] <;> rw [hx] at hi <;> simp [isRow] at hi;rfl
        rw [hren] at hb
        refine hb.unren (m:=fun x=>x) (k:=0) (j:=j) (id:=j+1) (σ0:=fun j=>σr (j+1)) ?_ (fun b hbo hw=>?_) hAn rfl (fun i hi=>by omega)
        · rw [e2];cases hx:(rows r)[j] <;> rw [hx] at hi <;> simp [isRow] at hi;rfl
        · rcases hwr b hw with h2 | h2
          · exact .inl h2
          · have:=hinjr (j+1) 0 b hbo (by rw [hr0'];exact h2)
            omega
      · have e2:rowsHp (rows r) j = .dead:=by simp [rowsHp,List.getD_eq_getElem?_getD,List.getElem?_eq_none hj]
        rw [e2] at hb ⊢;exact hb
    · -- the results
      have one:∀ {v:Value} {a:Go.AE.A},okM (rows r).length a=true→ARel P w' (Al ⟨w,fun _=>False,muOf σ0,σ0,noMk,0⟩ w' σr (rowsHp (.reg :: rows r))) σr v (renM (· + 1) a)→ARel P w' (Al (base0 w (fun _=>False)) w' (fun j=>σr (j+1)) (rowsHp (rows r))) (fun j=>σr (j+1)) v a :=
        fun ho h=>(renM_inv h (σ0:=fun j=>σr (j+1)) (m:=(· + 1)) (k:=(rows r).length) (fun j _=>rfl) _ rfl ho).mono (fun _ _=>rfl) hAn (fun _ _=>.inl rfl)
      have tup:∀ as:List Go.AE.A,okMs (rows r).length as=true→ARel P w' (Al ⟨w,fun _=>False,muOf σ0,σ0,noMk,0⟩ w' σr (rowsHp (.reg :: rows r))) σr v (.tup (renMs (· + 1) as))→ARel P w' (Al (base0 w (fun _=>False)) w' (fun j=>σr (j+1)) (rowsHp (rows r))) (fun j=>σr (j+1)) v (.tup as):=by
        intro as ho h
        cases h with
        | tup us _ hl hh =>
          rw [renMs_length] at hl
          refine .tup us _ hl (fun i hi=>one (okMs_getD ho i) ?_)
          have:=hh i (by rw [renMs_length];exact hi)
          rw [renMs_getD] at this;exact this
      generalize res r=as at hok hv
      cases as with
      | nil=>exact tup [] hok hv
      | cons a as =>
        cases as with
        | nil=>simp only [okMs,Bool.and_true] at hok;exact one hok hv
        | cons b as=>exact tup (a :: b :: as) hok hv
  refine ⟨henter,fun _=>key,fun w al vs cs h1 h2 h3 h4 h5=>(key w al vs cs h1 h2 h3 h4 h5).mono ?_⟩
  rintro e w' ⟨v,e1,hB,hrow,σr,hBr,hinj,hv⟩
  have ha:∀ b,Al (base0 w (fun _=>False)) w' σr (rowsHp ((mkFn fid ps false dec enc F res rows).sem cs).rows) b→Al (base0 w al) w' σr (rowsHp ((mkFn fid ps false dec enc F res rows).sem cs).rows) b:=by
    intro b hb
    refine ⟨hb.1,hb.2.1,?_⟩
    rcases hb.2.2 with h6 | h6
    · exact .inl h6
    · exact h6.elim
  refine ⟨v,e1,hB,hrow,σr,fun j=>?_,hinj,hv.mono (fun _ _=>rfl) ha (fun _ _=>.inl rfl)⟩
  have hb:=hBr j
  rcases Nat.lt_or_ge j ((mkFn fid ps false dec enc F res rows).sem cs).rows.length with hj | hj
  · have e:rowsHp ((mkFn fid ps false dec enc F res rows).sem cs).rows j=((mkFn fid ps false dec enc F res rows).sem cs).rows[j]:=by simp [rowsHp,List.getD_eq_getElem?_getD,hj]
    have hi:=hrow _ (List.getElem_mem hj)
    rw [e] at hb ⊢
    cases hx:((mkFn fid ps false dec enc F res rows).sem cs).rows[j] <;> rw [hx] at hi hb <;> simp [isRow] at hi
    exact RowRel.weaken hb (fun b hb=>hb) (.inl ha)
  · have e:rowsHp ((mkFn fid ps false dec enc F res rows).sem cs).rows j = .dead:=by simp [rowsHp,List.getD_eq_getElem?_getD,List.getElem?_eq_none hj]
    rw [e] at hb ⊢;exact hb
end Go.AE
/-
  A slice built of what lies in a region: with its own block, it is a region again.
-/
set_option linter.unusedVariables false
namespace Go.AE
open Go.RowKit (Below)
variable {P:Program} {w0:Base} {w:World} {N kp:Nat} {σ:Nat→RefI} {s:S} {tms:Array Value} {ρ:Operand→Value} {al:Nat→Prop}
mutual
def meltD (r:Nat):A→A
  | .c k x=>if scalarK k then .c k x else .unk
  | .rg id k x=>if id == r then .c k x else .unk
  | .agg xs=>.agg (meltDs r xs)
  | .nilsl=>.nilsl
  | _=>.unk
def meltDs (r:Nat):List A→List A
  | []=>[]
  | a :: as=>meltD r a :: meltDs r as
end
end Go.AE
/-
  A slice of pointers to boxes' cells: measured, indexed at a known place.
-/
set_option linter.unusedVariables false
namespace Go.AE
open Go.RowKit (Below)
variable {P:Program} {w0:Base} {w:World} {N kp:Nat} {σ:Nat→RefI} {s:S} {tms:Array Value} {ρ:Operand→Value} {al:Nat→Prop}
end Go.AE
/-
  Slices that are known to be nil, within a made row; a row's cell that is lent while it is nil.
-/
set_option linter.unusedVariables false
namespace Go.AE
open Go.RowKit (Below)
variable {P:Program} {w0:Base} {w:World} {N kp:Nat} {σ:Nat→RefI} {s:S} {tms:Array Value} {ρ:Operand→Value} {al:Nat→Prop}
end Go.AE
/-
  Zero bytes appended to a row of the caller's own ('append(b, make([]byte, n)...)').
-/
set_option linter.unusedVariables false
set_option linter.unusedSimpArgs false
namespace Go.AE
open Go.RowKit (Below)
variable {P:Program} {w0:Base} {w:World} {N kp:Nat} {σ:Nat→RefI} {s:S} {tms:Array Value} {ρ:Operand→Value} {al:Nat→Prop}
end Go.AE
/-
  Regions that draw their order, where one operation waits for all others: it may be of any kind.
-/
set_option linter.unusedVariables false
namespace Go.AE
open Go.RowKit (Below)
variable {P:Program} {w0:Base} {w:World} {N kp:Nat} {s:S} {Γ:List Fn} {R:Nat→Option Bool} {bx:Nat→Foot} {lt:Nat→Bool}
variable {l:List ((Option Bool×Foot)×Option Nat×Oper)}
end Go.AE
/-
  Regions that draw their order: quiet operations first, the rest in every order; some of the rest may be of any kind.
-/
set_option linter.unusedVariables false
namespace Go.AE
open Go.RowKit (Below)
variable {P:Program} {w0:Base} {w:World} {N kp:Nat} {s:S} {Γ:List Fn} {R:Nat→Option Bool} {bx:Nat→Foot} {lt:Nat→Bool}
def marks:List Nat→Array Bool→Array Bool
  | [],l=>l
  | k :: ks,l=>marks ks (l.setIfInBounds k true)
variable {b:Code} {l:List ((Option Bool×Foot)×Option Nat×Oper)}
end Go.AE
/-
  A scalar loaded out of a region that is written on: it is not known. A slice built of what lies in a region, where one other value of that region stays.
-/
set_option linter.unusedVariables false
namespace Go.AE
open Go.RowKit (Below)
variable {P:Program} {w0:Base} {w:World} {N kp:Nat} {σ:Nat→RefI} {s:S} {tms:Array Value} {ρ:Operand→Value} {al:Nat→Prop}
end Go.AE
/-
  A slice built of what lies in a region, where several values of that region stay.
-/
set_option linter.unusedVariables false
namespace Go.AE
open Go.RowKit (Below)
variable {P:Program} {w0:Base} {w:World} {N kp:Nat} {σ:Nat→RefI} {s:S} {tms:Array Value} {ρ:Operand→Value} {al:Nat→Prop}
end Go.AE
/-
  A call whose answer is only known to be data of a kind: its memory is new.
-/
set_option linter.unusedVariables false
namespace Go.AE
open Go.RowKit (Below)
variable {P:Program} {w0:Base} {w:World} {N kp:Nat} {σ:Nat→RefI} {s:S} {tms:Array Value} {ρ:Operand→Value} {al:Nat→Prop}
structure CallsE (P:Program) (f:FuncId) (ps:List (Bool×List Kd)) (pre:List (List C)→Prop) (res:Kd) (ok:C→Prop):Prop where
  enter:∀ args w,(callFunc f args).run P w = .ok (.enter f args) w
  calls:∀ (w:World) (vs:List Value) (cs:List (List C)),vs.length=ps.length→cs.length=ps.length →
    (∀ i,i < ps.length→ArgRel P w (fun b=>b < w.heap.size) (ps.getD i (false,[])) (vs.getD i undef) (cs.getD i []))→pre cs →
    Calls P f vs.toArray w (fun e w'=>∃ v x,e = .returned v∧Below w.heap.size w w'∧ok x∧RepC P w' (fun b=>w.heap.size≤b∧b < w'.heap.size) res v x)
end Go.AE
