/- Text. -/
import Derived.Test.YtkebegfopnlkhaaAE44
import Derived.Test.YtkebegfopnlkhaaAE41
import Derived.Test.YtkebegfopnlkhaaAE11B
import Derived.Test.YtkebegfopnlkhaaAE33
import Derived.Test.YtkebegfopnlkhaaAE25
set_option linter.unusedSimpArgs false
set_option linter.unusedVariables false
set_option linter.unusedVariables false
namespace Go.AE
open Go.RowKit (Below)
variable {P:Program} {w0:Base} {w:World} {N kp:Nat} {σ:Nat→RefI} {s:S} {tms:Array Value} {ρ:Operand→Value} {al:Nat→Prop} {Γ:List Fn}
theorem cell_cells {a:Addr} {v:Value} (h:w.cell? a=some v):∃ vs t z,w.heap[a.block]? = some (.cells vs t z):=by
  unfold World.cell? at h
  cases ho:w.heap[a.block]? with
  | none=>simp [ho] at h
  | some o=>cases o <;> simp_all
def CellsAt (w:World) (b:Nat):Prop:=∃ vs t z,w.heap[b]? = some (.cells vs t z)
theorem RepC.cells {k:Kd} {v:Value} {x:C} (h:RepC P w al k v x):RepC P w (fun b=>al b∧CellsAt w b) k v x:=by
  induction h with
  | bool x=>exact .bool x
  | int k x h=>exact .int k x h
  | str x h=>exact .str x h
  | empty t x a cap h hz=>exact .empty t x a cap h hz
  | slice t x b off cap hz E hE hal hlen hcap hel f hcell hrep ih =>
    by_cases he:x.toSl=[]
    · have:=RepC.empty (P:=P) (w:=w) (Al:=fun b=>al b∧CellsAt w b) t x (some ⟨b,off,none⟩) cap he (fun e=>absurd e hz)
      simpa [he] using this
    · have h0:0 < x.toSl.length:=List.length_pos_iff.2 he
      obtain ⟨SE⟩:=tyI_spec hE
      exact .slice t x b off cap hz E hE ⟨hal,cell_cells (cellN_cell (hcell 0 h0 0 (List.length_pos_iff.2 SE.ne)))⟩ hlen hcap hel f hcell ih
  | arr t x vs n e E hA hn hl hel hrep ih=>exact .arr t x vs n e E hA hn hl hel ih
  | ptr t v x=>exact .ptr t v x
  | other v x=>exact .other v x
def deadHp:Nat→Blk:=fun _=>.dead
def deadσ:Nat→RefI:=fun _=>.dead
def auxB (w:World) (Q:Nat→Prop):Base:=⟨w,Q,fun _=>False,deadσ,noMk,0⟩
theorem RelL.aux {Q:Nat→Prop} (h:RelL P w0 N σ s tms w):RelL P (auxB w Q) N deadσ ⟨unkT,deadHp⟩ tms w :=
  ⟨BelowX.refl _ _ _,h.size,fun _=>.unk _,fun _=>rfl,fun id id' b hb=>by simp [deadσ,blockOf] at hb,fun id h=>absurd rfl h,⟨Nat.zero_le _,fun k o h=>by simp [auxB,noMk] at h⟩⟩
theorem aux_al {Q:Nat→Prop} {b:Nat} (h:Al (auxB w Q) w deadσ deadHp b):Q b:=by
  rcases h.2.2 with h1 | h1
  · rcases h1 with h1 | h1
    · have:=h.1;simp only [auxB,Base.n] at h1;omega
    · exact h1.elim
  · exact h1
theorem al_aux {Q:Nat→Prop} {b:Nat} (hb:b < w.heap.size) (h:Q b):Al (auxB w Q) w deadσ deadHp b:=⟨hb,fun id hi=>by simp [deadσ,blockOf] at hi,.inr h⟩
def regId:A→Option Nat
  | .rg id _ _=>some id
  | .rp id _ _ _=>some id
  | _=>none
def meltA:A→A
  | .rg _ k x=>.c k x
  | .rp _ ks cells off=>.pp ks cells off
  | _=>.unk
mutual
def tagA (r:Nat):A→A
  | .c k x=>if scalarK k then .c k x else .rg r k x
  | .pp ks cells off=>.rp r ks cells off
  | .agg xs=>.agg (tagAs r xs)
  | .nilsl=>.nilsl
  | _=>.unk
def tagAs (r:Nat):List A→List A
  | []=>[]
  | a :: as=>tagA r a :: tagAs r as
end
theorem tagAs_length (r:Nat) (as:List A):(tagAs r as).length=as.length:=by
  induction as with
  | nil=>rfl
  | cons a as ih=>simp [tagAs,ih]
theorem tagAs_getD (r:Nat) (as:List A) (i:Nat):(tagAs r as).getD i .unk=tagA r (as.getD i .unk):=by
  induction as generalizing i with
  | nil=>simp [tagAs,tagA]
  | cons a as ih =>
    cases i with
    | zero=>simp [tagAs]
    | succ i=>simpa [tagAs] using ih i
theorem melt_rel {v:Value} {a:A} {r:Nat} {W:World} {Q:Nat→Prop} (hx:ARel P w al σ v a) (hr:regId a=some r) (hσ:σ r = .reg W Q) (hq:∀ b,Q b→b < w.heap.size) (hw:∀ b,Q b→w.heap[b]? = W.heap[b]?) :
    ARel P w (Al (auxB w Q) w deadσ deadHp) deadσ v (meltA a):=by
  cases hx with
  | rg v id k x W' Q' h h1 =>
    simp only [regId,Option.some.injEq] at hr;subst hr
    rw [hσ] at h;cases h
    exact .c _ _ _ (h1.mono hw (fun b hb=>al_aux (hq b hb) hb))
  | rgGone v id k x h =>
    simp only [regId,Option.some.injEq] at hr;subst hr
    rw [hσ] at h;cases h
  | rp id ks cells off b o W' Q' h hal f hcell hrep =>
    simp only [regId,Option.some.injEq] at hr;subst hr
    rw [hσ] at h;cases h
    refine .pp _ _ _ b o (al_aux (hq b hal) hal) f (fun j hj=>?_) (fun j hj=>(hrep j hj).mono hw (fun b hb=>al_aux (hq b hb) hb))
    rw [← hcell j hj]
    exact cellN_of_block (w:=W) (a:=⟨b,_,none⟩) (hw b hal)
  | rpGone v id ks cells off h =>
    simp only [regId,Option.some.injEq] at hr;subst hr
    rw [hσ] at h;cases h
  | _=>simp [regId] at hr
theorem tag_rel {v:Value} {a:A} {r:Nat} {W:World} {Q:Nat→Prop} (hx:ARel P w (Al (auxB w Q) w deadσ deadHp) deadσ v a) (hσ:σ r = .reg W Q) (hw:∀ b,Q b→w.heap[b]? = W.heap[b]?):ARel P w al σ v (tagA r a):=by
  have hm:∀ {k v x},RepC P w (Al (auxB w Q) w deadσ deadHp) k v x→RepC P W Q k v x:=fun h=>h.mono (fun b hb=>(hw b (aux_al hb)).symm) (fun b hb=>aux_al hb)
  induction hx with
  | c k v x h =>
    simp only [tagA]
    split
    · rename_i hk;exact .c _ _ _ (h.scalar hk)
    · exact .rg _ _ _ _ W Q hσ (hm h)
  | nilsl=>exact .nilsl
  | agg vs xs hl h ih =>
    simp only [tagA]
    refine .agg vs _ (by rw [tagAs_length];exact hl) (fun i hi=>?_)
    rw [tagAs_length] at hi
    rw [tagAs_getD];exact ih i hi
  | pp ks cells off b o hal f hcell hrep =>
    refine .rp _ _ _ _ b o W Q hσ (aux_al hal) f (fun j hj=>?_) (fun j hj=>hm (hrep j hj))
    rw [← hcell j hj]
    exact cellN_of_block (w:=w) (a:=⟨b,_,none⟩) (hw b (aux_al hal)).symm
  | _=>exact .unk _
def intO:Option A→Bool
  | none=>true
  | some (.c (.int _) _)=>true
  | _=>false
theorem bound_aux {al':Nat→Prop} {σ':Nat→RefI} {x:Option Value} {y:Option A} (h:BoundRel P w al σ x y) (hi:intO y=true):BoundRel P w al' σ' x y:=by
  cases x <;> cases y <;> try (first | exact h | exact h.elim)
  rename_i v a
  cases a <;> simp [intO] at hi
  rename_i k c
  cases k <;> simp at hi
  have h:ARel P w al σ v _:=h
  show ARel P w al' σ' v _
  cases h with
  | c _ _ _ h=>exact .c _ _ _ (h.scalar rfl)
def rdR (hp:Nat→Blk) (x:A) (f:A→Option (Prop×A)):Option Out :=
  match regId x with
  | some r=>if isRegB (hp r) then match f (meltA x) with
    | some (p,a)=>some ⟨p,True,tagA r a,hp,true⟩
    | none=>none
    else none
  | none=>none
def opRg (P:Program) (o:Oper) (hp:Nat→Blk) (v:Operand→A):Option Out :=
  match o.op with
  | .load t x=>match tyI P t with
    | some T=>rdR hp (v x) fun a=>loadA T deadHp a
    | none=>none
  | .fieldAddr t x f=>match tyI P t with
    | some T=>rdR hp (v x) fun a=>(fieldA T deadHp f a).map fun z=>(True,z)
    | none=>none
  | .indexAddr t x i=>match slE P t,v i with
    | some (e,E),.c (.int _) n=>rdR hp (v x) fun a=>indexAddrA e E deadHp a n.toInt
    | _,_=>none
  | .slice t x lo hi none=>if intO (lo.map v) && intO (hi.map v) then rdR hp (v x) fun a=>sliceA P t deadHp a (lo.map v) (hi.map v) else none
  | .call c=>match c.callee with
    | .builtin .len=>match c.args.toList,c.argTypes.toList with
      | [x],[t]=>match rdR hp (v x) fun a=>lenA P t deadHp a with
        | some r=>some { r with pre:=True,fact:=r.pre }
        | none=>none
      | _,_=>none
    | _=>none
  | _=>none
theorem rdR_spec {x:A} {f:A→Option (Prop×A)} {r:Out} {v:Value} (h:RelL P w0 N σ s tms w) (hf:rdR s.hp x f=some r) (hx:ARel P w (Al w0 w σ s.hp) σ v x) :
    ∃ (Q:Nat→Prop) (p:Prop) (a z:A),ARel P w (Al (auxB w Q) w deadσ deadHp) deadσ v a∧f a=some (p,z)∧r.pre=p∧r.fact=True∧r.hp=s.hp ∧
      ∀ u,ARel P w (Al (auxB w Q) w deadσ deadHp) deadσ u z→ARel P w (Al w0 w σ s.hp) σ u r.val:=by
  unfold rdR at hf
  split at hf
  · rename_i i hi
    split at hf
    · rename_i hreg
      split at hf
      · rename_i p a ha
        simp only [Option.some.injEq] at hf;subst hf
        obtain ⟨W,Q,h1,h2,h3⟩:=reg_spec h hreg
        exact ⟨Q,p,_,a,melt_rel hx hi h1 h2 h3,ha,rfl,rfl,rfl,fun u hu=>tag_rel hu h1 h3⟩
      · cases hf
    · cases hf
  · cases hf
theorem opRg_sound {o:Oper} {r:Out} {v:Operand→A} (h:RelL P w0 N σ s tms w) (hop:opRg P o s.hp v=some r) (hv:∀ x,x∈o.op.operands→ARel P w (Al w0 w σ s.hp) σ (ρ x) (v x)) (hp:r.pre):OpOk P w0 N s tms o ρ w r:=by
  obtain ⟨dst,op,type,pos,after,guard⟩:=o
  cases op with
  | load t x =>
    simp only [opRg] at hop
    split at hop
    · rename_i T hT
      obtain ⟨Q,p,a,z,h1,h2,h3,h4,h5,h6⟩:=rdR_spec h hop (hv x (by simp [Op.operands]))
      rw [h3] at hp
      obtain ⟨u,hr,hu⟩:=loadA_sound (s:=⟨unkT,deadHp⟩) (h.aux (Q:=Q)) hT h2 hp h1
      exact OpOk.pure h (run_value hr) (by rw [h4];trivial) h5 (h6 u hu)
    · cases hop
  | fieldAddr t x f =>
    simp only [opRg] at hop
    split at hop
    · rename_i T hT
      obtain ⟨Q,p,a,z,h1,h2,h3,h4,h5,h6⟩:=rdR_spec h hop (hv x (by simp [Op.operands]))
      cases hz:fieldA T deadHp f a with
      | none=>rw [hz] at h2;cases h2
      | some z' =>
        rw [hz] at h2
        simp only [Option.map_some,Option.some.injEq,Prod.mk.injEq] at h2
        obtain ⟨_,rfl⟩:=h2
        obtain ⟨u,hr,hu⟩:=fieldA_sound (s:=⟨unkT,deadHp⟩) (h.aux (Q:=Q)) hT hz h1
        exact OpOk.pure h (run_value hr) (by rw [h4];trivial) h5 (h6 u hu)
    · cases hop
  | indexAddr t x i =>
    simp only [opRg] at hop
    split at hop
    · rename_i e E k n hs hvi
      obtain ⟨Q,p,a,z,h1,h2,h3,h4,h5,h6⟩:=rdR_spec h hop (hv x (by simp [Op.operands]))
      rw [h3] at hp
      have hi:=hv i (by simp [Op.operands])
      rw [hvi] at hi
      obtain ⟨hie,_⟩:=hi.int_inv
      obtain ⟨u,hr,hu⟩:=indexAddr_sound (s:=⟨unkT,deadHp⟩) (k:=k) (h.aux (Q:=Q)) hs h2 hp h1
      rw [← hie] at hr
      exact OpOk.pure h (run_value hr) (by rw [h4];trivial) h5 (h6 u hu)
    · cases hop
  | slice t x lo hi mx =>
    cases mx with
    | some m=>simp [opRg] at hop
    | none =>
      simp only [opRg] at hop
      split at hop
      · rename_i hb
        simp only [Bool.and_eq_true] at hb
        obtain ⟨Q,p,a,z,h1,h2,h3,h4,h5,h6⟩:=rdR_spec h hop (hv x (by simp [Op.operands]))
        rw [h3] at hp
        have hlo:BoundRel P w (Al w0 w σ s.hp) σ (lo.map ρ) (lo.map v):=by
          cases lo with
          | none=>trivial
          | some l=>exact hv l (by simp [Op.operands])
        have hhi:BoundRel P w (Al w0 w σ s.hp) σ (hi.map ρ) (hi.map v):=by
          cases hi with
          | none=>trivial
          | some l=>exact hv l (by simp [Op.operands])
        obtain ⟨u,hr,hu⟩:=sliceA_sound (s:=⟨unkT,deadHp⟩) (h.aux (Q:=Q)) h2 hp h1 (bound_aux hlo hb.1) (bound_aux hhi hb.2)
        exact OpOk.pure h (run_value hr) (by rw [h4];trivial) h5 (h6 u hu)
      · cases hop
  | call c =>
    simp only [opRg] at hop
    split at hop
    · rename_i hcal
      split at hop
      · rename_i x t hax hat
        split at hop
        · rename_i r0 hr0
          simp only [Option.some.injEq] at hop;subst hop
          obtain ⟨callee,args,argTypes⟩:=c
          simp only at hcal hax hat
          subst hcal
          have e1:=array_of_toList hax
          have e2:=array_of_toList hat
          subst e1 e2
          obtain ⟨Q,p,a,z,h1,h2,h3,h4,h5,h6⟩:=rdR_spec h hr0 (hv x (by simp [Op.operands,Call.operands]))
          obtain ⟨hpp,u,hr,hu⟩:=lenA_sound (s:=⟨unkT,deadHp⟩) (h.aux (Q:=Q)) h2 h1 type
          refine OpOk.pure h (run_value (x:=Builtin.len_ #[t] type (#[x].map ρ)) ?_) (by show r0.pre;rw [h3];exact hpp) h5 (h6 u hu)
          simpa using hr
        · cases hop
      · cases hop
    · cases hop
  | _=>simp [opRg] at hop
def stepRg (P:Program) (o:Oper) (s:S) (K:S→Prop):Prop :=
  match o.guard with
  | none=>match opRg P o s.hp (plainTm s.tm) with
    | some r=>allNeeds s.tm o.op.operands.toList∧r.pre∧(r.fact→K ⟨updD s.tm o.dst r.val,r.hp⟩)
    | none=>False
  | some _=>False
theorem stepRg_ok:StepSound P (stepRg P):=by
  intro N ops o s K hok h
  unfold stepRg at h
  split at h
  · rename_i hg
    split at h
    · rename_i r hop
      obtain ⟨hn,hp,hK⟩:=h
      obtain ⟨_,ho⟩:=operOk_spec hok
      exact stepOk_of hg hok r (fun w0 a w σ hR=>opRg_sound hR hop (fun x hx=>plain_sound hR (ho x hx) (allNeeds_spec hn x (Array.mem_toList_iff.2 hx))) hp) hK
    · exact h.elim
  · exact h.elim
def regVals:List Kd→List C→Nat→List A
  | [],_,_=>[]
  | k :: ks,cells,j=>(if scalarK k then .c k (nrm k (cg cells j)) else .rg 0 k (nrm k (cg cells j))) :: regVals ks cells (j+1)
def regArg (p:Bool×List Kd) (xs:List C):A:=pack p.1 (regVals p.2 xs 0)
def regArg1 (p:Bool×List Kd) (c:List C):Arg:=if p.2.all scalarK then .dat p c else .ref (regArg p c)
def regArgs:List (Bool×List Kd)→List (List C)→List Arg
  | p :: ps,c :: cs=>regArg1 p c :: regArgs ps cs
  | _,_=>[]
mutual
def tagV (r:Nat) (hp:Nat→Blk):A→A
  | .c k x=>if scalarK k then .c k x else .rg r k x
  | .agg xs=>.agg (tagVs r hp xs)
  | .nilsl=>.nilsl
  | .own id ks off len=>match hp id with
    | .row t es=>.rg r (.slice t) (.slice ((es.drop off).take len))
    | .frz t es=>.rg r (.slice t) (.slice ((es.drop off).take len))
    | _=>.unk
  | _=>.unk
def tagVs (r:Nat) (hp:Nat→Blk):List A→List A
  | []=>[]
  | a :: as=>tagV r hp a :: tagVs r hp as
end
theorem tagVs_length (r:Nat) (hp:Nat→Blk) (as:List A):(tagVs r hp as).length=as.length:=by
  induction as with
  | nil=>rfl
  | cons a as ih=>simp [tagVs,ih]
theorem tagVs_getD (r:Nat) (hp:Nat→Blk) (as:List A) (i:Nat):(tagVs r hp as).getD i .unk=tagV r hp (as.getD i .unk):=by
  induction as generalizing i with
  | nil=>simp [tagVs,tagV]
  | cons a as ih =>
    cases i with
    | zero=>simp [tagVs]
    | succ i=>simpa [tagVs] using ih i
theorem regVals_length:∀ (ks:List Kd) (cs:List C) (j:Nat),(regVals ks cs j).length=ks.length
  | [],_,_=>rfl
  | k :: ks,cs,j=>by simp [regVals,regVals_length ks cs (j+1)]
theorem regVals_getD:∀ (ks:List Kd) (cs:List C) (j i:Nat),i < ks.length→(regVals ks cs j).getD i .unk=if scalarK (ks.getD i .other) then .c (ks.getD i .other) (nrm (ks.getD i .other) (cg cs (j+i))) else .rg 0 (ks.getD i .other) (nrm (ks.getD i .other) (cg cs (j+i)))
  | [],_,_,i,hi=>by simp at hi
  | k :: ks,cs,j,0,_=>by simp [regVals]
  | k :: ks,cs,j,i+1,hi=>by
    have:=regVals_getD ks cs (j+1) i (by simpa using hi)
    simp only [regVals,List.getD_cons_succ]
    rw [this,show j+1+i=j+(i+1) by omega]
theorem regArgs_getD:∀ (ps:List (Bool×List Kd)) (cs:List (List C)) (i:Nat),cs.length=ps.length→i < ps.length→(regArgs ps cs).getD i (.ref .unk)=regArg1 (ps.getD i (false,[])) (cs.getD i [])
  | [],_,i,_,hi=>by simp at hi
  | _ :: _,[],i,h,_=>by simp at h
  | p :: ps,c :: cs,0,_,_=>by simp [regArgs]
  | p :: ps,c :: cs,i+1,h,hi=>by simpa [regArgs] using regArgs_getD ps cs i (by simpa using h) (by simpa using hi)
theorem regArgs_length:∀ (ps:List (Bool×List Kd)) (cs:List (List C)),cs.length=ps.length→(regArgs ps cs).length=ps.length
  | [],[],_=>rfl
  | [],_ :: _,h=>by simp at h
  | _ :: _,[],h=>by simp at h
  | p :: ps,c :: cs,h=>by simp [regArgs,regArgs_length ps cs (by simpa using h)]
theorem regArg_rel {p:Bool×List Kd} {v:Value} {c:List C} {Q:Nat→Prop} {al':Nat→Prop} {σ0:Nat→RefI} (h:ArgRel P w al p v c) (hσ:σ0 0 = .reg w Q) (hq:∀ {k v x},RepC P w al k v x→RepC P w Q k v x):ARel P w al' σ0 v (regArg p c):=by
  have one:∀ {k v x},RepC P w al k v x→ARel P w al' σ0 v (if scalarK k then .c k (nrm k x) else .rg 0 k (nrm k x)):=by
    intro k v x h
    split
    · rename_i hk;exact .c _ _ _ (h.nrm.scalar hk)
    · exact .rg _ _ _ _ w Q hσ (hq h.nrm)
  obtain ⟨agg,ks⟩:=p
  cases agg with
  | true =>
    obtain ⟨us,rfl,hl,_,hr⟩:=h
    simp only [regArg,pack,if_true]
    refine .agg us _ (by rw [regVals_length];exact hl) (fun i hi=>?_)
    rw [regVals_length] at hi
    rw [regVals_getD _ _ _ _ hi,Nat.zero_add]
    exact one (hr i hi)
  | false =>
    obtain ⟨hk,hc,hr⟩:=h
    simp only [regArg,pack,Bool.false_eq_true,if_false]
    cases ks with
    | nil=>simp at hk
    | cons k ks=>simpa [regVals] using one hr
theorem tagV_rel {wb:Base} {hp:Nat→Blk} {w':World} {σr:Nat→RefI} {r:Nat} {Q':Nat→Prop} {n:Nat} {tm0:Nat→A} {tms0:Array Value} {N0:Nat} (hR:RelL P wb N0 σr ⟨tm0,hp⟩ tms0 w') (h1:∀ b,Al wb w' σr hp b→n≤b)
    (h2:∀ id t es,(hp id = .row t es∨hp id = .frz t es)→∀ b,blockOf (σr id) b→n≤b) (hQ:∀ b,n≤b→CellsAt w' b→Q' b) {σN:Nat→RefI} (hσ:σN r = .reg w' Q') {al':Nat→Prop} {v:Value} {a:A}
    (hx:ARel P w' (Al wb w' σr hp) σr v a):ARel P w' al' σN v (tagV r hp a):=by
  have rep:∀ {k v x},RepC P w' (fun b=>n≤b) k v x→RepC P w' Q' k v x:=fun h=>h.cells.mono (fun _ _=>rfl) (fun b hb=>hQ b hb.1 hb.2)
  have own:∀ {id ks off len v},ARel P w' (Al wb w' σr hp) σr v (.own id ks off len)→ARel P w' al' σN v (tagV r hp (.own id ks off len)):=by
    intro id ks off len v hx
    simp only [tagV]
    split
    · rename_i t es he
      exact .rg _ _ _ _ w' Q' hσ (rep (toCell_sound (s:=⟨tm0,hp⟩) (al':=fun b=>n≤b) hR (show toCell hp _=_ by simp only [toCell,he]) hx h1 (fun i hi b hb=>by
        simp only [frozenIds,List.mem_singleton] at hi;subst hi;exact h2 _ t es (.inl he) b hb)))
    · rename_i t es he
      exact .rg _ _ _ _ w' Q' hσ (rep (toCell_sound (s:=⟨tm0,hp⟩) (al':=fun b=>n≤b) hR (show toCell hp _=_ by simp only [toCell,he]) hx h1 (fun i hi b hb=>by
        simp only [frozenIds,List.mem_singleton] at hi;subst hi;exact h2 _ t es (.inr he) b hb)))
    · exact .unk _
  induction hx with
  | c k v x h =>
    simp only [tagV]
    split
    · rename_i hk;exact .c _ _ _ (h.scalar hk)
    · exact .rg _ _ _ _ w' Q' hσ (rep (h.mono (fun _ _=>rfl) h1))
  | nilsl=>exact .nilsl
  | agg vs xs hl h ih =>
    simp only [tagV]
    refine .agg vs _ (by rw [tagVs_length];exact hl) (fun i hi=>?_)
    rw [tagVs_length] at hi
    rw [tagVs_getD];exact ih i hi
  | ownGone v id ks off len h=>exact own (.ownGone v id ks off len h)
  | ownNil id ks off t h ho=>exact own (.ownNil id ks off t h ho)
  | own0 id ks len b cap n t h hl=>exact own (.own0 id ks len b cap n t h hl)
  | ownOff id ks off len b cap n cap' t h ho hl hc=>exact own (.ownOff id ks off len b cap n cap' t h ho hl hc)
  | ownOff0 ad id ks off b cap n cap' t h ho hl=>exact own (.ownOff0 ad id ks off b cap n cap' t h ho hl)
  | _=>exact .unk _
theorem tagV_unTup {wb:Base} {hp:Nat→Blk} {w':World} {σr:Nat→RefI} {r:Nat} {Q':Nat→Prop} {n:Nat} {tm0:Nat→A} {tms0:Array Value} {N0:Nat} (hR:RelL P wb N0 σr ⟨tm0,hp⟩ tms0 w') (h1:∀ b,Al wb w' σr hp b→n≤b)
    (h2:∀ id t es,(hp id = .row t es∨hp id = .frz t es)→∀ b,blockOf (σr id) b→n≤b) (hQ:∀ b,n≤b→CellsAt w' b→Q' b) {σN:Nat→RefI} (hσ:σN r = .reg w' Q') {al':Nat→Prop} {v:Value} {as:List A}
    (hx:ARel P w' (Al wb w' σr hp) σr v (unTup as)):ARel P w' al' σN v (unTup (tagVs r hp as)):=by
  have tup:∀ as:List A,ARel P w' (Al wb w' σr hp) σr v (.tup as)→ARel P w' al' σN v (.tup (tagVs r hp as)):=by
    intro as h
    cases h with
    | tup vs _ hl hh =>
      refine .tup vs _ (by rw [tagVs_length];exact hl) (fun i hi=>?_)
      rw [tagVs_length] at hi
      rw [tagVs_getD];exact tagV_rel hR h1 h2 hQ hσ (hh i hi)
  cases as with
  | nil=>exact tup [] hx
  | cons a as =>
    cases as with
    | nil=>exact tagV_rel hR h1 h2 hQ hσ hx
    | cons b as=>exact tup (a :: b :: as) hx
theorem callF_sound {f:FuncId} {ps:List (Bool×List Kd)} {css:List (List C)} {as:List Arg} {hs':List Blk} {res:List A} {acts:List A} {r:Nat} {vs:List Value} (h00:tyI P 0=none) (C0:CallsM P f as [.reg] res (.reg :: hs')) (h:RelL P w0 N σ s tms w)
    (hcs:fitArgs s.hp ps acts=some css) (has:as=regArgs ps css) (hd:isDead (s.hp r)=true)
    (hvl:vs.length=acts.length) (hvs:∀ i,i < acts.length→ARel P w (Al w0 w σ s.hp) σ (vs.getD i undef) (acts.getD i .unk)) :
    Calls P f vs.toArray w (fun e w'=>∃ v,e = .returned v∧∃ σ',RelL P w0 N σ' ⟨s.tm,upd (freezeAll s.hp (idsOf acts)) r .reg⟩ tms w' ∧
      ARel P w' (Al w0 w' σ' (upd (freezeAll s.hp (idsOf acts)) r .reg)) σ' v (unTup (tagVs r (rowsHp (.reg :: hs')) res))):=by
  subst has
  obtain ⟨l1,l2,hfit⟩:=fitArgs_spec hcs
  have hrows:∀ id,id∈idsOf acts→∃ t es,s.hp id = .row t es∨s.hp id = .frz t es:=by
    intro id hid
    obtain ⟨i,hi,hm⟩:=mem_idsOf hid
    exact fitArg_rows (hfit i (by omega)) id hm
  obtain ⟨hal1,hal2⟩:=al_freeze h (idsOf acts) hrows
  obtain ⟨hpF,hpFe⟩:∃ hpF,hpF=freezeAll s.hp (idsOf acts):=⟨_,rfl⟩
  rw [← hpFe] at hal1 hal2 ⊢
  have hz:RelL P w0 N σ ⟨s.tm,hpF⟩ tms w:=by rw [hpFe];exact h.freezeAll _
  have hdF:hpF r = .dead:=by
    have hd':=isDead_spec hd
    rw [hpFe,freezeAll_at]
    split
    · rw [hd']
    · exact hd'
  have hσd:σ r = .dead:=bref_dead (hz.blks r) hdF
  obtain ⟨Q,hQ⟩:∃ Q:Nat→Prop,Q=fun b=>Al w0 w σ hpF b∧CellsAt w b:=⟨_,rfl⟩
  have hQlt:∀ b,Q b→b < w.heap.size:=fun b hb=>by rw [hQ] at hb;exact hb.1.1
  have hQc:∀ b,Q b→CellsAt w b:=fun b hb=>by rw [hQ] at hb;exact hb.2
  obtain ⟨σ0,hσ0⟩:∃ σ0:Nat→RefI,σ0=fun j=>if j=0 then .reg w Q else .dead:=⟨_,rfl⟩
  have hσ00:σ0 0 = .reg w Q:=by rw [hσ0];rfl
  have hblk0:∀ j b,blockOf (σ0 j) b→j=0∧Q b:=by
    intro j b hb
    rw [hσ0] at hb
    by_cases hj:j=0
    · simp only [hj,if_true,blockOf] at hb;exact ⟨hj,hb⟩
    · simp [hj,blockOf] at hb
  have hargs:∀ i,i < (regArgs ps css).length→ArgM P w (fun _=>False) σ0 ((regArgs ps css).getD i (.ref .unk)) (vs.getD i undef):=by
    intro i hi
    rw [regArgs_length _ _ l2] at hi
    rw [regArgs_getD _ _ _ l2 hi]
    have hA:=fitArg_sound h00 h hal1 (hfit i hi) (hvs i (by omega)) (fun id hid b hb=>hal2 id (idsOf_mem (i:=i) (by omega) hid) b hb)
    unfold regArg1
    split
    · rename_i hsc
      have hk:=all_getD hsc
      show ArgRel P w _ _ _ _
      unfold ArgRel at hA ⊢
      split
      · rename_i e
        rw [e] at hA
        obtain ⟨us,g1,g2,g3,g4⟩:=hA
        exact ⟨us,g1,g2,g3,fun j hj=>(g4 j hj).scalar (hk j hj)⟩
      · rename_i e
        rw [e] at hA
        exact ⟨hA.1,hA.2.1,hA.2.2.scalar (hk 0 (by have:=hA.1;omega))⟩
    · exact regArg_rel hA hσ00 (fun h=>by rw [hQ];exact h.cells)
  refine (C0.calls w (fun _=>False) σ0 vs (fun b hb=>hb.elim) (fun j=>?_) (fun i j b hi hj=>by rw [(hblk0 i b hi).1,(hblk0 j b hj).1]) (by rw [regArgs_length _ _ l2];omega) hargs).mono ?_
  · cases j with
    | zero =>
      refine ⟨w,Q,hσ00,fun b hb=>⟨hQlt b hb,?_⟩⟩
      obtain ⟨vs,t,z,h1⟩:=hQc b hb
      exact ⟨vs,t,z,h1,h1⟩
    | succ j =>
      show σ0 (j+1) = .dead
      rw [hσ0];simp
  rintro e w' ⟨v,rfl,hbel,σr,hBr,hinjr,hold,hv⟩
  refine ⟨v,rfl,?_⟩
  obtain ⟨W1,Q1,hr0,hr1⟩:=hBr 0
  have hr0':σr 0 = .reg w Q:=by
    rcases hold 0 (by rw [hσ00];simp) with e | e
    · rw [e,hσ00]
    · rw [hr0] at e;cases e.1
  rw [hr0'] at hr0
  cases hr0
  have hnsz:w0.n≤w.heap.size:=h.below.size
  have hB:Below w.heap.size w w':=⟨hbel.os,hbel.tape,hbel.output,hbel.size,fun k hk=>by
    by_cases hm:muOf σ0 k
    · obtain ⟨j,hj⟩:=hm
      obtain ⟨_,vs,t,z,h1,h2⟩:=hr1 k (hblk0 j k hj).2
      rw [h1,h2]
    · exact hbel.block k hk hm⟩
  have hwr:∀ b,Base.wr ⟨w,fun _=>False,muOf σ0,σ0,noMk,0⟩ b→w.heap.size≤b∨Q b:=by
    rintro b (h1 | ⟨j,hj⟩)
    · exact .inl h1
    · exact .inr (hblk0 j b hj).2
  have hAn:∀ b,Al ⟨w,fun _=>False,muOf σ0,σ0,noMk,0⟩ w' σr (rowsHp (.reg :: hs')) b→w.heap.size≤b:=by
    intro b hb
    rcases hb.2.2 with h1 | h1
    · rcases hwr b h1 with h2 | h2
      · exact h2
      · exact (hb.2.1 0 (by rw [hr0'];exact h2)).elim
    · exact h1.elim
  have hOn:∀ id t es,(rowsHp (.reg :: hs') id = .row t es∨rowsHp (.reg :: hs') id = .frz t es)→∀ b,blockOf (σr id) b→w.heap.size≤b:=by
    intro id t es he b hb
    rcases hwr b (block_lt_of_bref (hBr id) hb).2 with h2 | h2
    · exact h2
    · have e:=hinjr id 0 b hb (by rw [hr0'];exact h2)
      subst e
      rcases he with he | he <;> cases he
  have hRc:RelL P ⟨w,fun _=>False,muOf σ0,σ0,noMk,0⟩ 0 σr ⟨unkT,rowsHp (.reg :: hs')⟩ #[] w' :=
    ⟨hbel,rfl,fun _=>.unk _,hBr,hinjr,fun id hid=>hold id hid,⟨Nat.zero_le _,fun k o hk=>by simp [noMk] at hk⟩⟩
  obtain ⟨Q',hQ'⟩:∃ Q':Nat→Prop,Q'=fun b=>w.heap.size≤b∧CellsAt w' b:=⟨_,rfl⟩
  refine ⟨upd σ r (.reg w' Q'),hz.change (h.below.then (hB.mono hnsz)) hB.size ?_ (fun b hb=>hB.block b hb.1) ?_ ?_ ?_,?_⟩
  · intro b hb
    refine ⟨Nat.lt_of_lt_of_le hb.1 hB.size,fun id hid=>?_,hb.2.2⟩
    simp only [upd] at hid ⊢
    by_cases e:id=r
    · simp only [e,if_true,blockOf,hQ'] at hid
      have:=hid.1;have:=hb.1;omega
    · simp only [e,if_false] at hid ⊢;exact hb.2.1 id hid
  · intro id hid
    refine .inl ?_
    simp only [upd]
    split
    · rename_i e;subst e;exact absurd hσd hid
    · rfl
  · intro id
    by_cases e:id=r
    · subst e
      refine .inr ?_
      have e0:upd hpF id .reg id = .reg:=by simp [upd]
      rw [e0]
      refine ⟨w',Q',by simp [upd],fun b hb=>?_⟩
      rw [hQ'] at hb
      obtain ⟨vs,t,z,h1⟩:=hb.2
      exact ⟨.inl (Nat.le_trans hnsz hb.1),vs,t,z,h1,h1⟩
    · exact .inl ⟨by simp [upd,e],by simp [upd,e],fun b hb=>hB.block b (block_lt_of_bref (hz.blks id) hb).1⟩
  · intro i j b hi hj
    simp only [upd] at hi hj
    by_cases e:i=r <;> by_cases e':j=r
    · rw [e,e']
    · simp only [e,if_true,blockOf,hQ'] at hi
      simp only [e',if_false] at hj
      have:=(block_lt_of_bref (hz.blks j) hj).1;have:=hi.1;omega
    · simp only [e',if_true,blockOf,hQ'] at hj
      simp only [e,if_false] at hi
      have:=(block_lt_of_bref (hz.blks i) hi).1;have:=hj.1;omega
    · simp only [e,if_false] at hi
      simp only [e',if_false] at hj
      exact hz.inj i j b hi hj
  · exact tagV_unTup (Q':=Q') hRc hAn hOn (fun b h1 h2=>by rw [hQ'];exact ⟨h1,h2⟩) (by simp [upd]) hv
structure FCall (P:Program) (g:FuncId) (acts:List A) (hp:Nat→Blk) (r:Nat) (val:A) (hp':Nat→Blk):Prop where
  ex:∃ ps css as res hs',CallsM P g as [.reg] res (.reg :: hs')∧fitArgs hp ps acts=some css∧as=regArgs ps css∧isDead (hp r)=true∧val=unTup (tagVs r (rowsHp (.reg :: hs')) res)∧hp'=upd (freezeAll hp (idsOf acts)) r .reg
def stepFC (P:Program) (r:Nat) (o:Oper) (s:S) (K:S→Prop):Prop :=
  match o.guard,o.op with
  | none,.call c=>match c.callee with
    | .value f=>match plainTm s.tm f with
      | .fnv g []=>allNeeds s.tm o.op.operands.toList∧∃ val hp',FCall P g (c.args.toList.map (plainTm s.tm)) s.hp r val hp'∧K ⟨updD s.tm o.dst val,hp'⟩
      | _=>False
    | _=>False
  | _,_=>False
theorem stepFC_ok (h00:tyI P 0=none) (r:Nat):StepSound P (stepFC P r):=by
  intro N ops o s K hok h
  unfold stepFC at h
  split at h
  · rename_i c hg ho
    split at h
    · rename_i f hcal
      split at h
      · rename_i g hf
        obtain ⟨hn,val,hp',⟨ps,css,as,res,hs',C0,h1,h2,h3,rfl,rfl⟩,hK⟩:=h
        intro w0 a w hR
        obtain ⟨hd,hop'⟩:=operOk_spec hok
        refine ⟨fun _ K' Q hq=>?_,fun hw=>by rw [wanted_none hg] at hw;cases hw⟩
        obtain ⟨σ,hR⟩:=hR
        have hmem:∀ x,(x=f∨x∈c.args.toList)→x∈o.op.operands:=by
          intro x hx
          rw [ho]
          simp only [Op.operands,Call.operands,hcal]
          rcases hx with rfl | hx
          · exact Array.mem_append.2 (.inl (by simp))
          · exact Array.mem_append.2 (.inr (Array.mem_toList_iff.1 hx))
        have hv:∀ x,(x=f∨x∈c.args.toList)→ARel P w (Al w0 w σ s.hp) σ (a.eval x) (plainTm s.tm x):=fun x hx =>
          plain_sound hR (hop' x (hmem x hx)) (allNeeds_spec hn x (Array.mem_toList_iff.2 (hmem x hx)))
        have hfv:=hv f (.inl rfl)
        rw [hf] at hfv
        have hfe:a.eval f = .func (.func g) #[] #[]:=by
          generalize a.eval f=u at hfv
          cases hfv with
          | fnv _ _ vs hl hh =>
            have:vs=[]:=List.length_eq_zero_iff.1 hl
            rw [this]
        have hcm:=callF_sound (vs:=c.args.toList.map a.eval) h00 C0 hR h1 h2 h3 (by simp) (fun i hi=>by
          simp only [List.length_map] at hi
          have e1:(c.args.toList.map a.eval).getD i undef=a.eval c.args.toList[i]:=by simp [List.getD_eq_getElem?_getD,show i < c.args.size by simpa using hi]
          have e2:(c.args.toList.map (plainTm s.tm)).getD i .unk=plainTm s.tm c.args.toList[i]:=by simp [List.getD_eq_getElem?_getD,show i < c.args.size by simpa using hi]
          rw [e1,e2]
          exact hv _ (.inr (List.getElem_mem hi)))
        have hr:(execOp a.eval o).run P w = .ok (.enter g (c.args.toList.map a.eval).toArray) w:=by
          have henter:=C0.enter (c.args.toList.map a.eval).toArray w
          obtain ⟨callee,args,argTypes⟩:=c
          simp only at hcal
          subst hcal
          simp only [execOp,ho,Go.resolve,Sem.run_bind,hfe,Deferred.ofValue,Sem.run_pure,Result.andThen_ok,invoke]
          have e2:(args.map a.eval)=(args.toList.map a.eval).toArray:=by rw [← Array.toList_map]
          simpa [e2] using henter
        unfold Oper.wp
        rw [hr]
        refine hcm.mono ?_
        rintro e w' ⟨v,rfl,σ',hR',hv'⟩
        exact hq _ _ _ (put_defers _ _ _) hK ⟨σ',Rel.putD hd hR' hv'⟩
      · exact h.elim
    · exact h.elim
  · exact h.elim
end Go.AE
/-
  A call whose results become a region: the rule of a printed proof.
-/
set_option linter.unusedVariables false
namespace Go.AE
variable {P:Program} {N kp:Nat} {s s':S} {Γ:List Fn} {g:Option Nat} {o:Oper} {os:List (Option Nat×Oper)} {K:S→Prop}
theorem opsFC {d:Option Nat} {f:Operand} {args:Array Operand} {argTypes:Array TypeId} {ty:TypeId} {pos:String} {after:Array Edge} {gf:FuncId} {as:List Arg} {res:List A} {hs':List Blk} {css:List (List C)}
    (h00:tyI P 0=none) (C0:CallsM P gf as [.reg] res (.reg :: hs')) (r:Nat) (ps:List (Bool×List Kd)) (h:wpOpsX P Γ os ⟨updD s.tm d (unTup (tagVs r (rowsHp (.reg :: hs')) res)),upd (freezeAll s.hp (idsOf (args.toList.map (plainTm s.tm)))) r .reg⟩ K)
    (hf:plainTm s.tm f = .fnv gf []) (hn:allNeeds s.tm (Op.call ⟨.value f,args,argTypes⟩).operands.toList) (hc:fitArgs s.hp ps (args.toList.map (plainTm s.tm))=some css) (ha:as=regArgs ps css) (hd:isDead (s.hp r)=true) :
    wpOpsX P Γ ((g,⟨d,.call ⟨.value f,args,argTypes⟩,ty,pos,after,none⟩) :: os) s K:=by
  refine opsE (stepFC_ok h00 r) fun K' hK=>?_
  simp only [stepFC,hf]
  exact ⟨hn,_,_,⟨⟨ps,css,as,res,hs',C0,hc,ha,hd,rfl,rfl⟩⟩,hK _ h⟩
theorem oFCq {d:Option Nat} {f:Operand} {args:Array Operand} {argTypes:Array TypeId} {ty:TypeId} {pos:String} {after:Array Edge} {gf:FuncId} {as:List Arg} {res:List A} {hs':List Blk} {css:List (List C)}
    (C0:CallsM P gf as [.reg] res (.reg :: hs')) (r:Nat) (ps:List (Bool×List Kd)) (h:wpOpsX P Γ os ⟨updD s.tm d (unTup (tagVs r (rowsHp (.reg :: hs')) res)),upd (freezeAll s.hp (idsOf (args.toList.map (plainTm s.tm)))) r .reg⟩ K)
    (h1:tyI P 0=none:=by exact h00) (hf:plainTm s.tm f = .fnv gf []:=by (simp only [z,seval,q];try rfl)) (hn:allNeeds s.tm (Op.call ⟨.value f,args,argTypes⟩).operands.toList:=by simp only [z,seval,q]) (hc:fitArgs s.hp ps (args.toList.map (plainTm s.tm))=some css:=by (simp only [z,seval,q];try rfl)) (ha:as=regArgs ps css:=by rfl) (hd:isDead (s.hp r)=true:=by simp only [z,seval,q]) :
    wpOpsX P Γ ((g,⟨d,.call ⟨.value f,args,argTypes⟩,ty,pos,after,none⟩) :: os) s K:=opsFC h1 C0 r ps h hf hn hc ha hd
end Go.AE
/-
  Regions whose plain cells are written: what stays is where their data lie.
-/
set_option linter.unusedVariables false
namespace Go.AE
open Go.RowKit (Below)
variable {P:Program} {w0:Base} {w:World} {N kp:Nat} {σ:Nat→RefI} {s:S} {tms:Array Value} {ρ:Operand→Value} {al:Nat→Prop} {Γ:List Fn}
theorem run_storeCells_nf (P:Program) (g o:Nat) (t:TypeId) (z:Nat×Nat):∀ (vs:List Value) (i:Nat) (cur:Array Value) (w:World),w.heap[g]? = some (.cells cur t z)→(∀ j,i≤j→j < i+vs.length→w.frozen? ⟨g,o+j,none⟩=false)→o+i+vs.length≤cur.size→(∀ v∈vs,v.oneCell'=true) →
    (storeCells ⟨g,o,none⟩ vs i).run P w = .ok () (w.setRow g (cur.toList.take (o+i) ++ vs ++ cur.toList.drop (o+i+vs.length)).toArray)
  | [],i,cur,w,hg,_,_,_=>by
    simp only [storeCells,List.append_nil,List.length_nil,Nat.add_zero,List.take_append_drop,Array.toArray_toList]
    rw [setRow_self w g cur t z hg]
    rfl
  | v :: rest,i,cur,w,hg,hf,hl,h1=>by
    have hi:o+i < cur.size:=by simp at hl;omega
    have hadd:(⟨g,o,none⟩:Addr).add i=⟨g,o+i,none⟩:=by unfold Addr.add;split <;> simp_all
    have hcell:w.cell? ⟨g,o+i,none⟩=some cur[o+i]:=by simp [World.cell?,hg,hi]
    have hfro:w.frozen? ⟨g,o+i,none⟩=false:=hf i (Nat.le_refl _) (by simp)
    have hst:(store ((⟨g,o,none⟩:Addr).add i) v).run P w = .ok () (w.setRow g (cur.setIfInBounds (o+i) v)):=by
      rw [hadd,run_store P w _ v _ (h1 v (by simp)),hcell]
      simp [hfro,setCell_eq_setRow w g (o+i) cur t z v hg]
    have hg':=setRow_heap w g cur (cur.setIfInBounds (o+i) v) t z hg
    have hfz:∀ a,(w.setRow g (cur.setIfInBounds (o+i) v)).frozen? ⟨g,a,none⟩=w.frozen? ⟨g,a,none⟩:=by
      intro a;simp only [World.frozen?,hg,hg']
    have ih:=run_storeCells_nf P g o t z rest (i+1) (cur.setIfInBounds (o+i) v) (w.setRow g (cur.setIfInBounds (o+i) v)) hg' (fun j h1 h2=>by rw [hfz];exact hf j (by omega) (by simp;omega)) (by simp at hl ⊢;omega) (fun x hx=>h1 x (by simp [hx]))
    simp only [storeCells,Sem.run_bind,hst,Result.andThen_ok,ih,setRow_setRow]
    congr 3
    have e:=list_seg_step cur.toList (o+i) v rest (by simp at hl ⊢;omega)
    simpa [Array.toList_setIfInBounds,Nat.add_assoc] using e
theorem run_storeAt_nf {t:TypeId} {T:TyI} (hT:tyI P t=some T) {v:Value} {n:Nat} (hn:v.cells.size=n) (hk:n=T.kinds.length) {b o:Nat} {cur:Array Value} {u:TypeId} {z:Nat×Nat} (hh:w.heap[b]? = some (.cells cur u z))
    (hf:∀ j,j < n→w.frozen? ⟨b,o+j,none⟩=false) (hfit:o+n≤cur.size) (h1:∀ j,j < n→(v.cells.getD j undef).oneCell'=true) :
    (Instr.storeAt t (.pointer (some ⟨b,o,none⟩)) v).run P w = .ok () (w.setRow b (splice cur.toList o v.cells.toList).toArray):=by
  have h:=run_storeCells_nf P b o u z v.cells.toList 0 cur w hh (fun j _ hj=>hf j (by simp at hj;omega)) (by simp;omega) (by
    intro x hx
    obtain ⟨j,hj,rfl⟩:=List.getElem_of_mem hx
    have:=h1 j (by simp at hj;omega)
    have hj':j < v.cells.size:=by simpa using hj
    simpa [Array.getD,hj'] using this)
  simp only [Nat.add_zero] at h
  simp only [Instr.storeAt,Instr.sureAddr,pure_bind,storeVar,Sem.run_bind,run_size hT,Result.andThen_ok]
  rw [if_neg (by omega)]
  exact h
def isW:Blk→Bool
  | .reg=>true
  | .wob=>true
  | _=>false
theorem wob_spec {r:Nat} (h:RelL P w0 N σ s tms w) (hr:isW (s.hp r)=true):∃ W Q,σ r = .reg W Q∧∀ b,Q b→w0.wr b∧WobAt w W b:=by
  have hb:=h.blks r
  cases hk:s.hp r <;> rw [hk] at hr hb <;> simp [isW] at hr
  · obtain ⟨W,Q,h1,h2⟩:=hb
    refine ⟨W,Q,h1,fun b hb=>⟨(h2 b hb).1,?_⟩⟩
    obtain ⟨_,vs,t,z,h3,h4⟩:=h2 b hb
    exact ⟨vs,vs,t,z,h3,h4,rfl,fun i=>.inl rfl⟩
  · exact hb
theorem sim_slice {u:Value} {a:Option Addr} {l c:Nat} (h:SimV u (.slice a l c)):u = .slice a l c:=by
  rcases h with h | ⟨_,_,_,h⟩ | ⟨_,_,_,_,h,_⟩ | ⟨_,_,_,h,_⟩
  · exact h
  · cases h
  · cases h
  · cases h
theorem wob_cell {W:World} {b o:Nat} {v:Value} (h:WobAt w W b) (hc:cellN W ⟨b,o,none⟩=some v):∃ u,w.cell? ⟨b,o,none⟩=some u∧SimV u v∧w.frozen? ⟨b,o,none⟩=false:=by
  obtain ⟨vs',vs,t,z,h1,h2,h3,h4⟩:=h
  have hc':=cellN_cell hc
  have hf:=cellN_nf hc
  have hlt:o < vs.size∧vs.getD o undef=v:=by
    simp only [World.cell?,h2] at hc'
    simp at hc'
    obtain ⟨hlt,e⟩:=Array.getElem?_eq_some_iff.1 hc'
    exact ⟨hlt,by simp [Array.getD,hlt,e]⟩
  refine ⟨vs'.getD o undef,?_,hlt.2 ▸ h4 o,?_⟩
  · have hlt':o < vs'.size:=by omega
    simp [World.cell?,h1,Array.getD,hlt']
  · simp only [World.frozen?,h1,h2] at hf ⊢
    exact hf
def scalPre:List Kd→List A→Bool
  | [],[]=>true
  | k :: ks,.c k' _ :: as=>scalarK k && (k == k') && scalPre ks as
  | _,_=>false
theorem scalPre_spec:∀ {ks:List Kd} {as:List A},scalPre ks as=true→as.length=ks.length∧∀ j,j < ks.length→scalarK (ks.getD j .other)=true∧∃ x,as.getD j .unk = .c (ks.getD j .other) x
  | [],[],_=>⟨rfl,fun j hj=>by simp at hj⟩
  | [],_ :: _,h=>by simp [scalPre] at h
  | _ :: _,[],h=>by simp [scalPre] at h
  | k :: ks,a :: as,h=>by
    cases a <;> simp [scalPre] at h
    rename_i k' x
    obtain ⟨⟨h1,rfl⟩,h2⟩:=h
    obtain ⟨l,hr⟩:=scalPre_spec h2
    refine ⟨by simp [l],fun j hj=>?_⟩
    cases j with
    | zero=>exact ⟨by simpa using h1,x,by simp⟩
    | succ j=>simpa using hr j (by simpa using hj)
def opW (P:Program) (o:Oper) (hp:Nat→Blk) (v:Operand→A):Option Out :=
  match o.op with
  | .indexAddr t x i=>match slE P t,v x,v i with
    | some (e,E),.rg r (.slice t') c,.c (.int _) n=>if isW (hp r) && (t' == e) then some ⟨0≤n.toInt∧n.toInt < (c.toSl.length:Int),True,.rp r E.kinds (eg c.toSl n.toInt.toNat) 0,hp,true⟩ else none
    | _,_,_=>none
  | .fieldAddr t x f=>match tyI P t,v x with
    | some T,.rp r ks cells off=>if isW (hp r) then (T.fields[f]?).map fun p=>⟨True,True,.rp r (ks.drop p.1) cells (off+p.1),hp,true⟩ else none
    | _,_=>none
  | .load t x=>match slE P t,v x with
    | some (e,_),.rp r ks cells off=>if isW (hp r) && (ks.headD .other == .slice e) then some ⟨True,True,.rg r (.slice e) (nrm (.slice e) (cg cells off)),hp,true⟩ else none
    | _,_=>none
  | .call c=>match c.callee with
    | .builtin .len=>match c.args.toList,c.argTypes.toList with
      | [x],[t]=>match v x,(slE P t).isSome with
        | .rg r (.slice _) cc,true=>if isW (hp r) then some ⟨True,(cc.toSl.length:Int)≤140737488355328,ki .i64 cc.toSl.length,hp,true⟩ else none
        | _,_=>none
      | _,_=>none
    | _=>none
  | .store t x y=>match tyI P t,v x with
    | some T,.rp r ks cells off=>if isW (hp r) && (scalPre (ks.take T.kinds.length) (cellsA (v y)) && (decide (T.kinds.length≤ks.length))) then some ⟨True,True,.unk,upd hp r .wob,false⟩ else none
    | _,_=>none
  | _=>none
theorem scal_val {k:Kd} {v:Value} {x:C} (hk:scalarK k=true) (h:RepC P w al k v x):v.oneCell'=true∧v.cells = #[v]:=by
  cases h <;> first | (simp [scalarK] at hk;done) | exact ⟨rfl,rfl⟩
theorem scal_sim {k:Kd} {u v:Value} {x y:C} {w1 w2:World} {a1 a2:Nat→Prop} (hk:scalarK k=true) (h:RepC P w1 a1 k u x) (h':RepC P w2 a2 k v y):SimV u v:=by
  cases h <;> cases h' <;> first | (simp [scalarK] at hk;done) | skip
  · exact .inr (.inl ⟨_,_,rfl,rfl⟩)
  · rename_i h1 h2;exact .inr (.inr (.inl ⟨_,_,_,rfl,rfl,h1⟩))
  · rename_i h1 h2;exact .inr (.inr (.inr ⟨_,_,rfl,rfl,by simpa using h1⟩))
theorem SimV.trans {a b c:Value} (h1:SimV a b) (h2:SimV b c):SimV a c:=by
  rcases h1 with rfl | ⟨x,y,rfl,rfl⟩ | ⟨k,n,m,rfl,rfl,hr⟩ | ⟨x,y,rfl,rfl,hs⟩
  · exact h2
  · rcases h2 with rfl | ⟨x',y',e,rfl⟩ | ⟨_,_,_,e,_⟩ | ⟨_,_,e,_⟩
    · exact .inr (.inl ⟨_,_,rfl,rfl⟩)
    · exact .inr (.inl ⟨_,_,rfl,rfl⟩)
    · cases e
    · cases e
  · rcases h2 with rfl | ⟨x',y',e,_⟩ | ⟨k',n',m',e,rfl,_⟩ | ⟨_,_,e,_⟩
    · exact .inr (.inr (.inl ⟨_,_,_,rfl,rfl,hr⟩))
    · cases e
    · cases e;exact .inr (.inr (.inl ⟨_,_,_,rfl,rfl,hr⟩))
    · cases e
  · rcases h2 with rfl | ⟨x',y',e,_⟩ | ⟨k',n',m',e,_,_⟩ | ⟨_,_,e,rfl,_⟩
    · exact .inr (.inr (.inr ⟨_,_,rfl,rfl,hs⟩))
    · cases e
    · cases e
    · cases e;exact .inr (.inr (.inr ⟨_,_,rfl,rfl,hs⟩))
theorem cells_scal {ys:List A} {ks:List Kd} {y:A} {v:Value} (hc:cellsA y=ys) (hs:scalPre ks ys=true) (h0:0 < ks.length) (hx:ARel P w al σ v y) :
    v.cells.size=ks.length∧∀ j,j < ks.length→∃ x,RepC P w al (ks.getD j .other) (v.cells.getD j undef) x:=by
  obtain ⟨l,hr⟩:=scalPre_spec hs
  cases hx with
  | agg us xs hl hh =>
    simp only [cellsA] at hc
    subst hc
    simp only [Value.cells]
    refine ⟨by simp;omega,fun j hj=>?_⟩
    have h1:=hh j (by omega)
    obtain ⟨_,x,hx⟩:=hr j hj
    rw [hx] at h1
    have:us.toArray.getD j undef=us.getD j undef:=by simp [Array.getD_eq_getD_getElem?,List.getD_eq_getElem?_getD]
    exact ⟨x,by rw [this];exact h1.c_inv⟩
  | c k v x h =>
    simp only [cellsA] at hc
    subst hc
    simp only [List.length_cons,List.length_nil] at l
    have h1:=hr 0 h0
    simp only [List.getD_cons_zero] at h1
    obtain ⟨h2,x',h3⟩:=h1
    cases h3
    have:=scal_val h2 h
    rw [this.2]
    refine ⟨by simp;omega,fun j hj=>?_⟩
    have:j=0:=by omega
    subst this
    exact ⟨x,by simpa using h⟩
  | _ =>
    exfalso
    simp only [cellsA] at hc
    subst hc
    have h1:=hr 0 h0
    simp at h1
theorem opW_sound {o:Oper} {r:Out} {v:Operand→A} (h:RelL P w0 N σ s tms w) (hop:opW P o s.hp v=some r) (hv:∀ x,x∈o.op.operands→ARel P w (Al w0 w σ s.hp) σ (ρ x) (v x)) (hp:r.pre):OpOk P w0 N s tms o ρ w r:=by
  obtain ⟨dst,op,type,pos,after,guard⟩:=o
  cases op with
  | indexAddr t x i =>
    simp only [opW] at hop
    split at hop
    · rename_i e E r0 t' c k n hs hvx hvi
      split at hop
      · rename_i hc
        simp only [Bool.and_eq_true,beq_iff_eq] at hc
        obtain ⟨hw,rfl⟩:=hc
        simp only [Option.some.injEq] at hop;subst hop
        obtain ⟨W,Q,h1,h2⟩:=wob_spec h hw
        have hx:=hv x (by simp [Op.operands])
        rw [hvx] at hx
        have hi:=hv i (by simp [Op.operands])
        rw [hvi] at hi
        obtain ⟨hie,_⟩:=hi.int_inv
        obtain ⟨hu,hE⟩:=slE_spec hs
        dsimp only at hp
        generalize hvv:ρ x=vx at hx
        cases hx with
        | rgGone _ _ _ _ hg=>rw [h1] at hg;cases hg
        | rg _ _ _ _ W' Q' hσ hr =>
          rw [h1] at hσ;cases hσ
          rcases slice_inv hr with ⟨a,cc,rfl,he⟩ | ⟨b,off,cap,E',f,rfl,hE',hal,hl,hcp,hel,hcell,hrep⟩
          · rw [he] at hp;simp at hp;omega
          · rw [hE] at hE';simp only [Option.some.injEq] at hE';subst hE'
            have hlt:n.toInt.toNat < c.toSl.length:=by omega
            have hr':=run_indexAt (w:=w) hu hE k n.toInt b off _ cap hp
            refine OpOk.pure h (v:=_) (run_value (by rw [hvv,hie];exact hr')) trivial rfl ?_
            refine .rp _ _ _ _ b _ W Q h1 hal (fun j=>f n.toInt.toNat j) (fun j hj=>?_) (fun j hj=>?_)
            · rw [← hcell n.toInt.toNat hlt j hj,Nat.add_assoc]
            · rw [Nat.zero_add];exact hrep n.toInt.toNat hlt j hj
      · cases hop
    · cases hop
  | fieldAddr t x f =>
    simp only [opW] at hop
    split at hop
    · rename_i T r0 ks cells off hT hvx
      split at hop
      · rename_i hw
        cases hff:T.fields[f]? with
        | none=>simp [hff] at hop
        | some p =>
          simp only [hff,Option.map_some,Option.some.injEq] at hop;subst hop
          obtain ⟨W,Q,h1,h2⟩:=wob_spec h hw
          have hx:=hv x (by simp [Op.operands])
          rw [hvx] at hx
          generalize hvv:ρ x=vx at hx
          cases hx with
          | rpGone _ _ _ _ _ hg=>rw [h1] at hg;cases hg
          | rp _ _ _ _ b o W' Q' hσ hal f' hcell hrep =>
            refine OpOk.pure h (v:=_) (run_value (by rw [hvv];exact (field_spec hT hff b o).1)) trivial rfl ?_
            refine .rp _ _ _ _ b _ W' Q' hσ hal (fun j=>f' (p.1+j)) (fun j hj=>?_) (fun j hj=>?_)
            · have hj':p.1+j < ks.length:=by simp at hj;omega
              rw [← hcell _ hj',Nat.add_assoc]
            · have hj':p.1+j < ks.length:=by simp at hj;omega
              rw [getD_drop']
              have:=hrep _ hj'
              rw [← Nat.add_assoc] at this
              exact this
      · cases hop
    · cases hop
  | load t x =>
    simp only [opW] at hop
    split at hop
    · rename_i e E r0 ks cells off hs hvx
      split at hop
      · rename_i hc
        simp only [Bool.and_eq_true,beq_iff_eq] at hc
        obtain ⟨hw,hk⟩:=hc
        simp only [Option.some.injEq] at hop;subst hop
        obtain ⟨W,Q,h1,h2⟩:=wob_spec h hw
        have hx:=hv x (by simp [Op.operands])
        rw [hvx] at hx
        generalize hvv:ρ x=vx at hx
        -- the type that is loaded
        obtain ⟨by_,hT⟩:∃ q,tyI P t=some q∧q.kinds=[.slice e]∧q.agg=false:=by
          unfold slE at hs
          split at hs
          · rename_i e' _ _ _ hT
            split at hs
            · rename_i E' hE'
              simp only [Option.some.injEq,Prod.mk.injEq] at hs
              obtain ⟨rfl,rfl⟩:=hs
              exact ⟨_,hT,rfl,rfl⟩
            · cases hs
          · cases hs
        obtain ⟨hT,hk1,hk2⟩:=hT
        cases hx with
        | rpGone _ _ _ _ _ hg=>rw [h1] at hg;cases hg
        | rp _ _ _ _ b o W' Q' hσ hal f' hcell hrep =>
          rw [h1] at hσ;cases hσ
          have hlen:0 < ks.length:=by
            cases ks with
            | nil=>simp at hk
            | cons a l=>simp
          have hk0:ks.getD 0 .other = .slice e:=by
            cases ks with
            | nil=>simp at hk
            | cons a l=>simpa using hk
          have hr0:=hrep 0 hlen
          rw [hk0,Nat.add_zero] at hr0
          obtain ⟨u,hu,hsim,_⟩:=wob_cell (h2 b hal).2 (hcell 0 hlen)
          have hsl:∃ a l c,f' 0 = .slice a l c:=by
            rcases slice_inv hr0 with ⟨a,cc,he,_⟩ | ⟨_,_,_,_,_,he,_⟩
            · exact ⟨_,_,_,he⟩
            · exact ⟨_,_,_,he⟩
          obtain ⟨a,l,c,hsl⟩:=hsl
          rw [hsl] at hsim
          have hue:=sim_slice hsim
          subst hue
          have hld:=run_loadAt (w:=w) hT b o (fun _=>.slice a l c) (fun j hj=>by
            rw [hk1] at hj
            have:j=0:=by simpa using hj
            subst this;exact hu)
          rw [hk2] at hld
          simp only [Bool.false_eq_true,if_false] at hld
          refine OpOk.pure h (v:=_) (run_value (by rw [hvv];exact hld)) trivial rfl ?_
          refine .rg _ _ _ _ W Q h1 ?_
          rw [← hsl];exact hr0.nrm
      · cases hop
    · cases hop
  | call c =>
    simp only [opW] at hop
    split at hop
    · rename_i hcal
      split at hop
      · rename_i x t hax hat
        split at hop
        · rename_i r0 t' cc hvx hsl
          split at hop
          · rename_i hw
            simp only [Option.some.injEq] at hop;subst hop
            obtain ⟨callee,args,argTypes⟩:=c
            simp only at hcal hax hat
            subst hcal
            have e1:=array_of_toList hax
            have e2:=array_of_toList hat
            subst e1 e2
            obtain ⟨W,Q,h1,h2⟩:=wob_spec h hw
            have hx:=hv x (by simp [Op.operands,Call.operands])
            rw [hvx] at hx
            obtain ⟨⟨e,E⟩,hs⟩:=Option.isSome_iff_exists.1 hsl
            obtain ⟨hu,_⟩:=slE_spec hs
            generalize hvv:ρ x=vx at hx
            cases hx with
            | rgGone _ _ _ _ hg=>rw [h1] at hg;cases hg
            | rg _ _ _ _ W' Q' hσ hr =>
              obtain ⟨a,c',rfl,hl⟩:=slice_len hr
              refine OpOk.pure h (run_value (x:=Builtin.len_ #[t] type (#[x].map ρ)) ?_) hl rfl (ARel.mk_int (inR_len (by omega)))
              have:=run_len_slice (w:=w) hu type a cc.toSl.length c'
              simpa [hvv] using this
          · cases hop
        · cases hop
      · cases hop
    · cases hop
  | store t x y =>
    simp only [opW] at hop
    split at hop
    · rename_i T r0 ks cells off hT hvx
      split at hop
      · rename_i hc
        simp only [Bool.and_eq_true,decide_eq_true_eq] at hc
        obtain ⟨hw,hsc,hle⟩:=hc
        simp only [Option.some.injEq] at hop;subst hop
        obtain ⟨W,Q,h1,h2⟩:=wob_spec h hw
        have hx:=hv x (by simp [Op.operands])
        rw [hvx] at hx
        have hy:=hv y (by simp [Op.operands])
        generalize hvv:ρ x=vx at hx
        have h0:=kinds_pos hT
        have hkl:(ks.take T.kinds.length).length=T.kinds.length:=by simp;omega
        obtain ⟨c1,c2⟩:=cells_scal rfl hsc (by omega) hy
        obtain ⟨_,c3⟩:=scalPre_spec hsc
        rw [hkl] at c1 c2 c3
        cases hx with
        | rpGone _ _ _ _ _ hg=>rw [h1] at hg;cases hg
        | rp _ _ _ _ b o W' Q' hσ hal f' hcell hrep =>
          rw [h1] at hσ;cases hσ
          obtain ⟨hB,vs',vs,ty,z,g1,g2,g3,g4⟩:=h2 b hal
          have cellat:∀ j,j < T.kinds.length→o+j < vs.size∧vs.getD (o+j) undef=f' j∧w.frozen? ⟨b,o+j,none⟩=false:=by
            intro j hj
            have hcj:=hcell j (by omega)
            obtain ⟨_,_,_,hnf⟩:=wob_cell (h2 b hal).2 hcj
            have hc':=cellN_cell hcj
            simp only [World.cell?,g2] at hc'
            simp at hc'
            obtain ⟨hlt,e⟩:=Array.getElem?_eq_some_iff.1 hc'
            exact ⟨hlt,by simp [Array.getD,hlt,e],hnf⟩
          have hfit:o+T.kinds.length≤vs'.size:=by
            have:=(cellat (T.kinds.length - 1) (by omega)).1
            omega
          have hone:∀ j,j < T.kinds.length→((ρ y).cells.getD j undef).oneCell'=true:=fun j hj=>by
            obtain ⟨xx,hxx⟩:=c2 j hj
            exact (scal_val (c3 j hj).1 hxx).1
          have hrun:=run_storeAt_nf (w:=w) hT c1 rfl (b:=b) (o:=o) g1 (fun j hj=>(cellat j hj).2.2) hfit hone
          have hl:o+(ρ y).cells.toList.length≤vs'.toList.length:=by simp;omega
          refine .inr (.inl ⟨w.setRow b (splice vs'.toList o (ρ y).cells.toList).toArray,?_,rfl,trivial,σ,?_⟩)
          · exact run_skip (by rw [hvv];exact hrun)
          · have hnr:∀ c,Al w0 w σ s.hp c→c≠b:=fun c hc e=>by
              have:=hc.2.1 r0 (by rw [h1,e];exact hal)
              cases hk:s.hp r0 <;> rw [hk] at hw this <;> simp [isW,isFrz] at hw this
            have hother:∀ c,c≠b→(w.setRow b (splice vs'.toList o (ρ y).cells.toList).toArray).heap[c]? = w.heap[c]? := fun c hc=>setRow_other w b c _ hc
            refine h.change (h.below.trans ⟨by simp,by simp,by simp,by simp,fun c hc hn=>hother c (by
              rintro rfl
              rcases hB with hB | hB
              · omega
              · exact hn hB)⟩) (by simp) ?_ (fun c hc=>hother c (hnr c hc)) (fun _ _=>.inl rfl) (fun i=>?_) h.inj
            · intro c hc
              refine ⟨by simpa using hc.1,fun i hi=>?_,hc.2.2⟩
              have hi':=hc.2.1 i hi
              simp only [upd]
              by_cases e:i=r0
              · subst e
                cases hk:s.hp i <;> rw [hk] at hw hi' <;> simp [isW,isFrz] at hw hi'
              · simp only [e,if_false];exact hi'
            · by_cases e:i=r0
              · subst e
                refine .inr ?_
                have e0:upd s.hp i .wob i = .wob:=by simp [upd]
                dsimp only
                rw [e0]
                refine ⟨W,Q,h1,fun c hc=>⟨(h2 c hc).1,?_⟩⟩
                by_cases ec:c=b
                · subst ec
                  refine ⟨_,vs,ty,z,setRow_heap w c vs' _ ty z g1,g2,?_,fun i'=>?_⟩
                  · rw [List.size_toArray,splice_length _ _ _ hl];simpa using g3
                  · have e0:(splice vs'.toList o (ρ y).cells.toList).toArray.getD i' undef=(splice vs'.toList o (ρ y).cells.toList).getD i' undef:=by
                      simp [Array.getD_eq_getD_getElem?,List.getD_eq_getElem?_getD]
                    rw [e0,splice_getD _ _ _ _ _ hl]
                    split
                    · rename_i hin
                      have hj:i' - o < T.kinds.length:=by simp at hin;omega
                      obtain ⟨xx,hxx⟩:=c2 (i' - o) hj
                      have hr':=hrep (i' - o) (by omega)
                      have ek:(ks.take T.kinds.length).getD (i' - o) .other=ks.getD (i' - o) .other:=getD_take_lt _ _ _ _ hj
                      have hsc':=(c3 (i' - o) hj).1
                      rw [ek] at hxx hsc'
                      have hsim:=scal_sim hsc' hxx hr'
                      have e1:(ρ y).cells.toList.getD (i' - o) undef=(ρ y).cells.getD (i' - o) undef:=by
                        simp [Array.getD_eq_getD_getElem?,List.getD_eq_getElem?_getD]
                      have e2:vs.getD i' undef=f' (i' - o):=by
                        have:=(cellat (i' - o) hj).2.1
                        rw [← this];congr 1;simp at hin;omega
                      rw [e1,e2];exact hsim
                    · have e1:vs'.toList.getD i' undef=vs'.getD i' undef:=by
                        simp [Array.getD_eq_getD_getElem?,List.getD_eq_getElem?_getD]
                      rw [e1];exact g4 i'
                · obtain ⟨_,q1,q2,q3,q4,q5,q6⟩:=h2 c hc
                  exact ⟨q1,q2,q3,q4,by rw [hother c ec];exact q5,q6⟩
              · exact .inl ⟨rfl,by simp [upd,e],fun c hc=>hother c (by
                  rintro rfl
                  exact e (h.inj i r0 c hc (by rw [h1];exact hal)))⟩
      · cases hop
    · cases hop
  | _=>simp [opW] at hop
def stepW (P:Program) (o:Oper) (s:S) (K:S→Prop):Prop :=
  match o.guard with
  | none=>match opW P o s.hp (plainTm s.tm) with
    | some r=>allNeeds s.tm o.op.operands.toList∧r.pre∧(r.fact→K ⟨updD s.tm o.dst r.val,r.hp⟩)
    | none=>False
  | some _=>False
theorem stepW_ok:StepSound P (stepW P):=by
  intro N ops o s K hok h
  unfold stepW at h
  split at h
  · rename_i hg
    split at h
    · rename_i r hop
      obtain ⟨hn,hp,hK⟩:=h
      obtain ⟨_,ho⟩:=operOk_spec hok
      exact stepOk_of hg hok r (fun w0 a w σ hR=>opW_sound hR hop (fun x hx=>plain_sound hR (ho x hx) (allNeeds_spec hn x (Array.mem_toList_iff.2 hx))) hp) hK
    · exact h.elim
  · exact h.elim
end Go.AE
/-
  All that a state holds becomes one region (for functions that were handed all their data, and that write on them).
-/
set_option linter.unusedVariables false
namespace Go.AE
open Go.RowKit (Below)
variable {P:Program} {w0:Base} {w:World} {N kp:Nat} {σ:Nat→RefI} {s:S} {tms:Array Value} {ρ:Operand→Value} {al:Nat→Prop} {Γ:List Fn} {a b c:Code} {Q:Exit→S→Prop}
mutual
def colA (r:Nat) (hp:Nat→Blk):A→A
  | .c k x=>if scalarK k then .c k x else .rg r k x
  | .agg xs=>.agg (colAs r hp xs)
  | .nilsl=>.nilsl
  | .own id ks off len=>match hp id with
    | .row t es=>.rg r (.slice t) (.slice ((es.drop off).take len))
    | .frz t es=>.rg r (.slice t) (.slice ((es.drop off).take len))
    | _=>.unk
  | .box id off=>match hp id with
    | .box _=>.box id off
    | _=>.unk
  | _=>.unk
def colAs (r:Nat) (hp:Nat→Blk):List A→List A
  | []=>[]
  | a :: as=>colA r hp a :: colAs r hp as
end
def colB (r:Nat) (hp:Nat→Blk):Blk→Blk
  | .row _ _=>.gone
  | .frz _ _=>.gone
  | .box cells=>.box (colAs r hp cells)
  | b=>b
def colHp (r:Nat) (hp:Nat→Blk):Nat→Blk:=fun id=>if id=r then .reg else colB r hp (hp id)
mutual
def rgOnly:A→Bool
  | .c k _=>scalarK k
  | .rg _ _ _=>true
  | .agg xs=>rgOnlys xs
  | .nilsl=>true
  | _=>false
def rgOnlys:List A→Bool
  | []=>true
  | a :: as=>rgOnly a && rgOnlys as
end
theorem rgOnlys_getD:∀ {as:List A},rgOnlys as=true→∀ i,i < as.length→rgOnly (as.getD i .unk)=true
  | [],_,i,hi=>by simp at hi
  | a :: as,h,0,_=>by simp only [rgOnlys,Bool.and_eq_true] at h;simpa using h.1
  | a :: as,h,i+1,hi=>by simp only [rgOnlys,Bool.and_eq_true] at h;simpa using rgOnlys_getD h.2 i (by simpa using hi)
theorem ARel.rgOnly {al':Nat→Prop} {v:Value} {x:A} (h:ARel P w al σ v x) (hx:rgOnly x=true):ARel P w al' σ v x:=by
  induction h with
  | c k v x h=>exact .c _ _ _ (h.scalar (by simpa [Go.AE.rgOnly] using hx))
  | nilsl=>exact .nilsl
  | agg vs xs hl h ih=>exact .agg vs xs hl (fun i hi=>ih i hi (rgOnlys_getD (by simpa [Go.AE.rgOnly] using hx) i hi))
  | rg v id k x W Q h hr=>exact .rg v id k x W Q h hr
  | rgGone v id k x h=>exact .rgGone v id k x h
  | _=>simp [Go.AE.rgOnly] at hx
end Go.AE
/-
  Functions whose results are new: their contracts, out of what they do when all their data are a region.
-/
set_option linter.unusedVariables false
namespace Go.AE
open Go.RowKit (Below)
variable {P:Program} {w0:Base} {w:World} {N kp:Nat} {σ:Nat→RefI} {s:S} {tms:Array Value} {al:Nat→Prop}
end Go.AE
/-
  A slice built of what lies in a region: with its own block, it is a region again.
-/
set_option linter.unusedVariables false
namespace Go.AE
open Go.RowKit (Below)
variable {P:Program} {w0:Base} {w:World} {N kp:Nat} {σ:Nat→RefI} {s:S} {tms:Array Value} {ρ:Operand→Value} {al:Nat→Prop}
mutual
def meltD (r:Nat):A→A
  | .c k x=>if scalarK k then .c k x else .unk
  | .rg id k x=>if id == r then .c k x else .unk
  | .agg xs=>.agg (meltDs r xs)
  | .nilsl=>.nilsl
  | _=>.unk
def meltDs (r:Nat):List A→List A
  | []=>[]
  | a :: as=>meltD r a :: meltDs r as
end
theorem meltDs_length (r:Nat) (as:List A):(meltDs r as).length=as.length:=by
  induction as with
  | nil=>rfl
  | cons a as ih=>simp [meltDs,ih]
theorem meltDs_getD (r:Nat) (as:List A) (i:Nat):(meltDs r as).getD i .unk=meltD r (as.getD i .unk):=by
  induction as generalizing i with
  | nil=>simp [meltDs,meltD]
  | cons a as ih =>
    cases i with
    | zero=>simp [meltDs]
    | succ i=>simpa [meltDs] using ih i
theorem meltD_rel {v:Value} {a:A} {r:Nat} {W:World} {Q:Nat→Prop} (hx:ARel P w al σ v a) (hσ:σ r = .reg W Q) (hq:∀ b,Q b→b < w.heap.size) (hw:∀ b,Q b→w.heap[b]? = W.heap[b]?) :
    ARel P w (Al (auxB w Q) w deadσ deadHp) deadσ v (meltD r a):=by
  induction hx with
  | c k v x h =>
    simp only [meltD]
    split
    · rename_i hk;exact .c _ _ _ (h.scalar hk)
    · exact .unk _
  | nilsl=>exact .nilsl
  | agg vs xs hl h ih =>
    simp only [meltD]
    refine .agg vs _ (by rw [meltDs_length];exact hl) (fun i hi=>?_)
    rw [meltDs_length] at hi
    rw [meltDs_getD];exact ih i hi
  | rg v id k x W' Q' h h1 =>
    simp only [meltD]
    split
    · rename_i e
      rw [beq_iff_eq] at e;subst e
      rw [hσ] at h;cases h
      exact .c _ _ _ (h1.mono hw (fun b hb=>al_aux (hq b hb) hb))
    · exact .unk _
  | rgGone v id k x h =>
    simp only [meltD]
    split
    · rename_i e
      rw [beq_iff_eq] at e;subst e
      rw [hσ] at h;cases h
    · exact .unk _
  | _=>exact .unk _
def bsR (P:Program) (r:Nat) (t:TypeId) (n:Nat) (parts:List (Nat×A)) (dst:Option Nat) (hp:Nat→Blk):Option Out :=
  match slE P t,dst with
  | some (e,E),some d=>if isRegB (hp r) && isDead (hp (key d 0)) then
      match placeParts deadHp E.kinds (parts.map fun p=>(p.1,meltD r p.2)) (List.replicate n (zeroRow E)) with
      | some es=>if es.length == n then some ⟨(n:Int) * E.bytes≤140737488355328∧n * E.kinds.length≤16777216,True,.rg (key d 0) (.slice e) (.slice es),upd (upd hp r .gone) (key d 0) .reg,false⟩ else none
      | none=>none
    else none
  | _,_=>none
end Go.AE
/-
  A slice of pointers to boxes' cells: measured, indexed at a known place.
-/
set_option linter.unusedVariables false
namespace Go.AE
open Go.RowKit (Below)
variable {P:Program} {w0:Base} {w:World} {N kp:Nat} {σ:Nat→RefI} {s:S} {tms:Array Value} {ρ:Operand→Value} {al:Nat→Prop}
end Go.AE
/-
  Slices that are known to be nil, within a made row; a row's cell that is lent while it is nil.
-/
set_option linter.unusedVariables false
namespace Go.AE
open Go.RowKit (Below)
variable {P:Program} {w0:Base} {w:World} {N kp:Nat} {σ:Nat→RefI} {s:S} {tms:Array Value} {ρ:Operand→Value} {al:Nat→Prop}
end Go.AE
/-
  Zero bytes appended to a row of the caller's own ('append(b, make([]byte, n)...)').
-/
set_option linter.unusedVariables false
set_option linter.unusedSimpArgs false
namespace Go.AE
open Go.RowKit (Below)
variable {P:Program} {w0:Base} {w:World} {N kp:Nat} {σ:Nat→RefI} {s:S} {tms:Array Value} {ρ:Operand→Value} {al:Nat→Prop}
end Go.AE
/-
  Regions that draw their order, where one operation waits for all others: it may be of any kind.
-/
set_option linter.unusedVariables false
namespace Go.AE
open Go.RowKit (Below)
variable {P:Program} {w0:Base} {w:World} {N kp:Nat} {s:S} {Γ:List Fn} {R:Nat→Option Bool} {bx:Nat→Foot} {lt:Nat→Bool}
variable {l:List ((Option Bool×Foot)×Option Nat×Oper)}
end Go.AE
/-
  Regions that draw their order: quiet operations first, the rest in every order; some of the rest may be of any kind.
-/
set_option linter.unusedVariables false
namespace Go.AE
open Go.RowKit (Below)
variable {P:Program} {w0:Base} {w:World} {N kp:Nat} {s:S} {Γ:List Fn} {R:Nat→Option Bool} {bx:Nat→Foot} {lt:Nat→Bool}
def marks:List Nat→Array Bool→Array Bool
  | [],l=>l
  | k :: ks,l=>marks ks (l.setIfInBounds k true)
variable {b:Code} {l:List ((Option Bool×Foot)×Option Nat×Oper)}
end Go.AE
/-
  A scalar loaded out of a region that is written on: it is not known. A slice built of what lies in a region, where one other value of that region stays.
-/
set_option linter.unusedVariables false
namespace Go.AE
open Go.RowKit (Below)
variable {P:Program} {w0:Base} {w:World} {N kp:Nat} {σ:Nat→RefI} {s:S} {tms:Array Value} {ρ:Operand→Value} {al:Nat→Prop}
def stepLW (P:Program) (o:Oper) (s:S) (K:S→Prop):Prop :=
  match o.guard,o.op with
  | none,.load t x=>match tyI P t,plainTm s.tm x with
    | some ⟨[.int k],false,_,_,_⟩,.rp r ks cells off=>isW (s.hp r)=true∧ks.headD .other = .int k∧allNeeds s.tm o.op.operands.toList∧∀ n,K ⟨updD s.tm o.dst (.c (.int k) (.int n)),s.hp⟩
    | _,_=>False
  | _,_=>False
theorem stepLW_ok:StepSound P (stepLW P):=by
  intro N ops o s K hok h
  unfold stepLW at h
  split at h
  · rename_i t x hg hoo
    split at h
    · rename_i k fs el by_ r ks cells off hT hvx
      obtain ⟨hw,hk,hn,hK⟩:=h
      obtain ⟨hd,ho⟩:=operOk_spec hok
      intro w0 a w hR
      refine ⟨fun _ K' Q hq=>?_,fun hw=>by rw [wanted_none hg] at hw;cases hw⟩
      obtain ⟨σ,hR⟩:=hR
      have hx:=plain_sound hR (ho x (by rw [hoo];simp [Op.operands])) (allNeeds_spec hn x (by rw [hoo];simp [Op.operands]))
      rw [hvx] at hx
      obtain ⟨W,Q',h1,h2⟩:=wob_spec hR hw
      unfold Oper.wp
      generalize hvv:a.eval x=vx at hx
      cases hx with
      | rpGone _ _ _ _ _ hg=>rw [h1] at hg;cases hg
      | rp _ _ _ _ b o' W' Q'' hσ hal f' hcell hrep =>
        rw [h1] at hσ;cases hσ
        have hlen:0 < ks.length:=by
          cases ks with
          | nil=>simp at hk
          | cons a l=>simp
        have hk0:ks.getD 0 .other = .int k:=by
          cases ks with
          | nil=>simp at hk
          | cons a l=>simpa using hk
        have hr0:=hrep 0 hlen
        rw [hk0,Nat.add_zero] at hr0
        obtain ⟨u,hu,hsim,_⟩:=wob_cell (h2 b hal).2 (hcell 0 hlen)
        have hui:∃ n,u = .int k n∧InR k n:=by
          generalize hff:f' 0=v0 at hr0 hsim
          cases hr0 with
          | int _ _ hin =>
            rcases hsim with rfl | ⟨b1,b2,_,e⟩ | ⟨k1,n,n',e1,e2,e3⟩ | ⟨s1,s2,_,e,_⟩
            · exact ⟨_,rfl,hin⟩
            · cases e
            · cases e2;exact ⟨n,e1,e3⟩
            · cases e
        obtain ⟨n,rfl,hin⟩:=hui
        have hld:=run_loadAt (w:=w) hT b o' (fun _=>.int k n) (fun j hj=>by
          have:j=0:=by simpa using hj
          subst this;exact hu)
        simp only [Bool.false_eq_true,if_false] at hld
        have hrun:(execOp a.eval o).run P w = .ok (.value (.int k n)) w:=by
          simp only [execOp,hoo]
          exact run_value (by rw [hvv];exact hld)
        rw [hrun]
        exact hq _ _ _ (put_defers _ _ _) (hK n) ⟨σ,Rel.putD hd hR (.c _ _ _ (.int k (.int n) hin))⟩
    · exact h.elim
  · exact h.elim
theorem bsR_soundT (h00:tyI P 0=none) {r:Nat} {o:Oper} {q:Out} {t:TypeId} {n:Nat} {parts:Array (Nat×Operand)} {v:Operand→A} (h:RelL P w0 N σ s tms w) (hf:bsR P r t n (parts.toList.map fun p=>(p.1,v p.2)) o.dst s.hp=some q) (ho:o.op = .buildSlice t n parts) (hp:q.pre)
    (hv:∀ x,x∈o.op.operands→ARel P w (Al w0 w σ s.hp) σ (ρ x) (v x)):∃ u w' σ',(execOp ρ o).run P w = .ok (.value u) w'∧RelL P w0 N σ' ⟨s.tm,q.hp⟩ tms w'∧ARel P w' (Al w0 w' σ' q.hp) σ' u q.val∧∀ d,o.dst=some d→∀ v k x,ARel P w (Al w0 w σ s.hp) σ v (.rg r k x)→ARel P w' (Al w0 w' σ' q.hp) σ' v (.rg (key d 0) k x):=by
  unfold bsR at hf
  split at hf
  · rename_i e E d hs hdst
    split at hf
    · rename_i hc
      simp only [Bool.and_eq_true] at hc
      split at hf
      · rename_i es hb
        split at hf
        · rename_i hlen
          rw [beq_iff_eq] at hlen
          simp only [Option.some.injEq] at hf;subst hf
          obtain ⟨W,Q,hσ,hq1,hq2⟩:=reg_spec h hc.1
          have hd:=isDead_spec hc.2
          have hx:=h.aux (Q:=Q)
          rw [List.map_map] at hb
          obtain ⟨u,w',hr,σ1,hR1,hu⟩:=buildSlice_sound (id:=0) (vs:=parts.map fun (i,x)=>(i,ρ x)) h00 hx hs rfl hb hp.1 hp.2 (by simp) (fun k hk=>by
              have hk':k < parts.size:=by simpa using hk
              simp only [Array.toList_map,List.getD_eq_getElem?_getD,List.getElem?_map,Array.getElem?_toList,Array.getElem?_eq_getElem hk',Option.map_some,Option.getD_some,Function.comp]
              exact ⟨trivial,meltD_rel (hv _ (by rw [ho];simp only [Op.operands];simp;exact ⟨parts[k].1,Array.getElem_mem hk'⟩)) hσ hq1 hq2⟩) (rows_of_parts hb)
          have hrow:∀ id,id∈[0]→∃ t' es',(upd (freezeAll deadHp (idsOf ((List.map ((fun p=>(p.1,meltD r p.2)) ∘ fun p=>(p.1,v p.2)) parts.toList).map (·.2)))) 0 (.row e es)) id = .row t' es'∨(upd (freezeAll deadHp (idsOf ((List.map ((fun p=>(p.1,meltD r p.2)) ∘ fun p=>(p.1,v p.2)) parts.toList).map (·.2)))) 0 (.row e es)) id = .frz t' es':=by
            intro id hid
            rw [List.mem_singleton] at hid;subst hid
            exact ⟨e,es,.inl (by simp [upd])⟩
          obtain ⟨hz1,hz2⟩:=al_freeze hR1 [0] hrow
          have hrep:=(toCell_sound hR1 (a:=.own 0 E.kinds 0 n) (k:=.slice e) (x:=.slice ((es.drop 0).take n)) (by simp [toCell,upd]) hu hz1 (fun id hid=>hz2 id (by simpa [frozenIds] using hid))).cells
          rw [List.drop_zero,List.take_of_length_le (by omega)] at hrep
          obtain ⟨Q',hQ'⟩:∃ Q':Nat→Prop,Q'=fun b=>Al (auxB w Q) w' σ1 (freezeAll (upd (freezeAll deadHp (idsOf ((List.map ((fun p=>(p.1,meltD r p.2)) ∘ fun p=>(p.1,v p.2)) parts.toList).map (·.2)))) 0 (.row e es)) [0]) b∧CellsAt w' b:=⟨_,rfl⟩
          rw [← hQ'] at hrep
          have hQ1:∀ b,Q' b→w.heap.size≤b∨Q b:=by
            intro b hb
            rw [hQ'] at hb
            rcases hb.1.2.2 with h1 | h1
            · rcases h1 with h1 | h1
              · exact .inl h1
              · exact h1.elim
            · exact .inr h1
          have hbw:Below w.heap.size w w':=BelowX.below hR1.below
          have hne:r≠key d 0:=by intro e;have:=isRegB_spec hc.1;rw [e,hd] at this;cases this
          have hσk:σ (key d 0) = .dead:=bref_dead (h.blks _) hd
          have hQn:∀ b i,blockOf (σ i) b→Q' b→i=r:=by
            intro b i hi hb
            have h1:=(block_lt_of_bref (h.blks i) hi).1
            rcases hQ1 b hb with h2 | h2
            · omega
            · exact h.inj i r b hi (by rw [hσ];exact h2)
          have hal:∀ b,Al w0 w σ s.hp b→Al w0 w' (upd (upd σ r .gone) (key d 0) (.reg w' Q')) (upd (upd s.hp r .gone) (key d 0) .reg) b:=by
            intro b hb
            refine ⟨Nat.lt_of_lt_of_le hb.1 hbw.size,fun i hi=>?_,hb.2.2⟩
            by_cases e1:i=key d 0
            · simp only [upd,e1,if_true] at hi
              rcases hQ1 b hi with h1 | h1
              · have:=hb.1;omega
              · have:=hb.2.1 r (by rw [hσ];exact h1)
                rw [isRegB_spec hc.1] at this;exact this.elim
            · by_cases e2:i=r
              · simp [upd,e2,hne,blockOf] at hi
              · simp only [upd,e1,e2,if_false] at hi ⊢;exact hb.2.1 i hi
          have hheap:∀ b,Al w0 w σ s.hp b→w'.heap[b]? = w.heap[b]? := fun b hb=>hbw.block b hb.1
          have hinc:∀ b,Q b→CellsAt W b→Q' b:=by
            intro b hb hcl
            have hlt:=hq1 b hb
            have hbl:=hbw.block b hlt
            rw [hQ']
            refine ⟨⟨Nat.lt_of_lt_of_le hlt hbw.size,fun i hi=>?_,.inr hb⟩,?_⟩
            · rcases (block_lt_of_bref (hR1.blks i) hi).2 with h3 | ⟨j,h3⟩
              exact absurd h3 (Nat.not_le_of_lt hlt)
            · obtain ⟨vs,tt,zz,h3⟩:=hcl
              exact ⟨vs,tt,zz,by rw [hbl,hq2 b hb,h3]⟩
          refine ⟨u,w',upd (upd σ r .gone) (key d 0) (.reg w' Q'),?_,?_,.rg _ _ _ _ w' Q' (by simp [upd]) hrep,fun d' hd' v k x hv'=>?_⟩
          rotate_left 2
          · rw [hdst] at hd';cases hd'
            cases hv' with
            | rgGone _ _ _ _ hg=>rw [hσ] at hg;cases hg
            | rg _ _ _ _ W1 Q1 hσ1 hr1 =>
              rw [hσ] at hσ1;cases hσ1
              exact .rg _ _ _ _ w' Q' (by simp [upd]) (hr1.cells.mono (fun b hb=>by rw [hbw.block b (hq1 b hb.1),hq2 b hb.1]) (fun b hb=>hinc b hb.1 hb.2))
          · simp only [execOp,ho]
            exact run_value hr
          · refine h.change (h.below.trans ⟨hbw.os,hbw.tape,hbw.output,hbw.size,fun i hi hn=>hbw.block i (Nat.lt_of_lt_of_le hi h.below.size)⟩) hbw.size hal hheap (fun i hi=>?_) (fun i=>?_) ?_
            · by_cases e1:i=key d 0
              · subst e1;exact absurd hσk hi
              · by_cases e2:i=r
                · exact .inr ⟨by simp [upd,e2,hne],by rw [e2,hσ];trivial⟩
                · exact .inl (by simp [upd,e1,e2])
            · by_cases e1:i=key d 0
              · refine .inr ?_
                have e3:(upd (upd s.hp r .gone) (key d 0) .reg) i = .reg:=by simp [upd,e1]
                show BRel P w' w0.wr _ _ i ((upd (upd s.hp r .gone) (key d 0) .reg) i)
                rw [e3]
                refine ⟨w',Q',by simp [upd,e1],fun b hb=>⟨?_,?_⟩⟩
                · rcases hQ1 b hb with h1 | h1
                  · exact .inl (Nat.le_trans h.below.size h1)
                  · exact (block_lt_of_bref (h.blks r) (by rw [hσ];exact h1)).2
                · rw [hQ'] at hb
                  obtain ⟨vs,tt,zz,h1⟩:=hb.2
                  exact ⟨vs,tt,zz,h1,h1⟩
              · by_cases e2:i=r
                · refine .inr ?_
                  have e3:(upd (upd s.hp r .gone) (key d 0) .reg) i = .gone:=by simp [upd,e2,hne]
                  show BRel P w' w0.wr _ _ i ((upd (upd s.hp r .gone) (key d 0) .reg) i)
                  rw [e3]
                  show (upd (upd σ r .gone) (key d 0) (.reg w' Q')) i = .gone
                  simp [upd,e2,hne]
                · exact .inl ⟨by simp [upd,e1,e2],by simp [upd,e1,e2],fun b hb=>hbw.block b (block_lt_of_bref (h.blks i) hb).1⟩
            · intro i j b hi hj
              by_cases e1:i=key d 0 <;> by_cases e2:j=key d 0
              · rw [e1,e2]
              · simp only [upd,e1,if_true] at hi
                by_cases e3:j=r
                · simp [upd,e3,hne,blockOf] at hj
                · simp only [upd,e2,e3,if_false] at hj
                  exact absurd (hQn b j hj hi) e3
              · simp only [upd,e2,if_true] at hj
                by_cases e3:i=r
                · simp [upd,e3,hne,blockOf] at hi
                · simp only [upd,e1,e3,if_false] at hi
                  exact absurd (hQn b i hi hj) e3
              · by_cases e3:i=r
                · simp [upd,e3,hne,blockOf] at hi
                · by_cases e4:j=r
                  · simp [upd,e4,hne,blockOf] at hj
                  · simp only [upd,e1,e2,e3,e4,if_false] at hi hj
                    exact h.inj i j b hi hj
        · cases hf
      · cases hf
    · cases hf
  · cases hf
end Go.AE
/-
  A slice built of what lies in a region, where several values of that region stay.
-/
set_option linter.unusedVariables false
namespace Go.AE
open Go.RowKit (Below)
variable {P:Program} {w0:Base} {w:World} {N kp:Nat} {σ:Nat→RefI} {s:S} {tms:Array Value} {ρ:Operand→Value} {al:Nat→Prop}
def ret0 (r r':Nat):A→A
  | .rg i k x=>bif i == r then .rg r' k x else .rg i k x
  | a=>a
def ret1 (r r':Nat):A→A
  | .agg xs=>.agg (xs.map (ret0 r r'))
  | a=>ret0 r r' a
def ret2 (r r':Nat):A→A
  | .when g a=>.when g (ret1 r r' a)
  | a=>ret1 r r' a
def retTs (r r':Nat) (tm:Nat→A):List Nat→Nat→A
  | []=>tm
  | t :: ts=>upd (retTs r r' tm ts) t (ret2 r r' (tm t))
theorem agg_inv {σ:Nat→RefI} {v:Value} {xs:List A} (h:ARel P w al σ v (.agg xs)):∃ vs:List Value,v = .agg vs.toArray∧vs.length=xs.length∧∀ i,i < xs.length→ARel P w al σ (vs.getD i undef) (xs.getD i .unk):=by
  generalize ha:A.agg xs=a at h
  cases h <;> cases ha
  exact ⟨_,rfl,by assumption,by assumption⟩
theorem ret0_ok {w w':World} {al al':Nat→Prop} {σ σ':Nat→RefI} {r r':Nat} {v:Value} {a:A} (h:ARel P w al σ v a) (h':ARel P w' al' σ' v a) (hk:∀ v k x,ARel P w al σ v (.rg r k x)→ARel P w' al' σ' v (.rg r' k x)):ARel P w' al' σ' v (ret0 r r' a):=by
  unfold ret0
  split
  · rename_i i k x
    cases hi:(i == r)
    · exact h'
    · rw [beq_iff_eq] at hi;subst hi;exact hk _ _ _ h
  · exact h'
theorem ret1_ok {w w':World} {al al':Nat→Prop} {σ σ':Nat→RefI} {r r':Nat} {v:Value} {a:A} (h:ARel P w al σ v a) (h':ARel P w' al' σ' v a) (hk:∀ v k x,ARel P w al σ v (.rg r k x)→ARel P w' al' σ' v (.rg r' k x)):ARel P w' al' σ' v (ret1 r r' a):=by
  unfold ret1
  split
  · rename_i xs
    obtain ⟨vs,rfl,hl,hv⟩:=agg_inv h
    obtain ⟨vs',he,hl',hv'⟩:=agg_inv h'
    have he:vs=vs':=by
      have:=congrArg (fun v=>match v with | Value.agg a=>a.toList | _=>[]) he
      simpa using this
    subst he
    refine .agg vs _ (by simp [hl]) fun i hi=>?_
    have hi':i < xs.length:=by simpa using hi
    have:(xs.map (ret0 r r')).getD i .unk=ret0 r r' (xs.getD i .unk):=by
      simp [List.getD_eq_getElem?_getD,List.getElem?_eq_getElem hi']
    rw [this]
    exact ret0_ok (hv i hi') (hv' i hi') hk
  · exact ret0_ok h h' hk
theorem ret2_ok {w w':World} {al al':Nat→Prop} {σ σ':Nat→RefI} {r r':Nat} {v:Value} {a:A} (h:ARel P w al σ v a) (h':ARel P w' al' σ' v a) (hk:∀ v k x,ARel P w al σ v (.rg r k x)→ARel P w' al' σ' v (.rg r' k x)):ARel P w' al' σ' v (ret2 r r' a):=by
  unfold ret2
  split
  · rename_i g a
    cases g
    · cases h'
      exact .whenF _
    · cases h' with
      | whenT _ _ h1 =>
        cases h with
        | whenT _ _ h0=>exact .whenT _ _ (ret1_ok h0 h1 hk)
  · exact ret1_ok h h' hk
def stepBTs (P:Program) (r:Nat) (ts:List Nat) (o:Oper) (s:S) (K:S→Prop):Prop :=
  match o.guard,o.op,o.dst with
  | none,.buildSlice t n parts,some d=>match bsR P r t n (parts.toList.map fun p=>(p.1,plainTm s.tm p.2)) o.dst s.hp with
    | some q=>allNeeds s.tm o.op.operands.toList∧q.pre∧(q.fact→K ⟨updD (retTs r (key d 0) s.tm ts) o.dst q.val,q.hp⟩)
    | _=>False
  | _,_,_=>False
theorem stepBTs_ok (h00:tyI P 0=none) (r:Nat) (ts:List Nat):StepSound P (stepBTs P r ts):=by
  intro N ops o s K hok h
  unfold stepBTs at h
  split at h
  · rename_i t n parts d hg hoo hdst
    split at h
    · rename_i q hop
      obtain ⟨hn,hp,hK⟩:=h
      obtain ⟨hd,ho⟩:=operOk_spec hok
      intro w0 a w hR
      refine ⟨fun _ K' Q hq=>?_,fun hw=>by rw [wanted_none hg] at hw;cases hw⟩
      obtain ⟨σ,hR⟩:=hR
      obtain ⟨u,w',σ',hr,hR',hu,hkeep⟩:=bsR_soundT h00 hR hop hoo hp (fun x hx=>plain_sound hR (ho x hx) (allNeeds_spec hn x (Array.mem_toList_iff.2 hx)))
      have hf:q.fact:=by
        unfold bsR at hop
        split at hop
        · split at hop
          · split at hop
            · split at hop
              · simp only [Option.some.injEq] at hop;subst hop;trivial
              · cases hop
            · cases hop
          · cases hop
        · cases hop
      have hR2:RelL P w0 N σ' ⟨retTs r (key d 0) s.tm ts,q.hp⟩ a.tmps w':=by
        refine ⟨hR'.below,hR'.size,fun j=>?_,hR'.blks,hR'.inj,hR'.keep,hR'.marks⟩
        show ARel _ _ _ _ _ (retTs r (key d 0) s.tm ts j)
        clear hK
        induction ts with
        | nil=>exact hR'.tms j
        | cons t ts ih =>
          show ARel _ _ _ _ _ (upd (retTs r (key d 0) s.tm ts) t (ret2 r (key d 0) (s.tm t)) j)
          unfold upd
          split
          · rename_i e;subst e;exact ret2_ok (hR.tms j) (hR'.tms j) (hkeep d hdst)
          · exact ih
      unfold Oper.wp
      rw [hr]
      exact hq _ _ _ (put_defers _ _ _) (hK hf) ⟨σ',Rel.putD hd hR2 hu⟩
    · exact h.elim
  · exact h.elim
end Go.AE
