/- Text. -/
import Derived.Test.YtkebegfopnlkhaaAE44
import Derived.Test.YtkebegfopnlkhaaAE41
import Derived.Test.YtkebegfopnlkhaaAE11B
import Derived.Test.YtkebegfopnlkhaaAE33
import Derived.Test.YtkebegfopnlkhaaAE25
set_option linter.unusedSimpArgs false
set_option linter.unusedVariables false
open _root_.Array renaming mem_append→Jz,mem_toList_iff→jz
open _root_.List renaming length_pos_iff→JF,getD_eq_getElem?_getD→ja
namespace Go.AE
open Go.RowKit (Below)
variable {P:Program} {w0:Base} {w:World} {N kp:Nat} {σ:Nat→RefI} {s:S} {tms:Array Value} {ρ:Operand→Value} {al:Nat→Prop} {Γ:List Fn}
theorem cell_cells {a:Addr} {v:Value} (h:w.cell? a=some v):∃ vs t z,w.heap[a.block]? = some (.cells vs t z):=by
  unfold World.cell? at h
  cases ho:w.heap[a.block]? with
  | none=>simp [ho] at h
  | some o=>cases o <;> simp_all
def CellsAt (w:World) (b:Nat):Prop:=∃ vs t z,w.heap[b]? = some (.cells vs t z)
theorem RepC.cells {k:Kd} {v:Value} {x:C} (h:RepC P w al k v x):RepC P w (fun b=>al b∧CellsAt w b) k v x:=by
  induction h with
  | bool x=>exact .bool x
  | int k x h=>exact .int k x h
  | str x h=>exact .str x h
  | empty t x a cap h hz=>exact .empty t x a cap h hz
  | slice t x b off cap hz E hE hal hlen hcap hel f hcell hrep ih =>
    by_cases he:x.toSl=[]
    · have:=RepC.empty (P:=P) (w:=w) (Al:=fun b=>al b∧CellsAt w b) t x (some ⟨b,off,none⟩) cap he (fun e=>absurd e hz)
      simpa [he] using this
    · have h0:0 < x.toSl.length:=JF.2 he
      obtain ⟨SE⟩:=tyI_spec hE
      exact .slice t x b off cap hz E hE ⟨hal,cell_cells (cellN_cell (hcell 0 h0 0 (JF.2 SE.ne)))⟩ hlen hcap hel f hcell ih
  | arr t x vs n e E hA hn hl hel hrep ih=>exact .arr t x vs n e E hA hn hl hel ih
  | ptr t v x=>exact .ptr t v x
  | other v x=>exact .other v x
def deadHp:Nat→Blk:=fun _=>.dead
def regId:A→Option Nat
  | .rg id _ _=>some id
  | .rp id _ _ _=>some id
  | _=>none
def meltA:A→A
  | .rg _ k x=>.c k x
  | .rp _ ks cells off=>.pp ks cells off
  | _=>.unk
mutual
def tagA (r:Nat):A→A
  | .c k x=>if scalarK k then .c k x else .rg r k x
  | .pp ks cells off=>.rp r ks cells off
  | .agg xs=>.agg (tagAs r xs)
  | .nilsl=>.nilsl
  | _=>.unk
def tagAs (r:Nat):List A→List A
  | []=>[]
  | a :: as=>tagA r a :: tagAs r as
end
def intO:Option A→Bool
  | none=>true
  | some (.c (.int _) _)=>true
  | _=>false
def rdR (hp:Nat→Blk) (x:A) (f:A→Option (Prop×A)):Option Out :=
  match regId x with
  | some r=>if isRegB (hp r) then match f (meltA x) with
    | some (p,a)=>some ⟨p,True,tagA r a,hp,true⟩
    | none=>none
    else none
  | none=>none
def opRg (P:Program) (o:Oper) (hp:Nat→Blk) (v:Operand→A):Option Out :=
  match o.op with
  | .load t x=>match tyI P t with
    | some T=>rdR hp (v x) fun a=>loadA T deadHp a
    | none=>none
  | .fieldAddr t x f=>match tyI P t with
    | some T=>rdR hp (v x) fun a=>(fieldA T deadHp f a).map fun z=>(True,z)
    | none=>none
  | .indexAddr t x i=>match slE P t,v i with
    | some (e,E),.c (.int _) n=>rdR hp (v x) fun a=>indexAddrA e E deadHp a n.toInt
    | _,_=>none
  | .slice t x lo hi none=>if intO (lo.map v) && intO (hi.map v) then rdR hp (v x) fun a=>sliceA P t deadHp a (lo.map v) (hi.map v) else none
  | .call c=>match c.callee with
    | .builtin .len=>match c.args.toList,c.argTypes.toList with
      | [x],[t]=>match rdR hp (v x) fun a=>lenA P t deadHp a with
        | some r=>some { r with pre:=True,fact:=r.pre }
        | none=>none
      | _,_=>none
    | _=>none
  | _=>none
def stepRg (P:Program) (o:Oper) (s:S) (K:S→Prop):Prop :=
  match o.guard with
  | none=>match opRg P o s.hp (plainTm s.tm) with
    | some r=>allNeeds s.tm o.op.operands.toList∧r.pre∧(r.fact→K ⟨updD s.tm o.dst r.val,r.hp⟩)
    | none=>False
  | some _=>False
def regVals:List Kd→List C→Nat→List A
  | [],_,_=>[]
  | k :: ks,cells,j=>(if scalarK k then .c k (nrm k (cg cells j)) else .rg 0 k (nrm k (cg cells j))) :: regVals ks cells (j+1)
def regArg (p:Bool×List Kd) (xs:List C):A:=pack p.1 (regVals p.2 xs 0)
def regArg1 (p:Bool×List Kd) (c:List C):Arg:=if p.2.all scalarK then .dat p c else .ref (regArg p c)
def regArgs:List (Bool×List Kd)→List (List C)→List Arg
  | p :: ps,c :: cs=>regArg1 p c :: regArgs ps cs
  | _,_=>[]
mutual
def tagV (r:Nat) (hp:Nat→Blk):A→A
  | .c k x=>if scalarK k then .c k x else .rg r k x
  | .agg xs=>.agg (tagVs r hp xs)
  | .nilsl=>.nilsl
  | .own id ks off len=>match hp id with
    | .row t es=>.rg r (.slice t) (.slice ((es.drop off).take len))
    | .frz t es=>.rg r (.slice t) (.slice ((es.drop off).take len))
    | _=>.unk
  | _=>.unk
def tagVs (r:Nat) (hp:Nat→Blk):List A→List A
  | []=>[]
  | a :: as=>tagV r hp a :: tagVs r hp as
end
structure FCall (P:Program) (g:FuncId) (acts:List A) (hp:Nat→Blk) (r:Nat) (val:A) (hp':Nat→Blk):Prop where
  ex:∃ ps css as res hs',CallsM P g as [.reg] res (.reg :: hs')∧fitArgs hp ps acts=some css∧as=regArgs ps css∧isDead (hp r)=true∧val=unTup (tagVs r (rowsHp (.reg :: hs')) res)∧hp'=upd (freezeAll hp (idsOf acts)) r .reg
end Go.AE
/-
  A call whose results become a region: the rule of a printed proof.
-/
namespace Go.AE
variable {P:Program} {N kp:Nat} {s s':S} {Γ:List Fn} {g:Option Nat} {o:Oper} {os:List (Option Nat×Oper)} {K:S→Prop}
end Go.AE
/-
  Regions whose plain cells are written: what stays is where their data lie.
-/
namespace Go.AE
open Go.RowKit (Below)
variable {P:Program} {w0:Base} {w:World} {N kp:Nat} {σ:Nat→RefI} {s:S} {tms:Array Value} {ρ:Operand→Value} {al:Nat→Prop} {Γ:List Fn}
def isW:Blk→Bool
  | .reg=>true
  | .wob=>true
  | _=>false
def scalPre:List Kd→List A→Bool
  | [],[]=>true
  | k :: ks,.c k' _ :: as=>scalarK k && (k == k') && scalPre ks as
  | _,_=>false
def opW (P:Program) (o:Oper) (hp:Nat→Blk) (v:Operand→A):Option Out :=
  match o.op with
  | .indexAddr t x i=>match slE P t,v x,v i with
    | some (e,E),.rg r (.slice t') c,.c (.int _) n=>if isW (hp r) && (t' == e) then some ⟨0≤n.toInt∧n.toInt < (c.toSl.length:Int),True,.rp r E.kinds (eg c.toSl n.toInt.toNat) 0,hp,true⟩ else none
    | _,_,_=>none
  | .fieldAddr t x f=>match tyI P t,v x with
    | some T,.rp r ks cells off=>if isW (hp r) then (T.fields[f]?).map fun p=>⟨True,True,.rp r (ks.drop p.1) cells (off+p.1),hp,true⟩ else none
    | _,_=>none
  | .load t x=>match slE P t,v x with
    | some (e,_),.rp r ks cells off=>if isW (hp r) && (ks.headD .other == .slice e) then some ⟨True,True,.rg r (.slice e) (nrm (.slice e) (cg cells off)),hp,true⟩ else none
    | _,_=>none
  | .call c=>match c.callee with
    | .builtin .len=>match c.args.toList,c.argTypes.toList with
      | [x],[t]=>match v x,(slE P t).isSome with
        | .rg r (.slice _) cc,true=>if isW (hp r) then some ⟨True,(cc.toSl.length:Int)≤140737488355328,ki .i64 cc.toSl.length,hp,true⟩ else none
        | _,_=>none
      | _,_=>none
    | _=>none
  | .store t x y=>match tyI P t,v x with
    | some T,.rp r ks cells off=>if isW (hp r) && (scalPre (ks.take T.kinds.length) (cellsA (v y)) && (decide (T.kinds.length≤ks.length))) then some ⟨True,True,.unk,upd hp r .wob,false⟩ else none
    | _,_=>none
  | _=>none
theorem SimV.trans {a b c:Value} (h1:SimV a b) (h2:SimV b c):SimV a c:=by
  rcases h1 with rfl | ⟨x,y,rfl,rfl⟩ | ⟨k,n,m,rfl,rfl,hr⟩ | ⟨x,y,rfl,rfl,hs⟩
  · exact h2
  · rcases h2 with rfl | ⟨x',y',e,rfl⟩ | ⟨_,_,_,e,_⟩ | ⟨_,_,e,_⟩
    · exact .inr (.inl ⟨_,_,rfl,rfl⟩)
    · exact .inr (.inl ⟨_,_,rfl,rfl⟩)
    · cases e
    · cases e
  · rcases h2 with rfl | ⟨x',y',e,_⟩ | ⟨k',n',m',e,rfl,_⟩ | ⟨_,_,e,_⟩
    · exact .inr (.inr (.inl ⟨_,_,_,rfl,rfl,hr⟩))
    · cases e
    · cases e;exact .inr (.inr (.inl ⟨_,_,_,rfl,rfl,hr⟩))
    · cases e
  · rcases h2 with rfl | ⟨x',y',e,_⟩ | ⟨k',n',m',e,_,_⟩ | ⟨_,_,e,rfl,_⟩
    · exact .inr (.inr (.inr ⟨_,_,rfl,rfl,hs⟩))
    · cases e
    · cases e
    · cases e;exact .inr (.inr (.inr ⟨_,_,rfl,rfl,hs⟩))
def stepW (P:Program) (o:Oper) (s:S) (K:S→Prop):Prop :=
  match o.guard with
  | none=>match opW P o s.hp (plainTm s.tm) with
    | some r=>allNeeds s.tm o.op.operands.toList∧r.pre∧(r.fact→K ⟨updD s.tm o.dst r.val,r.hp⟩)
    | none=>False
  | some _=>False
end Go.AE
/-
  All that a state holds becomes one region (for functions that were handed all their data, and that write on them).
-/
namespace Go.AE
open Go.RowKit (Below)
variable {P:Program} {w0:Base} {w:World} {N kp:Nat} {σ:Nat→RefI} {s:S} {tms:Array Value} {ρ:Operand→Value} {al:Nat→Prop} {Γ:List Fn} {a b c:Code} {Q:Exit→S→Prop}
mutual
def colA (r:Nat) (hp:Nat→Blk):A→A
  | .c k x=>if scalarK k then .c k x else .rg r k x
  | .agg xs=>.agg (colAs r hp xs)
  | .nilsl=>.nilsl
  | .own id ks off len=>match hp id with
    | .row t es=>.rg r (.slice t) (.slice ((es.drop off).take len))
    | .frz t es=>.rg r (.slice t) (.slice ((es.drop off).take len))
    | _=>.unk
  | .box id off=>match hp id with
    | .box _=>.box id off
    | _=>.unk
  | _=>.unk
def colAs (r:Nat) (hp:Nat→Blk):List A→List A
  | []=>[]
  | a :: as=>colA r hp a :: colAs r hp as
end
def colB (r:Nat) (hp:Nat→Blk):Blk→Blk
  | .row _ _=>.gone
  | .frz _ _=>.gone
  | .box cells=>.box (colAs r hp cells)
  | b=>b
def colHp (r:Nat) (hp:Nat→Blk):Nat→Blk:=fun id=>if id=r then .reg else colB r hp (hp id)
mutual
def rgOnly:A→Bool
  | .c k _=>scalarK k
  | .rg _ _ _=>true
  | .agg xs=>rgOnlys xs
  | .nilsl=>true
  | _=>false
def rgOnlys:List A→Bool
  | []=>true
  | a :: as=>rgOnly a && rgOnlys as
end
theorem rgOnlys_getD:∀ {as:List A},rgOnlys as=true→∀ i,i < as.length→rgOnly (as.getD i .unk)=true
  | [],_,i,hi=>by simp at hi
  | a :: as,h,0,_=>by simp only [rgOnlys,Bool.and_eq_true] at h;simpa using h.1
  | a :: as,h,i+1,hi=>by simp only [rgOnlys,Bool.and_eq_true] at h;simpa using rgOnlys_getD h.2 i (by simpa using hi)
theorem ARel.rgOnly {al':Nat→Prop} {v:Value} {x:A} (h:ARel P w al σ v x) (hx:rgOnly x=true):ARel P w al' σ v x:=by
  induction h with
  | c k v x h=>exact .c _ _ _ (h.scalar (by simpa [Go.AE.rgOnly] using hx))
  | nilsl=>exact .nilsl
  | agg vs xs hl h ih=>exact .agg vs xs hl (fun i hi=>ih i hi (rgOnlys_getD (by simpa [Go.AE.rgOnly] using hx) i hi))
  | rg v id k x W Q h hr=>exact .rg v id k x W Q h hr
  | rgGone v id k x h=>exact .rgGone v id k x h
  | _=>simp [Go.AE.rgOnly] at hx
end Go.AE
/-
  Functions whose results are new: their contracts, out of what they do when all their data are a region.
-/
namespace Go.AE
open Go.RowKit (Below)
variable {P:Program} {w0:Base} {w:World} {N kp:Nat} {σ:Nat→RefI} {s:S} {tms:Array Value} {al:Nat→Prop}
end Go.AE
/-
  A slice built of what lies in a region: with its own block, it is a region again.
-/
namespace Go.AE
open Go.RowKit (Below)
variable {P:Program} {w0:Base} {w:World} {N kp:Nat} {σ:Nat→RefI} {s:S} {tms:Array Value} {ρ:Operand→Value} {al:Nat→Prop}
mutual
def meltD (r:Nat):A→A
  | .c k x=>if scalarK k then .c k x else .unk
  | .rg id k x=>if id == r then .c k x else .unk
  | .agg xs=>.agg (meltDs r xs)
  | .nilsl=>.nilsl
  | _=>.unk
def meltDs (r:Nat):List A→List A
  | []=>[]
  | a :: as=>meltD r a :: meltDs r as
end
end Go.AE
/-
  A slice of pointers to boxes' cells: measured, indexed at a known place.
-/
namespace Go.AE
open Go.RowKit (Below)
variable {P:Program} {w0:Base} {w:World} {N kp:Nat} {σ:Nat→RefI} {s:S} {tms:Array Value} {ρ:Operand→Value} {al:Nat→Prop}
end Go.AE
/-
  Slices that are known to be nil, within a made row; a row's cell that is lent while it is nil.
-/
namespace Go.AE
open Go.RowKit (Below)
variable {P:Program} {w0:Base} {w:World} {N kp:Nat} {σ:Nat→RefI} {s:S} {tms:Array Value} {ρ:Operand→Value} {al:Nat→Prop}
end Go.AE
/-
  Zero bytes appended to a row of the caller's own ('append(b, make([]byte, n)...)').
-/
namespace Go.AE
open Go.RowKit (Below)
variable {P:Program} {w0:Base} {w:World} {N kp:Nat} {σ:Nat→RefI} {s:S} {tms:Array Value} {ρ:Operand→Value} {al:Nat→Prop}
end Go.AE
/-
  Regions that draw their order, where one operation waits for all others: it may be of any kind.
-/
namespace Go.AE
open Go.RowKit (Below)
variable {P:Program} {w0:Base} {w:World} {N kp:Nat} {s:S} {Γ:List Fn} {R:Nat→Option Bool} {bx:Nat→Foot} {lt:Nat→Bool}
variable {l:List ((Option Bool×Foot)×Option Nat×Oper)}
end Go.AE
/-
  Regions that draw their order: quiet operations first, the rest in every order; some of the rest may be of any kind.
-/
namespace Go.AE
open Go.RowKit (Below)
variable {P:Program} {w0:Base} {w:World} {N kp:Nat} {s:S} {Γ:List Fn} {R:Nat→Option Bool} {bx:Nat→Foot} {lt:Nat→Bool}
def marks:List Nat→Array Bool→Array Bool
  | [],l=>l
  | k :: ks,l=>marks ks (l.setIfInBounds k true)
variable {b:Code} {l:List ((Option Bool×Foot)×Option Nat×Oper)}
end Go.AE
/-
  A scalar loaded out of a region that is written on: it is not known. A slice built of what lies in a region, where one other value of that region stays.
-/
namespace Go.AE
open Go.RowKit (Below)
variable {P:Program} {w0:Base} {w:World} {N kp:Nat} {σ:Nat→RefI} {s:S} {tms:Array Value} {ρ:Operand→Value} {al:Nat→Prop}
end Go.AE
/-
  A slice built of what lies in a region, where several values of that region stay.
-/
namespace Go.AE
open Go.RowKit (Below)
variable {P:Program} {w0:Base} {w:World} {N kp:Nat} {σ:Nat→RefI} {s:S} {tms:Array Value} {ρ:Operand→Value} {al:Nat→Prop}
end Go.AE
/-
  A call whose answer is only known to be data of a kind: its memory is new.
-/
namespace Go.AE
open Go.RowKit (Below)
variable {P:Program} {w0:Base} {w:World} {N kp:Nat} {σ:Nat→RefI} {s:S} {tms:Array Value} {ρ:Operand→Value} {al:Nat→Prop}
structure CallsE (P:Program) (f:FuncId) (ps:List (Bool×List Kd)) (pre:List (List C)→Prop) (res:Kd) (ok:C→Prop):Prop where
  enter:∀ args w,(callFunc f args).run P w = .ok (.enter f args) w
  calls:∀ (w:World) (vs:List Value) (cs:List (List C)),vs.length=ps.length→cs.length=ps.length →
    (∀ i,i < ps.length→ArgRel P w (fun b=>b < w.heap.size) (ps.getD i (false,[])) (vs.getD i undef) (cs.getD i []))→pre cs →
    Calls P f vs.toArray w (fun e w'=>∃ v x,e = .returned v∧Below w.heap.size w w'∧ok x∧RepC P w' (fun b=>w.heap.size≤b∧b < w'.heap.size) res v x)
theorem callE_sound {f:FuncId} {ps:List (Bool×List Kd)} {pre:List (List C)→Prop} {res:Kd} {ok:C→Prop} {as:List A} {vs:List Value} {cs:List (List C)} (h00:tyI P 0=none) (C0:CallsE P f ps pre res ok) (h:RelL P w0 N σ s tms w)
    (hcs:fitArgs s.hp ps (meltHs s.hp as)=some cs) (hp:pre cs) (hvl:vs.length=as.length) (hvs:∀ i,i < as.length→ARel P w (Al w0 w σ s.hp) σ (vs.getD i undef) (as.getD i .unk)) :
    Calls P f vs.toArray w (fun e w'=>∃ v x,e = .returned v∧ok x∧RelL P w0 N σ s tms w'∧ARel P w' (Al w0 w' σ s.hp) σ v (.c res x)):=by
  obtain ⟨l1,l2,hfit⟩:=fitArgs_spec hcs
  rw [meltHs_length] at l1
  refine (C0.calls w vs cs (by omega) l2 (fun i hi=>by
    have hx:=meltH_rel h (hvs i (by omega))
    rw [← meltHs_getD] at hx
    exact fitArg_sound (s:=⟨s.tm,meltHp s.hp⟩) h00 h.melt (fun b hb=>hb.1) (fitArg_meltHp (hfit i hi)) hx (fun id _ b hb=>(block_lt_of_bref (h.melt.blks id) hb).1)) hp).mono ?_
  rintro e w' ⟨v,x,rfl,hbel,hok,hrep⟩
  have hnsz:w0.n≤w.heap.size:=h.below.size
  have hal:∀ b,Al w0 w σ s.hp b→Al w0 w' σ s.hp b:=fun b hb=>⟨Nat.lt_of_lt_of_le hb.1 hbel.size,hb.2.1,hb.2.2⟩
  refine ⟨v,x,rfl,hok,h.change (h.below.then (hbel.mono hnsz)) hbel.size hal (fun b hb=>hbel.block b hb.1) (fun id _=>.inl rfl) (fun id=>.inl ⟨rfl,rfl,fun b hb=>hbel.block b (block_lt_of_bref (h.blks id) hb).1⟩) (fun i j b hi hj=>h.inj i j b hi hj),.c _ _ _ (hrep.mono (fun _ _=>rfl) fun b hb=>⟨hb.2,fun id hid=>?_,.inl (.inl (Nat.le_trans hnsz hb.1))⟩)⟩
  have:=(block_lt_of_bref (h.blks id) hid).1
  omega
def stepE (P:Program) (f:FuncId) (ps:List (Bool×List Kd)) (pre:List (List C)→Prop) (res:Kd) (ok:C→Prop) (o:Oper) (s:S) (K:S→Prop):Prop :=
  match o.guard,o.op with
  | none,.call c=>match c.callee with
    | .value g=>match plainTm s.tm g with
      | .fnv f' []=>f'=f∧allNeeds s.tm o.op.operands.toList∧(match fitArgs s.hp ps (meltHs s.hp (c.args.toList.map (plainTm s.tm))) with
        | some cs=>pre cs∧∀ x,ok x→K ⟨updD s.tm o.dst (.c res x),s.hp⟩
        | none=>False)
      | _=>False
    | _=>False
  | _,_=>False
theorem stepE_ok {f:FuncId} {ps:List (Bool×List Kd)} {pre:List (List C)→Prop} {res:Kd} {ok:C→Prop} (h00:tyI P 0=none) (C0:CallsE P f ps pre res ok):StepSound P (stepE P f ps pre res ok):=by
  intro N ops o s K hok h
  unfold stepE at h
  split at h
  · rename_i c hg ho
    split at h
    · rename_i f0 hcal
      split at h
      · rename_i g hf
        obtain ⟨rfl,hn,h⟩:=h
        split at h
        · rename_i cs hcs
          obtain ⟨hp,hK⟩:=h
          intro w0 a w hR
          obtain ⟨hd,hop'⟩:=operOk_spec hok
          refine ⟨fun _ K' Q hq=>?_,fun hw=>by rw [wanted_none hg] at hw;cases hw⟩
          obtain ⟨σ,hR⟩:=hR
          have hmem:∀ x,(x=f0∨x∈c.args.toList)→x∈o.op.operands:=by
            intro x hx
            rw [ho]
            simp only [Op.operands,Call.operands,hcal]
            rcases hx with rfl | hx
            · exact Jz.2 (.inl (by simp))
            · exact Jz.2 (.inr (jz.1 hx))
          have hv:∀ x,(x=f0∨x∈c.args.toList)→ARel P w (Al w0 w σ s.hp) σ (a.eval x) (plainTm s.tm x):=fun x hx =>
            plain_sound hR (hop' x (hmem x hx)) (allNeeds_spec hn x (jz.2 (hmem x hx)))
          have hfv:=hv f0 (.inl rfl)
          rw [hf] at hfv
          have hfe:a.eval f0 = .func (.func g) #[] #[]:=by
            generalize a.eval f0=u at hfv
            cases hfv with
            | fnv _ _ vs hl hh =>
              have:vs=[]:=List.length_eq_zero_iff.1 hl
              rw [this]
          have hcm:=callE_sound (vs:=c.args.toList.map a.eval) h00 C0 hR hcs hp (by simp) (fun i hi=>by
            simp only [List.length_map] at hi
            have e1:(c.args.toList.map a.eval).getD i undef=a.eval c.args.toList[i]:=by simp [ja,show i < c.args.size by simpa using hi]
            have e2:(c.args.toList.map (plainTm s.tm)).getD i .unk=plainTm s.tm c.args.toList[i]:=by simp [ja,show i < c.args.size by simpa using hi]
            rw [e1,e2]
            exact hv _ (.inr (List.getElem_mem hi)))
          have hr:(execOp a.eval o).run P w = .ok (.enter g (c.args.toList.map a.eval).toArray) w:=by
            have henter:=C0.enter (c.args.toList.map a.eval).toArray w
            obtain ⟨callee,args,argTypes⟩:=c
            simp only at hcal
            subst hcal
            simp only [execOp,ho,Go.resolve,Sem.run_bind,hfe,Deferred.ofValue,Sem.run_pure,Result.andThen_ok,invoke]
            have e2:(args.map a.eval)=(args.toList.map a.eval).toArray:=by rw [← Array.toList_map]
            simpa [e2] using henter
          unfold Oper.wp
          rw [hr]
          refine hcm.mono ?_
          rintro e w' ⟨v,x,rfl,hok',hR',hv'⟩
          exact hq _ _ _ (put_defers _ _ _) (hK x hok') ⟨σ,Rel.putD hd hR' hv'⟩
        · exact h.elim
      · exact h.elim
    · exact h.elim
  · exact h.elim
end Go.AE
