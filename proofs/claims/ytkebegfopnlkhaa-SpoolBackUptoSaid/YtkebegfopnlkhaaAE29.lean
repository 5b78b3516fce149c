/- Text. -/
import Derived.Test.YtkebegfopnlkhaaAE25
set_option linter.unusedVariables false
namespace Go.AE
open Go.RowKit (Below)
variable {P:Program} {w0:Base} {w:World} {N kp:Nat} {σ:Nat→RefI} {s:S} {tms:Array Value} {ρ:Operand→Value} {al:Nat→Prop} {Γ:List Fn}
def nilZ (hp:Nat→Blk):A→Option Out
  | .box id off=>some ⟨True,True,.box id off,hp,true⟩
  | .elt id sz ks i off=>if live hp id then some ⟨True,True,.elt id sz ks i off,hp,true⟩ else none
  | .pp ks cells off=>some ⟨True,True,.pp ks cells off,hp,true⟩
  | _=>none
def rangeZ (P:Program) (d:Option Nat) (t:TypeId) (hp:Nat→Blk) (x:A):Option Out :=
  match d,mapE P t,x with
  | some d,some _,.mref id=>match hp id with
    | .mp kk vp m=>if isDead (hp (key d 0)) then some ⟨True,True,.mref (key d 0),upd (upd hp id .gone) (key d 0) (.it kk vp none m),false⟩ else none
    | _=>none
  | _,_,_=>none
def entryZ (hp:Nat→Blk):A→Option Out
  | .mref id=>match hp id with
    | .it kk vp (some c) _=>some ⟨True,True,.tup [.c kk c.1,pack vp.1 (ppVals vp.2 c.2 0)],hp,true⟩
    | _=>none
  | _=>none
def opZ (P:Program) (o:Oper) (hp:Nat→Blk) (v:Operand→A):Option Out :=
  match o.op with
  | .nilCheck x=>nilZ hp (v x)
  | .range t x=>rangeZ P o.dst t hp (v x)
  | .entry x=>entryZ hp (v x)
  | _=>none
def stepZ (P:Program) (o:Oper) (s:S) (K:S→Prop):Prop :=
  match o.guard with
  | none=>match opZ P o s.hp (plainTm s.tm) with
    | some r=>allNeeds s.tm o.op.operands.toList∧r.pre∧(r.fact→K ⟨updD s.tm o.dst r.val,r.hp⟩)
    | none=>False
  | some _=>False
theorem nilZ_sound {o:Oper} {x:Operand} {a:A} {r:Out} (h:RelL P w0 N σ s tms w) (hf:nilZ s.hp a=some r) (ho:o.op = .nilCheck x) (hx:ARel P w (Al w0 w σ s.hp) σ (ρ x) a):OpOk P w0 N s tms o ρ w r:=by
  have go:∀ p,ρ x = .pointer (some p)→r.fact→r.hp=s.hp→r.val=a→OpOk P w0 N s tms o ρ w r:=by
    intro p hp hf hh hv
    refine OpOk.pure (v:=ρ x) h ?_ hf hh (by rw [hv];exact hx)
    simp only [execOp,ho,hp]
    rfl
  unfold nilZ at hf
  split at hf
  · simp only [Option.some.injEq] at hf;subst hf
    generalize hv:ρ x=v at hx
    cases hx with | box id off b hs=>exact go _ hv trivial rfl rfl
  · rename_i id sz ks i off
    split at hf
    · rename_i hl
      simp only [Option.some.injEq] at hf;subst hf
      have hg:=(live_spec h hl).1
      generalize hv:ρ x=v at hx
      cases hx with
      | eltGone _ _ _ _ _ _ hs=>exact absurd hs hg
      | elt _ _ _ _ _ b cap n t hs hi hk=>exact go _ hv trivial rfl rfl
    · cases hf
  · simp only [Option.some.injEq] at hf;subst hf
    generalize hv:ρ x=v at hx
    cases hx with | pp _ _ _ b o _ _ _ _=>exact go _ hv trivial rfl rfl
  · cases hf
end Go.AE
