/- Text. -/
import Derived.Test.YtfhnelkbiihpiaaGreatDoorAE29
set_option linter.unusedVariables false
namespace Go.AE
variable {P:Program} {w0:Base} {w:World} {N kp:Nat} {σ:Nat→RefI} {s:S} {tms:Array Value} {ρ:Operand→Value} {al:Nat→Prop} {Γ:List Fn} {Q:Exit→S→Prop} {c:Code}
def ey1 {E:Type} (f:E→C×List C) (L:List E) (o:Oper) (s:S) (K:S→Prop):Prop :=
 match o.guard,o.op with
 | none,.next x false=>match aj4 s.tm x with
  | .mref id=>match s.hp id with
   | .it kk vp _ l=>l=L.map f∧aj6 s.tm [x]∧(L=[]→K ⟨updD s.tm o.dst (.tup [kb false]),s.hp⟩)∧(∀ e L',L.Perm (e :: L')→K ⟨updD s.tm o.dst (.tup [kb true,.unk,.unk]),upd s.hp id (.it kk vp (some (f e)) (L'.map f))⟩)
   | _=>False
  | _=>False
 | _,_=>False
end Go.AE
