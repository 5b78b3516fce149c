/- Text. -/
import Derived.Test.YtfhnelkbiihpiaaGreatDoorT
import Derived.Test.YtfhnelkbiihpiaaGreatDoorWK
import Derived.Test.YtfhnelkbiihpiaaGreatDoorAE21
import Derived.Test.YtfhnelkbiihpiaaGreatDoorAE41
set_option linter.unusedVariables false
set_option linter.unusedSimpArgs false
set_option maxRecDepth 100000
namespace Go.Proofs.YtfhnelkbiihpiaaGreatDoor
open Go.AE
def ez4 (n:Nat):Option Bool:=some true
def cy9 (n:Nat):Go.AE.Fn:=mkFn (A:=Unit) (R:=Bool) 14 [] false (fun _=>()) (fun _=>[]) (fun _=>ez4 n) (fun r=>[.c .bool (.bool r)]) (fun r=>[])
theorem cyk (n:Nat) (w:World) (al:Nat→Prop) (vs:List Value) (cs:List (List C)) (h:vs.length=0):Calls Tryz.prog 14 vs.toArray w (fun e w'=>∃ v,e = .returned v∧cj1 Tryz.prog w al w' v ((cy9 n).sem cs)):=by
 match vs,h with
 | [],_ =>
  refine (ekk w).mono ?_
  rintro e w' ⟨rfl,hb⟩
  have hrows:((cy9 n).sem cs).rows=[]:=rfl
  have hres:((cy9 n).sem cs).res=[.c .bool (.bool true)]:=rfl
  refine ⟨_,rfl,hb,by rw [hrows];simp,fun _=>.dead,fun j=>rfl,fun i j b h=>by simp [aj0] at h,?_⟩
  rw [hres]
  exact ARel.c _ _ _ (RepC.bool (.bool true))
theorem ey2 (n:Nat):aj9 Tryz.prog (cy9 n) :=
 ⟨fun args w=>Tryz.call14 args w,fun _ w al vs cs _ h _ _ _=>cyk n w _ vs cs h,fun w al vs cs _ h _ _ _=>cyk n w al vs cs h⟩
end Go.Proofs.YtfhnelkbiihpiaaGreatDoor
