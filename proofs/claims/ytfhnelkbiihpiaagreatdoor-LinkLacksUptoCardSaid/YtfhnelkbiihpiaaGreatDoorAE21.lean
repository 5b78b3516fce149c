/- Text. -/
import Derived.Test.YtfhnelkbiihpiaaGreatDoorAE19
set_option linter.unusedSimpArgs false
set_option linter.unusedVariables false
namespace Go.AE
open Go.RowKit (Below)
open Go.ChangeShapes
variable {P:Program}
theorem ayp {k:IntKind} {x:C} (h:Can P (.int k) x):.int x.toInt=x:=by cases h;rfl
theorem ew1 {x:C} (h:Can P .bool x):.bool x.toBool=x:=by cases h;rfl
theorem eju {x:C} (h:Can P .str x):.str x.toStr=x:=by cases h;rfl
theorem bw0 {t:TypeId} {E:TyI} (hE:tyI P t=some E) {X:Type} (e:X→List C) (d:List C→X) (hed:∀ c,CanL P E.kinds c→e (d c)=c) {x:C} (h:Can P (.slice t) x):.slice (List.map e (List.map d x.toSl))=x:=by
 cases h with
 | nil=>rfl
 | slice _ es E' hE' hl hh =>
  rw [hE] at hE'
  cases hE'
  simp only [C.toSl_slice,List.map_map]
  congr 1
  refine List.ext_getElem (by simp) fun i h1 h2=>?_
  simp only [List.getElem_map,Function.comp]
  have e1:eg es i=es[i]:=by simp [eg,List.getD_eq_getElem?_getD,h2]
  rw [← e1]
  exact hed _ ⟨hl i h2,fun j hj=>hh i h2 j hj⟩
section
variable {H:Type} {enc:TypeId×Value→H}
theorem eya {A:Type} {fid:FuncId} {ps:List (Bool×List Kd)} {refs:Bool} {dec:List (List C)→A} {en:A→List (List C)} {F:A→Option Bool} {f:Func} {s:ChangeSpec} {bt:TypeId} {n:Nat}
  (K:aj9 P (mkFn (A:=A) (R:=Bool) fid ps refs dec en F (fun r=>[.c .bool (.bool r)]) (fun r=>[]))) (hl:laidOutB P=true)
  (hps:f.params.toList.map (fun t=>(tyI P t).map fun T=>(T.agg,T.kinds))=ps.map some) (hok:f.params.toList.all (okF P n)=true)
  (hr:(f.params.toList.all fun t=>P.readableRec t && decide (t < P.types.size))=true) (hvars:s.vars=[]) (hres:f.resultTypes = #[bt]) (hbt:P.underlying bt=some .bool)
  (hfn:∀ ds:List (DataW H),ds.length=f.params.size→s.fn H ds={ results:=[.lit (.bool true)],args:=ds })
  (hcan:∀ cs:List (List C),cs.length=ps.length→(∀ i,i < ps.length→CanL P (ps.getD i (false,[])).2 (cs.getD i []))→cs=en (dec cs))
  (htrue:∀ a,(∀ i,i < ps.length→CanL P (ps.getD i (false,[])).2 ((en a).getD i []))→cbss (en a)≤2097152→F a=some true)
  {W:World} {base:Nat} {args:Array Value} {ds gs:List (DataW H)} {before:List MemPlace} (hval:∀ (j:Nat) t v,f.params[j]? = some t→args[j]? = some v→Value.okWide P W .any base t v)
  (hW:DataW.Whole enc P f.params.toList s.vars false W args.toList ds gs before) (hk:aqq ds≤1048576) :
  Calls P fid args W fun e W'=>∃ v,e = .returned v∧s.post enc P f false true false false W args v W':=by
 refine dyf (n:=n) K hl hps hok ?_ hvars hres hbt hfn ?_ hval hW hk
 ·intro t ht
  have:=List.all_eq_true.1 hr t ht
  simpa using this
 ·intro cs h1 h2 h3
  have hc:=hcan cs h1 h2
  have hF:F (dec cs)=some true:=htrue (dec cs) (fun i hi=>by rw [← hc];exact h2 i hi) (by rw [← hc];exact h3)
  refine ⟨⟨hc,by rw [hF];rfl⟩,rfl,?_⟩
  show [Go.AE.A.c .bool (.bool ((F (dec cs)).getD default))]=[kb true]
  rw [hF];rfl
end
theorem cza {X Y:Type} {body:X→Option (X ⊕ Y)} {n:Nat} {x x':X} (h:body x=some (.inl x')):azk body (n+1) x=azk body n x':=by simp [azk,h]
theorem bkw {X Y:Type} {body:X→Option (X ⊕ Y)} {n:Nat} {x:X} {y:Y} (h:body x=some (.inr y)):azk body (n+1) x=some y:=by simp [azk,h]
theorem eyj {n:Int} (h1:-9223372036854775808≤n) (h2:n≤9223372036854775807):IntKind.wrap .i64 n=n:=by
 simp only [IntKind.wrap,IntKind.signed,IntKind.bits]
 simp
 omega
end Go.AE
/-
 Plain lemmas: loops over lists, maps by lists.
-/
namespace Go.AE
theorem ckl {α:Type} [Inhabited α] {l:List α} {k:Nat} (h:k < l.length):gt l k=l[k]:=by
 simp [gt,List.getD_eq_getElem?_getD,h]
section
variable {K V:Type} [BEq K] [LawfulBEq K]
end
end Go.AE
