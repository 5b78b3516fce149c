/- Text. -/
import Derived.Test.YtcdofkflbnpjjaaAE19
set_option linter.unusedSimpArgs false
set_option linter.unusedVariables false
set_option linter.unusedVariables false
namespace Go.AE
open Go.RowKit (Below)
open Go.ChangeShapes
variable {P:Program}
theorem can_int {k:IntKind} {x:C} (h:Can P (.int k) x):.int x.toInt=x:=by cases h;rfl
theorem can_str {x:C} (h:Can P .str x):.str x.toStr=x:=by cases h;rfl
theorem can_slice {t:TypeId} {E:TyI} (hE:tyI P t=some E) {X:Type} (e:X→List C) (d:List C→X) (hed:∀ c,CanL P E.kinds c→e (d c)=c) {x:C} (h:Can P (.slice t) x):.slice (List.map e (List.map d x.toSl))=x:=by
  cases h with
  | nil=>rfl
  | slice _ es E' hE' hl hh =>
    rw [hE] at hE'
    cases hE'
    simp only [C.toSl_slice,List.map_map]
    congr 1
    refine List.ext_getElem (by simp) fun i h1 h2=>?_
    simp only [List.getElem_map,Function.comp]
    have e1:eg es i=es[i]:=by simp [eg,List.getD_eq_getElem?_getD,h2]
    rw [← e1]
    exact hed _ ⟨hl i h2,fun j hj=>hh i h2 j hj⟩
section
variable {H:Type} {enc:TypeId×Value→H}
theorem law_mk {A:Type} {fid:FuncId} {ps:List (Bool×List Kd)} {refs:Bool} {dec:List (List C)→A} {en:A→List (List C)} {F:A→Option Bool} {f:Func} {s:ChangeSpec} {bt:TypeId} {n:Nat}
    (K:Contract P (mkFn (A:=A) (R:=Bool) fid ps refs dec en F (fun r=>[.c .bool (.bool r)]) (fun r=>[]))) (hl:laidOutB P=true)
    (hps:f.params.toList.map (fun t=>(tyI P t).map fun T=>(T.agg,T.kinds))=ps.map some) (hok:f.params.toList.all (okF P n)=true)
    (hr:(f.params.toList.all fun t=>P.readableRec t && decide (t < P.types.size))=true) (hvars:s.vars=[]) (hres:f.resultTypes = #[bt]) (hbt:P.underlying bt=some .bool)
    (hfn:∀ ds:List (DataW H),ds.length=f.params.size→s.fn H ds={ results:=[.lit (.bool true)],args:=ds })
    (hcan:∀ cs:List (List C),cs.length=ps.length→(∀ i,i < ps.length→CanL P (ps.getD i (false,[])).2 (cs.getD i []))→cs=en (dec cs))
    (htrue:∀ a,(∀ i,i < ps.length→CanL P (ps.getD i (false,[])).2 ((en a).getD i []))→cbss (en a)≤2097152→F a=some true)
    {W:World} {base:Nat} {args:Array Value} {ds gs:List (DataW H)} {before:List MemPlace} (hval:∀ (j:Nat) t v,f.params[j]? = some t→args[j]? = some v→Value.okWide P W .any base t v)
    (hW:DataW.Whole enc P f.params.toList s.vars false W args.toList ds gs before) (hk:bulkAll ds≤1048576) :
    Calls P fid args W fun e W'=>∃ v,e = .returned v∧s.post enc P f false true false false W args v W':=by
  refine law_calls (n:=n) K hl hps hok ?_ hvars hres hbt hfn ?_ hval hW hk
  · intro t ht
    have:=List.all_eq_true.1 hr t ht
    simpa using this
  · intro cs h1 h2 h3
    have hc:=hcan cs h1 h2
    have hF:F (dec cs)=some true:=htrue (dec cs) (fun i hi=>by rw [← hc];exact h2 i hi) (by rw [← hc];exact h3)
    refine ⟨⟨hc,by rw [hF];rfl⟩,rfl,?_⟩
    show [Go.AE.A.c .bool (.bool ((F (dec cs)).getD default))]=[kb true]
    rw [hF];rfl
end
theorem loopF_step {X Y:Type} {body:X→Option (X ⊕ Y)} {n:Nat} {x x':X} (h:body x=some (.inl x')):loopF body (n+1) x=loopF body n x':=by simp [loopF,h]
theorem loopF_done {X Y:Type} {body:X→Option (X ⊕ Y)} {n:Nat} {x:X} {y:Y} (h:body x=some (.inr y)):loopF body (n+1) x=some y:=by simp [loopF,h]
theorem loopF_inv {X Y:Type} {body:X→Option (X ⊕ Y)} (I:X→Prop) (μ:X→Nat) (R:Y→Prop) (hb:∀ x,I x→(∃ x',body x=some (.inl x')∧I x'∧μ x' < μ x)∨(∃ y,body x=some (.inr y)∧R y)) :
    ∀ (n:Nat) (x:X),I x→μ x < n→∃ y,loopF body n x=some y∧R y
  | 0,x,_,h=>by omega
  | n+1,x,hI,h=>by
    rcases hb x hI with ⟨x',h1,h2,h3⟩ | ⟨y,h1,h2⟩
    · obtain ⟨y,h4,h5⟩:=loopF_inv I μ R hb n x' h2 (by omega)
      exact ⟨y,by rw [loopF_step h1,h4],h5⟩
    · exact ⟨y,loopF_done h1,h2⟩
theorem w64_id {n:Int} (h1:-9223372036854775808≤n) (h2:n≤9223372036854775807):IntKind.wrap .i64 n=n:=by
  simp only [IntKind.wrap,IntKind.signed,IntKind.bits]
  simp
  omega
end Go.AE
/-
  Plain lemmas: loops over lists, maps by lists.
-/
set_option linter.unusedVariables false
namespace Go.AE
def runL {σ α Y:Type} (f:σ→α→σ ⊕ Y) (fin:σ→Y):List α→σ→Y
  | [],s=>fin s
  | a :: l,s=>match f s a with
    | .inl s'=>runL f fin l s'
    | .inr y=>y
theorem loop_list_at {σ α X Y:Type} {body:X→Option (X ⊕ Y)} (l:List α) (x:Nat→σ→X) (f:σ→α→σ ⊕ Y) (fin:σ→Y) (I:Nat→σ→Prop)
    (hb:∀ k (hk:k < l.length) s,I k s→body (x k s)=some (match f s l[k] with | .inl s'=>.inl (x (k+1) s') | .inr y=>.inr y))
    (hI:∀ k (hk:k < l.length) s,I k s→∀ s',f s l[k] = .inl s'→I (k+1) s')
    (he:∀ s,I l.length s→body (x l.length s)=some (.inr (fin s))) :
    ∀ (j k:Nat) (s:σ),l.length - k=j→k≤l.length→I k s→∀ n,j < n→loopF body n (x k s)=some (runL f fin (l.drop k) s):=by
  intro j
  induction j with
  | zero =>
    intro k s hj hk hi n hn
    have:k=l.length:=by omega
    subst this
    obtain ⟨n,rfl⟩:∃ q,n=q+1:=⟨n - 1,by omega⟩
    rw [loopF_done (he s hi)]
    simp [runL]
  | succ j ih =>
    intro k s hj hk hi n hn
    have hlt:k < l.length:=by omega
    obtain ⟨n,rfl⟩:∃ q,n=q+1:=⟨n - 1,by omega⟩
    rw [List.drop_eq_getElem_cons hlt]
    have h1:=hb k hlt s hi
    cases hf:f s l[k] with
    | inl s' =>
      rw [hf] at h1
      rw [loopF_step h1]
      simp only [runL,hf]
      exact ih (k+1) s' (by omega) (by omega) (hI k hlt s hi s' hf) n (by omega)
    | inr y =>
      rw [hf] at h1
      rw [loopF_done h1]
      simp only [runL,hf]
theorem loop_list {σ α X Y:Type} {body:X→Option (X ⊕ Y)} (l:List α) (x:Nat→σ→X) (f:σ→α→σ ⊕ Y) (fin:σ→Y) (I:Nat→σ→Prop) {s:σ} (h0:I 0 s)
    (hb:∀ k (hk:k < l.length) s,I k s→body (x k s)=some (match f s l[k] with | .inl s'=>.inl (x (k+1) s') | .inr y=>.inr y))
    (hI:∀ k (hk:k < l.length) s,I k s→∀ s',f s l[k] = .inl s'→I (k+1) s')
    (he:∀ s,I l.length s→body (x l.length s)=some (.inr (fin s))) {n:Nat} (hn:l.length < n):loopF body n (x 0 s)=some (runL f fin l s):=by
  simpa using loop_list_at l x f fin I hb hI he l.length 0 s (by omega) (by omega) h0 n hn
theorem loop_any {α Y:Type} {body:Int→Option (Int ⊕ Y)} (l:List α) (p:α→Bool) (yt yf:Y)
    (hb:∀ k (hk:k < l.length),body (k:Int)=some (if p l[k] then .inr yt else .inl ((k+1:Nat):Int)))
    (he:body (l.length:Int)=some (.inr yf)) {n:Nat} (hn:l.length < n):loopF body n 0=some (if l.any p then yt else yf):=by
  have h:=loop_list (σ:=Unit) (body:=body) l (fun k _=>(k:Int)) (fun _ a=>if p a then .inr yt else .inl ()) (fun _=>yf) (fun _ _=>True) (s:=()) trivial
    (fun k hk s _=>by rw [hb k hk];by_cases hp:p l[k]=true <;> simp [hp]) (fun _ _ _ _ _ _=>trivial) (fun _ _=>he) hn
  have e:∀ l:List α,runL (fun (_:Unit) a=>if p a then (.inr yt:Unit ⊕ Y) else .inl ()) (fun _=>yf) l ()=if l.any p then yt else yf:=by
    intro l
    induction l with
    | nil=>simp [runL]
    | cons a l ih =>
      simp only [runL,List.any_cons]
      by_cases hp:p a=true
      · simp [hp]
      · rw [Bool.not_eq_true] at hp
        simp [hp,ih]
  rw [e] at h
  exact h
theorem gt_lt {α:Type} [Inhabited α] {l:List α} {k:Nat} (h:k < l.length):gt l k=l[k]:=by
  simp [gt,List.getD_eq_getElem?_getD,h]
section
variable {K V:Type} [BEq K] [LawfulBEq K]
theorem tget_tset (s k:K) (v:V):∀ m:List (K×V),tget s (tset k v m)=if s == k then some v else tget s m
  | []=>by simp [tset,tget]
  | (a,b) :: m=>by
    simp only [tset,tget]
    by_cases h:k=a
    · subst h;simp only [beq_self_eq_true,if_true,tget];split <;> rfl
    · have hk:(k == a)=false:=by simpa using h
      simp only [hk,Bool.false_eq_true,if_false,tget,tget_tset s k v m]
      by_cases h2:s=a
      · subst h2
        have:(s == k)=false:=by simpa using fun e:s=k=>h e.symm
        simp [this]
      · simp [h2]
end
end Go.AE
