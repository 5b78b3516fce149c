/- Text. -/
import Derived.Test.YtcdofkflbnpjjaaAE25
import Derived.Shelf.SlSortCmp.InsertionK
import Derived.Lib.QuietBelow
import Derived.Sort.AssemblyPlain
import Derived.Shelf.SlSortCmp.NoneTotal
set_option linter.unusedSimpArgs false
set_option linter.unusedVariables false
set_option linter.unusedVariables false
set_option maxRecDepth 100000
namespace Go.AE
open Go.Proofs (CmpLays ltOf sortWorldK)
open Go.Sort (SWO pdq PermIn SortedIn HoldsK flatK putRowK)
variable {P:Program} {w:World} {al:Nat→Prop} {σ:Nat→RefI} {β:Type} [Inhabited β]
def cl (n i:Nat):Nat:=if i < n then i else 0
def cmpI (cmp:β→β→Int) (l:List β) (i j:Nat):Int:=cmp (gt l (cl l.length i)) (gt l (cl l.length j))
def srtI (cmp:β→β→Int) (l:List β):Array Nat:=pdq (ltOf (cmpI cmp l)) (Array.range l.length) 0 (Array.range l.length).size (Go.Lib.bitLen (Array.range l.length).size) true true
def srt (cmp:β→β→Int) (l:List β):List β:=(srtI cmp l).toList.map fun i=>gt l (cl l.length i)
theorem srtI_spec (cmp:β→β→Int) (l:List β) (hO:SWO (ltOf (cmpI cmp l))):(srtI cmp l).size=l.length∧(srtI cmp l).toList.Perm (List.range l.length)∧SortedIn (ltOf (cmpI cmp l)) 0 l.length (srtI cmp l):=by
  obtain ⟨⟨h1,h2,h3⟩,h4⟩:=Go.Sort.pdq_sorts (ltOf (cmpI cmp l)) hO (Array.range l.length) 0 (Array.range l.length).size (Go.Lib.bitLen (Array.range l.length).size) true true (Nat.zero_le _) (Nat.le_refl _) (Or.inl rfl)
  have e1:(srtI cmp l).size=l.length:=by simpa [srtI] using h1
  refine ⟨e1,?_,by simpa [srtI] using h4⟩
  have h3':((srtI cmp l).extract 0 l.length).toList.Perm ((Array.range l.length).extract 0 l.length).toList:=by simpa [srtI] using h3
  have a1:(srtI cmp l).extract 0 l.length=srtI cmp l:=by rw [← e1];simp
  have a2:(Array.range l.length).extract 0 l.length=Array.range l.length:=by
    have:l.length=(Array.range l.length).size:=by simp
    conv=>lhs;rw [this]
    simp
  rw [a1,a2] at h3'
  simpa using h3'
theorem srt_length (cmp:β→β→Int) (l:List β) (hO:SWO (ltOf (cmpI cmp l))):(srt cmp l).length=l.length:=by
  have:=(srtI_spec cmp l hO).1
  simp [srt,this]
theorem srtI_lt (cmp:β→β→Int) (l:List β) (hO:SWO (ltOf (cmpI cmp l))) {i:Nat} (hi:i < l.length):(srtI cmp l)[i]! < l.length:=by
  have h1:=(srtI_spec cmp l hO).1
  have h2:(srtI cmp l)[i]!∈(srtI cmp l).toList:=by
    rw [getElem!_pos _ i (by omega)]
    exact Array.getElem_mem_toList _
  have:=((srtI_spec cmp l hO).2.1).mem_iff.1 h2
  simpa using this
theorem srt_get (cmp:β→β→Int) (l:List β) (hO:SWO (ltOf (cmpI cmp l))) {i:Nat} (hi:i < (srt cmp l).length):(srt cmp l)[i]=gt l (srtI cmp l)[i]! := by
  have h0:i < l.length:=by rw [srt_length cmp l hO] at hi;exact hi
  have h1:=(srtI_spec cmp l hO).1
  have h2:=srtI_lt cmp l hO h0
  simp only [srt,List.getElem_map,Array.getElem_toList]
  rw [getElem!_pos _ i (by omega)] at h2 ⊢
  simp only [cl,h2,if_true]
def RawCmp (P:Program) (g:FuncId) (ks:List Kd) (x y:List C) (c:Int):Prop :=
  ∀ (W:World) (al:Nat→Prop) (us vs:List Value),ArgRel P W al (true,ks) (.agg us.toArray) x→ArgRel P W al (true,ks) (.agg vs.toArray) y →
    Calls P g #[.agg us.toArray,.agg vs.toArray] W fun e w'=>e = .returned (.int .i64 c)∧∃ q os',w'=Go.Sort.grow (W.drewN q) os'
def rawOf (cur:Array Value) (k n i:Nat):List Value:=(List.range k).map fun j=>cur.getD (cl n i * k+j) undef
theorem sortWorld_heap {α:Type} [Inhabited α] (enc:α→List Value) (k:Nat) (w:World) (b m:Nat) (dk:Array α) (os:Array Obj) {c:Nat} (hc:c < w.heap.size) (hne:c≠b):(sortWorldK enc k w b 0 m dk os).heap[c]? = w.heap[c]? := by
  unfold sortWorldK putRowK Go.Sort.putRow Go.Sort.mapBlock Go.Sort.grow Go.Sort.ahead
  dsimp only
  rw [Array.getElem?_append_left (by simpa using hc),Array.getElem?_modify,if_neg (fun e=>hne e.symm)]
theorem sortWorld_size {α:Type} [Inhabited α] (enc:α→List Value) (k:Nat) (w:World) (b m:Nat) (dk:Array α) (os:Array Obj):w.heap.size≤(sortWorldK enc k w b 0 m dk os).heap.size:=by
  unfold sortWorldK putRowK Go.Sort.putRow Go.Sort.mapBlock Go.Sort.grow Go.Sort.ahead
  simp
theorem sortWorld_row {α:Type} [Inhabited α] (enc:α→List Value) (k:Nat) (w:World) (b m:Nat) (dk:Array α) (os:Array Obj) {cur:Array Value} {tg:TypeId} (h:w.heap[b]? = some (.cells cur tg (0,0))) :
    (sortWorldK enc k w b 0 m dk os).heap[b]? = some (.cells (Go.Sort.putCells id 0 (flatK enc k dk) cur) tg (0,0)):=by
  have hc:=(Array.getElem?_eq_some_iff.1 h).1
  unfold sortWorldK putRowK Go.Sort.putRow Go.Sort.mapBlock Go.Sort.grow Go.Sort.ahead
  dsimp only
  rw [Array.getElem?_append_left (by simpa using hc),Array.getElem?_modify,if_pos rfl,h]
  rfl
theorem cmpLays_of {g:FuncId} {ks:List Kd} (e:β→List C) (he:∀ x,(e x).length=ks.length) (cmp:β→β→Int) (l:List β) (hl:l≠[])
    (hraw:∀ x∈l,∀ y∈l,RawCmp P g ks (e x) (e y) (cmp x y))
    (hal:∀ b,al b→b < w.heap.size∧∀ j,¬ blockOf (σ j) b) {b:Nat} (hb:blockOf (σ 0) b) (cur:Array Value)
    (hrep:∀ i,i < l.length→∀ j,j < ks.length→RepC P w al (ks.getD j .other) (cur.getD (i * ks.length+j) undef) (cg (e (gt l i)) j)) :
    CmpLays P g #[] (rawOf cur ks.length l.length) ks.length (cmpI cmp l) b 0 (Array.range l.length).size w:=by
  intro m os dk hdk x y
  have hn:0 < l.length:=List.length_pos_iff.2 hl
  have hcl:∀ i,cl l.length i < l.length:=fun i=>by unfold cl;split <;> omega
  have hmem:∀ i,gt l (cl l.length i)∈l:=fun i=>by
    have:=hcl i
    have e1:gt l (cl l.length i)=l[cl l.length i]:=by simp [gt,List.getD_eq_getElem?_getD,this]
    rw [e1];exact List.getElem_mem _
  have hW:∀ c,al c→(sortWorldK (rawOf cur ks.length l.length) ks.length w b 0 m dk os).heap[c]? = w.heap[c]? := fun c hc=>sortWorld_heap _ _ _ _ _ _ _ (hal c hc).1 (fun h=>(hal c hc).2 0 (h ▸ hb))
  have hArg:∀ z,ArgRel P (sortWorldK (rawOf cur ks.length l.length) ks.length w b 0 m dk os) al (true,ks) (.agg (rawOf cur ks.length l.length z).toArray) (e (gt l (cl l.length z))):=by
    intro z
    refine ⟨_,rfl,by simp [rawOf],he _,fun j hj=>?_⟩
    have hr:=hrep (cl l.length z) (hcl z) j hj
    have e1:(rawOf cur ks.length l.length z).getD j undef=cur.getD (cl l.length z * ks.length+j) undef:=by
      simp [rawOf,List.getD_eq_getElem?_getD,hj]
    rw [e1]
    exact hr.mono hW (fun _ h=>h)
  have h:=hraw _ (hmem x) _ (hmem y) (sortWorldK (rawOf cur ks.length l.length) ks.length w b 0 m dk os) al _ _ (hArg x) (hArg y)
  exact h
theorem own_at {v:Value} {id:Nat} {ks:List Kd} {len:Nat} {t:TypeId} {es:List (List C)} {B:Nat→Prop} (h:ARel P w al σ v (.own id ks 0 len)) (hr:RowRel P w B al (σ id) t es) :
    (len=0∧v = .slice none 0 0)∨∃ b cap n t',σ id = .row b cap t' ks n∧len≤n∧v = .slice (some ⟨b,0,none⟩) len cap:=by
  have hflat:=fun {b cap n t' ks F}=>row_flat (b:=b) (cap:=cap) (n:=n) (t':=t') (ks:=ks) (F:=F) hr
  obtain ⟨E,hE,hby,hr⟩:=hr
  cases h with
  | ownGone v id ks off len h =>
    rw [h] at hr
    rcases hr with ⟨hr,_⟩ | ⟨b,cap,cur,tg,hr,_⟩ <;> cases hr
  | ownNil id ks off t h ho=>exact .inl ⟨rfl,rfl⟩
  | own0 id ks len b cap n t h hl=>obtain rfl:=hflat h;exact .inr ⟨b,cap,n,t,h,hl,rfl⟩
  | ownOff id ks off len b cap n cap' t h ho=>exact absurd rfl ho
  | ownOff0 a id ks off b cap n cap' t h ho=>exact absurd rfl ho
theorem resM_row {w':World} {t:TypeId} {es es':List (List C)} {v:Value} (hal:∀ b,al b→b < w.heap.size∧∀ j,¬ blockOf (σ j) b)
    (hB:∀ j,BRel P w (fun b=>b < w.heap.size) al σ j (rowsHp [.row t es] j)) (hinj:∀ i j b,blockOf (σ i) b→blockOf (σ j) b→i=j)
    (hbel:BelowX w.heap.size (muOf σ) w w') (hv:v = .tuple #[]) (hrow:RowRel P w' (fun b=>b < w.heap.size) al (σ 0) t es'):ResM P w al σ w' v [] [.row t es']:=by
  subst hv
  have hne:∀ b,al b→¬ muOf σ b:=fun b hb ⟨j,hj⟩=>(hal b hb).2 j hj
  have hAl:∀ b,al b→Al ⟨w,al,muOf σ,σ,noMk,0⟩ w' σ (rowsHp [.row t es']) b:=fun b hb=>⟨Nat.lt_of_lt_of_le (hal b hb).1 hbel.size,fun id hid=>absurd hid ((hal b hb).2 id),.inr hb⟩
  refine ⟨hbel,σ,fun j=>?_,hinj,fun j _=>.inl rfl,.tup [] [] rfl (fun i hi=>by simp at hi)⟩
  cases j with
  | zero =>
    obtain ⟨E,hE,hby,hr⟩:=hrow
    refine ⟨E,hE,hby,hr.imp id ?_⟩
    rintro ⟨b,cap,cur,tg,h1,h2,h3,h4,h5,h6,h7,h8⟩
    exact ⟨b,cap,cur,tg,h1,.inr ⟨0,by rw [h1];exact .inl rfl⟩,h3,h4,h5,h6,h7,fun i hi j hj=>(h8 i hi j hj).mono (fun _ _=>rfl) hAl⟩
  | succ j=>simpa [rowsHp,BRel] using hB (j+1)
theorem sortWorld_below {α:Type} [Inhabited α] (enc:α→List Value) (k:Nat) (w:World) (b m:Nat) (dk:Array α) (os:Array Obj) (hb:blockOf (σ 0) b):BelowX w.heap.size (muOf σ) w (sortWorldK enc k w b 0 m dk os) :=
  ⟨rfl,rfl,rfl,sortWorld_size _ _ _ _ _ _ _,fun c hc hn=>sortWorld_heap _ _ _ _ _ _ _ hc (fun e=>hn ⟨0,e ▸ hb⟩)⟩
theorem putCells_get {k n:Nat} {cur:Array Value} {dk:Array Nat} (hdk:dk.size=n) (hcur:n * k≤cur.size) (hlt:∀ i,i < n→dk[i]! < n) {i j:Nat} (hi:i < n) (hj:j < k) :
    (Go.Sort.putCells id 0 (flatK (rawOf cur k n) k dk) cur).getD (i * k+j) undef=cur.getD (dk[i]! * k+j) undef:=by
  have h1:i * k+j < n * k:=by
    have:=Nat.mul_le_mul_right k (show i+1≤n from hi)
    rw [Nat.add_mul,Nat.one_mul] at this
    omega
  have hk:0 < k:=by omega
  have e1:(i * k+j) / k=i:=by rw [Nat.mul_comm,Nat.mul_add_div hk,Nat.div_eq_of_lt hj];simp
  have e2:(i * k+j) % k=j:=by rw [Nat.mul_comm,Nat.mul_add_mod,Nat.mod_eq_of_lt hj]
  have h2:(flatK (rawOf cur k n) k dk)[i * k+j]! = cur.getD (dk[i]! * k+j) undef:=by
    rw [Go.Sort.get_flatK _ _ _ _ (by rw [hdk];exact h1),e1,e2]
    have:cl n dk[i]! = dk[i]! := by simp [cl,hlt i hi]
    simp only [rawOf,this]
    rw [getElem!_pos _ j (by simpa using hj)]
    simp
  rw [Array.getD_eq_getD_getElem?]
  simp only [Go.Sort.putCells,Array.getElem?_mapIdx]
  rw [Array.getElem?_eq_getElem (by omega)]
  simp only [Option.map_some,Option.getD_some,Nat.zero_le,true_and,Nat.zero_add,Nat.sub_zero,Go.Sort.size_flatK,hdk,h1,if_true,id,h2]
theorem resM_sort {t:TypeId} {E:TyI} (hE:tyI P t=some E) (e:β→List C) (he:∀ x,(e x).length=E.kinds.length) (cmp:β→β→Int) (l:List β) (hO:SWO (ltOf (cmpI cmp l)))
    (hal:∀ b,al b→b < w.heap.size∧∀ j,¬ blockOf (σ j) b) (hB:∀ j,BRel P w (fun b=>b < w.heap.size) al σ j (rowsHp [.row t (l.map e)] j)) (hinj:∀ i j b,blockOf (σ i) b→blockOf (σ j) b→i=j)
    {b cap:Nat} {cur:Array Value} {tg:TypeId} (hs:σ 0 = .row b cap t E.kinds l.length) (hh:w.heap[b]? = some (.cells cur tg (0,0))) (hlc:l.length≤cap) (hcm:cap≤maxLen) (hsz:cur.size=cap * E.kinds.length) (hby:((l.map e).length:Int) * E.bytes≤140737488355328)
    (hrep:∀ i,i < l.length→∀ j,j < E.kinds.length→RepC P w al (E.kinds.getD j .other) (cur.getD (i * E.kinds.length+j) undef) (cg (e (gt l i)) j)) (m:Nat) (os:Array Obj) :
    ResM P w al σ (sortWorldK (rawOf cur E.kinds.length l.length) E.kinds.length w b 0 m (srtI cmp l) os) (.tuple #[]) [] [.row t ((srt cmp l).map e)]:=by
  have hb:blockOf (σ 0) b:=by rw [hs];exact .inl rfl
  have hle:l.length * E.kinds.length≤cur.size:=by rw [hsz];exact Nat.mul_le_mul_right _ hlc
  have hlen:=srt_length cmp l hO
  refine resM_row hal hB hinj (sortWorld_below _ _ _ _ _ _ _ hb) rfl ⟨E,hE,by simpa [hlen] using hby,.inr ⟨b,cap,_,tg,by rw [hs];simp [hlen],(Array.getElem?_eq_some_iff.1 hh).1,sortWorld_row _ _ _ _ _ _ _ hh,by simpa [hlen] using hlc,hcm,by simp [Go.Sort.putCells,hsz],fun i hi=>?_,fun i hi j hj=>?_⟩⟩
  · have hi':i < (srt cmp l).length:=by simpa using hi
    simp [eg,List.getD_eq_getElem?_getD,hi',he]
  · have hi':i < (srt cmp l).length:=by simpa using hi
    have hi2:i < l.length:=by rw [← hlen];exact hi'
    have hd:=srtI_lt cmp l hO hi2
    rw [putCells_get (srtI_spec cmp l hO).1 hle (fun i hi=>srtI_lt cmp l hO hi) hi2 hj]
    have e1:eg ((srt cmp l).map e) i=e (gt l (srtI cmp l)[i]!):=by
      simp only [eg,List.getD_eq_getElem?_getD]
      rw [List.getElem?_eq_getElem (by simpa using hi'),Option.getD_some,List.getElem_map,srt_get cmp l hO hi']
    rw [e1]
    exact (hrep _ hd j hj).mono (fun c hc=>sortWorld_heap _ _ _ _ _ _ _ (hal c hc).1 (fun h=>(hal c hc).2 0 (h ▸ hb))) (fun _ h=>h)
end Go.AE
/-
  slices.SortFunc as a call that is handed a row.
-/
set_option linter.unusedVariables false
set_option maxRecDepth 100000
namespace Go.AE
open Go.Proofs (CmpLays ltOf sortWorldK)
open Go.Sort (SWO pdq PermIn SortedIn HoldsK flatK putRowK)
variable {P:Program} {β:Type} [Inhabited β]
def oneK:Kd→Bool
  | .bool=>true
  | .int _=>true
  | .str=>true
  | .slice _=>true
  | _=>false
theorem oneK_one {w:World} {al:Nat→Prop} {k:Kd} {v:Value} {x:C} (hk:oneK k=true) (h:RepC P w al k v x):v.oneCell'=true :=
  h.one (by rintro rfl;simp [oneK] at hk) ⟨by rintro t rfl;simp [oneK] at hk,by rintro t rfl;simp [oneK] at hk⟩
theorem callsM_sort {ρ:Go.Shelf.Ren} (L:Go.Proofs.SlLaysF0.n6 P ρ) {E:TyI} (hE:tyI P (ρ.t 24)=some E)
    (aE:∀ w,(isAgg (ρ.t 24)).run P w = .ok true w) (zE:∀ w,(Go.sizeOf (ρ.t 24)).run P w = .ok E.kinds.length w) (hbytes:0 < E.bytes) (hks:∀ j,j < E.kinds.length→oneK (E.kinds.getD j .other)=true)
    {g:FuncId} (hent:∀ args w,(callFunc g args).run P w = .ok (.enter g args) w) (e:β→List C) (he:∀ x,(e x).length=E.kinds.length) (cmp:β→β→Int) (l:List β) (hO:SWO (ltOf (cmpI cmp l)))
    (hraw:∀ x∈l,∀ y∈l,RawCmp P g E.kinds (e x) (e y) (cmp x y)) :
    CallsM P (ρ.f 6) [.ref (.own 0 E.kinds 0 l.length),.ref (.fnv g [])] [.row (ρ.t 24) (l.map e)] [] [.row (ρ.t 24) ((srt cmp l).map e)]:=by
  refine ⟨fun args w=>L.f6.enters rfl args w,Nat.le_refl _,?_⟩
  intro w al σ vs hal hB hinj hvl hvs
  match vs,hvl with
  | [v0,v1],_ =>
    have hv0:=hvs 0 (by simp)
    have hv1:=hvs 1 (by simp)
    simp only [List.getD_cons_zero,List.getD_cons_succ,ArgM] at hv0 hv1
    have hr:RowRel P w (fun b=>b < w.heap.size) al (σ 0) (ρ.t 24) (l.map e):=hB 0
    have ev1:v1 = .func (.func g) #[] #[]:=by
      cases hv1 with
      | fnv f caps vs hl h =>
        have:vs=[]:=List.eq_nil_of_length_eq_zero (by simpa using hl)
        subst this;rfl
    subst ev1
    by_cases hl:l=[]
    · subst hl
      obtain ⟨p,cap,ev0⟩:∃ p cap,v0 = .slice p 0 cap:=by
        rcases own_at hv0 hr with ⟨_,h⟩ | ⟨b,cap,n,t',_,_,h⟩
        · exact ⟨_,_,h⟩
        · exact ⟨_,_,h⟩
      subst ev0
      refine Calls.mono (Go.Proofs.AnyF.slices_SortFunc_none L p cap _ w) ?_
      rintro ex w' ⟨rfl,rfl⟩
      have hs:srt cmp []=[]:=List.eq_nil_of_length_eq_zero (srt_length cmp [] hO)
      rw [hs]
      exact ⟨_,rfl,resM_row hal hB hinj (BelowX.refl _ _ _) rfl hr⟩
    · have hn:0 < l.length:=List.length_pos_iff.2 hl
      obtain ⟨E',hE',hby,hr'⟩:=hr
      rw [hE] at hE'
      cases hE'
      rcases hr' with ⟨_,h⟩ | ⟨b,cap,cur,tg,hs,hbB,hh,hlc,hcm,hsz,hel,hrep⟩
      · exact absurd (by simpa using h) hl
      · simp only [List.length_map] at hs hlc hel hrep
        rcases own_at hv0 (hB 0) with ⟨h0,_⟩ | ⟨b',cap',n',t',hs',hle,ev0⟩
        · omega
        · rw [hs] at hs'
          cases hs'
          subst ev0
          have hrep':∀ i,i < l.length→∀ j,j < E.kinds.length→RepC P w al (E.kinds.getD j .other) (cur.getD (i * E.kinds.length+j) undef) (cg (e (gt l i)) j):=by
            intro i hi j hj
            have h:=hrep i hi j hj
            have e1:eg (l.map e) i=e (gt l i):=by
              simp [eg,gt,List.getD_eq_getElem?_getD,hi]
            rwa [e1] at h
          have hcl:∀ i,cl l.length i < l.length:=fun i=>by unfold cl;split <;> omega
          have h1:∀ x,∀ v∈rawOf cur E.kinds.length l.length x,v.oneCell'=true:=by
            intro x v hv
            simp only [rawOf,List.mem_map,List.mem_range] at hv
            obtain ⟨j,hj,rfl⟩:=hv
            exact oneK_one (hks j hj) (hrep' _ (hcl x) j hj)
          have hH:HoldsK (rawOf cur E.kinds.length l.length) E.kinds.length w b 0 (Array.range l.length):=by
            intro j hj
            simp only [Go.Sort.size_flatK,Array.size_range] at hj
            have hk:0 < E.kinds.length:=by
              rcases Nat.eq_zero_or_pos E.kinds.length with h | h
              · rw [h] at hj;simp at hj
              · exact h
            have hjk:j / E.kinds.length < l.length:=(Nat.div_lt_iff_lt_mul hk).2 hj
            have hjm:j % E.kinds.length < E.kinds.length:=Nat.mod_lt _ hk
            have hjs:j < cur.size:=by
              rw [hsz];exact Nat.lt_of_lt_of_le hj (Nat.mul_le_mul_right _ hlc)
            have e1:(flatK (rawOf cur E.kinds.length l.length) E.kinds.length (Array.range l.length))[j]! = cur[j]:=by
              rw [Go.Sort.get_flatK _ _ _ _ (by simpa using hj)]
              have e2:(Array.range l.length)[j / E.kinds.length]! = j / E.kinds.length:=by
                rw [getElem!_pos _ _ (by simpa using hjk)];simp
              rw [e2,getElem!_pos _ _ (by simpa [rawOf] using hjm)]
              simp only [rawOf,List.getElem_map,List.getElem_range,cl,hjk,if_true]
              rw [Nat.div_add_mod' j E.kinds.length]
              simp [Array.getD_eq_getD_getElem?,hjs]
            refine ⟨?_,?_⟩
            · rw [e1];simp [World.cell?,hh,hjs]
            · simp [World.frozen?,hh]
          have hmax:l.length < 4611686018427387904:=by
            have h3:=Int.mul_le_mul_of_nonneg_left (show (1:Int)≤E.bytes by omega) (Int.natCast_nonneg l.length)
            rw [List.length_map] at hby
            omega
          have hS:=Go.Proofs.AnyQ.slices_SortFunc_eq L E.kinds.length aE zE (rawOf cur E.kinds.length l.length) (fun x=>by simp [rawOf]) h1 (cmpI cmp l) hO g #[] b 0 cap (Array.range l.length) w hent
            (cmpLays_of e he cmp l hl hraw hal (by rw [hs];exact .inl rfl) cur hrep') hH hbB (by simpa using hmax)
          have hS':Calls P (ρ.f 6) #[.slice (some ⟨b,0,none⟩) l.length cap,.func (.func g) #[] #[]] w fun e w'=>e = .returned (.tuple #[])∧∃ m os,w'=sortWorldK (rawOf cur E.kinds.length l.length) E.kinds.length w b 0 m (srtI cmp l) os:=by
            unfold srtI
            simp only [Array.size_range] at hS ⊢
            exact hS
          refine Calls.mono hS' ?_
          rintro ex w' ⟨rfl,m,os,rfl⟩
          exact ⟨_,rfl,resM_sort hE e he cmp l hO hal hB hinj hs hh hlc hcm hsz hby hrep' m os⟩
end Go.AE
/-
  slices.SortFunc by a comparator that is a function of the program: as a function on lists.
-/
set_option linter.unusedVariables false
set_option maxRecDepth 100000
namespace Go.AE
open Go.Proofs (ltOf)
open Go.Sort (SWO)
variable {P:Program} {β:Type} [Inhabited β]
def okCmp (f:β→β→Option Int) (l:List β):Bool :=
  (l.all fun x=>l.all fun y=>(f x y).isSome) && (l.all fun x=>decide (¬ (f x x).getD 0 < 0)) &&
  (l.all fun x=>l.all fun y=>l.all fun z=>decide (((f x y).getD 0 < 0→(f y z).getD 0 < 0→(f x z).getD 0 < 0)∧(¬ (f x y).getD 0 < 0→¬ (f y z).getD 0 < 0→¬ (f x z).getD 0 < 0)))
def sortG (f:β→β→Option Int) (l:List β):Option (List β) :=
  if l.isEmpty=true then some [] else if okCmp f l=true then some (srt (fun x y=>(f x y).getD 0) l) else none
theorem gt_cl_mem {l:List β} (hl:l≠[]) (i:Nat):gt l (cl l.length i)∈l:=by
  have hn:0 < l.length:=List.length_pos_iff.2 hl
  have:cl l.length i < l.length:=by unfold cl;split <;> omega
  have e1:gt l (cl l.length i)=l[cl l.length i]:=by simp [gt,List.getD_eq_getElem?_getD,this]
  rw [e1];exact List.getElem_mem _
theorem okCmp_spec {f:β→β→Option Int} {l:List β} (hl:l≠[]) (h:okCmp f l=true):(∀ x∈l,∀ y∈l,(f x y).isSome=true)∧SWO (ltOf (cmpI (fun x y=>(f x y).getD 0) l)):=by
  simp only [okCmp,Bool.and_eq_true,List.all_eq_true,decide_eq_true_eq] at h
  obtain ⟨⟨h1,h2⟩,h3⟩:=h
  refine ⟨h1,⟨fun i=>?_,fun i j k=>?_,fun i j k=>?_⟩⟩
  · have:=h2 _ (gt_cl_mem hl i)
    exact decide_eq_false this
  · have:=(h3 _ (gt_cl_mem hl i) _ (gt_cl_mem hl j) _ (gt_cl_mem hl k)).1
    exact fun a b=>decide_eq_true (this (of_decide_eq_true a) (of_decide_eq_true b))
  · have:=(h3 _ (gt_cl_mem hl i) _ (gt_cl_mem hl j) _ (gt_cl_mem hl k)).2
    exact fun a b=>decide_eq_false (this (of_decide_eq_false a) (of_decide_eq_false b))
theorem swo_nil (c:β→β→Int) (hc:∀ x y,c x y=0):SWO (ltOf (cmpI c ([]:List β))) :=
  ⟨fun i=>by simp [ltOf,cmpI,hc],fun i j k h=>by simp [ltOf,cmpI,hc] at h,fun i j k _ _=>by simp [ltOf,cmpI,hc]⟩
theorem callsM_sortG {ρ:Go.Shelf.Ren} (L:Go.Proofs.SlLaysF0.n6 P ρ) {E:TyI} (hE:tyI P (ρ.t 24)=some E)
    (aE:∀ w,(isAgg (ρ.t 24)).run P w = .ok true w) (zE:∀ w,(Go.sizeOf (ρ.t 24)).run P w = .ok E.kinds.length w) (hbytes:0 < E.bytes) (hks:∀ j,j < E.kinds.length→oneK (E.kinds.getD j .other)=true)
    {g:FuncId} (hent:∀ args w,(callFunc g args).run P w = .ok (.enter g args) w) (e:β→List C) (he:∀ x,(e x).length=E.kinds.length) (f:β→β→Option Int)
    (hraw:∀ x y c,f x y=some c→RawCmp P g E.kinds (e x) (e y) c) (l r:List β) (H:sortG f l=some r) :
    CallsM P (ρ.f 6) [.ref (.own 0 E.kinds 0 l.length),.ref (.fnv g [])] [.row (ρ.t 24) (l.map e)] [] [.row (ρ.t 24) (r.map e)]:=by
  by_cases hl:l=[]
  · subst hl
    have hr:r=[]:=by simpa [sortG] using H.symm
    subst hr
    have hO:=swo_nil (β:=β) (fun _ _=>0) (fun _ _=>rfl)
    have h:=callsM_sort L hE aE zE hbytes hks hent e he (fun _ _=>0) [] hO (fun x hx=>by simp at hx)
    have hs:srt (fun _ _=>0) ([]:List β)=[]:=List.eq_nil_of_length_eq_zero (srt_length _ [] hO)
    rw [hs] at h
    exact h
  · have hle:l.isEmpty=false:=by simpa using hl
    simp only [sortG,hle,Bool.false_eq_true,if_false] at H
    split at H
    · rename_i hok
      simp only [Option.some.injEq] at H
      subst H
      obtain ⟨h1,h2⟩:=okCmp_spec hl hok
      refine callsM_sort L hE aE zE hbytes hks hent e he _ l h2 fun x hx y hy=>?_
      obtain ⟨c,hc⟩:=Option.isSome_iff_exists.1 (h1 x hx y hy)
      have:=hraw x y c hc
      rw [hc]
      exact this
    · cases H
end Go.AE
