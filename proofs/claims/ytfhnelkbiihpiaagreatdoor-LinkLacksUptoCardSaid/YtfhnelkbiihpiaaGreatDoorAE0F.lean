/- Text. -/
import Derived.OrdersIn
import Derived.Orders
import Derived.TacticsIn
import Derived.Tactics
import Derived.Scope
import Derived.RangeFuncCalls
set_option linter.unusedVariables false
namespace Go.AE
open Go
def fo (r:Option Nat):Fence:={ Fence.wide with round:=r }
def cwp (r:Option Nat) (P:Program) (c:Code) (Q:Exit→Act→World→Prop) (a:Act) (w:World):Prop:=c.wpIn (fo r) 8 P Q a w
variable {r:Option Nat} {P:Program} {Q:Exit→Act→World→Prop} {a:Act} {w:World}
theorem eq0 (h:Q .normal a w):cwp r P .skip Q a w:=wpIn_skip h
theorem ez5 {l:Nat} (h:Q .normal a w):cwp r P (.label l) Q a w:=wpIn_label h
theorem dkv {id:Nat} (h:Q (.exit id) a w):cwp r P (.exit id) Q a w:=wpIn_exit h
theorem ezf (h:Q .ret a w):cwp r P .ret Q a w:=wpIn_ret h
theorem ezc {x y:Code} (h:cwp r P x (Exit.then (cwp r P y Q) Q) a w):cwp r P (.seq x y) Q a w:=wpIn_seq h
theorem bkd {c:Operand} {x y:Code} {t:Bool} (hc:a.eval c = .bool t) (ht:t=true→cwp r P x Q a w) (hf:t=false→cwp r P y Q a w):cwp r P (.cond c x y) Q a w:=wpIn_cond_split hc ht hf
theorem dzc {id:Nat} {c:Code} (h:cwp r P c (Exit.inBlock id Q) a w):cwp r P (.block id c) Q a w:=wpIn_block h
theorem ejy {c:Code} (I:Nat→Act→World→Prop) (h₀:∃ n,I n a w)
  (round:∀ n a w,I n a w→cwp r P c (Exit.then (fun a' w'=>∃ n',n' < n∧I n' a' w') Q) a w):cwp r P (.loop c) Q a w:=by
 intro b k cs hro hb hr
 have key:∀ n a w,I n a w →
   ∃ e a' w',Q e a' w'∧ArrivesIn (Machine.fenced P (fo r)) P (lone (b.atR a (.code c :: .inLoop c :: k)) cs w) b k cs e a' w':=by
  intro n
  induction n using Nat.strongRecOn with
  | _ n ih =>
   intro a w hI
   obtain ⟨e,a₁,w₁,hq,harr⟩:=round n a w hI b (.inLoop c :: k) cs hro hb hr
   cases e with
   | normal =>
    obtain ⟨n',hlt,hI₁⟩:=hq
    obtain ⟨e₂,a₂,w₂,hq₂,harr₂⟩:=ih n' hlt a₁ w₁ hI₁
    exact ⟨e₂,a₂,w₂,hq₂,.of_steps (StepsIn.trans harr (.one (fenced_calm hb hr rfl) stepR_inLoop)) harr₂⟩
   | exit id=>exact ⟨_,a₁,w₁,hq,.pass (x:=.inLoop c) rfl (fun _ _=>.inl (by simp)) harr⟩
   | goto l=>exact ⟨_,a₁,w₁,hq,.pass (x:=.inLoop c) rfl (fun _ _=>.inl (by simp)) harr⟩
   | ret=>exact ⟨_,a₁,w₁,hq,.pass (x:=.inLoop c) rfl (fun _ _=>.inl (by simp)) harr⟩
   | panic ch=>exact ⟨_,a₁,w₁,hq,.pass (x:=.inLoop c) rfl (fun _ _=>.inl (by simp)) harr⟩
   | outgrown=>exact ⟨_,a₁,w₁,hq,.pass (x:=.inLoop c) rfl (fun _ _=>.inl (by simp)) harr⟩
 obtain ⟨n,hn⟩:=h₀
 obtain ⟨e,a',w',hq,harr⟩:=key n a w hn
 exact ⟨e,a',w',hq,.of_steps (.one (fenced_calm hb hr rfl) stepR_loop) harr⟩
theorem ey5 {o:Oper} (hd:∀ c,o.op≠.defer c) (ρ:Operand→Value):o.semAt (fo r).round ρ=execOp ρ o:=by
 cases r with
 | none=>exact Oper.semAt_none ρ o
 | some l=>exact Oper.semAt_some l ρ o hd
theorem eka {n:Nat} {row:String} {args:Array Value} {R:Value→World→Prop} (h:Rows P row args w R):RowsIn (fo r) n P row args w R :=
 fun c cs _=>let ⟨v,w',q,s⟩:=h c cs;⟨v,w',q,stepsIn_wide.2 s⟩
theorem cyd {o:Oper} {K:Act→World→Prop} {n:Nat} (hd:∀ c,o.op≠.defer c) (h:o.wp P a w K Q):o.wpIn (fo r) n P a w K Q:=by
 refine ⟨fun _ _=>trivial,?_⟩
 rw [ey5 hd]
 unfold Oper.wp at h
 generalize (execOp a.eval o).run P w=res at h ⊢
 cases res with
 | ok x w' =>
  cases x with
  | value v=>exact h
  | skip=>exact h
  | defer d=>exact h
  | enter f args =>
   refine ⟨fun hh=>(Bool.noConfusion (show false=true from hh)),?_⟩
   have h':Calls P f args w' _:=h
   have h2:=(callsIn_wide (n:=n - 1)).2 h'
   cases r with
   | none=>exact h2
   | some l=>exact h2.inRound l
  | row row args=>exact ⟨fun hh=>(Bool.noConfusion (show false=true from hh)),eka h⟩
  | _=>exact h.elim
 | halt x w'=>cases x <;> exact h
theorem bzu {ops:Array Oper} {n:Nat} (hQ:¬ LetsOut Q):∀ (l:List Oper) (a:Act) (w:World),(∀ o∈l,∀ c,o.op≠.defer c)→wpList P ops Q l a w→wpListIn (fo r) n P ops Q l a w
 | [],a,w,_,h=>h
 | o :: l,a,w,hd,h=>by
  simp only [wpList,wpListIn] at h ⊢
  split
  ·rename_i hw
   rw [if_pos hw] at h
   rcases h with h | h
   ·exact Oper.wpIn_mono (fun a w hk=>bzu hQ l a w (fun o ho=>hd o (.tail _ ho)) hk) (cyd (hd o (.head _)) h)
   ·exact absurd h.2 hQ
  ·rename_i hw
   rw [if_neg hw] at h
   exact ⟨fun _ _=>trivial,bzu hQ l _ w (fun o ho=>hd o (.tail _ ho)) h⟩
theorem bwq {md:Region.Mode} {ops:Array Oper} {n:Nat} (hQ:¬ LetsOut Q) (hd:∀ o∈ops.toList,∀ c,o.op≠.defer c):∀ (fuel:Nat) (listed:Array Bool) (a:Act) (w:World),wpAny P md ops Q fuel listed a w→wpAnyIn (fo r) n P md ops Q fuel listed a w
 | 0,listed,a,w,h=>h
 | fuel+1,listed,a,w,h=>by
  refine ⟨h.1,fun i hi=>?_⟩
  have h:=h.2 i hi
  unfold wpOp at h
  unfold wpOpIn
  cases ho:ops[i]? with
  | none=>rw [ho] at h;exact bwq hQ hd fuel _ a w h
  | some o =>
   rw [ho] at h
   simp only at h ⊢
   have hm:o∈ops.toList:=by
    obtain ⟨hlt,rfl⟩:=Array.getElem?_eq_some_iff.1 ho
    exact Array.getElem_mem_toList hlt
   split
   ·rename_i hw
    rw [if_pos hw] at h
    rcases h with h | h
    ·exact Oper.wpIn_mono (fun a w hk=>bwq hQ hd fuel _ a w hk) (cyd (hd o hm) h)
    ·exact absurd h.2 hQ
   ·rename_i hw
    rw [if_neg hw] at h
    exact ⟨fun _ _=>trivial,bwq hQ hd fuel _ _ w h⟩
def dwe (Q:Exit→Act→World→Prop):Exit→Act→World→Prop:=fun e a w=>e≠.outgrown∧Q e a w
theorem dwn (Q:Exit→Act→World→Prop):¬ LetsOut (dwe Q):=fun ⟨_,_,h,_⟩=>h rfl
theorem bza {id:Nat} {ops:Array Oper} (hd:∀ o∈ops.toList,∀ c,o.op≠.defer c) (h:wpList P ops (dwe Q) ops.toList a w):cwp r P (.region id ops false) Q a w :=
 wpIn_mono (wpIn_region_list (bzu (dwn Q) _ a w hd h)) fun _ _ _ h=>h.2
theorem bka {id:Nat} {ops:Array Oper} (hm:P.follows .mixedOrders=true) (hd:∀ o∈ops.toList,∀ c,o.op≠.defer c)
  (h:wpAny P .any ops (dwe Q) ops.size (Array.replicate ops.size false) a { w with drawn:=w.drawn+1 }):cwp r P (.region id ops true) Q a w :=
 wpIn_mono (wpIn_region_any hm (bwq (dwn Q) hd _ _ a _ h)) fun _ _ _ h=>h.2
end Go.AE
