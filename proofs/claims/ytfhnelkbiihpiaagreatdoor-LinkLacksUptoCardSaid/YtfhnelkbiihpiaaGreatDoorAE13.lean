/- Text. -/
import Derived.Test.YtfhnelkbiihpiaaGreatDoorAE12D
set_option linter.unusedVariables false
open _root_.Bool renaming and_eq_true→jd
namespace Go.AE
open Go.RowKit (Below)
variable {P:Program} {w0:Base} {w:World} {N:Nat} {σ:Nat→RefI} {s:S} {tms:Array Value} {ρ:Operand→Value} {al:Nat→Prop} {Γ:List Fn}
def Weak (P:Program) (K:Nat) (s s':S):Prop:=∀ (w0:Base) (N:Nat) (tms:Array Value) (w:World),(∀ id,K≤id→w0.sg id = .dead)→Rel P w0 N s tms w→Rel P w0 N s' tms w
theorem Weak.refl (P:Program) (K:Nat) (s:S):Weak P K s s:=fun _ _ _ _ _ h=>h
theorem Weak.trans {K:Nat} {s1 s2 s3:S} (h:Weak P K s1 s2) (h':Weak P K s2 s3):Weak P K s1 s3:=fun _ _ _ _ hk r=>h' _ _ _ _ hk (h _ _ _ _ hk r)
def wpA (P:Program) (Γ:List Fn):Code→S→(Exit→S→Prop)→Prop
 | .skip,s,Q=>Q .normal s
 | .region _ ops draw,s,Q=>match draw with
  | true=>cqs P Γ ops.toList ops.toList s (Q .normal)
  | false=>byh P Γ ops.toList ops.toList s (Q .normal)
 | .seq a b,s,Q=>wpA P Γ a s fun e s'=>match e with | .normal=>wpA P Γ b s' Q | e=>Q e s'
 | .cond c x y,s,Q=>match opdA s.tm c with
  | .c .bool b=>(b.toBool=true→wpA P Γ x s Q)∧(b.toBool=false→wpA P Γ y s Q)
  | _=>False
 | .block id c,s,Q=>wpA P Γ c s fun e s'=>match e with | .exit id'=>if id'=id then Q .normal s' else Q (.exit id') s' | e=>Q e s'
 | .exit id,s,Q=>Q (.exit id) s
 | .label _,s,Q=>Q .normal s
 | .ret,s,Q=>Q .ret s
 | _,_,_=>False
def codeOk (N:Nat):Code→Bool
 | .skip=>true
 | .region _ ops draw=>ops.toList.all (awj N) && (!draw || lexD ops)
 | .seq a b=>codeOk N a && codeOk N b
 | .cond c x y=>bwh c && (codeOk N x && codeOk N y)
 | .block _ c=>codeOk N c
 | .exit _=>true
 | .label _=>true
 | .ret=>true
 | _=>false
theorem ej6 (h00:tyI P 0=none) (hm:P.follows .mixedOrders=true) (hΓ:∀ g,g∈Γ→aj9 P g):∀ (r:Option Nat) (c:Code) (s:S) (Q:Exit→S→Prop) (Q':Exit→Act→World→Prop) (a:Act) (w:World),codeOk N c=true→wpA P Γ c s Q→Rel P w0 N s a.tmps w →
  (∀ e s' a' w',a'.defers=a.defers→Rel P w0 N s' a'.tmps w'→Q e s'→Q' e a' w')→cwp r P c Q' a w:=by
 intro r
 intro c
 induction c with
 | skip=>intro s Q Q' a w _ h hR hQ;exact eq0 (hQ _ _ _ _ rfl hR h)
 | region id ops draw =>
  intro s Q Q' a w hok h hR hQ
  simp only [codeOk,jd,List.all_eq_true] at hok
  obtain ⟨hok,hlex⟩:=hok
  cases draw with
  | false =>
   have:=cqm (Q':=dwe Q') h00 hΓ (Q .normal) ops.toList s a w hok h hR (fun s' a' w' h1 h2 h3=>⟨by simp,hQ _ _ _ _ h1 h2 h3⟩)
   exact bza (akz hok) (by simpa using this)
  | true=>exact by9 (Q:=Q .normal) h00 hm hΓ hok (by simpa using hlex) h hR (fun s' a' w' h1 h2 h3=>hQ _ _ _ _ h1 h2 h3)
 | seq x y ihx ihy =>
  intro s Q Q' a w hok h hR hQ
  simp only [codeOk,jd] at hok
  refine ezc (ihx s _ _ a w hok.1 h hR (fun e s' a' w' hd' hR' hq=>?_))
  cases e <;> first | exact ihy s' Q Q' a' w' hok.2 hq hR' (fun e2 s2 a2 w2 h1 h2 h3=>hQ e2 s2 a2 w2 (h1.trans hd') h2 h3) | exact hQ _ _ _ _ hd' hR' hq
 | cond c x y ihx ihy =>
  intro s Q Q' a w hok h hR hQ
  simp only [codeOk,jd] at hok
  simp only [wpA] at h
  split at h
  ·rename_i b hb
   obtain ⟨σ,hR'⟩:=hR
   have hc:=cw2 hR' hok.1
   rw [hb] at hc
   refine bkd hc.bool_inv (fun ht=>ihx s Q Q' a w hok.2.1 (h.1 ht) ⟨σ,hR'⟩ hQ) (fun hf=>ihy s Q Q' a w hok.2.2 (h.2 hf) ⟨σ,hR'⟩ hQ)
  ·exact h.elim
 | block id c ih =>
  intro s Q Q' a w hok h hR hQ
  refine dzc (ih s _ _ a w hok h hR (fun e s' a' w' hd' hR' hq=>?_))
  cases e with
  | exit id' =>
   simp only [Exit.inBlock] at hq ⊢
   split
   ·rename_i e;rw [if_pos e] at hq;exact hQ _ _ _ _ hd' hR' hq
   ·rename_i e;rw [if_neg e] at hq;exact hQ _ _ _ _ hd' hR' hq
  | _=>exact hQ _ _ _ _ hd' hR' hq
 | exit id=>intro s Q Q' a w _ h hR hQ;exact dkv (hQ _ _ _ _ rfl hR h)
 | label l=>intro s Q Q' a w _ h hR hQ;exact ez5 (hQ _ _ _ _ rfl hR h)
 | ret=>intro s Q Q' a w _ h hR hQ;exact ezf (hQ _ _ _ _ rfl hR h)
 | _=>intro s Q Q' a w hok;simp [codeOk] at hok
end Go.AE
