/- Text. -/
import Derived.Test.YtcdofkflbnpjjaaSY
set_option maxHeartbeats 1000000
set_option linter.unusedVariables false
set_option linter.unusedSimpArgs false
set_option maxRecDepth 100000
namespace Go.Proofs.Ytcdofkflbnpjjaa
open Go.AE
def N0:Nat:=4194304
theorem works_N0:law37_works N0=some true:=by decide +kernel
theorem ints_refl (n:Nat) (a:List Int) (hl:a.length≤2097152) (hn:2097152 < n):law37_ints n a a=some true:=by
  have h:=loop_any (body:=fun (x:Int)=>law37_ints_b2 n a a x) a (fun _=>false) (.inl false) (.inr ()) (fun k hk=>by
    have e1:decide ((k:Int) < (a.length:Int))=true:=by simp;omega
    simp only [law37_ints_b2,e1,cond_true,Int.toNat_natCast]
    rw [gd_pos _ (by omega),wid (by omega)]
    simp) (by
    have e1:decide ((a.length:Int) < (a.length:Int))=false:=by simp
    simp only [law37_ints_b2,e1,cond_false]) (n:=n) (by omega)
  unfold law37_ints
  rw [h]
  simp [law37_ints_k1]
theorem copy_needs (n:Nat) (hn:4194304≤n) (units:List TUnitConf) (busy:List Int) (needs:List TNeed) (hN:needs.length≤40):loopF (fun (x:(List TNeed)×Int)=>law37_EnqueueAssigns_b2 n units busy needs x.1 x.2) n ([],0)=some needs:=by
  obtain ⟨y,hy,rfl⟩:=loopF_inv (body:=fun (x:(List TNeed)×Int)=>law37_EnqueueAssigns_b2 n units busy needs x.1 x.2) (fun x=>∃ k:Nat,x.2=(k:Int)∧k≤needs.length∧x.1=needs.take k) (fun x=>needs.length - x.2.toNat) (fun y=>y=needs) (fun x hx=>by
    obtain ⟨l,k'⟩:=x
    obtain ⟨k,e,hk,e1⟩:=hx
    simp only at e e1 ⊢
    subst e
    subst e1
    by_cases c:(k:Int) < (needs.length:Int)
    · have hkl:k < needs.length:=by omega
      refine .inl ⟨(needs.take (k+1),((k+1:Nat):Int)),?_,⟨k+1,rfl,by omega,rfl⟩,by simp only;omega⟩
      unfold law37_EnqueueAssigns_b2
      have ew:IntKind.wrap .i64 ((k:Int)+1)=((k+1:Nat):Int):=by rw [wid (by omega)];omega
      rw [decide_eq_true c,cond_true,gd_pos _ ⟨by omega,by omega,by simp;omega⟩,Int.toNat_natCast,ew,gt_lt hkl,← List.take_succ_eq_append_getElem hkl]
    · refine .inr ⟨needs.take k,?_,List.take_of_length_le (by omega)⟩
      unfold law37_EnqueueAssigns_b2
      rw [decide_eq_false c,cond_false]) n ([],0) ⟨0,rfl,by omega,rfl⟩ (by simp only;omega)
  exact hy
theorem p_assigns (x0:List TUnitConf) (x1:List Int) (x2:List TNeed):law37_EnqueueAssigns N0 x0 x1 x2=some true:=by
  unfold law37_EnqueueAssigns
  rw [works_N0,Option.bind_some]
  simp only [Bool.not_true,cond_false]
  by_cases h:x0.length≤40∧x1.length≤40∧x2.length≤40
  · obtain ⟨h0,h1,h2⟩:=h
    have e:(if (if (decide ((x0.length:Int) > 40))=true then true else (decide ((x1.length:Int) > 40)))=true then true else (decide ((x2.length:Int) > 40)))=false:=by
      rw [ite_tt,ite_tt];simp only [Bool.or_eq_false_iff,decide_eq_false_iff_not];omega
    obtain ⟨a,c,r1,r2,r3⟩:=assign_both N0 (by unfold N0;omega) x0 x1 x2 h0 h1 h2
    rw [e,cond_false,copy_needs N0 (by unfold N0;omega) x0 x1 x2 h2,Option.bind_some]
    unfold law37_EnqueueAssigns_k1
    rw [r1,Option.bind_some,r2,Option.bind_some]
    have ha:a.length≤40:=by
      rcases r3 with ⟨_,rfl,_⟩ | ⟨_,S,g,d,_,hI,_⟩
      · simp
      · rw [hI.lo];exact h2
    simp only [beq_self_eq_true,if_true,ints_refl N0 a (by omega) (by unfold N0;omega)]
    rw [gd_pos _ (by intro _;rfl)]
    rfl
  · have e:(if (if (decide ((x0.length:Int) > 40))=true then true else (decide ((x1.length:Int) > 40)))=true then true else (decide ((x2.length:Int) > 40)))=true:=by
      rw [ite_tt,ite_tt];simp only [Bool.or_eq_true,decide_eq_true_eq];omega
    rw [e,cond_true]
end Go.Proofs.Ytcdofkflbnpjjaa
