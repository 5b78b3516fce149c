/- Text. -/
import Derived.Test.YtcdofkflbnpjjaaSY
set_option linter.unusedSimpArgs false
set_option linter.unusedVariables false
set_option maxHeartbeats 1000000
set_option linter.unusedVariables false
set_option linter.unusedSimpArgs false
set_option maxRecDepth 100000
namespace Go.Proofs.Ytcdofkflbnpjjaa
open Go.AE
def N0:Nat:=4194304
theorem works_N0:law37_works N0=some true:=by decide +kernel
end Go.Proofs.Ytcdofkflbnpjjaa
/-
  ch. 37: EnqueueUnits.
-/
set_option maxHeartbeats 1000000
set_option linter.unusedVariables false
set_option linter.unusedSimpArgs false
set_option maxRecDepth 100000
namespace Go.Proofs.Ytcdofkflbnpjjaa
open Go.AE
theorem find_val (n:Nat) (hn:4194304≤n) (l:List TUnitConf) (a:Int) (hl:l.length≤40):∃ r:Int,law37_find n l a=some r∧((r = -1∧∀ k,k < l.length→(gt l k).Addr≠a)∨∃ b:Nat,r=(b:Int)∧b < l.length∧(gt l b).Addr=a∧firstP l b):=by
  obtain ⟨y,hy,hc⟩:=loopF_inv (body:=fun (x:Int)=>law37_find_b2 n l a x) (fun x=>∃ k:Nat,x=(k:Int)∧k≤l.length∧∀ i,i < k→(gt l i).Addr≠a) (fun x=>l.length - x.toNat) (fun (y:Int ⊕ Unit)=>(y = .inr ()∧∀ k,k < l.length→(gt l k).Addr≠a)∨∃ b:Nat,y = .inl (b:Int)∧b < l.length∧(gt l b).Addr=a∧firstP l b) (fun x hx=>by
    obtain ⟨k,rfl,hk,hm⟩:=hx
    by_cases c:(k:Int) < (l.length:Int)
    · by_cases e:(gt l k).Addr=a
      · refine .inr ⟨.inl (k:Int),?_,.inr ⟨k,rfl,by omega,e,fun i hi=>by rw [e];exact hm i hi⟩⟩
        unfold law37_find_b2
        have:((gt l k).Addr == a)=true:=by simpa using e
        rw [decide_eq_true c,cond_true,gd_pos _ (by omega),Int.toNat_natCast,this,cond_true]
      · refine .inl ⟨((k+1:Nat):Int),?_,⟨k+1,rfl,by omega,fun i hi=>?_⟩,by omega⟩
        · unfold law37_find_b2
          have:((gt l k).Addr == a)=false:=by simpa using e
          have ew:IntKind.wrap .i64 ((k:Int)+1)=((k+1:Nat):Int):=by rw [wid (by omega)];omega
          rw [decide_eq_true c,cond_true,gd_pos _ (by omega),Int.toNat_natCast,this,cond_false,ew]
        · by_cases ei:i=k
          · subst ei;exact e
          · exact hm i (by omega)
    · refine .inr ⟨.inr (),?_,.inl ⟨rfl,fun i hi=>hm i (by omega)⟩⟩
      unfold law37_find_b2
      rw [decide_eq_false c,cond_false]) n 0 ⟨0,rfl,by omega,fun i hi=>absurd hi (by omega)⟩ (by omega)
  unfold law37_find
  rw [hy,Option.bind_some]
  rcases hc with ⟨rfl,h⟩ | ⟨b,rfl,h⟩
  · exact ⟨-1,rfl,.inl ⟨rfl,h⟩⟩
  · exact ⟨(b:Int),rfl,.inr ⟨b,rfl,h⟩⟩
theorem few_loop (n:Nat) (hn:4194304≤n) (units:List TUnitConf) (busy:List Int) (needs:List TNeed) (hU:units.length≤40):∃ l,loopF (fun (x:(List TUnitConf)×Int)=>law37_EnqueueUnits_b8 n units busy needs x.1 x.2) n ([],0)=some l∧l.length≤40:=by
  refine loopF_inv (fun x=>∃ k:Nat,x.2=(k:Int)∧k≤units.length∧x.1.length≤k) (fun x=>units.length - x.2.toNat) (fun (l:List TUnitConf)=>l.length≤40) (fun x hx=>?_) n ([],0) ⟨0,rfl,by omega,by simp⟩ (by simp only;omega)
  obtain ⟨l,k'⟩:=x
  obtain ⟨k,e,hk,hl⟩:=hx
  simp only at e hl ⊢
  subst e
  by_cases c:(k:Int) < (units.length:Int)
  · obtain ⟨r,hr,_⟩:=find_val n hn l (gt units k).Addr (by omega)
    have ew:IntKind.wrap .i64 ((k:Int)+1)=((k+1:Nat):Int):=by rw [wid (by omega)];omega
    by_cases hneg:r < 0
    · refine .inl ⟨(l ++ [gt units k],((k+1:Nat):Int)),?_,⟨k+1,rfl,by omega,by simp;omega⟩,by simp only;omega⟩
      unfold law37_EnqueueUnits_b8
      rw [decide_eq_true c,cond_true,gd_pos _ (by omega),Int.toNat_natCast,hr,Option.bind_some,decide_eq_true hneg,cond_true,gd_pos _ ⟨by omega,by omega⟩]
      unfold law37_EnqueueUnits_k9
      rw [ew]
    · refine .inl ⟨(l,((k+1:Nat):Int)),?_,⟨k+1,rfl,by omega,show l.length≤k+1 by omega⟩,by simp only;omega⟩
      unfold law37_EnqueueUnits_b8
      rw [decide_eq_true c,cond_true,gd_pos _ (by omega),Int.toNat_natCast,hr,Option.bind_some,decide_eq_false hneg,cond_false]
      unfold law37_EnqueueUnits_k9
      rw [ew]
  · refine .inr ⟨l,?_,by omega⟩
    unfold law37_EnqueueUnits_b8
    rw [decide_eq_false c,cond_false]
section
variable (n:Nat) (hn:4194304≤n) {l S:List TUnitConf} (hUS:UnitsOk l S) (hl:l.length≤40) {busy:List Int} (hB:busy.length≤40) {needs:List TNeed} (hN:needs.length≤40) {g:List (Int×TNeed)} {a:List Int} {done:List Bool} (hI:AInv S busy needs g a done) (hD:∀ i,i < needs.length→gt done i=true)
include hn hUS hl hB hN hI hD
theorem need_ok (k:Nat) (hk:k < needs.length):law37_EnqueueUnits_b3 n busy needs l a (k:Int)=some (.inl ((k+1:Nat):Int)):=by
  have lo:=hI.lo
  have ew:IntKind.wrap .i64 ((k:Int)+1)=((k+1:Nat):Int):=by rw [wid (by omega)];omega
  obtain ⟨u,u1,u2,u3,u4⟩:=hI.i1 k hk (hD k hk)
  obtain ⟨r,hr,hrc⟩:=find_val n hn l (gt a k) hl
  have hb:∃ b:Nat,r=(b:Int)∧b < l.length∧gt l b=u:=by
    rcases hrc with ⟨_,h⟩ | ⟨b,h1,h2,h3,h4⟩
    · obtain ⟨j,j1,j2,j3⟩:=(hUS.mem u).1 u1
      exact absurd (by rw [j3];exact u2) (h j j1)
    · have hm:gt l b∈S:=(hUS.mem _).2 ⟨b,h2,h4,rfl⟩
      exact ⟨b,h1,h2,hUS.inj hm u1 (h3.trans u2.symm)⟩
  obtain ⟨b,rfl,hbl,hbu⟩:=hb
  unfold suitsB at u3
  rw [Bool.and_eq_true,Bool.or_eq_true,beq_iff_eq,beq_iff_eq,beq_iff_eq] at u3
  obtain ⟨s1,s2⟩:=u3
  have hneg:decide ((b:Int) < 0)=false:=decide_eq_false (by omega)
  -- nothing busy
  have hbusy:loopF (fun (x:Int)=>law37_EnqueueUnits_b7 n busy needs l a (k:Int) (b:Int) x) n 0=some (.inr ()):=by
    obtain ⟨y,hy,rfl⟩:=loopF_inv (body:=fun (x:Int)=>law37_EnqueueUnits_b7 n busy needs l a (k:Int) (b:Int) x) (fun x=>∃ j:Nat,x=(j:Int)∧j≤busy.length) (fun x=>busy.length - x.toNat) (fun (y:Bool ⊕ Unit)=>y = .inr ()) (fun x hx=>by
      obtain ⟨j,rfl,hj⟩:=hx
      have ej:IntKind.wrap .i64 ((j:Int)+1)=((j+1:Nat):Int):=by rw [wid (by omega)];omega
      by_cases c:(j:Int) < (busy.length:Int)
      · by_cases h5:u.Kind=5
        · refine .inr ⟨_,?_,rfl⟩
          unfold law37_EnqueueUnits_b7
          simp only [Int.toNat_natCast,hbu]
          rw [gd_pos _ ⟨fun _=>by omega,fun _=>hbl⟩,ite_ff,h5]
          simp
        · rcases u4 with u4 | ⟨u4,_⟩
          · exact absurd u4 h5
          · refine .inl ⟨((j+1:Nat):Int),?_,⟨j+1,rfl,by omega⟩,by omega⟩
            have hne:(gt busy j == gt a k)=false:=by
              have hjl:j < busy.length:=by omega
              have:=List.any_eq_false.1 u4 (gt busy j) (by rw [gt_lt hjl];exact List.getElem_mem hjl)
              rw [← u2]
              have h':¬ u.Addr=gt busy j:=by simpa using this
              rw [beq_eq_false_iff_ne]
              exact fun e=>h' e.symm
            have h5':(u.Kind != 5)=true:=by simpa using h5
            unfold law37_EnqueueUnits_b7
            simp only [Int.toNat_natCast,hbu]
            rw [gd_pos _ ⟨fun _=>by omega,fun _=>hbl⟩,ite_ff,h5',decide_eq_true c,Bool.and_self,cond_true,gd_pos _ ⟨by omega,by omega,by omega⟩,hne,cond_false,ej]
      · refine .inr ⟨_,?_,rfl⟩
        unfold law37_EnqueueUnits_b7
        simp only [Int.toNat_natCast]
        rw [gd_pos _ ⟨fun _=>by omega,fun _=>hbl⟩,ite_ff,decide_eq_false c,Bool.false_and,cond_false]) n 0 ⟨0,rfl,by omega⟩ (by omega)
    exact hy
  -- no other need has it
  have hpair:loopF (fun (x:Int)=>law37_EnqueueUnits_b6 n busy needs l a (k:Int) (b:Int) x) n 0=some (.inr ()):=by
    obtain ⟨y,hy,rfl⟩:=loopF_inv (body:=fun (x:Int)=>law37_EnqueueUnits_b6 n busy needs l a (k:Int) (b:Int) x) (fun x=>∃ j:Nat,x=(j:Int)∧j≤k) (fun x=>k - x.toNat) (fun (y:Bool ⊕ Unit)=>y = .inr ()) (fun x hx=>by
      obtain ⟨j,rfl,hj⟩:=hx
      have ej:IntKind.wrap .i64 ((j:Int)+1)=((j+1:Nat):Int):=by rw [wid (by omega)];omega
      by_cases c:(j:Int) < (k:Int)
      · by_cases h5:u.Kind=5
        · refine .inr ⟨_,?_,rfl⟩
          unfold law37_EnqueueUnits_b6
          simp only [Int.toNat_natCast,hbu]
          rw [gd_pos _ ⟨fun _=>by omega,fun _=>hbl⟩,ite_ff,h5]
          simp
        · refine .inl ⟨((j+1:Nat):Int),?_,⟨j+1,rfl,by omega⟩,by omega⟩
          have hjl:j < needs.length:=by omega
          have hcf:(if ((gt a j) == (gt a k))=true then (if (!((((gt needs j).Kind) == ((gt needs k).Kind)) && (((gt needs j).Serial) == ((gt needs k).Serial))))=true then true else (((gt needs k).Serial) == [])) else false)=false:=by
            rw [ite_ff,ite_tt]
            cases he:(gt a j == gt a k) with
            | false=>rfl
            | true =>
              have he':gt a j=gt a k:=by simpa using he
              obtain ⟨v,v1,v2,v3,v4⟩:=hI.i1 j hjl (hD j hjl)
              have hvu:v=u:=hUS.inj v1 u1 (by rw [v2,u2,he'])
              subst hvu
              rcases u4 with u4 | ⟨_,u5⟩
              · exact absurd u4 h5
              rcases v4 with v4 | ⟨_,v5⟩
              · exact absurd v4 h5
              have hnn:gt needs j=gt needs k:=Option.some.inj (v5.symm.trans u5)
              have hser:=hI.i3 k j hk hjl (by omega) (hD k hk) (hD j hjl) he'.symm v u1 u2 h5
              have hs':((gt needs k).Serial == [])=false:=by simpa using hser
              rw [hnn,hs']
              simp
          have h5':(u.Kind != 5)=true:=by simpa using h5
          unfold law37_EnqueueUnits_b6
          simp only [Int.toNat_natCast,hbu]
          rw [gd_pos _ ⟨fun _=>by omega,fun _=>hbl⟩,ite_ff,h5',decide_eq_true c,Bool.and_self,cond_true,gd_pos _ ⟨by omega,by omega,by omega,by omega,fun _=>by omega,fun _=>by omega,fun _=>by omega,fun h=>h⟩,hcf,cond_false,ej]
      · refine .inr ⟨_,?_,rfl⟩
        unfold law37_EnqueueUnits_b6
        simp only [Int.toNat_natCast]
        rw [gd_pos _ ⟨fun _=>by omega,fun _=>hbl⟩,ite_ff,decide_eq_false c,Bool.false_and,cond_false]) n 0 ⟨0,rfl,by omega⟩ (by omega)
    exact hy
  have hcond:(if (if (decide ((b:Int) < 0))=true then true else ((u.Kind) != ((gt needs k).Kind)))=true then true else (if (((gt needs k).Serial) != [])=true then ((u.Serial) != ((gt needs k).Serial)) else false))=false:=by
    rw [ite_tt,ite_tt,ite_ff,hneg,s1]
    rcases s2 with s2 | s2
    · rw [s2];simp
    · rw [s2];simp
  unfold law37_EnqueueUnits_b3
  rw [decide_eq_true (show (k:Int) < (needs.length:Int) by omega),cond_true]
  simp only [Int.toNat_natCast]
  rw [gd_pos _ ⟨by omega,by omega⟩,hr,Option.bind_some]
  simp only [Int.toNat_natCast,hbu]
  rw [gd_pos _ ⟨fun _=>by omega,fun _=>hbl,fun _=>by omega,fun _=>by omega,fun _=>by omega,fun _=>hbl,fun _=>by omega⟩,hcond,cond_false,hbusy,Option.bind_some]
  simp only
  unfold law37_EnqueueUnits_k5
  rw [hpair,Option.bind_some]
  simp only
  unfold law37_EnqueueUnits_k4
  rw [ew]
end
theorem p_units (x0:List TUnitConf) (x1:List Int) (x2:List TNeed):law37_EnqueueUnits N0 x0 x1 x2=some true:=by
  have hn:4194304≤N0:=by unfold N0;omega
  unfold law37_EnqueueUnits
  rw [works_N0,Option.bind_some]
  simp only [Bool.not_true,cond_false]
  by_cases h:x0.length≤40∧x1.length≤40∧x2.length≤40
  · obtain ⟨h0,h1,h2⟩:=h
    have e:(if (if (decide ((x0.length:Int) > 40))=true then true else (decide ((x1.length:Int) > 40)))=true then true else (decide ((x2.length:Int) > 40)))=false:=by
      rw [ite_tt,ite_tt];simp only [Bool.or_eq_false_iff,decide_eq_false_iff_not];omega
    obtain ⟨l,hl,hll⟩:=few_loop N0 hn x0 x1 x2 h0
    obtain ⟨a,c,r1,_,r3⟩:=assign_both N0 hn l x1 x2 hll h1 h2
    rw [e,cond_false,hl,Option.bind_some]
    unfold law37_EnqueueUnits_k1
    rw [r1,Option.bind_some]
    rcases r3 with ⟨hc,rfl,hpos⟩ | ⟨rfl,S,g,d,hUS,hI,hD⟩
    · have hne:(c != 0)=true:=by rcases hc with rfl | rfl <;> rfl
      simp only [hne,cond_true]
      rw [gd_pos _ (fun h=>h),decide_eq_true (show ((x2.length:Int) > 0) by omega)]
      rcases hc with rfl | rfl <;> rfl
    · simp only [bne_self_eq_false,cond_false]
      obtain ⟨y,hy,rfl⟩:=loopF_inv (body:=fun (x:Int)=>law37_EnqueueUnits_b3 N0 x1 x2 l a x) (fun x=>∃ k:Nat,x=(k:Int)∧k≤x2.length) (fun x=>x2.length - x.toNat) (fun (y:Bool ⊕ Unit)=>y = .inr ()) (fun x hx=>by
        obtain ⟨k,rfl,hk⟩:=hx
        by_cases cc:(k:Int) < (x2.length:Int)
        · exact .inl ⟨((k+1:Nat):Int),need_ok N0 hn hUS hll h1 h2 hI hD k (by omega),⟨k+1,rfl,by omega⟩,by omega⟩
        · refine .inr ⟨_,?_,rfl⟩
          unfold law37_EnqueueUnits_b3
          rw [decide_eq_false cc,cond_false]) N0 0 ⟨0,rfl,by omega⟩ (by omega)
      rw [hy,Option.bind_some]
      simp only
      unfold law37_EnqueueUnits_k2
      rw [hI.lo]
      simp
  · have e:(if (if (decide ((x0.length:Int) > 40))=true then true else (decide ((x1.length:Int) > 40)))=true then true else (decide ((x2.length:Int) > 40)))=true:=by
      rw [ite_tt,ite_tt];simp only [Bool.or_eq_true,decide_eq_true_eq];omega
    rw [e,cond_true]
end Go.Proofs.Ytcdofkflbnpjjaa
