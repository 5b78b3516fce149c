/- Text. -/
import Derived.Test.YtijnkhcfondehaaGreatDoorR4
import Derived.Test.YtijnkhcfondehaaGreatDoorM
import Derived.Test.YtijnkhcfondehaaGreatDoorFL
set_option linter.unusedSimpArgs false
set_option linter.unusedVariables false
set_option maxHeartbeats 8000000
set_option linter.unusedVariables false
set_option linter.unusedSimpArgs false
set_option maxRecDepth 100000
namespace Go.Proofs.YtijnkhcfondehaaGreatDoor
open Go.AE
theorem gke (n:Nat) (hn:N0≤n) (l:List aj0) (w:Int) (hl:l.length≤2097152) (hw:-9223372036854775808≤w∧w≤9223372036854775807):∃ r:List aj0×List aj0,by4 n l w=some r∧cql n l w=some r∧r.1.length≤l.length:=by
 have hn0:4194304≤n:=hn
 simp only [by4,cql,cku n hn l (by omega),cqb n hn l hl,Option.bind_some]
 by_cases h:(trkF [] l).isSome=true
 ·obtain ⟨hv,hnd⟩:=(awr l).1 h
  obtain ⟨y,y1,y2,y3,y4,y5⟩:=fyz n l hv w hw (by omega) (by omega)
  have hm:0≤mx w∧mx w≤9223372036854775807:=by unfold mx;split <;> omega
  have hK:=gzp n l hv (mx w) hm (by omega) (by omega)
  have em:(if 0 > w then 0 else w)=mx w:=rfl
  have hk:=gyy l (mx w)
  simp only [h,Bool.not_true,aji,Bool.false_eq_true,if_false,em,hK,y1,Option.bind_some,bzj,bkg,drop_eq n y.1 (by omega) (by omega),drop_eq n y.2 (by omega) (by omega),y2,y3]
  exact ⟨_,rfl,rfl,hk.1⟩
 ·rw [Bool.not_eq_true] at h
  simp only [h,Bool.not_false,aji,if_true]
  exact ⟨_,rfl,rfl,by simp⟩
theorem fzk (n:Nat) (hn:N0≤n) (l:List aj0) (w most:Int) (hl:l.length≤2097152) (hw2:w≤9223372036854775807):∃ r,az5 n l w most=some r∧bww n l w most=some r∧(r.1=[]∨((r.1.length:Nat):Int)≤most):=by
 obtain ⟨r,h1,h2,_⟩:=hq9 n hn l w most hl hw2
 refine ⟨r,h1,h2,?_⟩
 rcases gki n hn l w most hl hw2 with ⟨h3,_⟩ | ⟨_,v,h3,_,_,_,_,_,h4⟩ | ⟨_,h3,_⟩
 ·rw [h1] at h3;rw [Option.some.inj h3];exact .inl rfl
 ·rw [h1] at h3;rw [Option.some.inj h3];exact .inr h4
 ·rw [h1] at h3;rw [Option.some.inj h3];exact .inl rfl
theorem gq4 {s:List UInt8} (h:djb s=true):s.length≤44∧s≠[]:=by
 unfold djb at h
 rw [Bool.and_eq_true,decide_eq_true_eq] at h
 refine ⟨h.1,?_⟩
 rintro rfl
 exact absurd h.2 (by decide)
theorem bwn {v:aj5} (h:rV v=true):v.Sets.Pairwise wlt∧v.Sets.length≤64∧(v.Sets.length:Int)≤14 * v.Size∧(1≤v.Size∧v.Size≤511)∧∀ d∈v.Sets,djb d.Name=true∧d.Extents.length≤8:=by
 obtain ⟨h1,h2,h3,h4,h5⟩:=gyn.1 h
 refine ⟨hqc.1 fun k hk=>(h4 k hk).2,h2,h3,fkn h1,fun d hd=>?_⟩
 obtain ⟨k,hk,rfl⟩:=List.getElem_of_mem hd
 have:=(h4 k hk).1.1
 rw [aql hk] at this
 unfold pLbl inB at this
 simp only [Bool.and_eq_true,decide_eq_true_eq] at this
 exact ⟨this.1.1.1.1.1,by omega⟩
theorem hqp {l:List aj4} (h:∀ d∈l,djb d.Name=true):wo [] l=l:=by
 unfold wo
 rw [List.filter_eq_self]
 intro d hd
 have:=(gq4 (h d hd)).2
 simpa using this
theorem eqx {l:List aj4} {name:List UInt8} (h:hasN l name=false):∀ x∈l,x.Name≠name:=by
 intro x hx e
 unfold hasN at h
 rw [List.any_eq_false] at h
 exact h x hx (by rw [e];simp)
def tz:aj5:=⟨[],0,0,0,[]⟩
theorem awy:ay7 tz:=⟨by simp [tz],by simp [tz],by simp [tz]⟩
theorem fqe {v:aj5} {d:aj4} {l:List aj4} (hv:ay7 v) (hl:l.length≤64) (hm:∀ x∈l,x∈v.Sets) (hd:d.Name.length≤100) (hx:d.Extents.length≤20):ay7 ⟨v.Serial,v.Cyls,v.Heads,v.Size,ins d l⟩:=by
 refine ⟨?_,hv.2.1,fun x hx'=>?_⟩
 ·show (ins d l).length≤70
  rw [fza];omega
 ·rcases ejy.1 hx' with rfl | h
  ·exact ⟨hd,hx⟩
  ·exact hv.2.2 x (hm x h)
theorem djn (n:Nat) (hn:N0≤n) (v:aj5) (hv:ay7 v) (name:List UInt8):aks n v name=some (if rV v=true then (if hasN v.Sets name=true then 0 else 3) else 5):=by
 unfold aks
 rw [ejk n hn v hv,Option.bind_some]
 cases hr:rV v with
 | false=>rfl
 | true =>
  obtain ⟨hs,hl,_⟩:=bwn hr
  simp only [Bool.not_true,cond_false,cw6 n hn v name hs (by omega),Option.bind_some,if_true]
  cases hasN v.Sets name with
  | true=>simp only [if_true];rw [decide_eq_false (by omega)];rfl
  | false=>rfl
theorem gz0 (n:Nat) (hn:N0≤n) (v:aj5) (hv:ay7 v) (nm:List UInt8) (c:TDcb) (x:List aj0) (u N:Int) (hnm:nm.length≤100) (hN:N≤9223372036854775807) :
  ∃ r,bq6 n v ⟨nm,c,x,u⟩ N=some r∧bzr n v ⟨nm,c,[],0⟩ N=some r∧ay7 r.1:=by
 have hn0:4194304≤n:=hn
 simp only [bq6,bzr,byr n hn v hv,ejk n hn v hv,fwi,Option.bind_some]
 cases hr:rV v with
 | false=>exact ⟨_,rfl,rfl,awy⟩
 | true =>
  obtain ⟨hs,hl,hl2,hz,hm⟩:=bwn hr
  simp only [if_true,bne_self_eq_false,cond_false,Bool.not_true,fz8 n _ hn,ezx n nm hn (by omega),fw1,ezr,Option.bind_some,Option.isSome_some,Option.getD_some,implies_true]
  rw [aj9 _ trivial,aj9 _ trivial]
  cases hc:(if (if (!djb nm)=true then true else !dscB c)=true then true else decide (N < 1)) with
  | true=>exact ⟨_,rfl,rfl,awy⟩
  | false =>
   simp only [cond_false,cw7 n hn v nm hs (by omega),cw6 n hn v nm hs (by omega),Option.bind_some]
   cases hh:hasN v.Sets nm with
   | true =>
    simp only [if_true]
    rw [decide_eq_true (by omega)]
    exact ⟨_,rfl,rfl,awy⟩
   | false =>
    simp only [cond_false,Bool.false_eq_true,if_false]
    have w1:IntKind.wrap .i64 (14 * v.Size)=14 * v.Size:=wid (by omega)
    rw [w1]
    have e1:decide ((-1:Int) ≥ 0)=false:=by decide
    have e2:((v.Sets.length:Int) == if 14 * v.Size < 64 then 14 * v.Size else 64)=(if decide ((v.Sets.length:Int) ≥ 64)=true then true else decide ((v.Sets.length:Int) ≥ 14 * v.Size)):=by
     rw [dzj,Bool.eq_iff_iff,beq_iff_eq,Bool.or_eq_true,decide_eq_true_eq,decide_eq_true_eq]
     split <;> omega
    rw [e1,cond_false,e2]
    cases hf:(if decide ((v.Sets.length:Int) ≥ 64)=true then true else decide ((v.Sets.length:Int) ≥ 14 * v.Size)) with
    | true=>exact ⟨_,rfl,rfl,awy⟩
    | false =>
     obtain ⟨R,hR1,hR2,hR3⟩:=ek2 n hn v hv
     obtain ⟨r,h1,h2,h3⟩:=fzk n hn R N 8 (by omega) hN
     simp only [cond_false,hR1,hR2,h1,h2,Option.bind_some]
     cases r.2.2 != 0 with
     | true=>exact ⟨_,rfl,rfl,awy⟩
     | false =>
      have hlo:=gzd v.Sets nm
      have hno:=eqx hh
      simp only [cond_false,cq3 n hn v hv,Option.bind_some,fw9 n hn v [] _ (by omega:v.Sets.length≤1000),hqp (fun d hd=>(hm d hd).1),bqw,Int.toNat_natCast]
      rw [aj9 _ (by simp only [List.length_cons,List.length_nil];omega),Option.bind_some]
      have ei:=gjn (d:=⟨nm,c,r.1,0⟩) (l:=v.Sets) hno
      have hx8:r.1.length≤8:=by
       rcases h3 with h3 | h3
       ·rw [h3];simp
       ·omega
      refine ⟨_,rfl,by rw [ei],?_⟩
      have:=fqe (d:=⟨nm,c,r.1,0⟩) hv hl (fun x hx=>hx) hnm (by show r.1.length≤20;omega)
      rw [ei] at this
      exact this
theorem eq0 {v:aj5} {k:Nat} {d:aj4} (hv:ay7 v) (hd:d.Name.length≤100) (hx:d.Extents.length≤20):ay7 ⟨v.Serial,v.Cyls,v.Heads,v.Size,v.Sets.set k d⟩:=by
 refine ⟨by show (v.Sets.set k d).length≤70;rw [List.length_set];exact hv.1,hv.2.1,fun x hx'=>?_⟩
 rcases List.mem_or_eq_of_mem_set hx' with h | rfl
 ·exact hv.2.2 x h
 ·exact ⟨hd,hx⟩
theorem cq0 {v:aj5} {name:List UInt8} (hr:rV v=true) (hh:hasN v.Sets name=true):lowN v.Sets name < v.Sets.length∧(gt v.Sets (lowN v.Sets name)).Name=name∧gt v.Sets (lowN v.Sets name)∈v.Sets∧(gt v.Sets (lowN v.Sets name)).Extents.length≤8:=by
 obtain ⟨hs,hl,hl2,hz,hm⟩:=bwn hr
 obtain ⟨h1,h2⟩:=(ek3 hs).1 hh
 have hmem:gt v.Sets (lowN v.Sets name)∈v.Sets:=by rw [aql h1];exact List.getElem_mem h1
 exact ⟨h1,h2,hmem,(hm _ hmem).2⟩
theorem ekb (n:Nat) (hn:N0≤n) {v:aj5} {name:List UInt8} (hr:rV v=true) (hh:hasN v.Sets name=true) (d:aj4) (hd:d.Name=name):ay4 n v name d=some ⟨v.Serial,v.Cyls,v.Heads,v.Size,v.Sets.set (lowN v.Sets name) d⟩:=by
 obtain ⟨hs,hl,hl2,hz,hm⟩:=bwn hr
 obtain ⟨h1,h2,h3,h4⟩:=cq0 hr hh
 rw [fw9 n hn v name d (by omega),hqa hs h1 (hd.trans h2.symm),hd]
theorem gwd (n:Nat) (hn:N0≤n) (v:aj5) (hv:ay7 v) (nm:List UInt8) (N:Int) (hnm:nm.length≤100) (hN:N≤9223372036854775807) :
  ∃ r,bya n v nm N=some r∧bzp n v nm N=some r∧ay7 r.1:=by
 have hn0:4194304≤n:=hn
 simp only [bya,bkh,bzp,byr n hn v hv,djn n hn v hv,fwi,Option.bind_some]
 cases hr:rV v with
 | false=>exact ⟨_,rfl,rfl,awy⟩
 | true =>
  obtain ⟨hs,hl,hl2,hz,hm⟩:=bwn hr
  simp only [if_true,bne_self_eq_false,cond_false,cw7 n hn v nm hs (by omega),cw6 n hn v nm hs (by omega),Option.bind_some]
  cases hh:hasN v.Sets nm with
  | false=>exact ⟨_,rfl,rfl,awy⟩
  | true =>
   obtain ⟨h1,h2,h3,h4⟩:=cq0 hr hh
   have hlt:((lowN v.Sets nm:Nat):Int) < (v.Sets.length:Int):=by omega
   simp only [Bool.not_true,cond_false,if_true,bne_self_eq_false,cq3 n hn v hv,Option.bind_some]
   rw [aj9 _ ⟨⟨by omega,hlt⟩,trivial⟩,aj9 _ ⟨by omega,hlt⟩]
   simp only [aze,Int.toNat_natCast]
   cases decide (N < 1) with
   | true=>exact ⟨_,rfl,rfl,awy⟩
   | false =>
    have w8:IntKind.wrap .i64 (8 - ((gt v.Sets (lowN v.Sets nm)).Extents.length:Int))=8 - ((gt v.Sets (lowN v.Sets nm)).Extents.length:Int):=wid (by omega)
    have e8:(8 - ((gt v.Sets (lowN v.Sets nm)).Extents.length:Int) == 0)=(((gt v.Sets (lowN v.Sets nm)).Extents.length:Int) == 8):=by
     rw [Bool.eq_iff_iff,beq_iff_eq,beq_iff_eq];omega
    simp only [cond_false,w8,e8]
    cases ((gt v.Sets (lowN v.Sets nm)).Extents.length:Int) == 8 with
    | true=>exact ⟨_,rfl,rfl,awy⟩
    | false =>
     obtain ⟨R,hR1,hR2,hR3⟩:=ek2 n hn v hv
     obtain ⟨r,t1,t2,t3⟩:=fzk n hn R N (8 - ((gt v.Sets (lowN v.Sets nm)).Extents.length:Int)) (by omega) hN
     have hx8:(gt v.Sets (lowN v.Sets nm)).Extents.length+r.1.length≤8:=by
      rcases t3 with h3 | h3
      ·rw [h3];simp;exact h4
      ·omega
     simp only [cond_false,hR1,hR2,t1,t2,Option.bind_some]
     rw [aj9 _ (by omega),Option.bind_some]
     cases r.2.2 != 0 with
     | true=>exact ⟨_,rfl,rfl,awy⟩
     | false =>
      simp only [cond_false,Option.bind_some]
      rw [aj9 _ (by omega),ekb n hn hr hh _ (by exact h2),Option.bind_some]
      exact ⟨_,rfl,rfl,eq0 hv (by rw [h2];exact hnm) (by simp only [List.length_append];omega)⟩
end Go.Proofs.YtijnkhcfondehaaGreatDoor
/-
 ch. 21: Release, Update, Scratch and Rename, by the program and by the specification.
-/
set_option maxHeartbeats 8000000
set_option linter.unusedVariables false
set_option linter.unusedSimpArgs false
set_option maxRecDepth 100000
namespace Go.Proofs.YtijnkhcfondehaaGreatDoor
open Go.AE Go.Sort
theorem hjq {α:Type} [Inhabited α] (l:List α) (i:Nat) (x:α) (h:i < l.length):gt (l.set i x) i=x:=by
 simp [gt,List.getD_eq_getElem?_getD,h]
theorem eq4 {α:Type} (l:List α) (i:Nat) (x:α):(l.set i x).length=l.length:=List.length_set
theorem gj7 (n:Nat) (hn:N0≤n) (v:aj5) (hv:ay7 v) (nm:List UInt8) (N:Int) (hnm:nm.length≤100) (hN:-9223372036854775808≤N∧N≤9223372036854775807) :
  ∃ r,bzw n v nm N=some r∧bqy n v nm N=some r∧ay7 r.1:=by
 have hn0:4194304≤n:=hn
 simp only [bzw,bzf,bqy,byr n hn v hv,djn n hn v hv,fwi,Option.bind_some]
 cases hr:rV v with
 | false=>exact ⟨_,rfl,rfl,awy⟩
 | true =>
  obtain ⟨hs,hl,hl2,hz,hm⟩:=bwn hr
  simp only [if_true,bne_self_eq_false,cond_false,cw7 n hn v nm hs (by omega),cw6 n hn v nm hs (by omega),Option.bind_some]
  cases hh:hasN v.Sets nm with
  | false=>exact ⟨_,rfl,rfl,awy⟩
  | true =>
   obtain ⟨h1,h2,h3,h4⟩:=cq0 hr hh
   have hlt:((lowN v.Sets nm:Nat):Int) < (v.Sets.length:Int):=by omega
   simp only [Bool.not_true,cond_false,if_true,bne_self_eq_false,cq3 n hn v hv,Option.bind_some]
   rw [aj9 _ ⟨by omega,hlt⟩,aj9 _ ⟨by omega,hlt⟩]
   simp only [ayv,Int.toNat_natCast]
   rw [aj9 _ ⟨h1,h1⟩]
   -- what is used lies in a word
   have hu:0≤(gt v.Sets (lowN v.Sets nm)).Used∧(gt v.Sets (lowN v.Sets nm)).Used≤512:=by
    have:=((gyn.1 hr).2.2.2.1 _ h1).1.1
    unfold pLbl inB at this
    simp only [Bool.and_eq_true,decide_eq_true_eq] at this
    have:=ezn (gt v.Sets (lowN v.Sets nm)).Extents
    omega
   obtain ⟨w,hw⟩:∃ w,w=(if 1 > (if (gt v.Sets (lowN v.Sets nm)).Used > N then (gt v.Sets (lowN v.Sets nm)).Used else N) then 1 else (if (gt v.Sets (lowN v.Sets nm)).Used > N then (gt v.Sets (lowN v.Sets nm)).Used else N)):=⟨_,rfl⟩
   have hwr:-9223372036854775808≤w∧w≤9223372036854775807:=by rw [hw];split <;> (try split) <;> omega
   obtain ⟨r,k1,k2,k3⟩:=gke n hn (gt v.Sets (lowN v.Sets nm)).Extents w (by omega) hwr
   rw [← hw,k1,Option.bind_some,aj9 _ h1,Option.bind_some]
   simp only [eq4]
   rw [aj9 _ trivial]
   simp only [bne_self_eq_false,cond_false,Option.bind_some]
   have hL:=eq0 (k:=lowN v.Sets nm) (d:=⟨(gt v.Sets (lowN v.Sets nm)).Name,(gt v.Sets (lowN v.Sets nm)).Dcb,r.1,(gt v.Sets (lowN v.Sets nm)).Used⟩) hv (by rw [h2];exact hnm) (by show r.1.length≤20;omega)
   have key:∀ q,q=w→azc n nm v (gt v.Sets (lowN v.Sets nm)).Name (gt v.Sets (lowN v.Sets nm)).Dcb.Org (gt v.Sets (lowN v.Sets nm)).Dcb.Format (gt v.Sets (lowN v.Sets nm)).Dcb.Blocked (gt v.Sets (lowN v.Sets nm)).Dcb.Asa (gt v.Sets (lowN v.Sets nm)).Dcb.Lrecl (gt v.Sets (lowN v.Sets nm)).Dcb.Blksize (gt v.Sets (lowN v.Sets nm)).Dcb.KeyLen (gt v.Sets (lowN v.Sets nm)).Dcb.KeyPos (gt v.Sets (lowN v.Sets nm)).Extents (gt v.Sets (lowN v.Sets nm)).Used q=some (⟨v.Serial,v.Cyls,v.Heads,v.Size,v.Sets.set (lowN v.Sets nm) ⟨(gt v.Sets (lowN v.Sets nm)).Name,(gt v.Sets (lowN v.Sets nm)).Dcb,r.1,(gt v.Sets (lowN v.Sets nm)).Used⟩⟩,0):=by
    rintro q rfl
    simp only [azc,k2,Option.bind_some]
    rw [ekb n hn hr hh _ (by exact h2),Option.bind_some]
   refine ⟨_,rfl,?_,hL⟩
   by_cases c1:N > 1
   ·rw [decide_eq_true c1,cond_true]
    unfold azd
    by_cases c2:(gt v.Sets (lowN v.Sets nm)).Used > N
    ·rw [decide_eq_true c2,cond_true]
     refine key _ ?_
     rw [hw]
     simp only [if_pos c2]
     rw [if_neg (by omega)]
    ·rw [decide_eq_false c2,cond_false]
     refine key _ ?_
     rw [hw]
     simp only [if_neg c2]
     rw [if_neg (by omega)]
   ·rw [decide_eq_false c1,cond_false]
    unfold azd
    by_cases c2:(gt v.Sets (lowN v.Sets nm)).Used > 1
    ·rw [decide_eq_true c2,cond_true]
     refine key _ ?_
     have c3:(gt v.Sets (lowN v.Sets nm)).Used > N:=by omega
     rw [hw]
     simp only [if_pos c3]
     rw [if_neg (by omega)]
    ·rw [decide_eq_false c2,cond_false]
     refine key _ ?_
     rw [hw]
     split <;> split <;> omega
theorem gz2 (n:Nat) (hn:N0≤n) (v:aj5) (hv:ay7 v) (nm:List UInt8) (c:TDcb) (N:Int) (hnm:nm.length≤100) :
  ∃ r,bys n v nm c N=some r∧bzo n v nm c N=some r∧ay7 r.1:=by
 have hn0:4194304≤n:=hn
 simp only [bys,bzc,bzo,byr n hn v hv,djn n hn v hv,fwi,Option.bind_some]
 cases hr:rV v with
 | false=>exact ⟨_,rfl,rfl,awy⟩
 | true =>
  obtain ⟨hs,hl,hl2,hz,hm⟩:=bwn hr
  simp only [if_true,bne_self_eq_false,cond_false,cw7 n hn v nm hs (by omega),cw6 n hn v nm hs (by omega),Option.bind_some]
  cases hh:hasN v.Sets nm with
  | false=>exact ⟨_,rfl,rfl,awy⟩
  | true =>
   obtain ⟨h1,h2,h3,h4⟩:=cq0 hr hh
   have hlt:((lowN v.Sets nm:Nat):Int) < (v.Sets.length:Int):=by omega
   simp only [Bool.not_true,cond_false,if_true,bne_self_eq_false,cq3 n hn v hv,Option.bind_some]
   rw [aj9 _ ⟨by omega,hlt⟩,aj9 _ ⟨by omega,hlt⟩]
   simp only [bjs,Int.toNat_natCast,fw1,ezr,Option.bind_some]
   cases hc:dscB c with
   | false =>
    simp only [Bool.not_false,cond_true,Option.bind_some]
    rw [aj9 _ (by first | trivial | rfl)]
    exact ⟨_,rfl,rfl,awy⟩
   | true =>
    simp only [Bool.not_true,cond_false]
    rw [aj9 _ h1]
    simp only [fkm n hn (gt v.Sets (lowN v.Sets nm)).Extents (by omega),fqd n hn (gt v.Sets (lowN v.Sets nm)).Extents (by omega),fym,fjp,Option.bind_some]
    cases inB N 0 ((trkO (gt v.Sets (lowN v.Sets nm)).Extents).length:Int) with
    | false =>
     simp only [Bool.not_false,cond_true,Option.bind_some]
     rw [aj9 _ (by first | trivial | rfl)]
     exact ⟨_,rfl,rfl,awy⟩
    | true =>
     simp only [Bool.not_true,cond_false]
     rw [aj9 _ ⟨h1,h1⟩]
     simp only [Option.bind_some,eq4]
     rw [aj9 _ trivial]
     simp only [bne_self_eq_false,cond_false,Option.bind_some,hjq _ _ _ h1,List.set_set]
     rw [ekb n hn hr hh _ (by exact h2),Option.bind_some]
     exact ⟨_,rfl,rfl,eq0 hv (by rw [h2];exact hnm) (by show (gt v.Sets (lowN v.Sets nm)).Extents.length≤20;omega)⟩
theorem fyk (n:Nat) (s:List aj4) (nm:List UInt8) (hl:s.length≤1000) (p:Nat) (hp:p < s.length) (h1:∀ k,k < p→(gt s k).Name≠nm) (h2:(gt s p).Name=nm):∀ j k m,k+j=p→j < m →
  ajj (fun (x:Int)=>aq1 n s nm ((s.length:Nat):Int) x) m (k:Int)=some (.inl ((p:Nat):Int)):=by
 intro j
 induction j with
 | zero =>
  intro k m hj hm
  obtain ⟨m,rfl⟩:∃ q,m=q+1:=⟨m - 1,by omega⟩
  have hk:k=p:=by omega
  subst hk
  have hlt:((k:Nat):Int) < (s.length:Int):=by omega
  refine ajk ?_
  unfold aq1
  simp only [decide_eq_true hlt,cond_true,Int.toNat_natCast,aqv,Option.bind_some,h2,beq_self_eq_true]
  rw [aj9 _ ⟨⟨by omega,hlt⟩,hp⟩]
 | succ j ih =>
  intro k m hj hm
  obtain ⟨m,rfl⟩:∃ q,m=q+1:=⟨m - 1,by omega⟩
  have hlt:((k:Nat):Int) < (s.length:Int):=by omega
  refine (aju (x':=((k+1:Nat):Int)) ?_).trans (ih (k+1) m (by omega) (by omega))
  unfold aq1
  simp only [decide_eq_true hlt,cond_true,Int.toNat_natCast,aqv,Option.bind_some]
  rw [aj9 _ ⟨⟨by omega,hlt⟩,by omega⟩,beq_eq_false_iff_ne.2 (h1 k (by omega)),wid (n:=(k:Int)+1) (by omega)]
  rfl
theorem fqt (nm:List UInt8) (l:List aj4) (d:aj4):wo nm (l ++ [d])=wo nm l ++ (if (d.Name != nm)=true then [d] else []):=by
 unfold wo;rw [List.filter_append,List.filter_cons,List.filter_nil]
theorem fwk (n:Nat) (s:List aj4) (nm:List UInt8) (hl:s.length≤1000):∀ j k m (b:List aj4) (i:Nat),k+j=s.length→j < m→b.length=s.length→i < k∨(i=k)→i≤k→b.take i=wo nm (s.take k)→b.drop k=s.drop k →
  ∃ b' i',ajj (fun (x:(List aj4)×Int×Int)=>ajr n nm x.1 x.2.1 x.2.2) m (b,(i:Int),(k:Int))=some (b',((i':Nat):Int))∧b'.length=s.length∧i'≤s.length∧b'.take i'=wo nm s:=by
 intro j
 induction j with
 | zero =>
  intro k m b i hj hm hb _ hi h1 h2
  obtain ⟨m,rfl⟩:∃ q,m=q+1:=⟨m - 1,by omega⟩
  have hk:k=s.length:=by omega
  subst hk
  refine ⟨b,i,ajk ?_,hb,hi,by rw [h1,List.take_length]⟩
  unfold ajr
  dsimp only
  rw [hb,decide_eq_false (by omega),cond_false]
 | succ j ih =>
  intro k m b i hj hm hb _ hi h1 h2
  obtain ⟨m,rfl⟩:∃ q,m=q+1:=⟨m - 1,by omega⟩
  have hk:k < s.length:=by omega
  have hlt:((k:Nat):Int) < (b.length:Int):=by omega
  have hw:=wid (n:=(k:Int)+1) (by omega)
  have hw2:=wid (n:=(i:Int)+1) (by omega)
  have hgk:gt b k=gt s k:=by
   have e1:gt b k=gt (b.drop k) 0:=by simp [gt,List.getD_eq_getElem?_getD]
   have e2:gt s k=gt (s.drop k) 0:=by simp [gt,List.getD_eq_getElem?_getD]
   rw [e1,e2,h2]
  have ht:s.take (k+1)=s.take k ++ [gt s k]:=by
   rw [List.take_add_one,List.getElem?_eq_getElem hk,aql hk];rfl
  have hd:∀ q:List aj4,q.drop k=s.drop k→q.drop (k+1)=s.drop (k+1):=fun q hq=>by
   rw [← List.drop_drop,← List.drop_drop,hq]
  by_cases hc:((gt s k).Name == nm)=true
  ·obtain ⟨b',i',g1,g2⟩:=ih (k+1) m b i (by omega) (by omega) hb (by omega) (by omega) (by
    rw [h1,ht,fqt]
    have:((gt s k).Name != nm)=false:=by simp only [bne,hc,Bool.not_true]
    rw [this];simp) (hd b h2)
   refine ⟨b',i',(aju ?_).trans g1,g2⟩
   unfold ajr
   simp only [decide_eq_true hlt,cond_true,Int.toNat_natCast,aqv,Option.bind_some,hgk,hc,Bool.not_true,cond_false,aq2,hw]
   rw [aj9 _ ⟨⟨by omega,hlt⟩,by omega⟩]
   rfl
  ·rw [Bool.not_eq_true] at hc
   have hil:i < b.length:=by omega
   obtain ⟨b',i',g1,g2⟩:=ih (k+1) m (List.set b i (gt s k)) (i+1) (by omega) (by omega) (by rw [List.length_set];exact hb) (by omega) (by omega) (by
    rw [ht,fqt]
    have:((gt s k).Name != nm)=true:=by simp only [bne,hc,Bool.not_false]
    rw [this,if_pos rfl,← h1,List.take_add_one,List.take_set_of_le (Nat.le_refl _)]
    simp [hil]) (by
    have:=hd b h2
    rw [List.drop_set_of_lt (by omega)];exact this)
   refine ⟨b',i',(aju ?_).trans g1,g2⟩
   unfold ajr
   simp only [decide_eq_true hlt,cond_true,Int.toNat_natCast,aqv,Option.bind_some,hgk,hc,Bool.not_false,aq2,hw,hw2]
   rw [aj9 _ ⟨⟨by omega,hlt⟩,by omega⟩,aj9 _ ⟨⟨by omega,by omega⟩,hil⟩]
   rfl
theorem gjg (n:Nat) (hn:N0≤n) (s:List aj4) (nm:List UInt8) (hl:s.length≤1000) (p:Nat) (hp:p < s.length) (h1:∀ k,k < p→(gt s k).Name≠nm) (h2:(gt s p).Name=nm) :
  ∃ r,aqr n s nm=some r∧List.take r.1 r.2=wo nm s:=by
 have hn0:4194304≤n:=hn
 have key:ajj (fun (x:Int)=>aq1 n s nm ((s.length:Nat):Int) x) n 0=some (.inl ((p:Nat):Int)):=fyk n s nm hl p hp h1 h2 p 0 n (by omega) (by omega)
 simp only [aqr,awp,key,Option.bind_some]
 have e1:(((p:Nat):Int) == -1)=false:=by rw [beq_eq_false_iff_ne];omega
 rw [e1,cond_false,wid (n:=(p:Int)+1) (by omega)]
 have hpre:wo nm (s.take p)=s.take p:=by
  unfold wo
  rw [List.filter_eq_self]
  intro d hd
  obtain ⟨k,hk,rfl⟩:=List.getElem_of_mem hd
  rw [List.length_take] at hk
  have:=h1 k (by omega)
  rw [List.getElem_take,← aql (by omega)]
  simpa using this
 have ht:s.take (p+1)=s.take p ++ [gt s p]:=by
  rw [List.take_add_one,List.getElem?_eq_getElem hp,aql hp];rfl
 obtain ⟨b',i',g1,g2,g3,g4⟩:=fwk n s nm hl (s.length - (p+1)) (p+1) n s p (by omega) (by omega) rfl (by omega) (by omega) (by
  rw [ht,fqt,hpre,h2];simp) rfl
 have g1':ajj (fun (x:(List aj4)×Int×Int)=>ajr n nm x.1 x.2.1 x.2.2) n (s,(p:Int),(p:Int)+1)=some (b',((i':Nat):Int)):=g1
 rw [g1',Option.bind_some]
 unfold aw0
 dsimp only
 rw [aj9 _ (by rw [g2];omega),aj9 _ (by omega)]
 refine ⟨_,rfl,?_⟩
 simp only [Int.sub_zero,Int.toNat_natCast]
 rw [byt (by rw [bye];omega),← g4]
 rw [List.append_assoc,List.take_append_of_le_length (by rw [List.length_take];omega),List.take_take,Nat.min_self]
theorem fyx (n:Nat) (hn:N0≤n) (v:aj5) (hv:ay7 v) (nm:List UInt8) :
  ∃ r,bzt n v nm=some r∧bqu n v nm=some r∧ay7 r.1:=by
 have hn0:4194304≤n:=hn
 simp only [bzt,bz8,bqu,byr n hn v hv,djn n hn v hv,fwi,Option.bind_some]
 cases hr:rV v with
 | false=>exact ⟨_,rfl,rfl,awy⟩
 | true =>
  obtain ⟨hs,hl,hl2,hz,hm⟩:=bwn hr
  simp only [if_true,bne_self_eq_false,cond_false,cw7 n hn v nm hs (by omega),Option.bind_some]
  cases hh:hasN v.Sets nm with
  | false=>exact ⟨_,rfl,rfl,awy⟩
  | true =>
   obtain ⟨h1,h2,h3,h4⟩:=cq0 hr hh
   have hlt:((lowN v.Sets nm:Nat):Int) < (v.Sets.length:Int):=by omega
   simp only [Bool.not_true,cond_false,if_true,bne_self_eq_false,cq3 n hn v hv,Option.bind_some]
   rw [aj9 _ ⟨by omega,hlt⟩]
   simp only [bj0,Option.bind_some,bne_self_eq_false,cond_false]
   obtain ⟨r,d1,d2⟩:=gjg n hn v.Sets nm (by omega) (lowN v.Sets nm) h1 (fun k hk=>fji (cks k hk)) h2
   rw [d1,Option.bind_some,d2,eww n hn v nm (by omega),Option.bind_some]
   have hwl:=fzd nm v.Sets
   exact ⟨_,rfl,rfl,by show (wo nm v.Sets).length≤70;omega,hv.2.1,fun x hx=>hv.2.2 x (ewv.1 hx).1⟩
end Go.Proofs.YtijnkhcfondehaaGreatDoor
/-
 ch. 21: Rename; every change is what the specification does.
-/
set_option maxHeartbeats 8000000
set_option linter.unusedVariables false
set_option linter.unusedSimpArgs false
set_option maxRecDepth 100000
namespace Go.Proofs.YtijnkhcfondehaaGreatDoor
open Go.AE Go.Sort
theorem gk1:SWO (Go.Proofs.ltOf fun (x y:aj4)=>cmpS x.Name y.Name):=by
 have e:∀ x y:aj4,Go.Proofs.ltOf (fun (x y:aj4)=>cmpS x.Name y.Name) x y=Op.bytesLess x.Name y.Name:=by
  intro x y
  rw [Go.Proofs.ltOf,Bool.eq_iff_iff,decide_eq_true_eq];exact dky _ _
 constructor
 ·intro x;rw [e];exact bzq _
 ·intro x y z;rw [e,e,e];exact ckt
 ·intro x y z;rw [e,e,e]
  intro h1 h2
  cases h3:Op.bytesLess x.Name z.Name with
  | false=>rfl
  | true =>
   rcases dkz y.Name x.Name with h | h | h
   ·rw [ckt h h3] at h2;cases h2
   ·rw [h,h3] at h2;cases h2
   ·rw [h] at h1;cases h1
theorem gwq (n:Nat) (l:List aj4):∃ r,aqg n l=some r∧r.Perm l∧r.Pairwise fun x y=>¬ cmpS y.Name x.Name < 0 :=
 fkf (f:=fun x y=>bwl n x y) (c:=fun (x y:aj4)=>cmpS x.Name y.Name) (fun _ _ _ _=>rfl) gk1
theorem gku (n:Nat):aqg n []=some []:=by
 obtain ⟨r,h1,h2,_⟩:=gwq n []
 rw [h1,h2.eq_nil]
theorem gzt (n:Nat) {l:List aj4} {k:Nat} {d:aj4} {old:List UInt8} (hs:l.Pairwise wlt) (hk:k < l.length) (ho:(gt l k).Name=old) (hn:hasN l d.Name=false) :
  ∃ r,aqg n (l.set k d)=some r∧r=ins d (wo old l)∧r.length=l.length:=by
 obtain ⟨r,h1,h2,h3⟩:=gwq n (l.set k d)
 have hp:=List.pairwise_iff_getElem.1 hs
 have hne:=eqx hn
 have hmem:∀ x,x∈l.set k d↔x=d∨(x∈l∧x.Name≠old):=by
  intro x
  constructor
  ·intro hx
   obtain ⟨i,hi,rfl⟩:=List.getElem_of_mem hx
   rw [List.length_set] at hi
   by_cases e:i=k
   ·subst e;left;simp
   ·right
    rw [List.getElem_set_ne (Ne.symm e)]
    refine ⟨List.getElem_mem hi,fun he=>?_⟩
    rw [← ho,aql hk] at he
    rcases Nat.lt_or_ge i k with h | h
    ·exact fji (hp i k hi hk h) he
    ·exact fji (hp k i hk hi (by omega)) he.symm
  ·rintro (rfl | ⟨hx,hne⟩)
   ·exact List.mem_iff_getElem.2 ⟨k,by simpa using hk,by simp⟩
   ·obtain ⟨i,hi,rfl⟩:=List.getElem_of_mem hx
    have e:k≠i:=by rintro rfl;rw [← ho,aql hk] at hne;exact hne rfl
    exact List.mem_iff_getElem.2 ⟨i,by simpa using hi,List.getElem_set_ne e _⟩
 have hd:(l.set k d).Pairwise fun x y=>x.Name≠y.Name:=by
  rw [List.pairwise_iff_getElem]
  intro i j hi hj hij
  rw [List.length_set] at hi hj
  rw [List.getElem_set,List.getElem_set]
  by_cases e1:k=i <;> by_cases e2:k=j
  ·omega
  ·rw [if_pos e1,if_neg e2];exact (hne _ (List.getElem_mem hj)).symm
  ·rw [if_neg e1,if_pos e2];exact hne _ (List.getElem_mem hi)
  ·rw [if_neg e1,if_neg e2];exact fji (hp i j hi hj hij)
 have hd':r.Pairwise fun x y=>x.Name≠y.Name:=(h2.pairwise_iff (fun h=>Ne.symm h)).2 hd
 have hw:r.Pairwise wlt:=by
  refine (h3.and hd').imp ?_
  rintro a b ⟨q1,q2⟩
  rcases dkz a.Name b.Name with h | h | h
  ·exact h
  ·exact absurd h q2
  ·exact absurd ((dky _ _).2 h) q1
 refine ⟨r,h1,eks hw (dz5 (hs.filter _) fun x hx=>hne x (ewv.1 hx).1) fun x=>?_,by rw [h2.length_eq,List.length_set]⟩
 rw [h2.mem_iff,hmem,ejy,ewv]
theorem gwg (n:Nat) (hn:N0≤n) (v:aj5) (hv:ay7 v) (old nm:List UInt8) (hnm:nm.length≤100) :
  ∃ r,byf n v old nm=some r∧bk4 n v old nm=some r∧ay7 r.1:=by
 have hn0:4194304≤n:=hn
 simp only [byf,bza,bk4,byr n hn v hv,djn n hn v hv,fwi,Option.bind_some]
 have bad:∀ e:Int,∃ r,((some ((⟨[],0,0,0,[]⟩:aj5),e)).bind fun r1=>(aqg n r1.1.Sets).bind fun r2=>some ((⟨r1.1.Serial,r1.1.Cyls,r1.1.Heads,r1.1.Size,(List.take r1.1.Sets.length r2)⟩:aj5),r1.2))=some r∧some ((⟨[],0,0,0,[]⟩:aj5),e)=some r∧ay7 r.1:=by
  intro e
  refine ⟨((⟨[],0,0,0,[]⟩:aj5),e),?_,rfl,awy⟩
  simp only [Option.bind_some,gku]
  rfl
 cases hr:rV v with
 | false=>exact bad 5
 | true =>
  obtain ⟨hs,hl,hl2,hz,hm⟩:=bwn hr
  simp only [if_true,bne_self_eq_false,cond_false,cw7 n hn v old hs (by omega),cw6 n hn v nm hs (by omega),cw6 n hn v old hs (by omega),Option.bind_some]
  cases hh:hasN v.Sets old with
  | false=>exact bad 3
  | true =>
   obtain ⟨h1,h2,h3,h4⟩:=cq0 hr hh
   have hlt:((lowN v.Sets old:Nat):Int) < (v.Sets.length:Int):=by omega
   simp only [Bool.not_true,cond_false,if_true,bne_self_eq_false,cq3 n hn v hv,Option.bind_some]
   rw [aj9 _ ⟨by omega,hlt⟩]
   simp only [bjw,Int.toNat_natCast,fz8 n _ hn,ezx n nm hn (by omega),Option.bind_some]
   cases hc:djb nm with
   | false =>
    simp only [Bool.not_false,cond_true,Option.bind_some]
    rw [aj9 _ (by first | trivial | rfl)]
    exact bad 1
   | true =>
    have hi:ajy n ⟨v.Serial,v.Cyls,v.Heads,v.Size,v.Sets⟩ nm=some (((lowN v.Sets nm:Nat):Int),hasN v.Sets nm):=cw7 n hn v nm hs (by omega)
    simp only [Bool.not_true,cond_false,hi,Option.bind_some]
    cases hx:hasN v.Sets nm with
    | true =>
     simp only [cond_true,Option.bind_some,if_true]
     rw [aj9 _ (by first | trivial | rfl),decide_eq_true (by omega)]
     exact bad 4
    | false =>
     simp only [cond_false,Bool.false_eq_true,if_false]
     rw [aj9 _ h1,Option.bind_some]
     simp only [eq4]
     rw [aj9 _ (by first | trivial | rfl)]
     obtain ⟨r,s1,s2,s3⟩:=gzt n (d:=⟨nm,(gt v.Sets (lowN v.Sets old)).Dcb,(gt v.Sets (lowN v.Sets old)).Extents,(gt v.Sets (lowN v.Sets old)).Used⟩) hs h1 h2 hx
     have e1:decide ((-1:Int) ≥ 0)=false:=by decide
     simp only [bne_self_eq_false,cond_false,Option.bind_some,s1,e1,eq4,eq4,fw9 n hn v old _ (by omega:v.Sets.length≤1000)]
     rw [aj9 _ ⟨by omega,hlt⟩,← s3,List.take_length,s2]
     refine ⟨_,rfl,rfl,?_⟩
     have hwl:=fzd old v.Sets
     exact fqe hv (by omega) (fun x hx=>(ewv.1 hx).1) hnm (by show (gt v.Sets (lowN v.Sets old)).Extents.length≤20;omega)
theorem hqq (n:Nat) (hn:N0≤n) (v:aj5) (hv:ay7 v) (a:TAct) (h1:a.Name.length≤100) (h2:a.To.length≤100) (hN:-9223372036854775808≤a.N∧a.N≤9223372036854775807) :
  ∃ r,cqm n v a=some r∧bky n v a=some r∧ay7 r.1:=by
 unfold cqm bky
 cases Int.tmod a.Kind 6 == 0 with
 | true =>
  obtain ⟨r,e1,e2,e3⟩:=gz0 n hn v hv a.Name a.Dcb [(⟨1,1⟩:aj0)] 7 a.N h1 hN.2
  simp only [cond_true,e1,e2,Option.bind_some]
  exact ⟨_,rfl,rfl,e3⟩
 | false =>
  rw [cond_false,cond_false]
  cases Int.tmod a.Kind 6 == 1 with
  | true =>
   obtain ⟨r,e1,e2,e3⟩:=gwd n hn v hv a.Name a.N h1 hN.2
   simp only [cond_true,e1,e2,Option.bind_some]
   exact ⟨_,rfl,rfl,e3⟩
  | false =>
   rw [cond_false,cond_false]
   cases Int.tmod a.Kind 6 == 2 with
   | true =>
    obtain ⟨r,e1,e2,e3⟩:=gj7 n hn v hv a.Name a.N h1 hN
    simp only [cond_true,e1,e2,Option.bind_some]
    exact ⟨_,rfl,rfl,e3⟩
   | false =>
    rw [cond_false,cond_false]
    cases Int.tmod a.Kind 6 == 3 with
    | true =>
     obtain ⟨r,e1,e2,e3⟩:=gz2 n hn v hv a.Name a.Dcb a.N h1
     simp only [cond_true,e1,e2,Option.bind_some]
     exact ⟨_,rfl,rfl,e3⟩
    | false =>
     rw [cond_false,cond_false]
     cases Int.tmod a.Kind 6 == 4 with
     | true =>
      obtain ⟨r,e1,e2,e3⟩:=fyx n hn v hv a.Name
      simp only [cond_true,e1,e2,Option.bind_some]
      exact ⟨_,rfl,rfl,e3⟩
     | false =>
      obtain ⟨r,e1,e2,e3⟩:=gwg n hn v hv a.Name a.To h2
      simp only [cond_false,e1,e2,Option.bind_some]
      exact ⟨_,rfl,rfl,e3⟩
end Go.Proofs.YtijnkhcfondehaaGreatDoor
/-
 ch. 21: runs of changes.
-/
set_option maxHeartbeats 8000000
set_option linter.unusedVariables false
set_option linter.unusedSimpArgs false
set_option maxRecDepth 100000
namespace Go.Proofs.YtijnkhcfondehaaGreatDoor
open Go.AE
theorem gyz (n:Nat) (hn:N0≤n) (v:aj5) (hv:ay7 v):cqn n v=some v:=by
 have hn0:4194304≤n:=hn
 obtain ⟨h1,h2,h3⟩:=hv
 have key:∀ j k m,k+j=v.Sets.length→j < m→ajj (fun (x:(List aj4)×Int)=>bqn n v x.1 x.2) m (v.Sets.take k,(k:Int))=some v.Sets:=by
  intro j
  induction j with
  | zero =>
   intro k m hj hm
   obtain ⟨m,rfl⟩:∃ q,m=q+1:=⟨m - 1,by omega⟩
   have hk:k=v.Sets.length:=by omega
   subst hk
   refine ajk ?_
   unfold bqn
   simp only [Int.lt_irrefl,decide_false,cond_false,List.take_length]
  | succ j ih =>
   intro k m hj hm
   obtain ⟨m,rfl⟩:∃ q,m=q+1:=⟨m - 1,by omega⟩
   have hk:k < v.Sets.length:=by omega
   have hlt:((k:Nat):Int) < (v.Sets.length:Int):=by omega
   have hmem:gt v.Sets k∈v.Sets:=by rw [aql hk];exact List.getElem_mem hk
   have hx:=(h3 _ hmem).2
   have ht:v.Sets.take (k+1)=v.Sets.take k ++ [gt v.Sets k]:=by
    rw [List.take_add_one,List.getElem?_eq_getElem hk,aql hk];rfl
   refine (aju (x':=(v.Sets.take (k+1),((k+1:Nat):Int))) ?_).trans (ih (k+1) m (by omega) (by omega))
   unfold bqn
   simp only [decide_eq_true hlt,cond_true,Int.toNat_natCast]
   rw [aj9 _ ⟨by omega,hlt⟩,aj9 _ (by omega),aj9 _ (by rw [List.length_take];omega),wid (n:=(k:Int)+1) (by omega),ht]
   rfl
 have hz:=key v.Sets.length 0 n (by omega) (by omega)
 have hz':ajj (fun (x:(List aj4)×Int)=>bqn n v x.1 x.2) n ([],0)=some v.Sets:=hz
 simp only [cqn,hz',Option.bind_some,cja]
theorem fye (n:Nat) (hn:N0≤n) (d:aj4) (hd:d.Extents.length≤1000):bwm n d d=some true:=by
 have hn0:4194304≤n:=hn
 have key:ajj (fun (x:Int)=>akx n d d x) n 0=some (if d.Extents.any (fun _=>false)=true then .inl false else .inr ()):=by
  refine cjd d.Extents (fun _=>false) _ _ (fun k hk=>?_) ?_ (by omega)
  ·have hlt:((k:Nat):Int) < (d.Extents.length:Int):=by omega
   unfold akx
   simp only [decide_eq_true hlt,cond_true,beq_self_eq_true,Bool.and_self,Bool.not_true,cond_false]
   rw [aj9 _ ⟨⟨by omega,hlt⟩,by omega,hlt⟩,wid (n:=(k:Int)+1) (by omega)]
   rfl
  ·unfold akx
   simp only [Int.lt_irrefl,decide_false,cond_false]
 have hf:d.Extents.any (fun _=>false)=false:=by simp
 rw [hf] at key
 unfold bwm
 simp only [bne_self_eq_false,Bool.false_eq_true,if_false,beq_self_eq_true,Bool.and_self,Bool.not_true,cond_false,key,Option.bind_some,bju]
theorem hjd (n:Nat) (hn:N0≤n) (v:aj5) (hv:ay7 v):cqa n v v=some true:=by
 have hn0:4194304≤n:=hn
 obtain ⟨h1,h2,h3⟩:=hv
 have key:ajj (fun (x:Int)=>bqt n v v x) n 0=some (if v.Sets.any (fun _=>false)=true then .inl false else .inr ()):=by
  refine cjd v.Sets (fun _=>false) _ _ (fun k hk=>?_) ?_ (by omega)
  ·have hlt:((k:Nat):Int) < (v.Sets.length:Int):=by omega
   have hx:=(h3 _ (by rw [aql hk];exact List.getElem_mem hk:gt v.Sets k∈v.Sets)).2
   unfold bqt
   simp only [decide_eq_true hlt,cond_true,Int.toNat_natCast,fye n hn _ (Nat.le_trans hx (by decide)),Option.bind_some,Bool.not_true,cond_false]
   rw [aj9 _ ⟨⟨by omega,hlt⟩,by omega,hlt⟩,wid (n:=(k:Int)+1) (by omega)]
   rfl
  ·unfold bqt
   simp only [Int.lt_irrefl,decide_false,cond_false]
 have hf:v.Sets.any (fun _=>false)=false:=by simp
 rw [hf] at key
 unfold cqa
 simp only [bne_self_eq_false,Bool.false_eq_true,if_false,cond_false,key,Option.bind_some,bki]
theorem empty_eq (n:Nat) (hn:N0≤n) (s:cyh) (h1:0≤s.Cyls) (h2:0≤s.Heads) (h3:0≤s.Size):∃ v,byp n s=some (v,0)∧v.Sets=[]∧v.Serial.length≤100:=by
 have e1:Int.tmod s.Cyls 4=s.Cyls % 4:=Int.tmod_eq_emod_of_nonneg h1
 have e2:Int.tmod s.Heads 3=s.Heads % 3:=Int.tmod_eq_emod_of_nonneg h2
 have e3:Int.tmod s.Size 2=s.Size % 2:=Int.tmod_eq_emod_of_nonneg h3
 simp only [byp,dw2,gwo n hn _ _ _ _ (by decide:([86,49]:List UInt8).length≤2097152),e1,e2,e3]
 have c1:s.Cyls % 4=0∨s.Cyls % 4=1∨s.Cyls % 4=2∨s.Cyls % 4=3:=by omega
 have c2:s.Heads % 3=0∨s.Heads % 3=1∨s.Heads % 3=2:=by omega
 have c3:s.Size % 2=0∨s.Size % 2=1:=by omega
 generalize s.Cyls % 4=a at *
 generalize s.Heads % 3=b at *
 generalize s.Size % 2=c at *
 have hh:∀ a∈([0,1,2,3]:List Int),∀ b∈([0,1,2]:List Int),∀ c∈([0,1]:List Int),
   (IntKind.wrap .i64 ((IntKind.wrap .i64 ((IntKind.wrap .i64 (IntKind.wrap .i64 a+1)) * (IntKind.wrap .i64 (IntKind.wrap .i64 b+2)))) - 1)≠0) ∧
   djp [86,49] (IntKind.wrap .i64 (IntKind.wrap .i64 a+1)) (IntKind.wrap .i64 (IntKind.wrap .i64 b+2)) (IntKind.wrap .i64 (Int.tmod (IntKind.wrap .i64 c) (IntKind.wrap .i64 ((IntKind.wrap .i64 ((IntKind.wrap .i64 (IntKind.wrap .i64 a+1)) * (IntKind.wrap .i64 (IntKind.wrap .i64 b+2)))) - 1))+1))=true:=by decide +kernel
 obtain ⟨g1,g2⟩:=hh a (by rcases c1 with h | h | h | h <;> simp [h]) b (by rcases c2 with h | h | h <;> simp [h]) c (by rcases c3 with h | h <;> simp [h])
 rw [aj9 _ g1,g2]
 exact ⟨_,rfl,rfl,by show ([86,49]:List UInt8).length≤100;decide⟩
theorem gy7 (n:Nat) (hn:N0≤n) (l:List TAct) (hl:l.length≤2097152) (hN:∀ a∈l,-9223372036854775808≤a.N∧a.N≤9223372036854775807):∀ j k m v,k+j=l.length→j < m→ay7 v →
  ∃ y,ajj (fun (x:(List UInt8)×Int×Int×Int×(List aj4)×(List UInt8)×Int×Int×Int×(List aj4)×Int)=>aq9 n l x.1 x.2.1 x.2.2.1 x.2.2.2.1 x.2.2.2.2.1 x.2.2.2.2.2.1 x.2.2.2.2.2.2.1 x.2.2.2.2.2.2.2.1 x.2.2.2.2.2.2.2.2.1 x.2.2.2.2.2.2.2.2.2.1 x.2.2.2.2.2.2.2.2.2.2) m (v.Serial,v.Cyls,v.Heads,v.Size,v.Sets,v.Serial,v.Cyls,v.Heads,v.Size,v.Sets,(k:Int))=some y ∧
   (y = .inl true∨∃ w,ay7 w∧y = .inr (w.Serial,w.Cyls,w.Heads,w.Size,w.Sets,w.Serial,w.Cyls,w.Heads,w.Size,w.Sets)):=by
 intro j
 induction j with
 | zero =>
  intro k m v hj hm hv
  obtain ⟨m,rfl⟩:∃ q,m=q+1:=⟨m - 1,by omega⟩
  refine ⟨_,ajk (y:=.inr (v.Serial,v.Cyls,v.Heads,v.Size,v.Sets,v.Serial,v.Cyls,v.Heads,v.Size,v.Sets)) ?_,.inr ⟨v,hv,rfl⟩⟩
  unfold aq9
  dsimp only
  rw [decide_eq_false (by omega)]
  rfl
 | succ j ih =>
  intro k m v hj hm hv
  obtain ⟨m,rfl⟩:∃ q,m=q+1:=⟨m - 1,by omega⟩
  have hk:k < l.length:=by omega
  have hlt:((k:Nat):Int) < (l.length:Int):=by omega
  have hw:=wid (n:=(k:Int)+1) (by omega)
  by_cases h40:(k:Int) < 40
  ·by_cases hc:(if decide ((((gt l k).Name).length:Int) > 100)=true then true else decide ((((gt l k).To).length:Int) > 100))=true
   ·refine ⟨_,ajk (y:=.inl true) ?_,.inl rfl⟩
    unfold aq9
    simp only [decide_eq_true hlt,decide_eq_true h40,if_true,cond_true,Int.toNat_natCast,hc]
    rw [aj9 _ ⟨⟨by omega,hlt⟩,fun _=>⟨by omega,hlt⟩⟩]
   ·have hc':(if decide ((((gt l k).Name).length:Int) > 100)=true then true else decide ((((gt l k).To).length:Int) > 100))=false:=by simpa using hc
    have hn1:(gt l k).Name.length≤100∧(gt l k).To.length≤100:=by
     rw [dzj,Bool.or_eq_false_iff,decide_eq_false_iff_not,decide_eq_false_iff_not] at hc'
     omega
    obtain ⟨r,a1,a2,a3⟩:=hqq n hn v hv (gt l k) hn1.1 hn1.2 (hN _ (by rw [aql hk];exact List.getElem_mem hk))
    have a1':cqm n ⟨v.Serial,v.Cyls,v.Heads,v.Size,v.Sets⟩ (gt l k)=some r:=a1
    have a2':bky n ⟨v.Serial,v.Cyls,v.Heads,v.Size,v.Sets⟩ (gt l k)=some r:=a2
    have hg:gd ((0≤(k:Int)∧(k:Int) < (l.length:Int)))=fun (x:Option ((List UInt8×Int×Int×Int×List aj4×List UInt8×Int×Int×Int×List aj4×Int) ⊕ (Bool ⊕ (List UInt8×Int×Int×Int×List aj4×List UInt8×Int×Int×Int×List aj4))))=>x:=by
     funext x;exact aj9 _ ⟨by omega,hlt⟩
    obtain ⟨v',hv',hb⟩:∃ v',ay7 v'∧aq9 n l v.Serial v.Cyls v.Heads v.Size v.Sets v.Serial v.Cyls v.Heads v.Size v.Sets (k:Int)=some (.inl (v'.Serial,v'.Cyls,v'.Heads,v'.Size,v'.Sets,v'.Serial,v'.Cyls,v'.Heads,v'.Size,v'.Sets,((k+1:Nat):Int))):=by
     have hb0:aq9 n l v.Serial v.Cyls v.Heads v.Size v.Sets v.Serial v.Cyls v.Heads v.Size v.Sets (k:Int)=(bif (r.2 == 0) then
       aqs n l r.1.Serial r.1.Cyls r.1.Heads r.1.Size r.1.Sets r.1.Serial r.1.Cyls r.1.Heads r.1.Size r.1.Sets (k:Int)
      else
       aqs n l v.Serial v.Cyls v.Heads v.Size v.Sets v.Serial v.Cyls v.Heads v.Size v.Sets (k:Int)):=by
      unfold aq9
      simp only [decide_eq_true hlt,decide_eq_true h40,if_true,cond_true,Int.toNat_natCast,hc',cond_false,a1',a2',Option.bind_some,bne_self_eq_false,Bool.not_false,gyz n hn r.1 a3,hjd n hn r.1 a3,Bool.not_true]
      rw [aj9 _ ⟨⟨by omega,hlt⟩,fun _=>⟨by omega,hlt⟩⟩,aj9 _ ⟨by omega,hlt⟩,aj9 _ ⟨by omega,hlt⟩,aj9 _ (by first | trivial | rfl)]
     rw [hb0]
     cases r.2 == 0 with
     | true=>exact ⟨r.1,a3,by simp only [cond_true,aqs,hw];rfl⟩
     | false=>exact ⟨v,hv,by simp only [cond_false,aqs,hw];rfl⟩
    obtain ⟨y,y1,y2⟩:=ih (k+1) m v' (by omega) (by omega) hv'
    exact ⟨y,(aju hb).trans y1,y2⟩
  ·refine ⟨_,ajk (y:=.inr (v.Serial,v.Cyls,v.Heads,v.Size,v.Sets,v.Serial,v.Cyls,v.Heads,v.Size,v.Sets)) ?_,.inr ⟨v,hv,rfl⟩⟩
   unfold aq9
   dsimp only
   rw [decide_eq_true hlt,decide_eq_false h40]
   rfl
theorem gwp (n:Nat) (hn:N0≤n) (l:List TAct) (hl:l.length≤2097152) (hN:∀ a∈l,-9223372036854775808≤a.N∧a.N≤9223372036854775807) (v:aj5) (hv:ay7 v) (he:v.Sets=[]) :
  ∃ y,ajj (fun (x:(List UInt8)×Int×Int×Int×(List aj4)×(List UInt8)×Int×Int×Int×(List aj4)×Int)=>aq9 n l x.1 x.2.1 x.2.2.1 x.2.2.2.1 x.2.2.2.2.1 x.2.2.2.2.2.1 x.2.2.2.2.2.2.1 x.2.2.2.2.2.2.2.1 x.2.2.2.2.2.2.2.2.1 x.2.2.2.2.2.2.2.2.2.1 x.2.2.2.2.2.2.2.2.2.2) n (v.Serial,v.Cyls,v.Heads,v.Size,[],v.Serial,v.Cyls,v.Heads,v.Size,[],0)=some y ∧
   (y = .inl true∨∃ w,ay7 w∧y = .inr (w.Serial,w.Cyls,w.Heads,w.Size,w.Sets,w.Serial,w.Cyls,w.Heads,w.Size,w.Sets)):=by
 have hn0:4194304≤n:=hn
 have:=gy7 n hn l hl hN l.length 0 n v (by omega) (by omega) hv
 rw [he] at this
 exact this
theorem hj7 {l:List TAct} (h:CanL Tryz.prog [.slice 62] [.slice (List.map awh l)]):∀ a∈l,-9223372036854775808≤a.N∧a.N≤9223372036854775807:=by
 intro a ha
 have h0:=h.2 0 (by decide)
 have h1:=hjj ty62 awh (l:=l) h0 a ha
 have h2:=h1.2 11 (by simp)
 simp only [awh,cg_zero,cg_succ,List.getD_cons_zero,List.getD_cons_succ] at h2
 cases h2 with
 | int _ _ hr =>
  have h3:IntKind.i64.min = -9223372036854775808:=by decide
  have h4:IntKind.i64.max=9223372036854775807:=by decide
  simp only [InR,h3,h4] at hr;omega
theorem fz0 {x:Int} (h:Go.AE.Can Tryz.prog (Kd.int .u8) (C.int x)):0≤x:=by
 cases h with
 | int _ _ hr =>
  have h3:IntKind.u8.min=0:=by decide
  simp only [InR,h3] at hr;omega
theorem dkn (x0:cyh) (x1:List TAct) (hc:∀ i,i < 2→CanL Tryz.prog (([(true,[.int .u8,.int .u8,.int .u8]),(false,[.slice 62])]:List (Bool×List Kd)).getD i (false,[])).2 (([[.int x0.Cyls,.int x0.Heads,.int x0.Size],[.slice (List.map awh x1)]]:List (List C)).getD i []))
  (hb:cbss [[.int x0.Cyls,.int x0.Heads,.int x0.Size],[.slice (List.map awh x1)]]≤2097152):bzd N0 x0 x1=some true:=by
 have hn:=Nat.le_refl N0
 have hl:=fqw hb (xs:=[.slice (List.map awh x1)]) (l:=x1) (f:=awh) (by simp) (by simp)
 have h0:=hc 0 (by decide)
 have hN:=hj7 (hc 1 (by decide))
 obtain ⟨v,v1,v2,v3⟩:=empty_eq N0 hn x0 (fz0 (h0.2 0 (by decide))) (fz0 (h0.2 1 (by decide))) (fz0 (h0.2 2 (by decide)))
 have hv:ay7 v:=⟨by rw [v2];simp,v3,by rw [v2];simp⟩
 have e0:(⟨v.Serial,v.Cyls,v.Heads,v.Size,[]⟩:aj5)=v:=by rw [← v2]
 simp only [bzd,v1,Option.bind_some,gk0,bne_self_eq_false,Option.isSome_some,Option.getD_some,implies_true,Bool.false_eq_true,if_false,Bool.not_true,cond_false,e0,gyz N0 hn v hv]
 rw [aj9 _ trivial]
 obtain ⟨y,y1,y2⟩:=gwp N0 hn x1 hl hN v hv v2
 rw [v2,y1,Option.bind_some]
 rcases y2 with rfl | ⟨w,hw,rfl⟩
 ·rfl
 ·obtain ⟨R,hR1,hR2,hR3⟩:=ek2 N0 hn w hw
  have hR1':bwb N0 ⟨w.Serial,w.Cyls,w.Heads,w.Size,w.Sets⟩=some R:=hR1
  have hR2':bqm N0 ⟨w.Serial,w.Cyls,w.Heads,w.Size,w.Sets⟩=some R:=hR2
  have h4:N0=4194304:=rfl
  simp only [bj3,hR1',hR2',Option.bind_some,gwn N0 R R (by omega) (by omega),decide_true]
end Go.Proofs.YtijnkhcfondehaaGreatDoor
