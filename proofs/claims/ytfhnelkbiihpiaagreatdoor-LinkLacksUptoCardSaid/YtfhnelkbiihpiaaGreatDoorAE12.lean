/- Text. -/
import Derived.Test.YtfhnelkbiihpiaaGreatDoorAE11
set_option linter.unusedVariables false
open _root_.Bool renaming and_eq_true→jd,false_eq_true→jD
open _root_.Option.some renaming injEq→ja
open _root_.Prod.mk renaming injEq→jj
namespace Go.AE
open Go.RowKit (Below)
variable {P:Program} {w0:Base} {w:World} {N:Nat} {σ:Nat→RefI} {s:S} {tms:Array Value} {ρ:Operand→Value} {al:Nat→Prop} {Γ:List Fn}
def bwh:Operand→Bool
  | .const (.int k n)=>decide (k.min≤n) && decide (n≤k.max)
  | .const (.string s)=>decide (s.size≤9223372036854775807)
  | _=>true
theorem dzr {v:Value} (h:bwh (.const v)=true):ARel P w al σ v (bzd v):=by
  unfold bzd
  split
  · exact ARel.mk_bool _
  · simp only [bwh,jd,decide_eq_true_eq] at h
    exact ARel.mk_int h
  · rename_i s
    simp only [bwh,decide_eq_true_eq] at h
    have:(Value.string s) = .string ⟨s.data.toList.toArray⟩:=by simp
    rw [this]
    have e:s.data.toList.length=s.size:=Array.length_toList
    exact ARel.mk_str (by rw [e];exact h)
  · exact .nilsl
  · exact .unk _
theorem cw2 {a:Act} (h:RelL P w0 N σ s a.tmps w) {x:Operand} (hok:bwh x=true):ARel P w (Al w0 w σ s.hp) σ (a.eval x) (opdA s.tm x):=by
  cases x with
  | tmp t=>exact h.tms t
  | const v=>exact dzr hok
  | global g=>exact .unk _
  | func f=>exact .fnv f [] [] rfl (fun i hi=>by simp at hi)
theorem dwd (v:Value):∀ g a,bzd v≠.when g a:=by
  intro g a;unfold bzd;split <;> simp
theorem aqb {a:Act} (h:RelL P w0 N σ s a.tmps w) {x:Operand} (hok:bwh x=true) (hn:∀ g,akf s.tm x=some g→g=true):ARel P w (Al w0 w σ s.hp) σ (a.eval x) (aj4 s.tm x):=by
  have hx:=cw2 h hok
  unfold aj4
  split
  · rename_i g b he
    rw [he] at hx
    generalize a.eval x=u at hx
    cases hx with
    | whenT _ _ h1=>exact h1
    | whenF _ =>
      cases x with
      | tmp t =>
        have:akf s.tm (.tmp t)=some false:=by
          simp only [opdA] at he
          simp [akf,he]
        have:=hn _ this
        cases this
      | const v=>exact absurd he (dwd v _ _)
      | global g=>simp [opdA] at he
      | func f=>simp [opdA] at he
  · exact hx
theorem ajo {tm:Nat→A}:∀ {xs:List Operand},aj6 tm xs→∀ x,x∈xs→∀ g,akf tm x=some g→g=true
  | [],_,x,hx,_,_=>by simp at hx
  | y :: xs,h,x,hx,g,hg=>by
    simp only [aj6] at h
    split at h
    · rename_i g' hg'
      rcases List.mem_cons.1 hx with rfl | hx
      · rw [hg'] at hg;simp only [ja] at hg;subst hg;exact h.1
      · exact ajo h.2 x hx g hg
    · rename_i hg'
      rcases List.mem_cons.1 hx with rfl | hx
      · rw [hg'] at hg;cases hg
      · exact ajo h x hx g hg
theorem Rel.putD {a:Act} {hp:Nat→Blk} {dst:Option Nat} {v:Value} {b:A} {tm:Nat→A} {σ':Nat→RefI} (hd:∀ d,dst=some d→d < N) (h:RelL P w0 N σ' ⟨tm,hp⟩ a.tmps w) (hv:ARel P w (Al w0 w σ' hp) σ' v b) :
    RelL P w0 N σ' ⟨updD tm dst b,hp⟩ (a.put dst v).tmps w:=by
  cases dst with
  | none=>exact h
  | some d=>exact h.put (hd d rfl) hv
theorem put_defers (a:Act) (dst:Option Tmp) (v:Value):(a.put dst v).defers=a.defers:=by cases dst <;> rfl
theorem aw9 {a:Act} {o:Oper} {ops:List Oper} {j:Nat} {want g:Bool} (h:RelL P w0 N σ s a.tmps w) (hg:o.guard=some (j,want)) (hgo:guardOf ops s.tm j want=some g):Region.wanted o (yielded ops.toArray a.tmps)=g:=by
  unfold guardOf at hgo
  split at hgo
  · rename_i oj hoj
    split at hgo
    · rename_i d hd
      have hd':=h.tms d
      have hin:∀ b,a.tmps.getD d undef = .bool b→a.tmps[d]? = some (.bool b):=by
        intro b hb
        rcases Nat.lt_or_ge d a.tmps.size with hl | hl
        · simp [Array.getD,hl] at hb;simp [hl,hb]
        · simp [Array.getD,Nat.not_lt.2 hl,undef] at hb
      have hy:yielded ops.toArray a.tmps j=(match a.tmps[d]? with | some (.bool b)=>some b | _=>none):=by
        simp only [yielded,List.getElem?_toArray,hoj,Option.bind_some,hd]
        rfl
      split at hgo
      · rename_i x hx
        rw [hx] at hd'
        simp only [ja] at hgo;subst hgo
        have:=hin _ hd'.bool_inv
        rw [this] at hy
        simp [Region.wanted,hg,hy]
      · rename_i g0 x hx
        rw [hx] at hd'
        simp only [ja] at hgo;subst hgo
        generalize hu:a.tmps.getD d undef=u at hd'
        cases hd' with
        | whenT _ _ h1 =>
          have e:=h1.bool_inv
          rw [e] at hu
          have:=hin _ hu
          rw [this] at hy
          simp [Region.wanted,hg,hy]
        | whenF _ =>
          have hne:yielded ops.toArray a.tmps j=none:=by
            rw [hy]
            split
            · rename_i b hb
              have hb2:=hu
              rw [Array.getD_eq_getD_getElem?,hb] at hb2
              simp [undef] at hb2
            · rfl
          simp [Region.wanted,hg,hne]
      · cases hgo
    · cases hgo
  · cases hgo
theorem dqe {c:Bool} {x y z:A} {vx vy:Value} (hz:czx c x y=some z) (hx:c=true→ARel P w al σ vx x) (hy:c=false→ARel P w al σ vy y):ARel P w al σ (if c then vx else vy) z:=by
  unfold czx at hz
  cases c
  · have hy:=hy rfl
    simp only [jD,if_false] at hz ⊢
    split at hz
    · simp only [ja] at hz;subst hz
      rw [hy.bool_inv];exact ARel.mk_bool _
    · split at hz
      · rename_i e;subst e
        simp only [ja] at hz;subst hz
        obtain ⟨rfl,hr⟩:=hy.int_inv
        exact ARel.mk_int hr
      · cases hz
    · simp only [ja] at hz;subst hz
      obtain ⟨rfl,hr⟩:=hy.str_inv
      exact ARel.mk_str hr
    · cases hz
  · have hx:=hx rfl
    simp only [if_true] at hz ⊢
    split at hz
    · simp only [ja] at hz;subst hz
      rw [hx.bool_inv];exact ARel.mk_bool _
    · split at hz
      · rename_i e;subst e
        simp only [ja] at hz;subst hz
        obtain ⟨rfl,hr⟩:=hx.int_inv
        exact ARel.mk_int hr
      · cases hz
    · simp only [ja] at hz;subst hz
      obtain ⟨rfl,hr⟩:=hx.str_inv
      exact ARel.mk_str hr
    · cases hz
theorem dy8 {o:Oper} {r:Out} {v:Operand→A} (hop:opA P Γ o s.tm s.hp v=some r) (hq:r.q=true):r.hp=s.hp:=by
  obtain ⟨dst,op,type,pos,after,guard⟩:=o
  have p1:∀ {x:Option A},(match x with | some a=>some (⟨True,True,a,s.hp,true⟩:Out) | none=>none)=some r→r.hp=s.hp:=by
    intro x hx;split at hx
    · simp only [ja] at hx;subst hx;rfl
    · cases hx
  have p2:∀ {x:Option (Prop×A)},(match x with | some (p,a)=>some (⟨p,True,a,s.hp,true⟩:Out) | none=>none)=some r→r.hp=s.hp:=by
    intro x hx;split at hx
    · simp only [ja] at hx;subst hx;rfl
    · cases hx
  have call:∀ {f:FuncId} {d:Nat} {as:List A},dw9 Γ f d as s.hp=some r→r.hp=s.hp:=by
    intro f d as hc
    unfold dw9 at hc
    repeat' split at hc
    all_goals first
      | (cases hc;done)
      | (simp only [ja] at hc
         subst hc
         simp only [jd,Bool.not_eq_true',List.isEmpty_iff] at hq
         first
           | (rename_i hr;rw [hq.1] at hr;cases hr;done)
           | simp [hq.2,addRows])
  have app:∀ {e:TypeId} {E:TyI} {d:Nat} {x y:A},bkz e E d s.hp x y=some r→r.hp=s.hp:=by
    intro e E d x y hc
    unfold bkz at hc
    repeat' split at hc
    all_goals first
      | (cases hc;done)
      | (simp only [ja] at hc
         subst hc
         simp at hq)
  cases op with
  | call c =>
    obtain ⟨callee,args,argTypes⟩:=c
    cases callee with
    | builtin b =>
      cases b <;> simp only [opA] at hop <;> (repeat' split at hop) <;> first
        | (cases hop;done)
        | exact app hop
        | (simp only [ja] at hop;subst hop;first | rfl | (simp at hq;done))
    | value f =>
      simp only [opA] at hop
      split at hop
      · exact call hop
      · cases hop
    | invoke rv m=>simp [opA] at hop
  | slice t x lo hi mx =>
    cases mx with
    | none=>simp only [opA] at hop;exact p2 hop
    | some m=>simp [opA] at hop
  | makeMap t r0 =>
    cases r0 with
    | some m=>simp [opA] at hop
    | none =>
      simp only [opA] at hop
      repeat' split at hop
      all_goals first
        | (cases hop;done)
        | (simp only [ja] at hop;subst hop;simp at hq)
  | _ =>
    simp only [opA] at hop
    repeat' split at hop
    all_goals first
      | (cases hop;done)
      | (simp only [ja] at hop;subst hop;first | rfl | (simp at hq;done))
theorem bzo {o:Oper} {ops:List Oper} {p f:Prop} {s':S} {a:Act} (h00:tyI P 0=none) (hΓ:∀ g,g∈Γ→aj9 P g) (hd:∀ d,o.dst=some d→d < N) (hok:∀ x,x∈o.op.operands→bwh x=true)
    (h:Rel P w0 N s a.tmps w) (hst:ckr P Γ ops o s=some (p,f,s')) (hp:p) :
    (Region.wanted o (yielded ops.toArray a.tmps)=true→∀ (K:Act→World→Prop) (Q:Exit→Act→World→Prop),(∀ a' w',a'.defers=a.defers→f→Rel P w0 N s' a'.tmps w'→K a' w')→o.wp P a w K Q) ∧
    (Region.wanted o (yielded ops.toArray a.tmps)=false→f∧Rel P w0 N s' (a.put o.dst undef).tmps w):=by
  obtain ⟨σ,hR⟩:=h
  have wnone:o.guard=none→Region.wanted o (yielded ops.toArray a.tmps)=true:=fun hg=>by simp [Region.wanted,hg]
  -- the general operation
  have general:∀ {r:Out},opA P Γ o s.tm s.hp (aj4 s.tm)=some r→aj6 s.tm o.op.operands.toList→r.pre→OpOk P w0 N s a.tmps o a.eval w r:=by
    intro r hop hn hpre
    exact eja h00 hΓ hR hop (fun x hx=>aqb hR (hok x hx) (ajo hn x (Array.mem_toList_iff.2 hx))) hpre
  have wp_of:∀ {r:Out} (tmo:A) (hpo:Nat→Blk),OpOk P w0 N s a.tmps o a.eval w r→hpo=r.hp→(∀ (σ':Nat→RefI) (w':World) (v:Value),ARel P w' (Al w0 w' σ' r.hp) σ' v r.val→ARel P w' (Al w0 w' σ' r.hp) σ' v tmo)→(r.val = .unk→∀ (σ':Nat→RefI) (w':World),ARel P w' (Al w0 w' σ' r.hp) σ' undef tmo) →
      ∀ (K:Act→World→Prop) (Q:Exit→Act→World→Prop),(∀ a' w',a'.defers=a.defers→r.fact→Rel P w0 N ⟨updD s.tm o.dst tmo,hpo⟩ a'.tmps w'→K a' w')→o.wp P a w K Q:=by
    rintro r tmo hpo hO rfl hval hunk K Q hK
    unfold Oper.wp
    rcases hO with ⟨v,w',hr,hf,σ',hR',hv⟩ | ⟨w',hr,hv,hf,σ',hR'⟩ | ⟨g,args,hr,hf,hc⟩
    · rw [hr]
      exact hK _ _ (put_defers _ _ _) hf ⟨σ',Rel.putD hd hR' (hval σ' w' v hv)⟩
    · rw [hr]
      exact hK _ _ (put_defers _ _ _) hf ⟨σ',Rel.putD hd hR' (hunk hv σ' w')⟩
    · rw [hr]
      refine hc.mono ?_
      rintro e w' ⟨v,rfl,σ',hR',hv⟩
      exact hK _ _ (put_defers _ _ _) hf ⟨σ',Rel.putD hd hR' (hval σ' w' v hv)⟩
  -- pick
  have pick:∀ {c x y:Operand} {b:Bool} {z:A},o.op = .pick c x y→ARel P w (Al w0 w σ s.hp) σ (a.eval c) (kb b)→(b=true→∀ g,akf s.tm x=some g→g=true)→(b=false→∀ g,akf s.tm y=some g→g=true) →
      czx b (aj4 s.tm x) (aj4 s.tm y)=some z→∀ (tmo:A),(∀ v,ARel P w (Al w0 w σ s.hp) σ v z→ARel P w (Al w0 w σ s.hp) σ v tmo) →
      ∀ (K:Act→World→Prop) (Q:Exit→Act→World→Prop),(∀ a' w',a'.defers=a.defers→Rel P w0 N ⟨updD s.tm o.dst tmo,s.hp⟩ a'.tmps w'→K a' w')→o.wp P a w K Q:=by
    intro c x y b z ho hc hx hy hz tmo hval K Q hK
    have hcb:a.eval c = .bool b:=hc.bool_inv
    have hxo:bwh x=true:=hok x (by rw [ho];simp [Op.operands])
    have hyo:bwh y=true:=hok y (by rw [ho];simp [Op.operands])
    have hv:=dqe hz (fun e=>aqb hR hxo (hx e)) (fun e=>aqb hR hyo (hy e))
    unfold Oper.wp
    have hr:(execOp a.eval o).run P w = .ok (.value (if b then a.eval x else a.eval y)) w:=by
      simp only [execOp,ho,hcb,asBool,pure_bind]
      rfl
    rw [hr]
    exact hK _ _ (put_defers _ _ _) ⟨σ,Rel.putD hd hR (hval _ hv)⟩
  have imp:∀ {c:Bool} {n:Option Bool},ayy c n→c=true→∀ g,n=some g→g=true:=by
    intro c n hi hc g hg;subst hg;exact hi hc
  rw [ckr,Option.map_eq_some_iff] at hst
  obtain ⟨⟨p0,f0,v0,hp0⟩,heff,hq0⟩:=hst
  simp only [jj] at hq0
  obtain ⟨rfl,rfl,rfl⟩:=hq0
  unfold eff at heff
  split at heff
  · rename_i c x y ho
    have hco:bwh c=true:=hok c (by rw [ho];simp [Op.operands])
    split at heff
    · rename_i cx hc
      have hcr:aj6 s.tm [c]→ARel P w (Al w0 w σ s.hp) σ (a.eval c) (kb cx.toBool):=fun hn=>by
        have:=aqb hR hco (ajo hn c (by simp))
        rw [hc] at this
        rw [this.bool_inv];exact ARel.mk_bool _
      split at heff
      · rename_i z hz
        split at heff
        · rename_i hg
          simp only [ja,jj] at heff
          obtain ⟨rfl,rfl,rfl,rfl⟩:=heff
          exact ⟨fun _ K Q hK=>pick ho (hcr hp.1) (imp hp.2.1) (fun e=>imp hp.2.2 (by rw [e];rfl)) hz _ (fun _ hv=>hv) K Q (fun a' w' h1 h2=>hK a' w' h1 trivial h2),fun hw=>by rw [wnone hg] at hw;cases hw⟩
        · rename_i j want hg
          split at heff
          · rename_i g hgo
            simp only [ja,jj] at heff
            obtain ⟨rfl,rfl,rfl,rfl⟩:=heff
            have hw:=aw9 hR hg hgo
            rw [hw]
            refine ⟨fun hgt K Q hK=>?_,fun hgf=>⟨trivial,σ,Rel.putD hd hR (by rw [hgf];exact .whenF _)⟩⟩
            subst hgt
            exact pick ho (hcr (hp.1 rfl)) (fun e=>imp hp.2.1 (by rw [e];rfl)) (fun e=>imp hp.2.2 (by rw [e];rfl)) hz _ (fun _ hv=>.whenT _ _ hv) K Q (fun a' w' h1 h2=>hK a' w' h1 trivial h2)
          · cases heff
      · cases heff
    · cases heff
  · split at heff
    · cases heff
    · rename_i r hop
      split at heff
      · rename_i hg
        simp only [ja,jj] at heff
        obtain ⟨rfl,rfl,rfl,rfl⟩:=heff
        refine ⟨fun _ K Q hK=>wp_of _ _ (general hop hp.1 hp.2) rfl (fun _ _ _ hv=>hv) (fun e _ _=>by rw [e];exact .unk _) K Q hK,fun hw=>by rw [wnone hg] at hw;cases hw⟩
      · rename_i j want hg
        split at heff
        · rename_i g hgo
          split at heff
          · rename_i hq
            simp only [ja,jj] at heff
            obtain ⟨rfl,rfl,rfl,rfl⟩:=heff
            have hw:=aw9 hR hg hgo
            rw [hw]
            refine ⟨fun hgt K Q hK=>?_,fun hgf=>⟨trivial,σ,Rel.putD hd hR (by rw [hgf];exact .whenF _)⟩⟩
            subst hgt
            obtain ⟨hn,hpre⟩:=hp rfl
            exact wp_of _ _ (general hop hn hpre) (dy8 hop hq).symm (fun _ _ _ hv=>.whenT _ _ hv) (fun e _ _=>.whenT _ _ (by rw [e];exact .unk _)) K Q (fun a' w' h1 _ h2=>hK a' w' h1 trivial h2)
          · cases heff
        · cases heff
def dstOk (N:Nat) (o:Oper):Bool:=match o.dst with | some d=>decide (d < N) | none=>true
def dqq (o:Oper):Bool:=match o.op with
  | .defer _=>false
  | _=>true
theorem cy6 {o:Oper} (h:dqq o=true):∀ c,o.op≠.defer c:=by
  intro c e;simp [dqq,e] at h
def awj (N:Nat) (o:Oper):Bool:=dqq o && (dstOk N o && o.op.operands.all bwh)
theorem akz {ops:List Oper} (h:∀ o∈ops,awj N o=true):∀ o∈ops,∀ c,o.op≠.defer c:=fun o ho=>by
  have:=h o ho
  simp only [awj,jd] at this
  exact cy6 this.1
theorem aqp {o:Oper} (h:awj N o=true):(∀ d,o.dst=some d→d < N)∧∀ x,x∈o.op.operands→bwh x=true:=by
  simp only [awj,jd] at h
  replace h:=h.2
  refine ⟨fun d hd=>?_,fun x hx=>?_⟩
  · have:=h.1;simp only [dstOk,hd,decide_eq_true_eq] at this;exact this
  · exact Array.all_eq_true'.1 h.2 x hx
theorem cqm {ops:List Oper} {Q':Exit→Act→World→Prop} (h00:tyI P 0=none) (hΓ:∀ g,g∈Γ→aj9 P g) (Q:S→Prop):∀ (l:List Oper) (s:S) (a:Act) (w:World),(∀ o,o∈l→awj N o=true) →
    byh P Γ ops l s Q→Rel P w0 N s a.tmps w→(∀ s' a' w',a'.defers=a.defers→Rel P w0 N s' a'.tmps w'→Q s'→Q' .normal a' w')→wpList P ops.toArray Q' l a w
  | [],s,a,w,_,h,hR,hQ=>hQ s a w rfl hR h
  | o :: l,s,a,w,hok,h,hR,hQ=>by
    simp only [byh,ew4] at h
    split at h
    · exact h.elim
    · rename_i p f s' hst
      obtain ⟨hp,hK⟩:=h
      obtain ⟨hd,ho⟩:=aqp (hok o (by simp))
      obtain ⟨h1,h2⟩:=bzo h00 hΓ hd ho hR hst hp
      have ih:∀ a' w',a'.defers=a.defers→f→Rel P w0 N s' a'.tmps w'→wpList P ops.toArray Q' l a' w':=fun a' w' hdf hf hR' =>
        cqm h00 hΓ Q l s' a' w' (fun o ho=>hok o (by simp [ho])) (hK hf) hR' (fun s2 a2 w2 e2 hr hq=>hQ s2 a2 w2 (e2.trans hdf) hr hq)
      simp only [wpList]
      cases hw:Region.wanted o (yielded ops.toArray a.tmps) with
      | true=>exact .inl (h1 hw _ _ ih)
      | false =>
        simp only [jD,if_false]
        exact ih _ _ (put_defers _ _ _) (h2 hw).1 (h2 hw).2
end Go.AE
